/- Own lemmas that the theorem of this claim needs: the abstract machine and walks of functions. -/
import Derived.Orders
import Derived.Laws.StructEq
import Derived.LoopN
import Derived.KernelRfl
import Derived.Laws.World
import Derived.Laws.Entries
import Derived.Laws.IdiomCopy
import Derived.Laws.AppendOwn
import Derived.Laws.MakeOwn
import Derived.Laws.BytesString
import Derived.Laws.Shifts
import Derived.Laws.Slices
set_option linter.unusedSimpArgs false
set_option linter.unusedVariables false
section
namespace Go.Ai
abbrev Env := Nat → Value
def Env.put (e : Env) (d : Nat) (v : Value) : Env := fun t => if t = d then v else e t
def Env.putO (e : Env) : Option Nat → Value → Env
 | some d, v => e.put d v
 | none, _ => e
def Env.op (e : Env) : Operand → Value
 | .tmp t => e t
 | .const v => v
 | .global g => .pointer (some ⟨g, 0, none⟩)
 | .func f => .func (.func f) #[] #[]
structure KP where
 w : Bool
 sz : Nat
 cs : List Value
structure Heap where
 n : Nat
 get : Nat → Option KP
def Heap.push (h : Heap) (k : KP) : Heap := ⟨h.n + 1, fun b => if b = h.n then some k else h.get b⟩
def Heap.set (h : Heap) (b : Nat) (k : KP) : Heap := ⟨h.n, fun b' => if b' = b then some k else h.get b'⟩
def Heap.kill (h : Heap) (b : Nat) : Heap := ⟨h.n, fun b' => if b' = b then none else h.get b'⟩
inductive Ex where
 | normal
 | ret
 | exit (id : Nat)
def Ex.of : Ex → Exit
 | .normal => .normal
 | .ret => .ret
 | .exit id => .exit id
inductive BJ (r : Value → Value → Prop) : List Value → List Value → Prop
 | nil : BJ r [] []
 | cons {x y : Value} {l m : List Value} : r x y → BJ r l m → BJ r (x :: l) (y :: m)
structure Ren where
 m : Nat → Option Nat
 s : Nat → Option (Nat × Nat)
def RS (ι : Ren) : Value → Value → Prop
 | .pointer (some a), v => ∃ c, ι.m a.block = some c ∧ a.spot = none ∧ v = .pointer (some ⟨c, a.off, none⟩)
 | .pointer none, v => v = .pointer none
 | .slice (some a) l _, v => ∃ c k off, ι.m a.block = some c ∧ a.spot = none ∧ l ≤ k ∧ (0 < l ∨ a.off = 0 → off = a.off) ∧ (∀ N z, ι.s c = some (N, z) → off + k * z ≤ N) ∧ v = .slice (some ⟨c, off, none⟩) l k
 | .slice none l k, v => l = 0 ∧ k = 0 ∧ v = .slice none 0 0
 | .map none, v => ∃ a, v = .slice (some a) 0 0
 | .int k n, v => v = .int k n
 | .bool b, v => v = .bool b
 | .string s, v => v = .string s
 | .nilFunc, v => v = .nilFunc
 | .nilIface, v => v = .nilIface
 | .func fn f cs, v => f = #[] ∧ ∃ cs', v = .func fn #[] cs' ∧ BJ (fun x y => ∃ a c, x = .pointer (some a) ∧ ι.m a.block = some c ∧ a.spot = none ∧ y = .pointer (some ⟨c, a.off, none⟩)) cs.toList cs'.toList
 | .chan _, _ => True
 | _, _ => False
def RG (ι : Ren) : Value → Value → Prop
 | .agg cs, v => ∃ cs', v = .agg cs' ∧ BJ (RS ι) cs.toList cs'.toList
 | x, v => RS ι x v
def R (ι : Ren) : Value → Value → Prop
 | .tuple vs, v => ∃ vs', v = .tuple vs' ∧ BJ (RG ι) vs.toList vs'.toList
 | x, v => RG ι x v
def Ren.le (ι ι' : Ren) : Prop := ∀ b c, ι.m b = some c → ι'.m b = some c ∧ ι'.s c = ι.s c
theorem Ren.le_refl (ι : Ren) : ι.le ι := fun _ _ h => ⟨h, rfl⟩
theorem Ren.le_trans {a b c : Ren} (h : a.le b) (h' : b.le c) : a.le c := fun x y hx => ⟨(h' x y (h x y hx).1).1, (h' x y (h x y hx).1).2.trans (h x y hx).2⟩
theorem BJ.imp {r r' : Value → Value → Prop} (h : ∀ x y, r x y → r' x y) : ∀ {l m}, BJ r l m → BJ r' l m
 | _, _, .nil => .nil
 | _, _, .cons a b => .cons (h _ _ a) (BJ.imp h b)
theorem BJ.length {r : Value → Value → Prop} : ∀ {l m}, BJ r l m → l.length = m.length
 | _, _, .nil => rfl
 | _, _, .cons _ b => by simp [BJ.length b]
theorem BJ.get {r : Value → Value → Prop} : ∀ {l m : List Value}, BJ r l m → ∀ {i : Nat} {x : Value}, l[i]? = some x → ∃ y, m[i]? = some y ∧ r x y
 | _, _, .nil, _, _, h => by simp at h
 | _, _, .cons a b, 0, _, h => by simp at h; subst h; exact ⟨_, rfl, a⟩
 | _, _, .cons a b, i + 1, _, h => by simp at h; simpa using BJ.get b h
theorem BJ.of_get {r : Value → Value → Prop} : ∀ {l m : List Value}, l.length = m.length → (∀ (i : Nat) x y, l[i]? = some x → m[i]? = some y → r x y) → BJ r l m
 | [], [], _, _ => .nil
 | x :: l, y :: m, h, g => .cons (g 0 x y rfl rfl) (BJ.of_get (by simpa using h) fun i a b ha hb => g (i + 1) a b (by simpa using ha) (by simpa using hb))
theorem BJ.append {r : Value → Value → Prop} : ∀ {l m l' m'}, BJ r l m → BJ r l' m' → BJ r (l ++ l') (m ++ m')
 | _, _, _, _, .nil, h => h
 | _, _, _, _, .cons a b, h => .cons a (BJ.append b h)
theorem BJ.take {r : Value → Value → Prop} : ∀ {l m}, BJ r l m → ∀ k, BJ r (l.take k) (m.take k)
 | _, _, .nil, k => by simp; exact .nil
 | _, _, .cons a b, 0 => by simp; exact .nil
 | _, _, .cons a b, k + 1 => by simp; exact .cons a (BJ.take b k)
theorem BJ.drop {r : Value → Value → Prop} : ∀ {l m}, BJ r l m → ∀ k, BJ r (l.drop k) (m.drop k)
 | _, _, .nil, k => by simp; exact .nil
 | _, _, .cons a b, 0 => by simp; exact .cons a b
 | _, _, .cons a b, k + 1 => by simp; exact BJ.drop b k
theorem RS.mono {ι ι' : Ren} (h : ι.le ι') : ∀ {x y}, RS ι x y → RS ι' x y := by
 intro x y hx
 cases x with
 | pointer a =>
  cases a with
  | none => exact hx
  | some a => obtain ⟨c, h1, h2, h3⟩ := hx; exact ⟨c, (h _ _ h1).1, h2, h3⟩
 | slice a l k =>
  cases a with
  | none => exact hx
  | some a => obtain ⟨c, k', off, h1, h2, h3, h4, h5, h6⟩ := hx; exact ⟨c, k', off, (h _ _ h1).1, h2, h3, h4, fun N z hN => h5 N z ((h _ _ h1).2 ▸ hN), h6⟩
 | func fn f cs =>
  obtain ⟨h1, cs', h2, h3⟩ := hx
  exact ⟨h1, cs', h2, h3.imp fun x y ⟨a, c, e1, e2, e3, e4⟩ => ⟨a, c, e1, (h _ _ e2).1, e3, e4⟩⟩
 | map r => cases r <;> exact hx
 | _ => exact hx
theorem RG.mono {ι ι' : Ren} (h : ι.le ι') : ∀ {x y}, RG ι x y → RG ι' x y := by
 intro x y hx
 unfold RG at hx ⊢
 split at hx
 ·obtain ⟨cs', h1, h2⟩ := hx; exact ⟨cs', h1, h2.imp fun _ _ => RS.mono h⟩
 ·exact RS.mono h hx
theorem R.mono {ι ι' : Ren} (h : ι.le ι') : ∀ {x y}, R ι x y → R ι' x y := by
 intro x y hx
 unfold R at hx ⊢
 split at hx
 ·obtain ⟨vs', h1, h2⟩ := hx; exact ⟨vs', h1, h2.imp fun _ _ => RG.mono h⟩
 ·exact RG.mono h hx
structure CU (P : Program) (W0 : World) (ι : Ren) (h : Heap) (w : World) : Prop where
 base : ∀ b, b < W0.heap.size → ι.m b = some b ∧ w.heap[b]? = W0.heap[b]? ∧ ι.s b = none
 size : W0.heap.size ≤ w.heap.size
 dom : ∀ b c, ι.m b = some c → b < h.n ∧ c < w.heap.size
 own : ∀ b c, W0.heap.size ≤ b → ι.m b = some c → W0.heap.size ≤ c
 live : ∀ b k, h.get b = some k → ∃ c, ι.m b = some c
 wr : ∀ b k, h.get b = some k → k.w = true → W0.heap.size ≤ b
 ro : ∀ b k, h.get b = some k → k.w = false → b < W0.heap.size
 nle : W0.heap.size ≤ h.n
 inj : ∀ b b' c k k', h.get b = some k → k.w = true → h.get b' = some k' → ι.m b = some c → ι.m b' = some c → b = b'
 cell : ∀ b k c, h.get b = some k → ι.m b = some c → ∃ cs' ty fr, w.heap[c]? = some (.cells cs' ty fr) ∧ k.cs.length ≤ cs'.size ∧
  (∀ (j : Nat) (x : Value), k.cs[j]? = some x → ∃ y : Value, cs'[j]? = some y ∧ RS ι x y) ∧
  (k.w = true → ι.s c = some (cs'.size, k.sz) ∧ ∀ o, o < cs'.size → ¬ (fr.1 ≤ o ∧ o < fr.2))
 env : w.os = W0.os ∧ w.tape = W0.tape ∧ w.output = W0.output
structure RE (nt : Nat) (ι : Ren) (e : Env) (a : Act) : Prop where
 defers : a.defers = []
 size : a.tmps.size = nt
 slot : ∀ t, R ι (e t) (a.tmps.getD t undef)
theorem RE.mono {nt : Nat} {ι ι' : Ren} {e : Env} {a : Act} (h : ι.le ι') (r : RE nt ι e a) : RE nt ι' e a := ⟨r.defers, r.size, fun t => (r.slot t).mono h⟩
theorem RE.put {nt : Nat} {ι : Ren} {e : Env} {a : Act} {d : Nat} {v v' : Value} (r : RE nt ι e a) (hd : d < nt) (hv : R ι v v') :
  RE nt ι (e.put d v) (a.put (some d) v') := by
 refine ⟨r.defers, by simp [Act.put, r.size], fun t => ?_⟩
 unfold Env.put Act.put
 by_cases h : t = d
 ·subst h
  simp [r.size, hd]; exact hv
 ·have := r.slot t
  simp only [if_neg h]
  rw [show (a.tmps.setIfInBounds d v').getD t undef = a.tmps.getD t undef by simp [Array.getElem?_setIfInBounds_ne (Ne.symm h)]]
  exact this
theorem RE.putO {nt : Nat} {ι : Ren} {e : Env} {a : Act} {d : Option Nat} {v v' : Value} (r : RE nt ι e a) (hd : ∀ x, d = some x → x < nt) (hv : R ι v v') :
  RE nt ι (e.putO d v) (a.put d v') := by
 cases d with
 | none => exact r
 | some d => exact r.put (hd d rfl) hv
def Bx : Value → Bool
 | .int _ _ | .bool _ | .string _ | .nilFunc | .nilIface | .pointer none => true
 | .slice none 0 0 => true
 | _ => false
def Mb : Value → Bool
 | .agg cs => cs.toList.all Bx
 | v => Bx v
def RI : Value → Bool
 | .tuple vs => vs.toList.all Mb
 | v => Mb v
theorem NT {ι : Ren} : ∀ {v}, Bx v = true → RS ι v v := by
 intro v h
 unfold Bx at h
 split at h <;> simp_all [RS]
theorem Fp {ι : Ren} : ∀ {l : List Value}, l.all Bx = true → BJ (RS ι) l l
 | [], _ => .nil
 | x :: l, h => by simp at h; exact .cons (NT h.1) (Fp (by simpa using h.2))
theorem NJ {ι : Ren} : ∀ {v}, Mb v = true → RG ι v v := by
 intro v h
 unfold Mb at h
 unfold RG
 split at h
 ·exact ⟨_, rfl, Fp h⟩
 ·split
  ·simp_all
  ·exact NT h
theorem Lr {ι : Ren} : ∀ {l : List Value}, l.all Mb = true → BJ (RG ι) l l
 | [], _ => .nil
 | x :: l, h => by
  rw [List.all_cons, Bool.and_eq_true] at h
  exact .cons (NJ h.1) (Lr h.2)
theorem Yh {ι : Ren} : ∀ {v}, RI v = true → R ι v v := by
 intro v h
 unfold RI at h
 unfold R
 split at h
 ·exact ⟨_, rfl, Lr h⟩
 ·split
  ·simp_all
  ·exact NJ h
def GL : Operand → Bool
 | .tmp _ | .func _ => true
 | .const v => RI v
 | .global _ => false
theorem RE.op {nt : Nat} {ι : Ren} {e : Env} {a : Act} (r : RE nt ι e a) {x : Operand} (h : GL x = true) : R ι (e.op x) (a.eval x) := by
 cases x with
 | tmp t => exact r.slot t
 | const v => exact Yh h
 | global g => simp [GL] at h
 | func f => exact ⟨rfl, #[], rfl, .nil⟩
end Go.Ai
namespace Go.Ai
def sz? (P : Program) (t : TypeId) : Option Nat := (P.info? t).map (·.size)
def zr? (P : Program) (t : TypeId) : Option (List Value) := match (P.info? t).bind (·.zero) with | some z => if z.cells.toList.all Bx then some z.cells.toList else none | none => none
def agg? (P : Program) (t : TypeId) : Option Bool := match P.underlying t with | some (.struct _) | some (.array _ _) => some true | some _ => some false | none => none
def fld? (P : Program) (s f : Nat) : Option (Nat × Nat × Bool) :=
 match P.underlying s with
 | some (.struct fs) => match fs[f]? with
  | some f => match sz? P f.type, agg? P f.type with
   | some n, some b => some (f.offset, n, b)
   | _, _ => none
  | none => none
 | _ => none
def elt? (P : Program) (t : TypeId) : Option (TypeId × Nat × Nat) :=
 match P.underlying t with
 | some (.slice e) => match P.info? e with
  | some i => some (e, i.size, i.bytes)
  | none => none
 | _ => none
def bldOk (P : Program) (t : TypeId) : Bool :=
 match P.underlying t with
 | some (.struct fs) => fs.toList.all fun f => (P.info? f.type).isSome && (agg? P f.type).isSome
 | _ => false
inductive Cls where
 | bool | int (k : IntKind) | str | sl | ptr | fn
def cls? (P : Program) (t : TypeId) : Option Cls :=
 match P.underlying t with
 | some .bool => some .bool
 | some (.int k) => some (.int k)
 | some .string => some .str
 | some (.slice _) => some .sl
 | some (.pointer _) => some .ptr
 | some (.func ..) => some .fn
 | _ => none
def rd (cs : List Value) (off n : Nat) : Option (List Value) := if off + n ≤ cs.length then some ((cs.drop off).take n) else none
def Qy (cs : List Value) (off : Nat) (vs : List Value) : Option (List Value) :=
 if off + vs.length ≤ cs.length then some (cs.take off ++ vs ++ cs.drop (off + vs.length)) else none
def Ds : Value → Option (List Value)
 | .agg cs => some cs.toList
 | .tuple _ => none
 | .chan _ => none
 | v => some [v]
def FZ : Value → Bool
 | .chan _ => false
 | _ => true
def GX (op : BinOp) (k : IntKind) (x y : Int) : Option Value :=
 match op with
 | .add => some (.int k (k.wrap (x + y)))
 | .sub => some (.int k (k.wrap (x - y)))
 | .mul => some (.int k (k.wrap (x * y)))
 | .quo => if y = 0 then none else some (.int k (k.wrap (x.tdiv y)))
 | .rem => if y = 0 then none else some (.int k (x.tmod y))
 | .and | .or | .xor | .andNot => some (.int k (Go.bits op k x y))
 | .eql => some (.bool (x == y))
 | .neq => some (.bool (x != y))
 | .lss => some (.bool (decide (x < y)))
 | .leq => some (.bool (decide (x ≤ y)))
 | .gtr => some (.bool (decide (x > y)))
 | .geq => some (.bool (decide (x ≥ y)))
 | _ => none
def UY (op : BinOp) (x y : ByteArray) : Option Value :=
 match op with
 | .add => if ((x.size + y.size : Nat) : Int) > 9223372036854775807 then none else some (.string (x ++ y))
 | .eql => some (.bool (x.toList == y.toList))
 | .neq => some (.bool !(x.toList == y.toList))
 | _ => none
def GW (op : BinOp) (k : IntKind) (x y : Int) : Option Value :=
 if y < 0 then none else
 match op with
 | .shl => some (.int k (k.wrap (x * 2 ^ (min y.toNat k.bits))))
 | .shr => some (.int k (x.fdiv (2 ^ (min y.toNat k.bits))))
 | _ => none
def eqV (P : Program) (t : TypeId) (x y : Value) : Option Bool :=
 match cls? P t, x, y with
 | some .bool, .bool a, .bool b => some (a == b)
 | some .sl, .slice none _ _, .slice b _ _ => some b.isNone
 | some .sl, .map none, .slice none _ _ => some false
 | some .sl, .slice _ _ _, .slice none _ _ => some false
 | some .ptr, .pointer none, .pointer b => some b.isNone
 | some .ptr, .pointer _, .pointer none => some false
 | _, _, _ => none
def Pu (P : Program) : List Field → Nat → Bool
 | [], _ => true
 | f :: r, o => f.name != "_" && (f.offset == o && ((match P.underlying f.type with | some (.int _) => true | _ => false) && Pu P r (o + 1)))
def intS? (P : Program) (t : TypeId) : Option Nat :=
 match P.underlying t with
 | some (.struct fs) => if P.stoodInHeld t = false ∧ P.eqGuardType P.depth t = false ∧ Pu P fs.toList 0 = true then some fs.size else none
 | _ => none
def eqIs : List Value → List Value → Option Bool
 | [], [] => some true
 | .int k x :: a, .int k' y :: b => if k = k' then (eqIs a b).map fun r => (x == y) && r else none
 | _, _ => none
def eqA (P : Program) (t : TypeId) (a b : Array Value) : Option Bool := match intS? P t with
 | some n => if a.size = n then eqIs a.toList b.toList else none
 | none => none
def binV (P : Program) (op : BinOp) (t : TypeId) (x y : Value) : Option Value :=
 match x, y with
 | .int k a, .int k' b =>
  match op with
  | .shl | .shr => GW op k a b
  | _ => if k = k' then GX op k a b else none
 | .string a, .string b => UY op a b
 | .agg a, .agg b => match op with
  | .eql => (eqA P t a b).map .bool
  | .neq => (eqA P t a b).map fun b => .bool !b
  | _ => none
 | x, y => match op with
  | .eql => (eqV P t x y).map .bool
  | .neq => (eqV P t x y).map fun b => .bool !b
  | _ => none
def unV (op : UnOp) (x : Value) : Option Value :=
 match op, x with
 | .neg, .int k n => some (.int k (k.wrap (0 - n)))
 | .not, .bool b => some (.bool !b)
 | _, _ => none
def SW (h : Heap) (sz : Nat) (cs : List Value) : Value × Heap := (.pointer (some ⟨h.n, 0, none⟩), h.push ⟨true, sz, cs⟩)
def Gn (P : Program) (h : Heap) (t : TypeId) : Value → Option Value
 | .pointer (some a) =>
  match h.get a.block with
  | some k => match agg? P t with
   | some true => (match sz? P t with | some n => (rd k.cs a.off n).map fun l => .agg l.toArray | none => none)
   | some false => k.cs[a.off]?
   | none => none
  | none => none
 | _ => none
def KJ (P : Program) (h : Heap) (t : TypeId) (x y : Value) : Option Heap :=
 match x, Ds y, sz? P t with
 | .pointer (some a), some vs, some n =>
  match h.get a.block with
  | some k => if k.w = true ∧ vs.length = n ∧ vs.all FZ = true then (Qy k.cs a.off vs).map fun cs => h.set a.block ⟨true, k.sz, cs⟩ else none
  | none => none
 | _, _, _ => none
def fieldAddrV (P : Program) (s : TypeId) (x : Value) (f : Nat) : Option Value :=
 match x, fld? P s f with
 | .pointer (some a), some (off, n + 1, _) => some (.pointer (some ⟨a.block, a.off + off, none⟩))
 | _, _ => none
def Ns (cs : List Value) : Nat × Nat × Bool → Option Value
 | (off, n, true) => (rd cs off n).map fun l => .agg l.toArray
 | (off, _, false) => cs[off]?
def L9 (P : Program) (s : TypeId) (x : Value) (f : Nat) : Option Value :=
 match x, fld? P s f with
 | .agg cs, some p => Ns cs.toList p
 | _, _ => none
def indexAddrV (P : Program) (t : TypeId) (x ix : Value) : Option Value :=
 match x, ix, elt? P t with
 | .slice (some a) len _, .int _ i, some (_, sz, _) => if 0 ≤ i ∧ i < len then some (.pointer (some ⟨a.block, a.off + i.toNat * sz, none⟩)) else none
 | _, _, _ => none
def Mn (P : Program) (t : TypeId) (x ix : Value) : Option Value :=
 match x, ix, cls? P t with
 | .string s, .int _ i, some .str => if 0 ≤ i then (match s[i.toNat]? with | some b => some (.int .u8 b.toNat) | none => none) else none
 | _, _, _ => none
def HN (x : Value) (i : Nat) : Option Value :=
 match x with
 | .tuple vs => vs[i]?
 | _ => none
def Aw (place : Nat → Option (Nat × Nat)) (e : Env) : List (Nat × Operand) → List Value → Option (List Value)
 | [], cs => some cs
 | (i, x) :: r, cs =>
  match place i, Ds (e.op x) with
  | some (off, n), some vs => if vs.length = n then (match Qy cs off vs with | some cs' => Aw place e r cs' | none => none) else none
  | _, _ => none
def repL (n : Nat) (z : List Value) : List Value := (List.replicate n z).flatten
def EP (len : Nat) : Option Value → Nat → Option Nat
 | none, d => some d
 | some (.int _ i), _ => if 0 ≤ i ∧ i ≤ len then some i.toNat else none
 | _, _ => none
def Ej (P : Program) (h : Heap) (t : TypeId) (x : Value) (lo hi mx : Option Value) : Option Value :=
 match x, elt? P t with
 | .slice a len _, some (_, sz, _) =>
  if mx.isSome = true ∧ hi.isNone = true then none else
  match EP len mx len with
  | some m => match EP m hi len with
   | some hh => match EP hh lo 0 with
    | some l => match a with
     | none => some (.slice none 0 0)
     | some a => match h.get a.block with
      | some k => if k.w = false ∨ k.sz = sz then some (.slice (some ⟨a.block, a.off + l * sz, none⟩) (hh - l) (hh - l)) else none
      | none => none
    | none => none
   | none => none
  | none => none
 | .map none, some _ =>
  if mx.isSome = true then none else
  match EP 0 hi 0 with
  | some hh => match EP hh lo 0 with
   | some _ => some (.map none)
   | none => none
  | none => none
 | .string s, none => match cls? P t, mx with
  | some .str, none => match EP s.size hi s.size with
   | some hh => match EP hh lo 0 with
    | some l => some (.string (s.extract l hh))
    | none => none
   | none => none
  | _, _ => none
 | _, _ => none
def byteV : Value → Option UInt8
 | .int .u8 n => some (UInt8.ofNat n.toNat)
 | _ => none
def HT : List Value → Option (List UInt8)
 | [] => some []
 | v :: l => match byteV v, HT l with
  | some b, some r => some (b :: r)
  | _, _ => none
def Oj (h : Heap) (sz : Nat) : Value → Option (Nat × List Value)
 | .slice none _ _ => some (0, [])
 | .map none => some (0, [])
 | .slice (some a) n _ => match h.get a.block with
  | some k => (rd k.cs a.off (n * sz)).map fun l => (n, l)
  | none => if n = 0 then some (0, []) else none
 | _ => none
def HM (P : Program) (h : Heap) (s d : TypeId) (x : Value) : Option (Value × Heap) :=
 match cls? P s, cls? P d, x with
 | some (.int _), some (.int k), .int _ n => some (.int k (k.wrap n), h)
 | some .str, some .str, .string b => some (.string b, h)
 | some .sl, some .str, v => match elt? P s, Oj h 1 v with
  | some (e, 1, _), some (_, l) => match cls? P e, HT l with
   | some (.int .u8), some bs => some (.string ⟨bs.toArray⟩, h)
   | _, _ => none
  | _, _ => none
 | some .str, some .sl, .string b => match elt? P d with
  | some (e, 1, 1) => match cls? P e with
   | some (.int .u8) => if b.size ≤ 1048576 then some (.slice (some ⟨h.n, 0, none⟩) b.size b.size, h.push ⟨true, 1, b.data.toList.map fun x => .int .u8 x.toNat⟩) else none
   | _ => none
  | _ => none
 | _, _, _ => none
def most : Nat := 1099511627776
def EX (P : Program) (h : Heap) (t : TypeId) (x y : Value) : Option (Value × Heap) :=
 match x, elt? P t with
 | .slice a n _, some (e, sz + 1, by_) =>
  match Oj h (sz + 1) y, zr? P e with
  | some (m, news), some z =>
   if z.length = sz + 1 ∧ (n + m) * (by_ + 1) ≤ most ∧ news.all FZ = true then
    if m = 0 then some (.slice a n n, h) else
    match a with
    | none => some (.slice (some ⟨h.n, 0, none⟩) m m, h.push ⟨true, sz + 1, news⟩)
    | some a => match h.get a.block with
     | some k => if k.w = true ∧ k.sz = sz + 1 ∧ a.off = 0 then (rd k.cs 0 (n * (sz + 1))).map fun olds => (.slice (some ⟨h.n, 0, none⟩) (n + m) (n + m), (h.kill a.block).push ⟨true, sz + 1, olds ++ news⟩) else none
     | none => none
   else none
  | _, _ => none
 | _, _ => none
def Bo (f : Int → Int → Int) : List Value → Option Value
 | [.int k x, .int k' y] => if k = k' then some (.int k (f x y)) else none
 | [.int k x, .int k' y, .int k'' z] => if k = k' ∧ k = k'' then some (.int k (f (f x y) z)) else none
 | _ => none
def mxI (a b : Int) : Int := if b > a then b else a
def mnI (a b : Int) : Int := if b < a then b else a
def BX (P : Program) (h : Heap) (b : Builtin) (ts : List TypeId) (xs : List Value) : Option (Value × Heap) :=
 match b, ts, xs with
 | .len, [t], [.string s] => match cls? P t with | some .str => some (.int .i64 s.size, h) | _ => none
 | .len, [t], [.slice _ n _] => match cls? P t with | some .sl => some (.int .i64 n, h) | _ => none
 | .len, [t], [.map none] => match cls? P t with | some .sl => some (.int .i64 0, h) | _ => none
 | .cap, [t], [.slice none _ _] => match cls? P t with | some .sl => some (.int .i64 0, h) | _ => none
 | .append, [t, u], [x, y] => if (match cls? P u with | some .sl => true | _ => false) then EX P h t x y else none
 | .max, _, xs => (Bo mxI xs).map (·, h)
 | .min, _, xs => (Bo mnI xs).map (·, h)
 | _, _, _ => none
def E3 (P : Program) (h : Heap) (t : TypeId) (l c : Value) : Option (Value × Heap) :=
 match l, c, elt? P t with
 | .int .i64 l, .int .i64 c, some (e, sz, by_) => match zr? P e with
  | some z => if z.length = sz ∧ 0 < sz ∧ l = c ∧ 0 ≤ l ∧ l.toNat * (by_ + 1) ≤ most then some (.slice (some ⟨h.n, 0, none⟩) l.toNat l.toNat, h.push ⟨true, sz, repL l.toNat z⟩) else none
  | none => none
 | _, _, _ => none
def ptrV : Value → Bool
 | .pointer (some _) => true
 | _ => false
def C4 (P : Program) (e : Env) (h : Heap) : Op → Option (Value × Heap)
 | .move x => some (e.op x, h)
 | .assign x => some (e.op x, h)
 | .pick c a b => match e.op c with
  | .bool true => some (e.op a, h)
  | .bool false => some (e.op b, h)
  | _ => none
 | .alloc t => match zr? P t, sz? P t with
  | some z, some n => some (SW h n z)
  | _, _ => none
 | .box t x => match Ds (e.op x), sz? P t with
  | some cs, some n => some (SW h n cs)
  | _, _ => none
 | .build t parts => match zr? P t with
  | some z => if bldOk P t = true then (Aw (fun i => (fld? P t i).map fun p => (p.1, p.2.1)) e parts.toList z).map fun l => (.agg l.toArray, h) else none
  | none => none
 | .buildSlice t n parts => match elt? P t with
  | some (u, sz, by_) => match zr? P u with
   | some z => if n ≤ 64 ∧ z.length = sz ∧ sz ≤ 64 then (Aw (fun i => some (i * sz, sz)) e parts.toList (repL n z)).map fun l => (.slice (some ⟨h.n, 0, none⟩) n n, h.push ⟨true, sz, l⟩) else none
   | none => none
  | none => none
 | .load t x => (Gn P h t (e.op x)).map (·, h)
 | .store t x y => (KJ P h t (e.op x) (e.op y)).map (undef, ·)
 | .nilCheck x => if ptrV (e.op x) then some (e.op x, h) else none
 | .binOp op t x y _ => (binV P op t (e.op x) (e.op y)).map (·, h)
 | .unOp op _ x => (unV op (e.op x)).map (·, h)
 | .convert s d x => HM P h s d (e.op x)
 | .makeFunc (.func f) first caps => if first.size = 0 ∧ (caps.toList.all fun x => ptrV (e.op x)) = true then some (.func (.func f) #[] (caps.map e.op), h) else none
 | .makeSlice t l c => E3 P h t (e.op l) (e.op c)
 | .slice t x lo hi mx => (Ej P h t (e.op x) (lo.map e.op) (hi.map e.op) (mx.map e.op)).map (·, h)
 | .fieldAddr s x f => (fieldAddrV P s (e.op x) f).map (·, h)
 | .field s x f => (L9 P s (e.op x) f).map (·, h)
 | .indexAddr t x ix => (indexAddrV P t (e.op x) (e.op ix)).map (·, h)
 | .index t x ix => (Mn P t (e.op x) (e.op ix)).map (·, h)
 | .extract x i => (HN (e.op x) i).map (·, h)
 | .call { callee := .builtin b, args := xs, argTypes := ts } => BX P h b ts.toList (xs.toList.map e.op)
 | _ => none
end Go.Ai
namespace Go.Ai
variable {P : Program} {W0 : World} {ι : Ren} {h : Heap} {w w' : World}
theorem CU.heap_eq (s : CU P W0 ι h w) (e : w'.heap = w.heap) (ee : w'.os = w.os ∧ w'.tape = w.tape ∧ w'.output = w.output := by exact ⟨rfl, rfl, rfl⟩) : CU P W0 ι h w' :=
 ⟨by rw [e]; exact s.base, by rw [e]; exact s.size, by rw [e]; exact s.dom, s.own, s.live, s.wr, s.ro, s.nle, s.inj, by rw [e]; exact s.cell, by rw [ee.1, ee.2.1, ee.2.2]; exact s.env⟩
theorem RS.toRG {x y : Value} (r : RS ι x y) : RG ι x y := by
 unfold RG; split
 ·simp [RS] at r
 ·exact r
theorem RG.toR {x y : Value} (r : RG ι x y) : R ι x y := by
 unfold R; split
 ·simp [RG, RS] at r
 ·exact r
theorem RS.toR {x y : Value} (r : RS ι x y) : R ι x y := r.toRG.toR
theorem RS.one {x y : Value} (hx : FZ x = true) (r : RS ι x y) : y.oneCell' = true := by
 unfold RS at r
 split at r <;> first
  | (obtain ⟨_, _, _, r⟩ := r; subst r; rfl)
  | (obtain ⟨_, _, _, _, _, _, _, _, r⟩ := r; subst r; rfl)
  | (obtain ⟨_, _, r⟩ := r; subst r; rfl)
  | (obtain ⟨_, r⟩ := r; subst r; rfl)
  | (obtain ⟨_, _, r, _⟩ := r; subst r; rfl)
  | (subst r; rfl)
  | exact r.elim
  | simp [FZ] at hx
theorem CU.at (s : CU P W0 ι h w) {b c j : Nat} {k : KP} {x : Value} (hb : h.get b = some k) (hc : ι.m b = some c) (hx : k.cs[j]? = some x) :
  ∃ y, w.cell? ⟨c, j, none⟩ = some y ∧ RS ι x y := by
 obtain ⟨cs', ty, fr, h1, _, h3, _⟩ := s.cell b k c hb hc
 obtain ⟨y, hy, r⟩ := h3 j x hx
 exact ⟨y, by simp [World.cell?, h1, hy], r⟩
theorem CU.stretch (s : CU P W0 ι h w) {b c off n : Nat} {k : KP} {l : List Value} (hb : h.get b = some k) (hc : ι.m b = some c) (hl : rd k.cs off n = some l) :
  ∃ l' : List Value, l'.length = n ∧ l.length = n ∧ BJ (RS ι) l l' ∧ ∀ (j : Nat) (v : Value), l'[j]? = some v → w.cell? ⟨c, off + j, none⟩ = some v := by
 obtain ⟨cs', ty, fr, h1, h2, h3, _⟩ := s.cell b k c hb hc
 unfold rd at hl
 split at hl
 ·rename_i hle
  simp at hl; subst hl
  refine ⟨(cs'.toList.drop off).take n, by simp; omega, by simp; omega, BJ.of_get (by simp; omega) ?_, ?_⟩
  ·intro i x y hx hy
   simp only [List.getElem?_take, List.getElem?_drop] at hx hy
   split at hx
   ·rename_i hi
    simp only [if_pos hi] at hy
    obtain ⟨z, hz, r⟩ := h3 _ _ hx
    simp at hy
    rw [hz] at hy; cases hy; exact r
   ·cases hx
  ·intro j v hv
   simp only [List.getElem?_take, List.getElem?_drop] at hv
   split at hv
   ·simp at hv; simp [World.cell?, h1, hv]
   ·cases hv
 ·cases hl
def Ren.new (ι : Ren) (b c N z : Nat) : Ren := ⟨fun x => if x = b then some c else ι.m x, fun x => if x = c then some (N, z) else ι.s x⟩
theorem CU.le_new (s : CU P W0 ι h w) (N z : Nat) : ι.le (ι.new h.n w.heap.size N z) := by
 intro b c hb
 have := s.dom _ _ hb
 exact ⟨by simp [Ren.new, hb]; omega, by simp [Ren.new]; omega⟩
theorem CU.push (s : CU P W0 ι h w) {k : KP} {cs' : Array Value} {ty : TypeId} {fr : Nat × Nat} (hk : k.w = true) (hl : k.cs.length ≤ cs'.size)
  (hc : ∀ (j : Nat) (x : Value), k.cs[j]? = some x → ∃ y : Value, cs'[j]? = some y ∧ RS ι x y) (hf : ∀ o, o < cs'.size → ¬ (fr.1 ≤ o ∧ o < fr.2))
  (he : w'.heap = w.heap.push (.cells cs' ty fr)) (ee : w'.os = w.os ∧ w'.tape = w.tape ∧ w'.output = w.output := by exact ⟨rfl, rfl, rfl⟩) : CU P W0 (ι.new h.n w.heap.size cs'.size k.sz) (h.push k) w' := by
 have hle := s.le_new cs'.size k.sz
 refine ⟨?_, ?_, ?_, ?_, ?_, ?_, ?_, ?_, ?_, ?_, by rw [ee.1, ee.2.1, ee.2.2]; exact s.env⟩
 ·intro b hb
  have := s.base b hb
  have h0 := s.size; have h1 := s.nle
  refine ⟨(hle _ _ this.1).1, ?_, ?_⟩
  ·rw [he, Array.getElem?_push]; rw [if_neg (by omega)]; exact this.2.1
  ·simp only [Ren.new]; rw [if_neg (by omega)]; exact this.2.2
 ·have := s.size; rw [he]; simp; omega
 ·intro b c hb
  simp only [Ren.new] at hb
  split at hb
  ·cases hb; rw [he]; simp [Heap.push]; omega
  ·have := s.dom _ _ hb; rw [he]; simp [Heap.push]; omega
 ·intro b c hb hm
  simp only [Ren.new] at hm
  split at hm
  ·cases hm; exact s.size
  ·exact s.own b c hb hm
 ·intro b k' hb
  simp only [Heap.push] at hb
  simp only [Ren.new]
  split at hb
  ·rename_i e; exact ⟨_, by rw [if_pos e]⟩
  ·rename_i e; obtain ⟨c, hc⟩ := s.live _ _ hb; exact ⟨c, by rw [if_neg e]; exact hc⟩
 ·intro b k' hb hw
  simp only [Heap.push] at hb
  split at hb
  ·rename_i e; rw [e]; exact s.nle
  ·exact s.wr _ _ hb hw
 ·intro b k' hb hw
  simp only [Heap.push] at hb
  split at hb
  ·cases hb; rw [hk] at hw; cases hw
  ·exact s.ro _ _ hb hw
 ·have := s.nle; simp [Heap.push]; omega
 ·intro b b' c k1 k2 hb hw hb' hm hm'
  simp only [Heap.push] at hb hb'
  simp only [Ren.new] at hm hm'
  split at hb <;> split at hb'
  ·simp_all
  ·rename_i e e'
   rw [if_pos e] at hm; rw [if_neg e'] at hm'
   cases hm; have := (s.dom _ _ hm').2; omega
  ·rename_i e e'
   rw [if_neg e] at hm; rw [if_pos e'] at hm'
   cases hm'; have := (s.dom _ _ hm).2; omega
  ·rename_i e e'
   rw [if_neg e] at hm; rw [if_neg e'] at hm'
   exact s.inj _ _ _ _ _ hb hw hb' hm hm'
 ·intro b k' c hb hm
  simp only [Heap.push] at hb
  simp only [Ren.new] at hm
  split at hb
  ·rename_i e
   rw [if_pos e] at hm; cases hm; cases hb
   refine ⟨cs', ty, fr, by rw [he]; simp, hl, fun j x hx => ?_, fun _ => ⟨by simp [Ren.new], hf⟩⟩
   obtain ⟨y, hy, r⟩ := hc j x hx
   exact ⟨y, hy, r.mono hle⟩
  ·rename_i e
   rw [if_neg e] at hm
   obtain ⟨cs2, ty2, fr2, g1, g2, g3, g4⟩ := s.cell _ _ _ hb hm
   have hd := s.dom _ _ hm
   refine ⟨cs2, ty2, fr2, ?_, g2, fun j x hx => ?_, fun hw => ⟨?_, (g4 hw).2⟩⟩
   ·rw [he, Array.getElem?_push, if_neg (by omega)]; exact g1
   ·obtain ⟨y, hy, r⟩ := g3 j x hx; exact ⟨y, hy, r.mono hle⟩
   ·simp only [Ren.new]; rw [if_neg (by omega)]; exact (g4 hw).1
theorem CU.upd (s : CU P W0 ι h w) {b c : Nat} {k : KP} {cs2 : Array Value} {ty : TypeId} {fr : Nat × Nat} {cs : List Value}
  (hb : h.get b = some k) (hw : k.w = true) (hm : ι.m b = some c) (hsz : ι.s c = some (cs2.size, k.sz))
  (hl : cs.length ≤ cs2.size) (hc : ∀ (j : Nat) (x : Value), cs[j]? = some x → ∃ y : Value, cs2[j]? = some y ∧ RS ι x y) (hf : ∀ o, o < cs2.size → ¬ (fr.1 ≤ o ∧ o < fr.2))
  (he : w'.heap[c]? = some (.cells cs2 ty fr)) (ho : ∀ x, x ≠ c → w'.heap[x]? = w.heap[x]?) (hn : w'.heap.size = w.heap.size) (ee : w'.os = w.os ∧ w'.tape = w.tape ∧ w'.output = w.output := by exact ⟨rfl, rfl, rfl⟩) : CU P W0 ι (h.set b ⟨true, k.sz, cs⟩) w' := by
 have hb0 := s.wr _ _ hb hw
 have hc0 := s.own _ _ hb0 hm
 refine ⟨?_, by rw [hn]; exact s.size, by rw [hn]; exact s.dom, s.own, ?_, ?_, ?_, s.nle, ?_, ?_, by rw [ee.1, ee.2.1, ee.2.2]; exact s.env⟩
 ·intro x hx
  have := s.base x hx
  exact ⟨this.1, by rw [ho x (by omega)]; exact this.2.1, this.2.2⟩
 ·intro x k' hx
  simp only [Heap.set] at hx
  split at hx
  ·rename_i e; exact ⟨c, e ▸ hm⟩
  ·exact s.live _ _ hx
 ·intro x k' hx hxw
  simp only [Heap.set] at hx
  split at hx
  ·rename_i e; rw [e]; exact hb0
  ·exact s.wr _ _ hx hxw
 ·intro x k' hx hxw
  simp only [Heap.set] at hx
  split at hx
  ·cases hx; cases hxw
  ·exact s.ro _ _ hx hxw
 ·intro x x' y k1 k2 hx hxw hx' hm1 hm2
  simp only [Heap.set] at hx hx'
  split at hx <;> split at hx'
  ·simp_all
  ·rename_i e e'; rw [e] at hm1 ⊢; exact s.inj b x' y k k2 hb hw hx' hm1 hm2
  ·rename_i e e'; rw [e'] at hm2 ⊢; exact s.inj x b y k1 k hx hxw hb hm1 hm2
  ·exact s.inj _ _ _ _ _ hx hxw hx' hm1 hm2
 ·intro x k' y hx hmx
  simp only [Heap.set] at hx
  split at hx
  ·rename_i e
   subst e
   rw [hm] at hmx; cases hmx; cases hx
   exact ⟨cs2, ty, fr, he, hl, hc, fun _ => ⟨hsz, hf⟩⟩
  ·rename_i e
   have hne : y ≠ c := by
    intro hy; subst hy
    exact e (s.inj b x y k k' hb hw hx hm hmx).symm
   obtain ⟨cs3, ty3, fr3, g1, g2, g3, g4⟩ := s.cell _ _ _ hx hmx
   exact ⟨cs3, ty3, fr3, by rw [ho _ hne]; exact g1, g2, g3, g4⟩
theorem CU.kill (s : CU P W0 ι h w) (b : Nat) : CU P W0 ι (h.kill b) w := by
 have live : ∀ x k, (h.kill b).get x = some k → h.get x = some k := by
  intro x k hx
  simp only [Heap.kill] at hx
  split at hx
  ·cases hx
  ·exact hx
 exact ⟨s.base, s.size, s.dom, s.own, fun x k hx => s.live x k (live _ _ hx), fun x k hx => s.wr x k (live _ _ hx), fun x k hx => s.ro x k (live _ _ hx), s.nle,
  fun x x' c k k' hx hw hx' => s.inj x x' c k k' (live _ _ hx) hw (live _ _ hx'), fun x k c hx => s.cell x k c (live _ _ hx), s.env⟩
def Ren.also (ι : Ren) (b c : Nat) : Ren := ⟨fun x => if x = b then some c else ι.m x, ι.s⟩
theorem CU.le_also (s : CU P W0 ι h w) (c : Nat) : ι.le (ι.also h.n c) := by
 intro b c hb
 have := s.dom _ _ hb
 exact ⟨by simp [Ren.also, hb]; omega, rfl⟩
theorem CU.move (s : CU P W0 ι h w) {b c : Nat} {k : KP} {cs2 : Array Value} {ty : TypeId} {fr : Nat × Nat} {cs : List Value}
  (hb : h.get b = some k) (hw : k.w = true) (hm : ι.m b = some c) (hsz : ι.s c = some (cs2.size, k.sz))
  (hl : cs.length ≤ cs2.size) (hc : ∀ (j : Nat) (x : Value), cs[j]? = some x → ∃ y : Value, cs2[j]? = some y ∧ RS ι x y) (hf : ∀ o, o < cs2.size → ¬ (fr.1 ≤ o ∧ o < fr.2))
  (he : w'.heap[c]? = some (.cells cs2 ty fr)) (ho : ∀ x, x ≠ c → w'.heap[x]? = w.heap[x]?) (hn : w'.heap.size = w.heap.size) (ee : w'.os = w.os ∧ w'.tape = w.tape ∧ w'.output = w.output := by exact ⟨rfl, rfl, rfl⟩) :
  CU P W0 (ι.also h.n c) ((h.kill b).push ⟨true, k.sz, cs⟩) w' := by
 have hle := s.le_also c
 have s1 := s.upd hb hw hm hsz hl hc hf he ho hn ee
 have hbn := (s.dom _ _ hm).1
 have hb0 := s.wr _ _ hb hw
 have get' : ∀ x k', ((h.kill b).push ⟨true, k.sz, cs⟩).get x = some k' → (x = h.n ∧ k' = ⟨true, k.sz, cs⟩) ∨ (x ≠ h.n ∧ x ≠ b ∧ h.get x = some k') := by
  intro x k' hx
  by_cases e : x = h.n
  ·simp [Heap.push, Heap.kill, e] at hx; exact .inl ⟨e, hx.symm⟩
  ·by_cases e' : x = b
   ·subst e'; simp [Heap.push, Heap.kill, e] at hx
   ·simp [Heap.push, Heap.kill, e, e'] at hx; exact .inr ⟨e, e', hx⟩
 have gset : ∀ x k', x ≠ b → h.get x = some k' → (h.set b ⟨true, k.sz, cs⟩).get x = some k' := by
  intro x k' hne hx; simp only [Heap.set, if_neg hne]; exact hx
 have gb : (h.set b ⟨true, k.sz, cs⟩).get b = some ⟨true, k.sz, cs⟩ := by simp [Heap.set]
 refine ⟨?_, by rw [hn]; exact s.size, ?_, ?_, ?_, ?_, ?_, ?_, ?_, ?_, s1.env⟩
 ·intro x hx
  have := s1.base x hx
  exact ⟨(hle _ _ this.1).1, this.2⟩
 ·intro x y hx
  simp only [Ren.also] at hx
  split at hx
  ·cases hx; have := s.dom _ _ hm; rw [hn]; simp [Heap.push, Heap.kill]; omega
  ·have := s.dom _ _ hx; rw [hn]; simp [Heap.push, Heap.kill]; omega
 ·intro x y hx hm'
  simp only [Ren.also] at hm'
  split at hm'
  ·cases hm'; exact s.own _ _ hb0 hm
  ·exact s.own _ _ hx hm'
 ·intro x k' hx
  rcases get' _ _ hx with ⟨rfl, rfl⟩ | ⟨e, e', hx'⟩
  ·exact ⟨c, by simp [Ren.also]⟩
  ·obtain ⟨y, hy⟩ := s.live _ _ hx'; exact ⟨y, by simp [Ren.also, e, hy]⟩
 ·intro x k' hx hxw
  rcases get' _ _ hx with ⟨rfl, rfl⟩ | ⟨e, e', hx'⟩
  ·exact s.nle
  ·exact s.wr _ _ hx' hxw
 ·intro x k' hx hxw
  rcases get' _ _ hx with ⟨rfl, rfl⟩ | ⟨e, e', hx'⟩
  ·cases hxw
  ·exact s.ro _ _ hx' hxw
 ·have := s.nle; simp [Heap.push, Heap.kill]; omega
 ·intro x x' y k1 k2 hx hxw hx' hm1 hm2
  simp only [Ren.also] at hm1 hm2
  rcases get' _ _ hx with ⟨rfl, rfl⟩ | ⟨e, e', hx1⟩ <;> rcases get' _ _ hx' with ⟨rfl, rfl⟩ | ⟨f, f', hx2⟩
  ·rfl
  ·rw [if_pos rfl] at hm1; rw [if_neg f] at hm2; cases hm1
   exact absurd (s.inj b x' c k k2 hb hw hx2 hm hm2).symm f'
  ·rw [if_neg e] at hm1; rw [if_pos rfl] at hm2; cases hm2
   exact absurd (s.inj x b c k1 k hx1 hxw hb hm1 hm) e'
  ·rw [if_neg e] at hm1; rw [if_neg f] at hm2
   exact s.inj _ _ _ _ _ hx1 hxw hx2 hm1 hm2
 ·intro x k' y hx hmx
  simp only [Ren.also] at hmx
  rcases get' _ _ hx with ⟨rfl, rfl⟩ | ⟨e, e', hx1⟩
  ·rw [if_pos rfl] at hmx; cases hmx
   refine ⟨cs2, ty, fr, he, hl, fun j x hx => ?_, fun _ => ⟨hsz, hf⟩⟩
   obtain ⟨y, hy, r⟩ := hc j x hx; exact ⟨y, hy, r.mono hle⟩
  ·rw [if_neg e] at hmx
   obtain ⟨cs3, ty3, fr3, g1, g2, g3, g4⟩ := s1.cell _ _ _ (gset _ _ e' hx1) hmx
   exact ⟨cs3, ty3, fr3, g1, g2, fun j x hx => by obtain ⟨y, hy, r⟩ := g3 j x hx; exact ⟨y, hy, r.mono hle⟩, g4⟩
theorem Sw {c o : Nat} {v : Value} {cs : Array Value} {ty : TypeId} {fr : Nat × Nat} (h : w.heap[c]? = some (.cells cs ty fr)) :
  (w.setCell ⟨c, o, none⟩ v).heap[c]? = some (.cells (cs.setIfInBounds o v) ty fr) := by
 simp [World.setCell, Array.getElem?_modify, h]
theorem Q6 {c o x : Nat} {v : Value} (hx : x ≠ c) : (w.setCell ⟨c, o, none⟩ v).heap[x]? = w.heap[x]? := by
 simp [World.setCell, Array.getElem?_modify, Ne.symm hx]
theorem Gd {c : Nat} : ∀ (vs : List Value) (o : Nat) (w : World), (w.setCells c o vs).os = w.os ∧ (w.setCells c o vs).tape = w.tape ∧ (w.setCells c o vs).output = w.output
 | [], o, w => ⟨rfl, rfl, rfl⟩
 | v :: r, o, w => Gd r (o + 1) (w.setCell ⟨c, o, none⟩ v)
theorem HQ {c : Nat} {ty : TypeId} {fr : Nat × Nat} : ∀ (vs : List Value) (o : Nat) (w : World) (cs : Array Value), w.heap[c]? = some (.cells cs ty fr) → o + vs.length ≤ cs.size →
  (w.setCells c o vs).heap[c]? = some (.cells (cs.toList.take o ++ vs ++ cs.toList.drop (o + vs.length)).toArray ty fr)
 | [], o, w, cs, h, _ => by simp [World.setCells, h]
 | v :: r, o, w, cs, h, hle => by
  simp only [List.length_cons] at hle
  rw [World.setCells, HQ r (o + 1) _ _ (Sw h) (by simp; omega)]
  congr 2
  apply Array.ext'
  simp only [Array.toList_setIfInBounds]
  have hlen : o < cs.toList.length := by simp; omega
  have e : cs.toList.set o v = cs.toList.take o ++ v :: cs.toList.drop (o + 1) := by rw [List.set_eq_take_append_cons_drop, if_pos hlen]
  have e2 : (cs.toList.take o).length = o := by rw [List.length_take]; omega
  rw [e]
  have e3 : (cs.toList.take o ++ v :: cs.toList.drop (o + 1)).take (o + 1) = cs.toList.take o ++ [v] := by
   rw [List.take_append, e2, List.take_of_length_le (by omega)]; simp
  have e4 : (cs.toList.take o ++ v :: cs.toList.drop (o + 1)).drop (o + 1 + r.length) = cs.toList.drop (o + (r.length + 1)) := by
   rw [List.drop_append, e2, List.drop_of_length_le (by omega), show o + 1 + r.length - o = r.length + 1 by omega, List.drop_succ_cons, List.drop_drop]
   simp; congr 1; omega
  rw [e3, e4]; simp
theorem G8 {c x : Nat} (hx : x ≠ c) : ∀ (vs : List Value) (o : Nat) (w : World), (w.setCells c o vs).heap[x]? = w.heap[x]?
 | [], _, _ => rfl
 | v :: r, o, w => by rw [World.setCells, G8 hx r]; exact Q6 hx
theorem FW {c : Nat} : ∀ (vs : List Value) (o : Nat) (w : World), (w.setCells c o vs).heap.size = w.heap.size
 | [], _, _ => rfl
 | v :: r, o, w => by rw [World.setCells, FW r]; simp [World.setCell]
end Go.Ai
namespace Go.Ai
variable {P : Program} {W0 : World} {ι : Ren} {h : Heap} {w w' : World}
theorem Ze {t n : Nat} (hs : sz? P t = some n) : ∃ i, P.info? t = some i ∧ i.size = n := by
 unfold sz? at hs
 cases hi : P.info? t with
 | none => rw [hi] at hs; cases hs
 | some i => rw [hi] at hs; simp at hs; exact ⟨i, rfl, hs⟩
theorem DL {t n : Nat} (hs : sz? P t = some n) (w : World) : (sizeOf t).run P w = .ok n w := by
 obtain ⟨i, hi, rfl⟩ := Ze hs
 simp [sizeOf, typeInfo, hi, program, Sem.run]
theorem Hs {t : Nat} {z : List Value} (hz : zr? P t = some z) : ∃ i v, P.info? t = some i ∧ i.zero = some v ∧ v.cells = z.toArray ∧ z.all Bx = true := by
 unfold zr? at hz
 cases hi : P.info? t with
 | none => rw [hi] at hz; simp at hz
 | some i =>
  rw [hi] at hz
  simp only [Option.bind_some] at hz
  cases hv : i.zero with
  | none => rw [hv] at hz; cases hz
  | some v =>
   rw [hv] at hz
   simp only at hz
   split at hz
   ·rename_i hp; cases hz; exact ⟨i, v, rfl, hv, by simp, hp⟩
   ·cases hz
theorem WW {t : Nat} {z : List Value} (hz : zr? P t = some z) (w : World) : ∃ v, (zeroValue t).run P w = .ok v w ∧ v.cells = z.toArray := by
 obtain ⟨i, v, hi, hv, hc, _⟩ := Hs hz
 exact ⟨v, by simp [zeroValue, typeInfo, hi, hv, program, Sem.run], hc⟩
theorem K6 {t : Nat} {b : Bool} (hd : agg? P t = some b) (w : World) : (isAgg t).run P w = .ok b w := by
 unfold agg? at hd
 cases hu : P.underlying t with
 | none => rw [hu] at hd; cases hd
 | some d =>
  rw [hu] at hd
  simp only [isAgg, run_underlying hu, Sem.run_bind, Result.andThen_ok]
  cases d <;> simp_all
theorem EF {t e z b : Nat} (h : elt? P t = some (e, z, b)) : P.underlying t = some (.slice e) ∧ ∃ i, P.info? e = some i ∧ i.size = z ∧ i.bytes = b := by
 unfold elt? at h
 split at h
 ·rename_i e' hu
  cases hi : P.info? e' with
  | none => rw [hi] at h; cases h
  | some i => rw [hi] at h; simp at h; obtain ⟨rfl, rfl, rfl⟩ := h; exact ⟨hu, i, hi, rfl, rfl⟩
 ·cases h
theorem QM {t f off n : Nat} {b : Bool} (h : fld? P t f = some (off, n, b)) :
  ∃ (fs : Array Field) (fl : Field), P.underlying t = some (.struct fs) ∧ fs[f]? = some fl ∧ fl.offset = off ∧ sz? P fl.type = some n ∧ agg? P fl.type = some b := by
 unfold fld? at h
 split at h
 ·rename_i fs hu
  split at h
  ·rename_i fl hf
   split at h
   ·rename_i n' b' hs hb
    simp at h; obtain ⟨h1, rfl, rfl⟩ := h; exact ⟨fs, fl, hu, hf, h1, hs, hb⟩
   ·cases h
  ·cases h
 ·cases h
theorem Lo {x x' : Value} {cs : List Value} (hc : Ds x = some cs) (r : R ι x x') : ∃ cs', x'.cells = cs'.toArray ∧ BJ (RS ι) cs cs' := by
 unfold Ds at hc
 split at hc
 ·cases hc; obtain ⟨cs', rfl, ha⟩ := r; exact ⟨cs'.toList, by simp [Value.cells], ha⟩
 ·cases hc
 ·cases hc
 ·rename_i n1 n2 n3
  cases hc
  have r' : RS ι x x' := by
   unfold R at r; split at r
   ·exact (n2 _ rfl).elim
   ·unfold RG at r; split at r
    ·exact (n1 _ rfl).elim
    ·exact r
  refine ⟨[x'], ?_, .cons r' .nil⟩
  have := r'.one (by unfold FZ; split <;> first | exact (n3 _ rfl).elim | rfl)
  cases x' <;> simp_all [Value.cells, Value.oneCell']
theorem BJ.ones : ∀ {l m : List Value}, BJ (RS ι) l m → l.all FZ = true → ∀ v ∈ m, v.oneCell' = true
 | _, _, .nil, _, v, hv => by simp at hv
 | _, _, .cons a b, ho, v, hv => by
  rw [List.all_cons, Bool.and_eq_true] at ho
  rcases List.mem_cons.1 hv with rfl | hv
  ·exact a.one ho.1
  ·exact BJ.ones b ho.2 v hv
theorem CU.newRow (s : CU P W0 ι h w) {cs cs' : List Value} (ha : BJ (RS ι) cs cs') (more : List Value) (sz : Nat) (ty : TypeId) :
  ∃ ι', ι.le ι' ∧ CU P W0 ι' (h.push ⟨true, sz, cs⟩) (w.alloc (.cells (cs' ++ more).toArray ty)) ∧ ι'.m h.n = some w.heap.size ∧ ι'.s w.heap.size = some ((cs' ++ more).length, sz) := by
 have := s.push (w' := w.alloc (.cells (cs' ++ more).toArray ty)) (k := ⟨true, sz, cs⟩) (cs' := (cs' ++ more).toArray) (ty := ty) (fr := (0, 0)) rfl
  (by have := ha.length; simp; omega) (fun j x hx => by
   obtain ⟨y, hy, r⟩ := ha.get hx
   have hlt := (List.getElem?_eq_some_iff.1 hy).1
   exact ⟨y, by simp [List.getElem?_append, hlt]; exact (List.getElem?_eq_some_iff.1 hy).2, r⟩) (fun o _ => by simp) rfl
 exact ⟨_, s.le_new _ _, this, by simp [Ren.new], by simp [Ren.new]⟩
theorem NW (s : CU P W0 ι h w) {cs cs' : List Value} (ha : BJ (RS ι) cs cs') (sz : Nat) (ty : TypeId) :
  ∃ ι', ι.le ι' ∧ CU P W0 ι' (SW h sz cs).2 (w.alloc (.cells cs'.toArray ty)) ∧ R ι' (SW h sz cs).1 (.pointer (some ⟨w.heap.size, 0, none⟩)) := by
 obtain ⟨ι', h1, h2, h3, _⟩ := s.newRow ha [] sz ty
 rw [List.append_nil] at h2
 exact ⟨ι', h1, h2, RS.toR ⟨_, h3, rfl, rfl⟩⟩
theorem eD (s : CU P W0 ι h w) {b c off n : Nat} {k : KP} {l : List Value} (hk : h.get b = some k) (hc : ι.m b = some c) (hl : rd k.cs off n = some l) :
  ∃ l' : List Value, l'.length = n ∧ (loadCells ⟨c, off, none⟩ n).run P w = .ok l'.toArray w ∧ BJ (RS ι) l l' := by
 obtain ⟨l', h1, h2, h3, h4⟩ := s.stretch hk hc hl
 refine ⟨l', h1, ?_, h3⟩
 rw [← h1]
 exact run_loadCells_list w _ l' fun j v hv => by rw [Addr.add_lit]; exact h4 j v hv
theorem LK (s : CU P W0 ι h w) {t : TypeId} {x x' v : Value} (hv : Gn P h t x = some v) (r : R ι x x') :
  ∃ v', (Instr.loadAt t x').run P w = .ok v' w ∧ R ι v v' := by
 unfold Gn at hv
 split at hv
 ·rename_i a
  obtain ⟨c, hc, hs, rfl⟩ := r
  split at hv
  ·rename_i k hk
   split at hv
   ·rename_i hag
    split at hv
    ·rename_i n hn
     cases hl : rd k.cs a.off n with
     | none => rw [hl] at hv; cases hv
     | some l =>
      rw [hl] at hv; simp at hv; subst hv
      obtain ⟨l', h1, hr, h3⟩ := eD s hk hc hl
      refine ⟨.agg l'.toArray, ?_, ⟨_, rfl, by simpa using h3⟩⟩
      simp [Instr.loadAt, Instr.sureAddr, loadVar, K6 hag, DL hn, hr]
    ·cases hv
   ·rename_i hag
    obtain ⟨y, hy, ry⟩ := s.at hk hc hv
    refine ⟨y, ?_, ry.toR⟩
    simp [Instr.loadAt, Instr.sureAddr, loadVar, K6 hag, hy]
   ·cases hv
  ·cases hv
 ·cases hv
theorem MN {cs vs cs' : List Value} {off : Nat} (hw : Qy cs off vs = some cs') : off + vs.length ≤ cs.length ∧ cs' = cs.take off ++ vs ++ cs.drop (off + vs.length) := by
 unfold Qy at hw
 split at hw
 ·cases hw; exact ⟨by assumption, rfl⟩
 ·cases hw
theorem CU.write (s : CU P W0 ι h w) {b c off : Nat} {k : KP} {vs vs' cs : List Value} (hk : h.get b = some k) (hw : k.w = true) (hc : ι.m b = some c)
  (ha : BJ (RS ι) vs vs') (hcs : Qy k.cs off vs = some cs) : CU P W0 ι (h.set b ⟨true, k.sz, cs⟩) (w.setCells c off vs') ∧
  (∀ j, j < vs'.length → (w.cell? ⟨c, off + j, none⟩).isSome = true ∧ w.frozen? ⟨c, off + j, none⟩ = false) := by
 obtain ⟨cs', ty, fr, h1, h2, h3, h4⟩ := s.cell b k c hk hc
 obtain ⟨hle, rfl⟩ := MN hcs
 have hl := ha.length
 have hat := HQ (c := c) (ty := ty) (fr := fr) vs' off w cs' h1 (by omega)
 obtain ⟨h5, h6⟩ := h4 hw
 have hsize : (cs'.toList.take off ++ vs' ++ cs'.toList.drop (off + vs'.length)).toArray.size = cs'.size := by simp; omega
 constructor
 ·refine s.upd hk hw hc (by rw [hsize]; exact h5) (by simp; omega) ?_ (by rw [hsize]; exact h6) hat (fun x hx => G8 hx _ _ _) (FW _ _ _) (Gd _ _ _)
  intro j x hx
  simp only [List.getElem?_append, List.length_append, List.length_take, List.getElem?_take, List.getElem?_drop] at hx
  have e1 : min off k.cs.length = off := by omega
  rw [e1] at hx
  have e2 : min off cs'.size = off := by omega
  simp only [List.getElem?_toArray, List.getElem?_append, List.length_append, List.length_take, List.getElem?_take, List.getElem?_drop, Array.length_toList, e2]
  by_cases hj : j < off
  ·simp only [if_pos hj, if_pos (show j < off + vs.length by omega), if_pos (show j < off + vs'.length by omega)] at hx ⊢
   obtain ⟨y, hy, r⟩ := h3 j x hx; exact ⟨y, by simpa using hy, r⟩
  ·by_cases hj2 : j < off + vs.length
   ·simp only [if_neg hj, if_pos hj2, if_pos (show j < off + vs'.length by omega)] at hx ⊢
    exact ha.get hx
   ·simp only [if_neg hj2, if_neg (show ¬ j < off + vs'.length by omega)] at hx ⊢
    obtain ⟨y, hy, r⟩ := h3 _ x hx
    exact ⟨y, by rw [← hl]; simpa using hy, r⟩
 ·intro j hj
  have hlt : off + j < cs'.size := by omega
  exact ⟨by simp [World.cell?, h1, hlt], by simpa [World.frozen?, h1] using fun hx => Nat.le_of_not_lt fun hy => h6 _ hlt ⟨hx, hy⟩⟩
theorem QF (s : CU P W0 ι h w) {t : TypeId} {x x' y y' : Value} {h' : Heap} (hv : KJ P h t x y = some h') (r : R ι x x') (ry : R ι y y') :
  ∃ w', (Instr.storeAt t x' y').run P w = .ok () w' ∧ CU P W0 ι h' w' := by
 unfold KJ at hv
 split at hv
 ·rename_i a vs n hvs hn
  obtain ⟨c, hc, hs, rfl⟩ := r
  obtain ⟨vs', hcv, ha⟩ := Lo hvs ry
  split at hv
  ·rename_i k hk
   split at hv
   ·rename_i hwl
    cases hcs : Qy k.cs a.off vs with
    | none => rw [hcs] at hv; cases hv
    | some cs =>
     rw [hcs] at hv; simp at hv; subst hv
     obtain ⟨s1, s2⟩ := s.write hk hwl.1 hc ha hcs
     have hst := run_storeCells_cells (P := P) c a.off vs' 0 w (by simpa using fun j hj => (s2 j hj).1) (by simpa using fun j hj => (s2 j hj).2) (ha.ones hwl.2.2)
     simp only [Nat.add_zero] at hst
     have hlen : vs'.length = n := by rw [← ha.length]; exact hwl.2.1
     refine ⟨_, ?_, s1⟩
     simp [Instr.storeAt, Instr.sureAddr, storeVar, hcv, DL hn, hlen, hst]
   ·cases hv
  ·cases hv
 ·cases hv
end Go.Ai
namespace Go.Ai
variable {P : Program} {W0 : World} {ι : Ren} {h : Heap} {w w' : World}
theorem Hp (c off n : Nat) : (⟨c, off, none⟩ : Addr).add n = ⟨c, off + n, none⟩ := by unfold Addr.add; split <;> simp_all
theorem Kg {s f : Nat} {x x' v : Value} (hv : fieldAddrV P s x f = some v) (r : R ι x x') (w : World) :
  ∃ v', (Instr.fieldAt s x' f).run P w = .ok v' w ∧ R ι v v' := by
 unfold fieldAddrV at hv
 split at hv
 ·rename_i a off n b hf
  cases hv
  obtain ⟨c, hc, hs, rfl⟩ := r
  obtain ⟨fs, fl, hu, hfl, rfl, hsz, _⟩ := QM hf
  refine ⟨_, ?_, RS.toR ⟨c, hc, rfl, rfl⟩⟩
  simp [Instr.fieldAt, run_underlying hu, hfl, Instr.sureAddr, fieldPlace, DL hsz, Hp]
 ·cases hv
theorem SK {cs : List Value} {cs' : Array Value} {t off n : Nat} {b : Bool} {v : Value} (ha : BJ (RS ι) cs cs'.toList) (hv : Ns cs (off, n, b) = some v)
  (hsz : sz? P t = some n) (hb : agg? P t = some b) (w : World) : ∃ v', (part t cs' off).run P w = .ok v' w ∧ R ι v v' := by
 cases b with
 | true =>
  simp only [Ns] at hv
  cases hl : rd cs off n with
  | none => rw [hl] at hv; cases hv
  | some l =>
   rw [hl] at hv; simp at hv; subst hv
   unfold rd at hl
   split at hl
   ·cases hl
    refine ⟨.agg (cs'.extract off (off + n)), by simp [part, K6 hb, DL hsz], ⟨_, rfl, ?_⟩⟩
    have := (ha.drop off).take n
    simp only [Array.toList_extract, List.extract_eq_take_drop, Nat.add_sub_cancel_left]
    exact this
   ·cases hl
 | false =>
  simp only [Ns] at hv
  obtain ⟨y, hy, r⟩ := ha.get hv
  refine ⟨y, ?_, r.toR⟩
  simp only [Array.getElem?_toList] at hy
  simp [part, K6 hb, hy]
theorem QU {s f : Nat} {x x' v : Value} (hv : L9 P s x f = some v) (r : R ι x x') (w : World) :
  ∃ v', (Instr.field s x' f).run P w = .ok v' w ∧ R ι v v' := by
 unfold L9 at hv
 split at hv
 ·rename_i cs p hf
  obtain ⟨off, n, b⟩ := p
  obtain ⟨fs, fl, hu, hfl, rfl, hsz, hb⟩ := QM hf
  obtain ⟨cs', rfl, ha⟩ := r
  obtain ⟨v', h1, h2⟩ := SK ha hv hsz hb w
  exact ⟨v', by simp [Instr.field, run_underlying hu, hfl, asAgg, h1], h2⟩
 ·cases hv
theorem Kq {t : Nat} {x x' y y' v : Value} (hv : indexAddrV P t x y = some v) (r : R ι x x') (ry : R ι y y') (w : World) :
  ∃ v', (Instr.indexAt t x' y').run P w = .ok v' w ∧ R ι v v' := by
 unfold indexAddrV at hv
 split at hv
 ·rename_i a len _ k i e sz _ he
  split at hv
  ·rename_i hi
   cases hv
   obtain ⟨c, cap, off, hc, hs, hl, ho, _, rfl⟩ := r
   obtain rfl : y' = .int k i := ry
   obtain ⟨hu, inf, hinf, rfl, _⟩ := EF he
   have hpos : 0 < len := by omega
   have := ho (.inl hpos); subst this
   refine ⟨_, ?_, RS.toR ⟨c, hc, rfl, rfl⟩⟩
   have hsz : sz? P e = some inf.size := by simp [sz?, hinf]
   simp [Instr.indexAt, asIntOf, run_underlying hu, hi, DL hsz, Hp]
  ·cases hv
 ·cases hv
theorem Qw {t : Nat} {x x' y y' v : Value} (hv : Mn P t x y = some v) (r : R ι x x') (ry : R ι y y') (w : World) :
  ∃ v', (Instr.index t x' y').run P w = .ok v' w ∧ R ι v v' := by
 unfold Mn at hv
 split at hv
 ·rename_i s k i hcl
  obtain rfl : x' = .string s := r
  obtain rfl : y' = .int k i := ry
  have hu : P.underlying t = some .string := by unfold cls? at hcl; split at hcl <;> simp_all
  split at hv
  ·rename_i h0
   split at hv
   ·rename_i b hb
    cases hv
    exact ⟨.int .u8 b.toNat, by simp [Instr.index, asIntOf, run_underlying hu, h0, hb], rfl⟩
   ·cases hv
  ·cases hv
 ·cases hv
theorem M8 {x x' v : Value} {i : Nat} (hv : HN x i = some v) (r : R ι x x') (w : World) :
  ∃ v', (Instr.extract x' i).run P w = .ok v' w ∧ R ι v v' := by
 unfold HN at hv
 split at hv
 ·rename_i vs
  obtain ⟨vs', rfl, ha⟩ := r
  obtain ⟨y, hy, r⟩ := ha.get (by simpa using hv)
  simp only [Array.getElem?_toList] at hy
  exact ⟨y, by simp [Instr.extract, hy], r.toR⟩
 ·cases hv
theorem Ik {nt : Nat} {e : Env} {a : Act} (re : RE nt ι e a) {place : Nat → Option (Nat × Nat)} : ∀ (l : List (Nat × Operand)), (∀ p ∈ l, GL p.2 = true) →
    ∀ (cs cs' r : List Value), BJ (RS ι) cs cs' → Aw place e l cs = some r →
    ∃ r' : List Value, Instr.fill place cs'.toArray (l.map fun p => (p.1, a.eval p.2)) = some r'.toArray ∧ BJ (RS ι) r r'
  | [], _, cs, cs', r, ha, hf => by simp [Aw] at hf; subst hf; exact ⟨cs', by simp [Instr.fill], ha⟩
  | (i, x) :: l, hok, cs, cs', r, ha, hf => by
    simp only [Aw] at hf
    split at hf
    · rename_i off n vs hp hvs
      split at hf
      · rename_i hn
        split at hf
        · rename_i cs1 hw
          obtain ⟨vs', hcv, hav⟩ := Lo hvs (re.op (hok (i, x) (by simp)))
          obtain ⟨hle, rfl⟩ := MN hw
          have hl := hav.length
          have hl2 := ha.length
          have h1 : ((a.eval x).cells.zipIdx.foldl (fun cs (c, j) => cs.setIfInBounds (off + j) c) cs'.toArray) = (cs'.take off ++ vs' ++ cs'.drop (off + vs'.length)).toArray := by
            rw [hcv, Array.zipIdx_toArray, List.foldl_toArray]
            have key : ∀ (vs : List Value) (k : Nat) (acc : List Value), off + k + vs.length ≤ acc.length →
                ((vs.zipIdx k).foldl (fun (cs : Array Value) (p : Value × Nat) => cs.setIfInBounds (off + p.2) p.1) acc.toArray) = (acc.take (off + k) ++ vs ++ acc.drop (off + k + vs.length)).toArray := by
              intro vs
              induction vs with
              | nil => intro k acc _; simp
              | cons v vs ih =>
                intro k acc hacc
                simp only [List.length_cons] at hacc
                simp only [List.zipIdx_cons, List.foldl_cons, List.setIfInBounds_toArray]
                rw [ih (k + 1) _ (by simp; omega)]
                congr 1
                have e : acc.set (off + k) v = acc.take (off + k) ++ v :: acc.drop (off + k + 1) := by rw [List.set_eq_take_append_cons_drop, if_pos (by omega)]
                have e2 : (acc.take (off + k)).length = off + k := by rw [List.length_take]; omega
                rw [e]
                have e3 : (acc.take (off + k) ++ v :: acc.drop (off + k + 1)).take (off + (k + 1)) = acc.take (off + k) ++ [v] := by
                  rw [List.take_append, e2, List.take_of_length_le (by omega), show off + (k + 1) - (off + k) = 1 by omega]; simp
                have e4 : (acc.take (off + k) ++ v :: acc.drop (off + k + 1)).drop (off + (k + 1) + vs.length) = acc.drop (off + k + (vs.length + 1)) := by
                  rw [List.drop_append, e2, List.drop_of_length_le (by omega), show off + (k + 1) + vs.length - (off + k) = vs.length + 1 by omega, List.drop_succ_cons, List.drop_drop]
                  simp; congr 1; omega
                rw [e3, e4]; simp
            have := key vs' 0 cs' (by omega)
            simpa using this
          obtain ⟨r', hr1, hr2⟩ := Ik re l (fun p hp => hok p (by simp [hp])) _ (cs'.take off ++ vs' ++ cs'.drop (off + vs'.length)) r
            (((ha.take off).append hav).append (by rw [← hl]; exact ha.drop _)) hf
          refine ⟨r', ?_, hr2⟩
          simp only [List.map_cons, Instr.fill, hp]
          rw [if_neg (by rw [hcv]; simp; omega)]
          rw [h1]; exact hr1
        · cases hf
      · cases hf
    · cases hf
end Go.Ai
namespace Go.Ai
variable {P : Program} {W0 : World} {ι : Ren} {h : Heap} {w w' : World}
theorem Ho {t : Nat} (hc : cls? P t = some .str) : P.underlying t = some .string := by unfold cls? at hc; split at hc <;> simp_all
theorem Xd {t : Nat} (hc : cls? P t = some .bool) : P.underlying t = some .bool := by unfold cls? at hc; split at hc <;> simp_all
theorem Kt {t : Nat} {k : IntKind} (hc : cls? P t = some (.int k)) : P.underlying t = some (.int k) := by unfold cls? at hc; split at hc <;> simp_all
theorem Io {t : Nat} (hc : cls? P t = some .sl) : ∃ e, P.underlying t = some (.slice e) := by unfold cls? at hc; split at hc <;> simp_all
theorem Tg {t : Nat} (hc : cls? P t = some .ptr) : ∃ e, P.underlying t = some (.pointer e) := by unfold cls? at hc; split at hc <;> simp_all
theorem Rk {op : BinOp} {k : IntKind} {x y : Int} {v : Value} (hv : GX op k x y = some v) (hs : op ≠ .shl) (hs' : op ≠ .shr) (t : TypeId) (w : World) :
    (binOp op t (.int k x) (.int k y)).run P w = .ok v w ∧ R ι v v := by
  unfold GX at hv
  split at hv <;> first
    | (cases hv; refine ⟨?_, rfl⟩; simp [binOp, Op.intArith, Op.intCmp]; done)
    | (split at hv
       · cases hv
       · rename_i h0
         cases hv; exact ⟨by simp [binOp, Op.intDiv, h0], rfl⟩)
    | (cases hv; refine ⟨?_, rfl⟩; simp only [binOp_and, binOp_or, binOp_xor, binOp_andNot, intBits_and, intBits_or, intBits_xor, intBits_andNot, Sem.run_pure]; done)
    | (cases hv; done)
theorem JH {op : BinOp} {k k' : IntKind} {x y : Int} {v : Value} (hv : GW op k x y = some v) (t : TypeId) (w : World) :
  (binOp op t (.int k x) (.int k' y)).run P w = .ok v w ∧ R ι v v := by
 unfold GW at hv
 split at hv
 ·cases hv
 ·rename_i h0
  split at hv <;> first
   | (cases hv; exact ⟨by simp [binOp, Op.shift, h0], rfl⟩)
   | (cases hv; done)
theorem Ru {op : BinOp} {x y : ByteArray} {v : Value} (hv : UY op x y = some v) (t : TypeId) (w : World) :
  (binOp op t (.string x) (.string y)).run P w = .ok v w ∧ R ι v v := by
 unfold UY at hv
 split at hv
 ·split at hv
  ·cases hv
  ·rename_i h0
   cases hv
   exact ⟨by
    have e : IntKind.i64.max = 9223372036854775807 := by decide
    simp only [binOp, Op.stringOp, e, if_neg h0]; rfl, rfl⟩
 ·cases hv; exact ⟨by simp [binOp, Op.stringOp], rfl⟩
 ·cases hv; exact ⟨by simp [binOp, Op.stringOp], rfl⟩
 ·cases hv
theorem ae {t : TypeId} (hu : P.underlying t = some .bool) (d : Nat) (a b : Bool) (w : World) : (Op.equalIn (d + 1) t (.bool a) (.bool b)).run P w = .ok (a == b) w := by
 simp [Op.equalIn, run_underlying hu]
theorem bn {t e : TypeId} (hu : P.underlying t = some (.slice e)) (d : Nat) (n c : Nat) (q : Option Addr) (n' c' : Nat) (w : World) : (Op.equalIn (d + 1) t (.slice none n c) (.slice q n' c')).run P w = .ok q.isNone w := by
 simp [Op.equalIn, run_underlying hu]
theorem YE {t e : TypeId} (hu : P.underlying t = some (.slice e)) (d : Nat) (n c : Nat) (q : Addr) (n' c' : Nat) (w : World) : (Op.equalIn (d + 1) t (.slice (some q) n' c') (.slice none n c)).run P w = .ok false w := by
 simp [Op.equalIn, run_underlying hu]
theorem YM {t e : TypeId} (hu : P.underlying t = some (.pointer e)) (d : Nat) (q : Option Addr) (w : World) : (Op.equalIn (d + 1) t (.pointer none) (.pointer q)).run P w = .ok q.isNone w := by
 simp [Op.equalIn, run_underlying hu]
theorem Zg {t e : TypeId} (hu : P.underlying t = some (.pointer e)) (d : Nat) (q : Addr) (w : World) : (Op.equalIn (d + 1) t (.pointer (some q)) (.pointer none)).run P w = .ok false w := by
 simp [Op.equalIn, run_underlying hu]
theorem NV {t : TypeId} {x x' y y' : Value} {b : Bool} (hv : eqV P t x y = some b) (rx : R ι x x') (ry : R ι y y') (w : World) :
  (Op.equal t x' y').run P w = .ok b w ∧ ((∃ p q, x' = .bool p ∧ y' = .bool q) ∨ (∃ p q r p' q' r', x' = .slice p q r ∧ y' = .slice p' q' r') ∨ (∃ p q, x' = .pointer p ∧ y' = .pointer q)) := by
 unfold eqV at hv
 split at hv
 ·rename_i hc
  cases hv
  obtain rfl := (show x' = _ from rx); obtain rfl := (show y' = _ from ry)
  exact ⟨ae (Xd hc) 9999 _ _ w, by simp⟩
 ·rename_i q _ _ hc
  obtain ⟨e, hu⟩ := Io hc
  obtain ⟨_, _, rfl⟩ := rx
  cases hv
  cases q with
  | none => obtain ⟨_, _, rfl⟩ := ry; exact ⟨bn hu 9999 _ _ _ _ _ w, by simp⟩
  | some q => obtain ⟨_, _, _, _, _, _, _, _, rfl⟩ := ry; exact ⟨bn hu 9999 _ _ _ _ _ w, by simp⟩
 ·rename_i hc
  obtain ⟨e, hu⟩ := Io hc
  obtain ⟨_, _, rfl⟩ := ry
  obtain ⟨_, rfl⟩ := rx
  cases hv
  exact ⟨YE hu 9999 _ _ _ _ _ w, by simp⟩
 ·rename_i q _ _ _ _ hne hc
  obtain ⟨e, hu⟩ := Io hc
  obtain ⟨_, _, rfl⟩ := ry
  cases hv
  cases q with
  | none => exact (hne rfl).elim
  | some q => obtain ⟨_, _, _, _, _, _, _, _, rfl⟩ := rx; exact ⟨YE hu 9999 _ _ _ _ _ w, by simp⟩
 ·rename_i q hc
  obtain ⟨e, hu⟩ := Tg hc
  obtain rfl := (show x' = _ from rx)
  cases hv
  cases q with
  | none => obtain rfl := (show y' = _ from ry); exact ⟨YM hu 9999 _ w, by simp⟩
  | some q => obtain ⟨_, _, _, rfl⟩ := ry; exact ⟨YM hu 9999 _ w, by simp⟩
 ·rename_i q hne hc
  obtain ⟨e, hu⟩ := Tg hc
  obtain rfl := (show y' = _ from ry)
  cases hv
  cases q with
  | none => exact (hne rfl).elim
  | some q => obtain ⟨_, _, _, rfl⟩ := rx; exact ⟨Zg hu 9999 _ w, by simp⟩
 ·cases hv
theorem Nm : ∀ {l m : List Value} {b : Bool}, eqIs l m = some b → (∀ l', BJ (RS ι) l l' → l' = l) ∧ ∀ m', BJ (RS ι) m m' → m' = m
 | [], [], _, _ => ⟨fun l' h => by cases h; rfl, fun m' h => by cases h; rfl⟩
 | x :: l, y :: m, b, h => by
  unfold eqIs at h
  split at h
  ·rename_i h1 h2; cases h1
  ·rename_i k x l k' y m h1 h2
   cases h1; cases h2
   split at h
   ·cases he : eqIs l m with
    | none => rw [he] at h; cases h
    | some r =>
     obtain ⟨i1, i2⟩ := Nm he
     refine ⟨fun l' hl => ?_, fun m' hm => ?_⟩
     ·cases hl with | cons a b => rw [i1 _ b]; rw [show _ = Value.int k x from a]
     ·cases hm with | cons a b => rw [i2 _ b]; rw [show _ = Value.int k' y from a]
   ·cases h
  ·cases h
 | [], _ :: _, _, h => by simp [eqIs] at h
 | _ :: _, [], _, h => by simp [eqIs] at h
theorem Ix {d : Nat} {xs ys : Array Value} (w : World) : ∀ {fs : List Field} {o : Nat} {r : Bool}, Pu P fs o = true → (xs.toList.drop o).length = fs.length → eqIs (xs.toList.drop o) (ys.toList.drop o) = some r → (Op.eqFields (d + 1) xs ys fs).run P w = .ok r w
 | [], o, r, _, hl, he => by
  have h1 : xs.toList.drop o = [] := List.eq_nil_of_length_eq_zero hl
  rw [h1] at he
  cases hy : ys.toList.drop o with
  | nil => rw [hy] at he; simp [eqIs] at he; subst he; rfl
  | cons y m => rw [hy] at he; simp [eqIs] at he
 | f :: fs, o, r, hf, hl, he => by
  simp only [Pu, Bool.and_eq_true, bne_iff_ne, ne_eq, beq_iff_eq] at hf
  obtain ⟨hn, rfl, ht, hr⟩ := hf
  cases hx : xs.toList.drop f.offset with
  | nil => rw [hx] at hl; simp at hl
  | cons x l =>
   cases hy : ys.toList.drop f.offset with
   | nil => rw [hx, hy] at he; simp [eqIs] at he
   | cons y m =>
    rw [hx, hy] at he
    have hx1 : xs[f.offset]? = some x := by
     have : (xs.toList.drop f.offset)[0]? = some x := by rw [hx]; rfl
     simpa using this
    have hy1 : ys[f.offset]? = some y := by
     have : (ys.toList.drop f.offset)[0]? = some y := by rw [hy]; rfl
     simpa using this
    have hx2 : xs.toList.drop (f.offset + 1) = l := by rw [← List.drop_drop, hx]; rfl
    have hy2 : ys.toList.drop (f.offset + 1) = m := by rw [← List.drop_drop, hy]; rfl
    unfold eqIs at he
    split at he
    ·rename_i h1 h2; cases h1
    ·rename_i k a l' k' b m' h1 h2
     cases h1; cases h2
     split at he
     ·rename_i hk
      subst hk
      cases hq : eqIs l m with
      | none => rw [hq] at he; cases he
      | some r' =>
       rw [hq] at he
       simp only [Option.map_some, Option.some.injEq] at he
       subst he
       have ih := Ix (d := d) (xs := xs) (ys := ys) w (fs := fs) (o := f.offset + 1) (r := r') hr (by rw [hx2]; rw [hx] at hl; simpa using hl) (by rw [hx2, hy2]; exact hq)
       cases hu : P.underlying f.type with
       | none => rw [hu] at ht; cases ht
       | some dsc =>
        rw [hu] at ht
        cases dsc <;> simp at ht
        rename_i ki
        have p1 : (part f.type xs f.offset).run P w = .ok (.int k a) w := by simp [part, isAgg, run_underlying hu, hx1]
        have p2 : (part f.type ys f.offset).run P w = .ok (.int k b) w := by simp [part, isAgg, run_underlying hu, hy1]
        have p3 : (Op.equalIn (d + 1) f.type (.int k a) (.int k b)).run P w = .ok (a == b) w := run_equalIn_int w d f.type k ki a b hu
        simp only [Op.eqFields, hn, not_false_eq_true, if_true, ne_eq, Sem.run_bind, p1, p2, p3, Result.andThen_ok]
        cases hab : a == b
        ·simp
        ·simpa using ih
     ·cases he
    ·cases he
theorem Nz {t : TypeId} {a b : Array Value} {x' y' : Value} {r : Bool} (hv : eqA P t a b = some r) (rx : R ι (.agg a) x') (ry : R ι (.agg b) y') (w : World) :
  x' = .agg a ∧ y' = .agg b ∧ P.eqGuardType P.depth t = false ∧ (Op.equalIn 10000 t (.agg a) (.agg b)).run P w = .ok r w := by
 unfold eqA intS? at hv
 cases hu : P.underlying t with
 | none => rw [hu] at hv; cases hv
 | some dsc =>
  rw [hu] at hv
  cases dsc <;> try (cases hv; done)
  rename_i fs
  simp only at hv
  by_cases hc : P.stoodInHeld t = false ∧ P.eqGuardType P.depth t = false ∧ Pu P fs.toList 0 = true
  ·rw [if_pos hc] at hv
   obtain ⟨h1, h2, h3⟩ := hc
   simp only at hv
   split at hv
   ·rename_i hs
    obtain ⟨s1, s2⟩ := Nm (ι := ι) hv
    obtain ⟨a', rfl, ra⟩ := (show ∃ cs', x' = .agg cs' ∧ BJ (RS ι) a.toList cs'.toList from rx)
    obtain ⟨b', rfl, rb⟩ := (show ∃ cs', y' = .agg cs' ∧ BJ (RS ι) b.toList cs'.toList from ry)
    have e1 := s1 _ ra
    have e2 := s2 _ rb
    have e1' : a' = a := Array.ext' e1
    have e2' : b' = b := Array.ext' e2
    subst e1'; subst e2'
    refine ⟨rfl, rfl, h2, ?_⟩
    have hfo : P.fieldsOf t = fs := by simp [Program.fieldsOf, hu]
    rw [show (10000 : Nat) = 9998 + 1 + 1 from rfl, run_equalIn_agg w (9998 + 1) t a' b' (by rw [hfo]; exact hu) h1, hfo]
    exact Ix w h3 (by simp [hs]) (by simpa using hv)
   ·cases hv
  ·rw [if_neg hc] at hv; cases hv
theorem S3 {op : BinOp} {t : TypeId} {ox oy : Operand} {x x' y y' v : Value} (hv : binV P op t x y = some v) (rx : R ι x x') (ry : R ι y y') (w : World) :
  ((do eqGuard op t ox oy x' y'; binOp op t x' y') : Sem Value).run P w = .ok v w ∧ R ι v v := by
 unfold binV at hv
 split at hv
 ·rename_i k a k' b
  obtain rfl := (show x' = _ from rx); obtain rfl := (show y' = _ from ry)
  have g : (eqGuard op t ox oy (.int k a) (.int k' b)).run P w = .ok () w := by unfold eqGuard; split <;> rfl
  rw [Sem.run_bind, g, Result.andThen_ok]
  split at hv
  ·exact JH hv t w
  ·exact JH hv t w
  ·rename_i h1 h2
   split at hv
   ·rename_i hk; subst hk; exact Rk hv (fun e => h1 e) (fun e => h2 e) t w
   ·cases hv
 ·rename_i a b
  obtain rfl := (show x' = _ from rx); obtain rfl := (show y' = _ from ry)
  have g : (eqGuard op t ox oy (.string a) (.string b)).run P w = .ok () w := by unfold eqGuard; split <;> rfl
  rw [Sem.run_bind, g, Result.andThen_ok]
  exact Ru hv t w
 ·rename_i a b
  split at hv
  ·cases he : eqA P t a b with
   | none => rw [he] at hv; cases hv
   | some r =>
    rw [he] at hv; cases hv
    obtain ⟨rfl, rfl, h2, h3⟩ := Nz he rx ry w
    refine ⟨?_, rfl⟩
    rw [Sem.run_bind, run_eqGuard_agg w .eql t ox oy a b h2, Result.andThen_ok, run_eql_struct, h3]; rfl
  ·cases he : eqA P t a b with
   | none => rw [he] at hv; cases hv
   | some r =>
    rw [he] at hv; cases hv
    obtain ⟨rfl, rfl, h2, h3⟩ := Nz he rx ry w
    refine ⟨?_, rfl⟩
    rw [Sem.run_bind, run_eqGuard_agg w .neq t ox oy a b h2, Result.andThen_ok, run_neq_struct, h3]; rfl
  ·cases hv
 ·split at hv
  ·cases he : eqV P t x y with
   | none => rw [he] at hv; cases hv
   | some b =>
    rw [he] at hv; cases hv
    obtain ⟨h1, h2⟩ := NV he rx ry w
    refine ⟨?_, rfl⟩
    rcases h2 with ⟨p, q, rfl, rfl⟩ | ⟨p, q, r, p', q', r', rfl, rfl⟩ | ⟨p, q, rfl, rfl⟩
    all_goals
     rw [Sem.run_bind, show (eqGuard _ _ _ _ _ _).run P w = .ok () w from by unfold eqGuard; rfl, Result.andThen_ok]
     simp [binOp, h1]
  ·cases he : eqV P t x y with
   | none => rw [he] at hv; cases hv
   | some b =>
    rw [he] at hv; cases hv
    obtain ⟨h1, h2⟩ := NV he rx ry w
    refine ⟨?_, rfl⟩
    rcases h2 with ⟨p, q, rfl, rfl⟩ | ⟨p, q, r, p', q', r', rfl, rfl⟩ | ⟨p, q, rfl, rfl⟩
    all_goals
     rw [Sem.run_bind, show (eqGuard _ _ _ _ _ _).run P w = .ok () w from by unfold eqGuard; rfl, Result.andThen_ok]
     simp [binOp, h1]
  ·cases hv
theorem WD {op : UnOp} {x x' v : Value} (hv : unV op x = some v) (rx : R ι x x') (w : World) : (Op.unary op x').run P w = .ok v w ∧ R ι v v := by
 unfold unV at hv
 split at hv
 ·obtain rfl := (show x' = _ from rx); cases hv; exact ⟨by simp [Op.unary, Op.intArith], rfl⟩
 ·obtain rfl := (show x' = _ from rx); cases hv; exact ⟨by simp [Op.unary], rfl⟩
 ·cases hv
theorem As {len d n : Nat} {o : Option Value} (hb : EP len o d = some n) : (o = none ∧ n = d) ∨ ∃ k, o = some (.int k (n : Int)) ∧ n ≤ len := by
 unfold EP at hb
 split at hb
 ·cases hb; exact .inl ⟨rfl, rfl⟩
 ·split at hb
  ·rename_i h; cases hb; exact .inr ⟨_, by rw [Int.toNat_of_nonneg h.1], by omega⟩
  ·cases hb
 ·cases hb
theorem Vd {k : IntKind} {i : Int} {y : Value} (r : R ι (.int k i) y) : y = .int k i := r
theorem Xo {o : Option Operand} {nt : Nat} {e : Env} {a : Act} (re : RE nt ι e a) (hok : ∀ x, o = some x → GL x = true) {k : IntKind} {i : Int}
  (h : o.map e.op = some (.int k i)) : o.map a.eval = some (.int k i) := by
 cases o with
 | none => cases h
 | some x =>
  simp at h
  have := re.op (hok x rfl)
  rw [h] at this
  simp [Vd this]
theorem Pr (s : CU P W0 ι h w) {t : TypeId} {x x' v : Value} {lo hi mx lo' hi' mx' : Option Value} (hv : Ej P h t x lo hi mx = some v) (r : R ι x x')
    (hlo : ∀ k i, lo = some (.int k i) → lo' = some (.int k i)) (hlo0 : lo = none → lo' = none)
    (hhi : ∀ k i, hi = some (.int k i) → hi' = some (.int k i)) (hhi0 : hi = none → hi' = none)
    (hmx : ∀ k i, mx = some (.int k i) → mx' = some (.int k i)) (hmx0 : mx = none → mx' = none) :
    ∃ v', (Instr.sliceAt t x' lo' hi' mx').run P w = .ok v' w ∧ R ι v v' := by
  unfold Ej at hv
  split at hv
  · rename_i a len _ e sz by_ he
    obtain ⟨hu, inf, hinf, rfl, _⟩ := EF he
    have hsz : sz? P e = some inf.size := by simp [sz?, hinf]
    have hu' : P.underlying t = some (.slice (P.elem t)) := by simp [Program.elem, hu]
    have hel : P.elem t = e := by simp [Program.elem, hu]
    split at hv
    · cases hv
    · rename_i hmh
      split at hv
      · rename_i m hm
        split at hv
        · rename_i hh hhh
          split at hv
          · rename_i l hl
            -- the concrete capacity, and what it comes to
            have key : ∀ (a' : Option Addr) (cap : Nat), len ≤ cap → ∃ mC : Nat, l ≤ hh ∧ hh ≤ mC ∧ hh ≤ len ∧ mC ≤ cap ∧
                (Instr.slice t (.slice a' len cap) lo' hi' mx').run P w = .ok (.slice (if mC = l then a' else a'.map (·.add (l * inf.size))) (hh - l) (mC - l)) w := by
              intro a' cap hcap
              rcases As hm with ⟨e1, rfl⟩ | ⟨km, e1, m1⟩ <;>
              rcases As hhh with ⟨e2, rfl⟩ | ⟨kh, e2, h1⟩ <;>
              rcases As hl with ⟨e3, rfl⟩ | ⟨kl, e3, l1⟩
              · rw [hmx0 e1, hhi0 e2, hlo0 e3]
                exact ⟨cap, by omega, by omega, by omega, by omega, by simp [Instr.slice, run_underlying hu, Instr.sliceBounds, DL hsz]⟩
              · rw [hmx0 e1, hhi0 e2, hlo _ _ e3]
                exact ⟨cap, by omega, by omega, by omega, by omega, by simp [Instr.slice, run_underlying hu, Instr.sliceBounds, DL hsz, run_sliceBound, l1]⟩
              · rw [hmx0 e1, hhi _ _ e2, hlo0 e3]
                have h2 : hh ≤ cap := by omega
                exact ⟨cap, by omega, by omega, by omega, by omega, by simp [Instr.slice, run_underlying hu, Instr.sliceBounds, DL hsz, run_sliceBound, h2]⟩
              · rw [hmx0 e1, hhi _ _ e2, hlo _ _ e3]
                have h2 : hh ≤ cap := by omega
                exact ⟨cap, by omega, by omega, by omega, by omega, by simp [Instr.slice, run_underlying hu, Instr.sliceBounds, DL hsz, run_sliceBound, h2, l1]⟩
              · exact (hmh ⟨by rw [e1]; rfl, by rw [e2]; rfl⟩).elim
              · exact (hmh ⟨by rw [e1]; rfl, by rw [e2]; rfl⟩).elim
              · rw [hmx _ _ e1, hhi _ _ e2, hlo0 e3]
                have h2 : m ≤ cap := by omega
                exact ⟨m, by omega, by omega, by omega, by omega, by simp [Instr.slice, run_underlying hu, Instr.sliceBounds, DL hsz, run_sliceBound, h2, h1]⟩
              · rw [hmx _ _ e1, hhi _ _ e2, hlo _ _ e3]
                have h2 : m ≤ cap := by omega
                exact ⟨m, by omega, by omega, by omega, by omega, by simp [Instr.slice, run_underlying hu, Instr.sliceBounds, DL hsz, run_sliceBound, h2, h1, l1]⟩
            split at hv
            · cases hv
              obtain ⟨rfl, _, rfl⟩ := r
              obtain ⟨mC, g1, g2, g3, g4, g5⟩ := key none 0 (by omega)
              refine ⟨_, by rw [run_sliceAt_slice _ _ _ _ _ _ hu']; exact g5, ?_⟩
              have : mC = 0 := by omega
              have : l = 0 := by omega
              have : hh = 0 := by omega
              subst_vars
              exact ⟨rfl, rfl, rfl⟩
            · rename_i a
              obtain ⟨c, cap, off, hc, hs, hlc, ho, hN, rfl⟩ := r
              split at hv
              · rename_i k hk
                split at hv
                · rename_i hksz
                  cases hv
                  obtain ⟨mC, g1, g2, g3, g4, g5⟩ := key (some ⟨c, off, none⟩) cap hlc
                  refine ⟨_, by rw [run_sliceAt_slice _ _ _ _ _ _ hu']; exact g5, ?_⟩
                  have hNz : ∀ N z, ι.s c = some (N, z) → z = inf.size := by
                    intro N z hz
                    cases hw : k.w with
                    | true =>
                      obtain ⟨cs', ty, fr, _, _, _, h4⟩ := s.cell _ _ _ hk hc
                      rw [(h4 hw).1] at hz; cases hz; exact hksz.resolve_left (by simp [hw])
                    | false =>
                      have hb := s.ro _ _ hk hw
                      have := s.base _ hb
                      rw [hc] at this; cases this.1
                      rw [this.2.2] at hz; cases hz
                  apply RS.toR
                  by_cases hml : mC = l
                  · rw [if_pos hml]
                    refine ⟨c, mC - l, off, hc, rfl, by omega, ?_, ?_, rfl⟩
                    · rintro (h5 | h5)
                      · omega
                      · simp only at h5
                        have h6 : a.off = 0 := by omega
                        rw [ho (.inr h6)]; simp only; omega
                    · intro N z hz; have := hN N z hz; rw [hml, Nat.sub_self, Nat.zero_mul]; have := Nat.zero_le (cap * z); omega
                  · rw [if_neg hml]
                    simp only [Option.map_some, Hp]
                    refine ⟨c, mC - l, off + l * inf.size, hc, rfl, by omega, ?_, ?_, rfl⟩
                    · rintro (h5 | h5)
                      · rw [ho (.inl (by omega))]
                      · simp only at h5
                        have h6 : a.off = 0 := by omega
                        rw [ho (.inr h6)]
                    · intro N z hz
                      have h7 := hN N z hz
                      have h8 := hNz N z hz
                      subst h8
                      have : l * inf.size + (mC - l) * inf.size = mC * inf.size := by rw [← Nat.add_mul]; congr 1; omega
                      have : mC * inf.size ≤ cap * inf.size := Nat.mul_le_mul_right _ g4
                      omega
                · cases hv
              · cases hv
          · cases hv
        · cases hv
      · cases hv
  · rename_i q he
    obtain ⟨e, sz, by_⟩ := q
    obtain ⟨hu, inf, hinf, rfl, _⟩ := EF he
    have hsz : sz? P e = some inf.size := by simp [sz?, hinf]
    have hu' : P.underlying t = some (.slice (P.elem t)) := by simp [Program.elem, hu]
    split at hv
    · cases hv
    · rename_i hmh
      have e1 : mx = none := by
        cases mx with
        | none => rfl
        | some _ => exact absurd rfl hmh
      split at hv
      · rename_i hh hhh
        split at hv
        · rename_i l hl
          cases hv
          obtain ⟨a, rfl⟩ := r
          have key : (Instr.slice t (.slice (some a) 0 0) lo' hi' mx').run P w = .ok (.slice (some a) 0 0) w := by
            rcases As hhh with ⟨e2, rfl⟩ | ⟨kh, e2, h1⟩ <;>
            rcases As hl with ⟨e3, rfl⟩ | ⟨kl, e3, l1⟩
            · rw [hmx0 e1, hhi0 e2, hlo0 e3]; simp [Instr.slice, run_underlying hu, Instr.sliceBounds, DL hsz]
            · obtain rfl : l = 0 := by omega
              rw [hmx0 e1, hhi0 e2, hlo _ _ e3]; simp [Instr.slice, run_underlying hu, Instr.sliceBounds, DL hsz, run_sliceBound]
            · obtain rfl : hh = 0 := by omega
              rw [hmx0 e1, hhi _ _ e2, hlo0 e3]; simp [Instr.slice, run_underlying hu, Instr.sliceBounds, DL hsz, run_sliceBound]
            · obtain rfl : hh = 0 := by omega
              obtain rfl : l = 0 := by omega
              rw [hmx0 e1, hhi _ _ e2, hlo _ _ e3]; simp [Instr.slice, run_underlying hu, Instr.sliceBounds, DL hsz, run_sliceBound]
          exact ⟨_, by rw [run_sliceAt_slice _ _ _ _ _ _ hu']; exact key, ⟨a, rfl⟩⟩
        · cases hv
      · cases hv
  · rename_i sb he
    split at hv
    · rename_i hcl
      have hu := Ho hcl
      split at hv
      · rename_i hh hhh
        split at hv
        · rename_i l hl
          cases hv
          obtain rfl := (show x' = .string sb from r)
          refine ⟨.string (sb.extract l hh), ?_, rfl⟩
          rw [run_sliceAt_string _ _ _ _ _ _ hu]
          rw [hmx0 rfl]
          rcases As hhh with ⟨e2, rfl⟩ | ⟨kh, e2, h1⟩ <;>
          rcases As hl with ⟨e3, rfl⟩ | ⟨kl, e3, l1⟩
          · rw [hhi0 e2, hlo0 e3]; simp [Instr.slice, run_underlying hu, Instr.sliceBounds]
          · rw [hhi0 e2, hlo _ _ e3]; simp [Instr.slice, run_underlying hu, Instr.sliceBounds, run_sliceBound, l1]
          · rw [hhi _ _ e2, hlo0 e3]; simp [Instr.slice, run_underlying hu, Instr.sliceBounds, run_sliceBound, h1]
          · rw [hhi _ _ e2, hlo _ _ e3]; simp [Instr.slice, run_underlying hu, Instr.sliceBounds, run_sliceBound, h1, l1]
        · cases hv
      · cases hv
    · cases hv
  · cases hv
end Go.Ai
namespace Go.Ai
variable {P : Program} {W0 : World} {ι : Ren} {h : Heap} {w w' : World}
theorem NR (s : CU P W0 ι h w) {sz n : Nat} {x x' : Value} {l : List Value} (hv : Oj h sz x = some (n, l)) (r : R ι x x') :
  ∃ (a' : Option Addr) (cap : Nat) (l' : List Value), x' = .slice a' n cap ∧ l'.length = n * sz ∧ l.length = n * sz ∧ BJ (RS ι) l l' ∧
   ((a' = none ∧ n = 0 ∧ l' = []) ∨ ∃ ad, a' = some ad ∧ ∀ (j : Nat) (v : Value), l'[j]? = some v → w.cell? (ad.add j) = some v) := by
 unfold Oj at hv
 split at hv
 ·cases hv
  obtain ⟨rfl, rfl, rfl⟩ := r
  exact ⟨none, 0, [], rfl, by simp, by simp, .nil, .inl ⟨rfl, rfl, rfl⟩⟩
 ·cases hv
  obtain ⟨a, rfl⟩ := r
  exact ⟨some a, 0, [], rfl, by simp, by simp, .nil, .inr ⟨a, rfl, fun j v hv => by simp at hv⟩⟩
 ·rename_i a m _
  obtain ⟨c, cap, off, hc, hs, hl, ho, hN, rfl⟩ := r
  split at hv
  ·rename_i k hk
   cases hl : rd k.cs a.off (m * sz) with
   | none => rw [hl] at hv; cases hv
   | some l0 =>
    rw [hl] at hv; simp at hv; obtain ⟨rfl, rfl⟩ := hv
    obtain ⟨l', h1, h2, h3, h4⟩ := s.stretch hk hc hl
    refine ⟨_, cap, l', rfl, h1, h2, h3, .inr ⟨_, rfl, fun j v hv => ?_⟩⟩
    have hpos : 0 < m := by
     have := (List.getElem?_eq_some_iff.1 hv).1
     rw [h1] at this
     cases m with
     | zero => simp at this
     | succ m => omega
    rw [Hp, ho (.inl hpos)]
    exact h4 j v hv
  ·split at hv
   ·rename_i hm; subst hm; cases hv
    exact ⟨_, cap, [], rfl, by simp, by simp, .nil, .inr ⟨_, rfl, fun j v hv => by simp at hv⟩⟩
   ·cases hv
 ·cases hv
theorem Lh (f : Int → UInt8) : ∀ (ns : List Int) (acc : Array UInt8), ns.foldl (fun (r : ByteArray) n => r.push (f n)) ⟨acc⟩ = ⟨acc ++ (ns.map f).toArray⟩
 | [], acc => by simp
 | n :: ns, acc => by
  rw [List.foldl_cons, show (ByteArray.mk acc).push (f n) = ⟨acc.push (f n)⟩ from rfl, Lh f ns]
  congr 1
  apply Array.ext'
  simp
theorem KS : ∀ {l : List Value} {bs : List UInt8}, HT l = some bs → ∃ ns : List Int, l = ns.map (.int .u8) ∧ bs = ns.map fun n => UInt8.ofNat n.toNat
 | [], bs, hb => by simp [HT] at hb; subst hb; exact ⟨[], rfl, rfl⟩
 | v :: l, bs, hb => by
  simp only [HT] at hb
  split at hb
  ·rename_i b r hv hr
   cases hb
   obtain ⟨ns, rfl, rfl⟩ := KS hr
   unfold byteV at hv
   split at hv
   ·rename_i n; cases hv; exact ⟨n :: ns, rfl, rfl⟩
   ·cases hv
  ·cases hb
theorem BJ.ints : ∀ {ns : List Int} {m : List Value}, BJ (RS ι) (ns.map (.int .u8)) m → m = ns.map (.int .u8)
 | [], _, .nil => rfl
 | n :: ns, _, .cons a b => by rw [BJ.ints b]; rw [show _ = Value.int .u8 n from a]; rfl
theorem Q8 (s0 : CU P W0 ι h w) {s d : TypeId} {x x' v : Value} {h' : Heap} (hv : HM P h s d x = some (v, h')) (r : R ι x x') :
  ∃ ι' w' v', (convert s d x').run P w = .ok v' w' ∧ ι.le ι' ∧ CU P W0 ι' h' w' ∧ R ι' v v' := by
 unfold HM at hv
 split at hv
 ·rename_i k k' kk n hs hd
  cases hv
  obtain rfl := (show x' = _ from r)
  refine ⟨ι, w, _, ?_, Ren.le_refl _, s0, rfl⟩
  simp [convert, run_underlying (Kt hs), run_underlying (Kt hd), Conv.intToInt]
 ·rename_i b hs hd
  cases hv
  obtain rfl := (show x' = _ from r)
  refine ⟨ι, w, .string b, ?_, Ren.le_refl _, s0, rfl⟩
  simp [convert, run_underlying (Ho hs), run_underlying (Ho hd)]
 ·rename_i hs hd
  split at hv
  ·rename_i e _ _ l he hsrc
   split at hv
   ·rename_i bs he8 hbs
    cases hv
    obtain ⟨hu, inf, hinf, hsz, _⟩ := EF he
    obtain ⟨a', cap, l', rfl, hl1, hl2, ha, hcase⟩ := NR s0 hsrc r
    obtain ⟨ns, rfl, rfl⟩ := KS hbs
    have hl' := ha.ints
    subst hl'
    refine ⟨ι, w, .string ⟨(ns.map fun (n : Int) => UInt8.ofNat n.toNat).toArray⟩, ?_, Ren.le_refl _, s0, rfl⟩
    rw [run_convert_bytes_string w s d e _ _ _ hu (Kt he8) (Ho hd)]
    rcases hcase with ⟨rfl, rfl, hnil⟩ | ⟨ad, rfl, hcells⟩
    ·simp at hnil; subst hnil
     simp [Conv.bytesToString]; rfl
    ·have hld := run_loadCells_list (P := P) w ad (ns.map (Value.int .u8)) hcells
     rw [hl1, Nat.mul_one] at hld
     rw [run_bytesToString w ad _ cap ns hld]
     rw [show ByteArray.empty = ⟨#[]⟩ from rfl, Lh]
     simp
   ·cases hv
  ·cases hv
 ·rename_i b hs hd
  split at hv
  ·rename_i e he
   split at hv
   ·rename_i he8
    split at hv
    ·rename_i hsmall
     cases hv
     obtain rfl := (show x' = _ from r)
     obtain ⟨hu, inf, hinf, hsz, _⟩ := EF he
     let cap := (Question.appendCap b.size 0 e).cut (w.tape w.drawn (.appendCap b.size 0 e))
     have hcap : b.size ≤ cap := by simp only [cap, Question.cut]; omega
     let cells : Array Value := (b.data.map fun x => Value.int .u8 x.toNat) ++ Array.replicate (cap - b.size) (.int .u8 0)
     have hcs : cells.size = cap := by simp only [cells, Array.size_append, Array.size_map, Array.size_replicate]; have : b.data.size = b.size := rfl; omega
     have hp := s0.push (w' := (w.drew.alloc (.cells cells e)).freeze ⟨w.heap.size, cells.size, none⟩ 1) (k := ⟨true, 1, b.data.toList.map fun x => .int .u8 x.toNat⟩) (cs' := cells) (ty := e) (fr := (cells.size, cells.size + 1)) rfl
      (by rw [hcs]; simpa using hcap) (fun j x hx => by
       have hlt := (List.getElem?_eq_some_iff.1 hx).1
       simp at hlt
       refine ⟨x, ?_, ?_⟩
       ·simp only [cells]
        rw [Array.getElem?_append_left (by simpa using hlt)]
        simpa using hx
       ·simp at hx; obtain ⟨y, _, rfl⟩ := hx; rfl) (fun o ho => by simp; omega)
      (by
       simp only [World.freeze, World.alloc, World.drew]
       rw [if_neg (by decide)]
       apply Array.ext_getElem?
       intro i
       simp only [Array.getElem?_modify, Array.getElem?_push]
       by_cases hi : i = w.heap.size
       ·subst hi; simp
       ·simp [hi, Ne.symm hi])
     refine ⟨_, _, _, ?_, s0.le_new _ _, hp, RS.toR ⟨w.heap.size, cap, 0, by simp [Ren.new], rfl, hcap, fun _ => rfl, fun N z hz => by simp [Ren.new] at hz; obtain ⟨rfl, rfl⟩ := hz; omega, rfl⟩⟩
     have hsh : (w.drew.alloc (.cells cells e)).shape? w.heap.size = some (e, cells.size) := by
      unfold World.shape?; rw [show (w.drew.alloc (.cells cells e)).heap[w.heap.size]? = some (.cells cells e (0, 0)) from by show (w.heap.push _)[w.heap.size]? = _; simp]
     have r1 : (choose (.appendCap b.size 0 e)).run P w = .ok cap w.drew := rfl
     have r2 : (newRow e cells).run P w.drew = .ok ⟨w.heap.size, 0, none⟩ (w.drew.alloc (.cells cells e)) := rfl
     have r3 : (markStringish ⟨w.heap.size, 0, none⟩).run P (w.drew.alloc (.cells cells e)) = .ok () ((w.drew.alloc (.cells cells e)).freeze ⟨w.heap.size, cells.size, none⟩ 1) := by
      unfold markStringish
      rw [Sem.run_bind, show (shape w.heap.size).run P (w.drew.alloc (.cells cells e)) = .ok (some (e, cells.size)) (w.drew.alloc (.cells cells e)) from by rw [← hsh]; rfl, Result.andThen_ok]
      rfl
     simp only [convert, run_underlying (Ho hs), run_underlying hu, run_underlying (Kt he8), Sem.run_bind, Result.andThen_ok, Conv.stringToBytes, r1]
     show ((newRow e cells).run P w.drew).andThen _ = _
     rw [r2, Result.andThen_ok, r3, Result.andThen_ok]
     rfl
    ·cases hv
   ·cases hv
  ·cases hv
 ·cases hv
end Go.Ai
namespace Go.Ai
variable {P : Program} {W0 : World} {ι : Ren} {h : Heap} {w w' : World}
theorem Iw (t u ty e e' : TypeId) (i : TypeInfo) (ht : P.underlying t = some (.slice e)) (hu : P.underlying u = some (.slice e')) (hi : P.info? e = some i)
  (b : Addr) (sLen sCap m c : Nat) (a' : Option Addr) (news : List Value) (hf : (Builtin.firstCells i.size m (.slice a' m c)).run P w = .ok news.toArray w) (hroom : sLen + m ≤ sCap)
  (hst : (storeCells (b.add (sLen * i.size)) news).run P w = .ok () w') :
  (Builtin.append_ #[t, u] ty #[.slice (some b) sLen sCap, .slice a' m c]).run P w = .ok (.slice (some b) (sLen + m) sCap) w' := by
 simp [Builtin.append_, run_underlying ht, run_underlying hu, sizeOf, typeInfo, hi, Builtin.lenOf, hroom, hf, hst]
theorem PJ (t u ty e e' : TypeId) (i : TypeInfo) (ht : P.underlying t = some (.slice e)) (hu : P.underlying u = some (.slice e')) (hi : P.info? e = some i)
  (c : Nat) (a' : Option Addr) (hf : (Builtin.firstCells i.size 0 (.slice a' 0 c)).run P w = .ok #[] w) :
  (Builtin.append_ #[t, u] ty #[.slice none 0 0, .slice a' 0 c]).run P w = .ok (.slice none 0 0) w := by
 simp [Builtin.append_, run_underlying ht, run_underlying hu, sizeOf, typeInfo, hi, Builtin.lenOf, hf]
theorem O0 (t u ty e e' : TypeId) (i : TypeInfo) (z : Value) (ht : P.underlying t = some (.slice e)) (hu : P.underlying u = some (.slice e')) (hi : P.info? e = some i) (hz : i.zero = some z)
  (b : Option Addr) (sLen sCap n c : Nat) (a' : Option Addr) (olds news : List Value)
  (hfo : (Builtin.firstCells i.size sLen (.slice b sLen sCap)).run P w.drew = .ok olds.toArray w.drew) (hf : (Builtin.firstCells i.size n (.slice a' n c)).run P w.drew = .ok news.toArray w.drew)
  (hg : sCap < sLen + n) (h63 : ((sLen + n : Nat) : Int) ≤ 9223372036854775807) (hfit : Builtin.nextslicecap (sLen + n) sCap * i.bytes ≤ 281474976710656) :
  (Builtin.append_ #[t, u] ty #[.slice b sLen sCap, .slice a' n c]).run P w =
   .ok (.slice (some ⟨w.heap.size, 0, none⟩) (sLen + n) (grownCap w (sLen + n) sCap e))
    (w.drew.alloc (.cells (olds.toArray ++ news.toArray ++ Builtin.zeroCells z.cells (grownCap w (sLen + n) sCap e - (sLen + n))) e)) := by
 have hn : ¬ (sLen + n ≤ sCap) := by omega
 have h63' : ¬ (9223372036854775807 < ((sLen : Int) + (n : Int))) := by omega
 have h48' : ¬ (281474976710656 < Builtin.nextslicecap (sLen + n) sCap * i.bytes) := by omega
 simp [Builtin.append_, run_underlying ht, run_underlying hu, sizeOf, typeInfo, zeroValue, hi, hz, Builtin.lenOf, hn, h63', h48', Question.forced, hf, hfo, newRow, grownCap]
 congr 2
 apply Array.ext'
 simp [List.append_assoc]
theorem KM {w : World} {sz n cap : Nat} {a' : Option Addr} {l' : List Value} (hl : l'.length = n * sz)
  (hc : (a' = none ∧ n = 0 ∧ l' = []) ∨ ∃ ad, a' = some ad ∧ ∀ (j : Nat) (v : Value), l'[j]? = some v → w.cell? (ad.add j) = some v) :
  (Builtin.firstCells sz n (.slice a' n cap)).run P w = .ok l'.toArray w := by
 rcases hc with ⟨rfl, rfl, rfl⟩ | ⟨ad, rfl, hcells⟩
 ·simp [Builtin.firstCells]
 ·exact run_firstCells_some w sz n ad n cap l' hl hcells
theorem OG (s : CU P W0 ι h w) {t u ty : TypeId} {x x' y y' v : Value} {h' : Heap} (hv : EX P h t x y = some (v, h')) (hu : cls? P u = some .sl)
    (rx : R ι x x') (ry : R ι y y') :
    ∃ ι' w' v', (Builtin.append_ #[t, u] ty #[x', y']).run P w = .ok v' w' ∧ ι.le ι' ∧ CU P W0 ι' h' w' ∧ R ι' v v' := by
  unfold EX at hv
  split at hv
  · rename_i a n _ e sz by_ he
    obtain ⟨ht, inf, hinf, hsz, hby⟩ := EF he
    obtain ⟨eu, hu'⟩ := Io hu
    split at hv
    · rename_i m news z hsrc hz
      obtain ⟨inf2, zv, hinf2, hzv, hzc, hzp⟩ := Hs hz
      rw [hinf] at hinf2; cases hinf2
      obtain ⟨a', cap', l', rfl, hl1, hl2, ha, hcase⟩ := NR s hsrc ry
      have hf : (Builtin.firstCells inf.size m (.slice a' m cap')).run P w = .ok l'.toArray w := by rw [hsz]; exact KM hl1 hcase
      have hfd : (Builtin.firstCells inf.size m (.slice a' m cap')).run P w.drew = .ok l'.toArray w.drew := by rw [hsz]; exact KM hl1 (by simpa using hcase)
      split at hv
      · rename_i hlim
        obtain ⟨hzl, hlim, hones⟩ := hlim
        have hlim2 : (n + m) * inf.bytes ≤ 140737488355328 := by
          rw [hby]
          have h1 : (n + m) * by_ ≤ (n + m) * (by_ + 1) := Nat.mul_le_mul_left _ (Nat.le_succ _)
          have h2 : most ≤ 140737488355328 := by decide
          omega
        have hlim3 : n + m ≤ 1099511627776 := by
          have h1 : (n + m) * 1 ≤ (n + m) * (by_ + 1) := Nat.mul_le_mul_left _ (by omega)
          have h2 : most = 1099511627776 := rfl
          omega
        split at hv
        · rename_i hm0
          subst hm0
          cases hv
          have hnil : l' = [] := by apply List.eq_nil_of_length_eq_zero; omega
          subst hnil
          cases a with
          | none =>
            obtain ⟨rfl, _, rfl⟩ := rx
            exact ⟨ι, w, _, PJ t u ty e eu inf ht hu' hinf cap' a' hf, Ren.le_refl _, s, ⟨rfl, rfl, rfl⟩⟩
          | some a =>
            obtain ⟨c, cap, off, hc, hs, hl, ho, hN, rfl⟩ := rx
            refine ⟨ι, w, _, Iw t u ty e eu inf ht hu' hinf _ n cap 0 cap' a' [] hf (by omega) (by simp [storeCells]), Ren.le_refl _, s, RS.toR ⟨c, cap, off, hc, hs, by omega, ho, hN, rfl⟩⟩
        · rename_i hm0
          -- what a new row comes to
          have grown : ∀ (b : Option Addr) (sCap : Nat) (olds olds' : List Value) (h1 : Heap), CU P W0 ι h1 w → h1.n = h.n → BJ (RS ι) olds olds' → olds'.length = n * inf.size →
              (Builtin.firstCells inf.size n (.slice b n sCap)).run P w.drew = .ok olds'.toArray w.drew → sCap < n + m →
              ∃ ι' w' v', (Builtin.append_ #[t, u] ty #[.slice b n sCap, .slice a' m cap']).run P w = .ok v' w' ∧ ι.le ι' ∧ CU P W0 ι' (h1.push ⟨true, sz + 1, olds ++ news⟩) w' ∧ R ι' (.slice (some ⟨h.n, 0, none⟩) (n + m) (n + m)) v' := by
            intro b sCap olds olds' h1 s1 hn1 hao holen hfo hlt
            have hge := grownCap_ge w (n + m) sCap e
            have hrun := O0 (P := P) t u ty e eu inf zv ht hu' hinf hzv b n sCap m cap' a' olds' l' hfo hfd hlt (by omega) (growslice_fits hlt hlim2)
            have s1d : CU P W0 ι h1 w.drew := s1.heap_eq rfl
            obtain ⟨ι', g1, g2, g3, g4⟩ := s1d.newRow (hao.append ha) (Builtin.zeroCells zv.cells (grownCap w (n + m) sCap e - (n + m))).toList (sz + 1) e
            refine ⟨ι', _, _, hrun, g1, ?_, RS.toR ⟨w.heap.size, _, 0, by rw [← hn1]; exact g3, rfl, hge, fun _ => rfl, fun N z' hz' => ?_, rfl⟩⟩
            · have : (olds' ++ l' ++ (Builtin.zeroCells zv.cells (grownCap w (n + m) sCap e - (n + m))).toList).toArray = olds'.toArray ++ l'.toArray ++ Builtin.zeroCells zv.cells (grownCap w (n + m) sCap e - (n + m)) := by
                apply Array.ext'; simp
              rw [← this]; exact g2
            · rw [show w.drew.heap.size = w.heap.size from rfl] at g4
              rw [g4] at hz'; cases hz'
              have hz2 : zv.cells.size = sz + 1 := by rw [hzc]; simpa using hzl
              simp only [List.length_append, Array.length_toList, size_zeroCells, hz2, holen, hl1, hsz, ← Nat.add_mul]
              rw [Nat.zero_add]
              exact Nat.mul_le_mul_right _ (by omega)
          split at hv
          · cases hv
            obtain ⟨rfl, _, rfl⟩ := rx
            obtain ⟨ι', w', v', g1, g2, g3, g4⟩ := grown none 0 [] [] h s rfl .nil (by simp) (by simp [Builtin.firstCells]) (by omega)
            exact ⟨ι', w', v', g1, g2, by simpa using g3, by simpa using g4⟩
          · rename_i a
            split at hv
            · rename_i k hk
              split at hv
              · rename_i hkk
                obtain ⟨hkw, hksz, hoff⟩ := hkk
                cases hr : rd k.cs 0 (n * (sz + 1)) with
                | none => rw [hr] at hv; cases hv
                | some olds =>
                  rw [hr] at hv; simp at hv; obtain ⟨rfl, rfl⟩ := hv
                  obtain ⟨c, cap, off, hc, hs, hl, ho, hN, rfl⟩ := rx
                  have := ho (.inr hoff); rw [hoff] at this; subst this
                  obtain ⟨olds', ho1, ho2, ho3, ho4⟩ := s.stretch hk hc hr
                  obtain ⟨cs', ty0, fr, c1, c2, c3, c4⟩ := s.cell _ _ _ hk hc
                  obtain ⟨c5, c6⟩ := c4 hkw
                  by_cases hroom : n + m ≤ cap
                  · -- in its place
                    have hfit : n * (sz + 1) + l'.length ≤ cs'.size := by
                      have h1 := hN _ _ c5
                      rw [hksz] at h1
                      rw [hl1, ← Nat.add_mul]
                      have h2 : (n + m) * (sz + 1) ≤ cap * (sz + 1) := Nat.mul_le_mul_right _ hroom
                      omega
                    have hst := run_storeCells_cells (P := P) c (n * (sz + 1)) l' 0 w
                      (by intro j hj; have hlt : n * (sz + 1) + j < cs'.size := by omega
                          simp [World.cell?, c1, hlt])
                      (by intro j hj; have hlt : n * (sz + 1) + j < cs'.size := by omega
                          simpa [World.frozen?, c1] using fun hx => Nat.le_of_not_lt fun hy => c6 _ hlt ⟨hx, hy⟩) (ha.ones hones)
                    rw [Nat.add_zero] at hst
                    have hst' : (storeCells ((⟨c, 0, none⟩ : Addr).add (n * inf.size)) l').run P w = .ok () (w.setCells c (n * (sz + 1)) l') := by
                      rw [Hp, Nat.zero_add, hsz]; simpa using hst
                    have hat := HQ (c := c) (ty := ty0) (fr := fr) l' (n * (sz + 1)) w cs' c1 hfit
                    have hsize : (cs'.toList.take (n * (sz + 1)) ++ l' ++ cs'.toList.drop (n * (sz + 1) + l'.length)).toArray.size = cs'.size := by simp; omega
                    have hl3 := ha.length
                    have s2 := s.move (cs := olds ++ news) hk hkw hc (by rw [hsize]; exact c5) (by simp; omega) (by
                      intro j x hx
                      have e2 : min (n * (sz + 1)) cs'.size = n * (sz + 1) := by omega
                      simp only [List.getElem?_toArray, List.getElem?_append, List.length_append, List.length_take, List.getElem?_take, List.getElem?_drop, Array.length_toList, e2, ho2] at hx ⊢
                      by_cases hj : j < n * (sz + 1)
                      · simp only [if_pos hj, if_pos (show j < n * (sz + 1) + l'.length by omega)] at hx ⊢
                        obtain ⟨y, hy, r⟩ := ho3.get hx
                        have := ho4 j y hy
                        simp [World.cell?, c1] at this
                        exact ⟨y, by simpa using this, r⟩
                      · simp only [if_neg hj] at hx ⊢
                        obtain ⟨y, hy, r⟩ := ha.get hx
                        have := (List.getElem?_eq_some_iff.1 hy).1
                        simp only [if_pos (show j < n * (sz + 1) + l'.length by omega)]
                        exact ⟨y, hy, r⟩) (by rw [hsize]; exact c6) hat (fun x hx => G8 hx _ _ _) (FW _ _ _) (Gd _ _ _)
                    rw [hksz] at s2
                    refine ⟨_, _, _, Iw t u ty e eu inf ht hu' hinf ⟨c, 0, none⟩ n cap m cap' a' l' hf hroom hst', s.le_also c, s2, RS.toR ⟨c, cap, 0, by simp [Ren.also], rfl, hroom, fun _ => rfl, hN, rfl⟩⟩
                  · obtain ⟨ι', w', v', g1, g2, g3, g4⟩ := grown (some ⟨c, 0, none⟩) cap olds olds' (h.kill a.block) (s.kill _) rfl ho3 (by rw [hsz]; exact ho1)
                      (by rw [hsz]; exact run_firstCells_some w.drew (sz + 1) n ⟨c, 0, none⟩ n cap olds' ho1 fun j v hv => by rw [Hp]; exact ho4 j v hv) (by omega)
                    exact ⟨ι', w', v', g1, g2, g3, g4⟩
              · cases hv
            · cases hv
      · cases hv
    · cases hv
  · cases hv
theorem Ky {z : List Value} {n : Nat} : (repL n z).length = n * z.length ∧ ∀ i, i < n * z.length → (repL n z)[i]? = z[i % z.length]? := by
 unfold repL
 induction n with
 | zero => exact ⟨by simp, fun i hi => by omega⟩
 | succ n ih =>
  rw [List.replicate_succ, List.flatten_cons]
  have hlen : (z ++ (List.replicate n z).flatten).length = (n + 1) * z.length := by rw [List.length_append, ih.1, Nat.succ_mul, Nat.add_comm]
  refine ⟨hlen, fun i hi => ?_⟩
  by_cases h : i < z.length
  ·rw [List.getElem?_append_left h, Nat.mod_eq_of_lt h]
  ·have hi' : i - z.length < n * z.length := by rw [Nat.add_mul, Nat.one_mul] at hi; omega
   rw [List.getElem?_append_right (by omega), ih.2 _ hi', ← Nat.mod_eq_sub_mod (by omega)]
theorem Nf {z : List Value} {n : Nat} (hz : 0 < z.length) : (Array.range (n * z.length)).map (z.toArray[· % z.toArray.size]!) = (repL n z).toArray := by
 apply Array.ext_getElem?
 intro i
 obtain ⟨h1, h2⟩ := Ky (z := z) (n := n)
 simp only [List.getElem?_toArray]
 by_cases hi : i < n * z.length
 ·rw [h2 i hi, Array.getElem?_map, Array.getElem?_range]
  simp only [hi, if_true, Option.map_some, List.size_toArray]
  have : i % z.length < z.length := Nat.mod_lt _ hz
  simp [this]
 ·rw [List.getElem?_eq_none (by omega), Array.getElem?_eq_none (by simp; omega)]
theorem Nq {z : List Value} (hz : z.all Bx = true) (n : Nat) : BJ (RS ι) (repL n z) (repL n z) := by
 unfold repL
 induction n with
 | zero => exact .nil
 | succ n ih => rw [List.replicate_succ, List.flatten_cons]; exact (Fp hz).append ih
theorem Kh (s : CU P W0 ι h w) {t : TypeId} {x x' y y' v : Value} {h' : Heap} (hv : E3 P h t x y = some (v, h')) (rx : R ι x x') (ry : R ι y y') :
  ∃ ι' w' v', (Instr.makeSlice t x' y').run P w = .ok v' w' ∧ ι.le ι' ∧ CU P W0 ι' h' w' ∧ R ι' v v' := by
 unfold E3 at hv
 split at hv
 ·rename_i l c e sz by_ he
  obtain rfl := (show x' = _ from rx); obtain rfl := (show y' = _ from ry)
  split at hv
  ·rename_i z hz
   split at hv
   ·rename_i hh
    obtain ⟨h1, h2, rfl, h3, h4⟩ := hh
    cases hv
    obtain ⟨ht, inf, hinf, hsz, hby⟩ := EF he
    obtain ⟨inf2, zv, hinf2, hzv, hzc, hzp⟩ := Hs hz
    rw [hinf] at hinf2; cases hinf2
    obtain ⟨n, rfl⟩ := Int.eq_ofNat_of_zero_le h3
    simp only [Int.toNat_natCast] at h4 ⊢
    have hm : most = 1099511627776 := rfl
    have hn : n * 1 ≤ n * (by_ + 1) := Nat.mul_le_mul_left _ (by omega)
    have hb : n * by_ ≤ n * (by_ + 1) := Nat.mul_le_mul_left _ (by omega)
    have hbi : (by_ : Int) * n = ((n * by_ : Nat) : Int) := by rw [Nat.mul_comm]; simp
    have hrun := run_make (P := P) w t e inf zv ht hinf hzv .i64 .i64 n n (by omega) (by omega) (by rw [hby, hbi]; omega) (by omega)
    have hmade : madeCells zv.cells (n * inf.size) = (repL n z).toArray := by
     rw [hzc, hsz, ← h1]; exact Nf (by omega)
    simp only [Int.toNat_natCast] at hrun
    rw [hmade] at hrun
    obtain ⟨ι', g1, g2, g3, g4⟩ := s.newRow (Nq (ι := ι) hzp n) [] sz e
    rw [List.append_nil] at g2 g4
    refine ⟨ι', _, _, hrun, g1, g2, RS.toR ⟨w.heap.size, n, 0, g3, rfl, by omega, fun _ => rfl, fun N z' hz' => ?_, rfl⟩⟩
    rw [g4] at hz'; cases hz'
    rw [(Ky (z := z) (n := n)).1, h1]; omega
   ·cases hv
  ·cases hv
 ·cases hv
theorem Pl {nt : Nat} {e : Env} {a : Act} (re : RE nt ι e a) {t : TypeId} {parts : Array (Nat × Operand)} (hok : ∀ p ∈ parts.toList, GL p.2 = true) {z l : List Value}
  (hz : zr? P t = some z) (hf : Aw (fun i => (fld? P t i).map fun p => (p.1, p.2.1)) e parts.toList z = some l) (w : World) (hst0 : bldOk P t = true) :
  ∃ l' : List Value, (Instr.build t (parts.map fun (i, x) => (i, a.eval x))).run P w = .ok (.agg l'.toArray) w ∧ BJ (RS ι) l l' := by
 obtain ⟨zv, hzr, hzc⟩ := WW hz w
 obtain ⟨_, _, _, _, _, hzp⟩ := Hs hz
 obtain ⟨fs, hu, hfs⟩ : ∃ fs, P.underlying t = some (.struct fs) ∧ ∀ f ∈ fs.toList, ∃ i, P.info? f.type = some i ∧ (agg? P f.type).isSome = true := by
  unfold bldOk at hst0
  split at hst0
  ·rename_i fs hu
   refine ⟨fs, hu, fun f hf => ?_⟩
   have := (List.all_eq_true.1 hst0) f hf
   rw [Bool.and_eq_true] at this
   obtain ⟨i, hi⟩ := Option.isSome_iff_exists.1 this.1
   exact ⟨i, hi, this.2⟩
  ·cases hst0
 -- the places of the fields
 let places : Array (Nat × Nat) := fs.map fun f => (f.offset, P.cellsOf f.type)
 have hp : (fs.mapM fun f => do pure (f.offset, ← sizeOf f.type) : Sem (Array (Nat × Nat))).run P w = .ok places w := by
  have key : ∀ (l : List Field), (∀ f ∈ l, ∃ i, P.info? f.type = some i ∧ (agg? P f.type).isSome = true) → (l.mapM (m := Sem) fun f => do pure (f.offset, ← sizeOf f.type)).run P w = .ok (l.map fun f => (f.offset, P.cellsOf f.type)) w := by
   intro l hl
   induction l with
   | nil => simp
   | cons f l ih =>
    obtain ⟨i, hi, _⟩ := hl f (by simp)
    have ih' := ih fun g hg => hl g (by simp [hg])
    rw [List.mapM_cons]
    simp [sizeOf, typeInfo, hi, Program.cellsOf] at ih' ⊢
    rw [ih']; simp []
  have hk := key fs.toList hfs
  rw [Array.mapM_eq_mapM_toList]
  simp only [Sem.run_map, hk, Result.andThen_ok]
  congr 1
  apply Array.ext'
  simp [places]
 have hpl : (fun i => (fld? P t i).map fun p => (p.1, p.2.1)) = (places[·]?) := by
  funext i
  simp only [places, Array.getElem?_map, fld?, hu]
  cases hfi : fs[i]? with
  | none => rfl
  | some f =>
   obtain ⟨inf, hinf, hag⟩ := hfs f (Array.mem_toList_iff.2 (Array.mem_of_getElem? hfi))
   obtain ⟨b, hb⟩ := Option.isSome_iff_exists.1 hag
   simp [sz?, hinf, hb, Program.cellsOf]
 rw [hpl] at hf
 obtain ⟨l', h1, h2⟩ := Ik re parts.toList hok z z l (Fp hzp) hf
 refine ⟨l', ?_, h2⟩
 have hmap : (parts.map fun (i, x) => (i, a.eval x)).toList = parts.toList.map fun p => (p.1, a.eval p.2) := by simp
 simp only [Instr.build, Sem.run_bind, hzr, Result.andThen_ok, run_underlying hu, hp, hzc, hmap, h1]
 rfl
end Go.Ai
namespace Go.Ai
variable {P : Program} {W0 : World} {ι : Ren} {h : Heap} {w w' : World}
theorem I8 {f : Int → Int → Int} {l l' : List Value} {v : Value} (hv : Bo f l = some v) (ha : BJ (R ι) l l') : l' = l ∧ R ι v v := by
 unfold Bo at hv
 split at hv
 ·split at hv
  ·cases hv
   match l', ha with
   | [_, _], .cons a (.cons b .nil) => exact ⟨by rw [show _ = Value.int _ _ from a, show _ = Value.int _ _ from b], rfl⟩
  ·cases hv
 ·split at hv
  ·cases hv
   match l', ha with
   | [_, _, _], .cons a (.cons b (.cons c .nil)) => exact ⟨by rw [show _ = Value.int _ _ from a, show _ = Value.int _ _ from b, show _ = Value.int _ _ from c], rfl⟩
  ·cases hv
 ·cases hv
theorem ZJ {l : List Value} {v : Value} (hv : Bo mxI l = some v) (ts : Array TypeId) (ty : TypeId) (w : World) : (Builtin.max_ ts ty l.toArray).run P w = .ok v w := by
 unfold Bo at hv
 split at hv
 ·split at hv
  ·cases hv; simp [Builtin.max_, Builtin.max2, mxI]
  ·cases hv
 ·split at hv
  ·cases hv; simp [Builtin.max_, Builtin.max2, mxI]
  ·cases hv
 ·cases hv
theorem bE {l : List Value} {v : Value} (hv : Bo mnI l = some v) (ts : Array TypeId) (ty : TypeId) (w : World) : (Builtin.min_ ts ty l.toArray).run P w = .ok v w := by
 unfold Bo at hv
 split at hv
 ·split at hv
  ·cases hv; simp [Builtin.min_, Builtin.min2, mnI]
  ·cases hv
 ·split at hv
  ·cases hv; simp [Builtin.min_, Builtin.min2, mnI]; rfl
  ·cases hv
 ·cases hv
def Yx (o : Op) : Bool := o.operands.toList.all GL
theorem Xp {nt : Nat} {e : Env} {a : Act} (re : RE nt ι e a) : ∀ {l : List Operand}, (∀ x ∈ l, GL x = true) → BJ (R ι) (l.map e.op) (l.map a.eval)
 | [], _ => .nil
 | x :: l, h => .cons (re.op (h x (by simp))) (Xp re fun y hy => h y (by simp [hy]))
def gl (r : Result Next) (v : Value) (w : World) : Prop := r = .ok (.value v) w ∨ (r = .ok .skip w ∧ v = undef)
theorem cU {o : Option Operand} {nt : Nat} {e : Env} {a : Act} (re : RE nt ι e a) (hok : ∀ x, o = some x → GL x = true) :
    (∀ k i, o.map e.op = some (.int k i) → o.map a.eval = some (.int k i)) ∧ (o.map e.op = none → o.map a.eval = none) :=
  ⟨fun k i h => Xo re hok h, fun h => by cases o <;> simp_all⟩
theorem M1 {nt : Nat} {e : Env} {a : Act} (s : CU P W0 ι h w) (re : RE nt ι e a) {b : Builtin} {xs : Array Operand} {ts : Array TypeId} {ty : TypeId} {v : Value} {h' : Heap} (hok : ∀ x ∈ xs.toList, GL x = true)
  (hv : BX P h b ts.toList (xs.toList.map e.op) = some (v, h')) (consts : Array Bool) :
  ∃ ι' w' v', (builtin b ts ty consts (xs.map a.eval)).run P w = .ok (.value v') w' ∧ ι.le ι' ∧ CU P W0 ι' h' w' ∧ R ι' v v' := by
 have ha := Xp re hok
 have hmap : xs.map a.eval = (xs.toList.map a.eval).toArray := by apply Array.ext'; simp
 rw [hmap]
 generalize xs.toList.map e.op = l at hv ha
 generalize xs.toList.map a.eval = l' at ha
 have hts : ts = ts.toList.toArray := by simp
 rw [hts]
 generalize ts.toList = tl at hv
 unfold BX at hv
 split at hv
 ·split at hv
  ·rename_i hc
   cases hv
   match l', ha with
   | [_], .cons r .nil =>
    obtain rfl := (show _ = Value.string _ from r)
    exact ⟨ι, w, _, by simp [builtin, Builtin.len_, run_underlying (Ho hc), goInt], Ren.le_refl _, s, rfl⟩
  ·cases hv
 ·split at hv
  ·rename_i hc
   cases hv
   obtain ⟨el, hu⟩ := Io hc
   rename_i q n _ _
   match l', ha with
   | [_], .cons r .nil =>
    cases q with
    | none => obtain ⟨rfl, _, rfl⟩ := r; exact ⟨ι, w, _, by simp [builtin, Builtin.len_, run_underlying hu, goInt], Ren.le_refl _, s, rfl⟩
    | some q => obtain ⟨_, _, _, _, _, _, _, _, rfl⟩ := r; exact ⟨ι, w, _, by simp [builtin, Builtin.len_, run_underlying hu, goInt], Ren.le_refl _, s, rfl⟩
  ·cases hv
 ·split at hv
  ·rename_i hc
   cases hv
   obtain ⟨el, hu⟩ := Io hc
   match l', ha with
   | [_], .cons r .nil =>
    obtain ⟨_, rfl⟩ := r; exact ⟨ι, w, _, by simp [builtin, Builtin.len_, run_underlying hu, goInt], Ren.le_refl _, s, rfl⟩
  ·cases hv
 ·split at hv
  ·rename_i hc
   cases hv
   obtain ⟨el, hu⟩ := Io hc
   match l', ha with
   | [_], .cons r .nil =>
    obtain ⟨_, _, rfl⟩ := r; exact ⟨ι, w, _, by simp [builtin, Builtin.cap_, run_underlying hu, goInt], Ren.le_refl _, s, rfl⟩
  ·cases hv
 ·rename_i t u x y
  split at hv
  ·rename_i hc
   have hc' : cls? P u = some .sl := hc
   match l', ha with
   | [_, _], .cons rx (.cons ry .nil) =>
    obtain ⟨ι', w', v', g1, g2, g3, g4⟩ := OG (ty := ty) s hv hc' rx ry
    exact ⟨ι', w', v', by simp [builtin, g1], g2, g3, g4⟩
  ·cases hv
 ·cases hm : Bo mxI l with
  | none => rw [hm] at hv; cases hv
  | some u =>
   rw [hm] at hv; cases hv
   obtain ⟨rfl, hr⟩ := I8 hm ha
   exact ⟨ι, w, _, by simp [builtin, ZJ hm], Ren.le_refl _, s, hr⟩
 ·cases hm : Bo mnI l with
  | none => rw [hm] at hv; cases hv
  | some u =>
   rw [hm] at hv; cases hv
   obtain ⟨rfl, hr⟩ := I8 hm ha
   exact ⟨ι, w, _, by simp [builtin, bE hm], Ren.le_refl _, s, hr⟩
 ·cases hv
theorem Ni {nt : Nat} {e : Env} {a : Act} {o : Oper} (s : CU P W0 ι h w) (re : RE nt ι e a) (hok : Yx o.op = true) {v : Value} {h' : Heap} (hv : C4 P e h o.op = some (v, h')) :
    ∃ ι' w' v', gl ((execOp a.eval o).run P w) v' w' ∧ ι.le ι' ∧ CU P W0 ι' h' w' ∧ R ι' v v' := by
  obtain ⟨dst, op, ty, pos, after, guard⟩ := o
  have hops : ∀ x ∈ op.operands.toList, GL x = true := List.all_eq_true.1 hok
  simp only at hv
  unfold C4 at hv
  split at hv
  · rename_i x
    cases hv
    exact ⟨ι, w, _, .inl (by simp [execOp]), Ren.le_refl _, s, re.op (hops x (by simp [Op.operands]))⟩
  · rename_i x
    cases hv
    exact ⟨ι, w, _, .inl (by simp [execOp]), Ren.le_refl _, s, re.op (hops x (by simp [Op.operands]))⟩
  · rename_i c x y
    have rc := re.op (hops c (by simp [Op.operands]))
    split at hv
    · rename_i hc
      cases hv
      rw [hc] at rc; have rc : a.eval c = .bool true := rc
      exact ⟨ι, w, _, .inl (by simp [execOp, rc, asBool]), Ren.le_refl _, s, re.op (hops x (by simp [Op.operands]))⟩
    · rename_i hc
      cases hv
      rw [hc] at rc; have rc : a.eval c = .bool false := rc
      exact ⟨ι, w, _, .inl (by simp [execOp, rc, asBool]), Ren.le_refl _, s, re.op (hops y (by simp [Op.operands]))⟩
    · cases hv
  · rename_i t
    split at hv
    · rename_i z n hz hn
      cases hv
      obtain ⟨zv, hzr, hzc⟩ := WW hz w
      obtain ⟨_, _, _, _, _, hzp⟩ := Hs hz
      obtain ⟨ι', g1, g2, g3⟩ := NW s (Fp hzp) n t
      refine ⟨ι', _, _, .inl ?_, g1, g2, g3⟩
      simp [execOp, Instr.alloc, hzr, newVar, newRow, hzc]
    · cases hv
  · rename_i t x
    split at hv
    · rename_i cs n hcs hn
      cases hv
      obtain ⟨cs', hc, ha⟩ := Lo hcs (re.op (hops x (by simp [Op.operands])))
      obtain ⟨ι', g1, g2, g3⟩ := NW s ha n t
      refine ⟨ι', _, _, .inl ?_, g1, g2, g3⟩
      simp [execOp, Instr.box, newVar, newRow, hc]
    · cases hv
  · rename_i t parts
    split at hv
    · rename_i z hz
      split at hv
      · rename_i hbl
        cases hf : Aw (fun i => (fld? P t i).map fun p => (p.1, p.2.1)) e parts.toList z with
        | none => rw [hf] at hv; cases hv
        | some l =>
          rw [hf] at hv; simp at hv; obtain ⟨rfl, rfl⟩ := hv
          obtain ⟨l', h1, h2⟩ := Pl re (fun p hp => hops p.2 (by simp [Op.operands]; exact ⟨p.1, by simpa using hp⟩)) hz hf w hbl
          exact ⟨ι, w, _, .inl (by simp only [execOp, Sem.run_bind, h1]; rfl), Ren.le_refl _, s, ⟨_, rfl, by simpa using h2⟩⟩
      · cases hv
    · cases hv
  · rename_i t n parts
    split at hv
    · rename_i u sz by_ he
      obtain ⟨hu, inf, hinf, hsz, hby⟩ := EF he
      split at hv
      · rename_i z hz
        split at hv
        · rename_i hn
          cases hf : Aw (fun i => some (i * sz, sz)) e parts.toList (repL n z) with
          | none => rw [hf] at hv; cases hv
          | some l =>
            rw [hf] at hv; simp at hv; obtain ⟨rfl, rfl⟩ := hv
            obtain ⟨inf2, zv, hinf2, hzv, hzc, hzp⟩ := Hs hz
            rw [hinf] at hinf2; cases hinf2
            obtain ⟨l', h1, h2⟩ := Ik re parts.toList (fun p hp => hops p.2 (by simp [Op.operands]; exact ⟨p.1, by simpa using hp⟩)) _ _ l (Nq hzp n) hf
            obtain ⟨ι', g1, g2, g3, g4⟩ := s.newRow h2 [] sz u
            rw [List.append_nil] at g2 g4
            have hl2 := h2.length
            have hrl : l.length = n * sz := by
              have key : ∀ (ps : List (Nat × Operand)) (cs r : List Value), Aw (fun i => some (i * sz, sz)) e ps cs = some r → r.length = cs.length := by
                intro ps
                induction ps with
                | nil => intro cs r hr; simp [Aw] at hr; rw [hr]
                | cons p ps ih =>
                  intro cs r hr
                  obtain ⟨i, x⟩ := p
                  simp only [Aw] at hr
                  split at hr
                  · split at hr
                    · split at hr
                      · rename_i hw; have := ih _ _ hr; obtain ⟨hle, rfl⟩ := MN hw; rw [this]; simp; omega
                      · cases hr
                    · cases hr
                  · cases hr
              rw [key _ _ _ hf, (Ky (z := z) (n := n)).1, hn.2.1]
            refine ⟨ι', _, _, .inl ?_, g1, g2, RS.toR ⟨w.heap.size, n, 0, g3, rfl, Nat.le_refl _, fun _ => rfl, fun N z' hz' => ?_, rfl⟩⟩
            · have hmap : (parts.map fun (i, x) => (i, a.eval x)).toList = parts.toList.map fun p => (p.1, a.eval p.2) := by simp
              have h24 : ¬ (n * inf.size > 2 ^ 24) := by
                have : n * inf.size ≤ 64 * 64 := Nat.mul_le_mul hn.1 (by rw [hsz]; exact hn.2.2)
                omega
              by_cases h0 : n * inf.size = 0
              · have hz0 : repL n z = [] := List.eq_nil_of_length_eq_zero (by rw [(Ky (z := z) (n := n)).1, hn.2.1, ← hsz]; exact h0)
                rw [hz0] at h1
                have h0' : ¬ (2 ^ 24 < n * inf.size) := h24
                simp only [execOp, Instr.buildSlice, run_underlying hu, Sem.run_bind, Result.andThen_ok, sizeOf, typeInfo, run_program, hinf, Sem.run_pure, if_neg h24, if_pos h0, hmap]
                rw [h0]
                rw [show ((Array.range 0).map ((#[] : Array Value)[· % (#[] : Array Value).size]!)) = ([] : List Value).toArray from by simp]
                rw [hsz, h1]; rfl
              · have hmade : (Array.range (n * inf.size)).map (zv.cells[· % zv.cells.size]!) = (repL n z).toArray := by
                  rw [hzc, hsz, ← hn.2.1]; exact Nf (by rw [hn.2.1, ← hsz]; exact Nat.pos_of_ne_zero fun h => h0 (by rw [h]; simp))
                simp only [execOp, Instr.buildSlice, run_underlying hu, Sem.run_bind, Result.andThen_ok, sizeOf, zeroValue, typeInfo, run_program, hinf, hzv, Sem.run_pure, if_neg h24, if_neg h0, hmap, hmade]
                rw [hsz, h1]; rfl
            · rw [g4] at hz'; cases hz'
              rw [← hl2, hrl]; omega
        · cases hv
      · cases hv
    · cases hv
  · rename_i t x
    cases hl : Gn P h t (e.op x) with
    | none => rw [hl] at hv; cases hv
    | some u =>
      rw [hl] at hv; cases hv
      obtain ⟨v', h1, h2⟩ := LK s hl (re.op (hops x (by simp [Op.operands])))
      exact ⟨ι, w, v', .inl (by simp [execOp, h1]), Ren.le_refl _, s, h2⟩
  · rename_i t x y
    cases hl : KJ P h t (e.op x) (e.op y) with
    | none => rw [hl] at hv; cases hv
    | some u =>
      rw [hl] at hv; cases hv
      obtain ⟨w', h1, h2⟩ := QF s hl (re.op (hops x (by simp [Op.operands]))) (re.op (hops y (by simp [Op.operands])))
      exact ⟨ι, w', undef, .inr ⟨by simp [execOp, h1], rfl⟩, Ren.le_refl _, h2, ⟨#[], rfl, .nil⟩⟩
  · rename_i x
    split at hv
    · rename_i hp
      cases hv
      have r := re.op (hops x (by simp [Op.operands]))
      have : ∃ q, e.op x = .pointer (some q) := by unfold ptrV at hp; split at hp <;> simp_all
      obtain ⟨q, hq⟩ := this
      rw [hq] at r ⊢
      obtain ⟨c, hc, hs, hv⟩ := r
      refine ⟨ι, w, a.eval x, .inl ?_, Ren.le_refl _, s, RS.toR ⟨c, hc, hs, hv⟩⟩
      simp [execOp, hv]
    · cases hv
  · rename_i op t x y yt
    cases hl : binV P op t (e.op x) (e.op y) with
    | none => rw [hl] at hv; cases hv
    | some u =>
      rw [hl] at hv; cases hv
      obtain ⟨h1, h2⟩ := S3 (ox := x) (oy := y) hl (re.op (hops x (by simp [Op.operands]))) (re.op (hops y (by simp [Op.operands]))) w
      exact ⟨ι, w, _, .inl (by simp only [execOp, Sem.run_bind (x := (do eqGuard op t x y (a.eval x) (a.eval y); binOp op t (a.eval x) (a.eval y) : Sem Value)), h1]; rfl), Ren.le_refl _, s, h2⟩
  · rename_i op t x
    cases hl : unV op (e.op x) with
    | none => rw [hl] at hv; cases hv
    | some u =>
      rw [hl] at hv; cases hv
      obtain ⟨h1, h2⟩ := WD (P := P) hl (re.op (hops x (by simp [Op.operands]))) w
      exact ⟨ι, w, _, .inl (by simp [execOp, h1]), Ren.le_refl _, s, h2⟩
  · rename_i st dt x
    obtain ⟨ι', w', v', g1, g2, g3, g4⟩ := Q8 s hv (re.op (hops x (by simp [Op.operands])))
    exact ⟨ι', w', v', .inl (by simp [execOp, g1]), g2, g3, g4⟩
  · rename_i f first caps
    split at hv
    · rename_i hh
      cases hv
      have hf : first = #[] := by simpa using hh.1
      subst hf
      refine ⟨ι, w, .func (.func f) #[] (caps.map a.eval), .inl (by simp [execOp, Instr.makeFunc]), Ren.le_refl _, s, RS.toR ⟨rfl, _, rfl, ?_⟩⟩
      simp only [Array.toList_map]
      have hc : ∀ x ∈ caps.toList, GL x = true := fun x hx => hops x (by simp [Op.operands]; simpa using hx)
      have h2 := List.all_eq_true.1 hh.2
      generalize caps.toList = l at hc h2
      induction l with
      | nil => exact .nil
      | cons x l ih =>
        refine .cons ?_ (ih (fun y hy => hc y (by simp [hy])) (fun y hy => h2 y (by simp [hy])))
        have r := re.op (hc x (by simp))
        have hp := h2 x (by simp)
        have : ∃ q, e.op x = .pointer (some q) := by unfold ptrV at hp; split at hp <;> simp_all
        obtain ⟨q, hq⟩ := this
        rw [hq] at r
        obtain ⟨c, hc, hs, hv⟩ := r
        exact ⟨q, c, hq, hc, hs, hv⟩
    · cases hv
  · rename_i t l c
    obtain ⟨ι', w', v', g1, g2, g3, g4⟩ := Kh s hv (re.op (hops l (by simp [Op.operands]))) (re.op (hops c (by simp [Op.operands])))
    exact ⟨ι', w', v', .inl (by simp [execOp, g1]), g2, g3, g4⟩
  · rename_i t x lo hi mx
    cases hl : Ej P h t (e.op x) (lo.map e.op) (hi.map e.op) (mx.map e.op) with
    | none => rw [hl] at hv; cases hv
    | some u =>
      rw [hl] at hv; cases hv
      have h1 := cU re (o := lo) fun y hy => hops y (by simp [Op.operands, hy])
      have h2 := cU re (o := hi) fun y hy => hops y (by simp [Op.operands, hy])
      have h3 := cU re (o := mx) fun y hy => hops y (by simp [Op.operands, hy])
      obtain ⟨v', g1, g2⟩ := Pr s hl (re.op (hops x (by simp [Op.operands]))) h1.1 h1.2 h2.1 h2.2 h3.1 h3.2
      exact ⟨ι, w, v', .inl (by simp [execOp, g1]), Ren.le_refl _, s, g2⟩
  · rename_i st x f
    cases hl : fieldAddrV P st (e.op x) f with
    | none => rw [hl] at hv; cases hv
    | some u =>
      rw [hl] at hv; cases hv
      obtain ⟨v', g1, g2⟩ := Kg hl (re.op (hops x (by simp [Op.operands]))) w
      exact ⟨ι, w, v', .inl (by simp [execOp, g1]), Ren.le_refl _, s, g2⟩
  · rename_i st x f
    cases hl : L9 P st (e.op x) f with
    | none => rw [hl] at hv; cases hv
    | some u =>
      rw [hl] at hv; cases hv
      obtain ⟨v', g1, g2⟩ := QU hl (re.op (hops x (by simp [Op.operands]))) w
      exact ⟨ι, w, v', .inl (by simp [execOp, g1]), Ren.le_refl _, s, g2⟩
  · rename_i t x ix
    cases hl : indexAddrV P t (e.op x) (e.op ix) with
    | none => rw [hl] at hv; cases hv
    | some u =>
      rw [hl] at hv; cases hv
      obtain ⟨v', g1, g2⟩ := Kq hl (re.op (hops x (by simp [Op.operands]))) (re.op (hops ix (by simp [Op.operands]))) w
      exact ⟨ι, w, v', .inl (by simp [execOp, g1]), Ren.le_refl _, s, g2⟩
  · rename_i t x ix
    cases hl : Mn P t (e.op x) (e.op ix) with
    | none => rw [hl] at hv; cases hv
    | some u =>
      rw [hl] at hv; cases hv
      obtain ⟨v', g1, g2⟩ := Qw hl (re.op (hops x (by simp [Op.operands]))) (re.op (hops ix (by simp [Op.operands]))) w
      exact ⟨ι, w, v', .inl (by simp [execOp, g1]), Ren.le_refl _, s, g2⟩
  · rename_i x i
    cases hl : HN (e.op x) i with
    | none => rw [hl] at hv; cases hv
    | some u =>
      rw [hl] at hv; cases hv
      obtain ⟨v', g1, g2⟩ := M8 (P := P) hl (re.op (hops x (by simp [Op.operands]))) w
      exact ⟨ι, w, v', .inl (by simp [execOp, g1]), Ren.le_refl _, s, g2⟩
  · rename_i b xs ts
    obtain ⟨ι', w', v', g1, g2, g3, g4⟩ := M1 s re (ty := ty) (fun x hx => hops x (by simp [Op.operands, Call.operands]; simpa using hx)) hv (xs.map fun | .const _ => true | _ => false)
    refine ⟨ι', w', v', .inl ?_, g2, g3, g4⟩
    simp only [execOp, resolve, Sem.run_bind, Sem.run_pure, Result.andThen_ok, invoke]
    exact g1
  · cases hv
end Go.Ai
end
