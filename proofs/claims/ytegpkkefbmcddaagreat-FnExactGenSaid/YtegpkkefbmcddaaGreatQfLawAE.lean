/- Own lemmas that the theorem of this claim needs: the abstract machine and walks of functions. -/
import Derived.Test.YtegpkkefbmcddaaGreatQfLawAD
set_option linter.unusedSimpArgs false
set_option linter.unusedVariables false
section
namespace Go.Bi
open Go.Ai
inductive T where
 | v (x : Value)
 | l (z : Nat) (es : List (List T))
abbrev AQ := List Nat → Value
inductive X where
 | raw (x : Value)
 | sl (f : AQ) (z : Nat) (es : List (List T))
 | pr (a : Value) (f : AQ) (cs : List T)
 | st (xs : List X)
 | tp (xs : List X)
mutual
def er : X → Value
 | .raw x => x
 | .sl f _ _ => f []
 | .pr a _ _ => a
 | .st xs => .agg (fG xs).toArray
 | .tp xs => .tuple (fG xs).toArray
def fG : List X → List Value
 | [] => []
 | x :: xs => er x :: fG xs
end
theorem C0 : ∀ xs, fG xs = xs.map er
 | [] => rfl
 | x :: xs => by simp [fG, C0 xs]
structure OB where
 z : Nat
 cs : List X
structure H2 where
 n : Nat
 get : Nat → Option OB
def H2.push (h : H2) (k : OB) : H2 := ⟨h.n + 1, fun b => if b = h.n then some k else h.get b⟩
def H2.set (h : H2) (b : Nat) (k : OB) : H2 := ⟨h.n, fun b' => if b' = b then some k else h.get b'⟩
def H2.kill (h : H2) (b : Nat) : H2 := ⟨h.n, fun b' => if b' = b then none else h.get b'⟩
def H2.up (h : H2) (n : Nat) : H2 := ⟨n, h.get⟩
def below (f : AQ) (i j : Nat) : AQ := fun p => f (i :: j :: p)
def under (f : AQ) (j : Nat) : AQ := fun p => f (j :: p)
inductive Ja (h : Heap) (g : H2) : AQ → T → Prop
  | v {f : AQ} {x : Value} : f [] = x → Ja h g f (.v x)
  | l {f : AQ} {z : Nat} {es : List (List T)} (a : Option Addr) (c : Nat) : f [] = .slice a es.length c → (∀ e ∈ es, e.length = z) →
      ((a = none ∧ es = []) ∨ ∃ b off w k cs, a = some ⟨b, off, none⟩ ∧ b < h.n ∧ g.get b = none ∧ h.get b = some ⟨w, k, cs⟩ ∧ (w = true → k = z) ∧ off ≤ cs.length ∧ ∀ i j, i < es.length → j < z → cs[off + i * z + j]? = some (f [i, j])) →
      (∀ i j t, ((es[i]?).bind (·[j]?)) = some t → Ja h g (below f i j) t) → Ja h g f (.l z es)
  | o {f : AQ} {z : Nat} : f [] = .map none → Ja h g f (.l z [])
inductive Ok (h : Heap) (g : H2) : X → Prop
  | raw {x : Value} : Ok h g (.raw x)
  | sl {f : AQ} {z : Nat} {es : List (List T)} : Ja h g f (.l z es) → Ok h g (.sl f z es)
  | pr {b off : Nat} {f : AQ} {ts : List T} {w : Bool} {k : Nat} {cs : List Value} : b < h.n → g.get b = none → h.get b = some ⟨w, k, cs⟩ → off ≤ cs.length → (∀ j t, ts[j]? = some t → cs[off + j]? = some (f [j])) →
      (∀ j t, ts[j]? = some t → Ja h g (under f j) t) → Ok h g (.pr (.pointer (some ⟨b, off, none⟩)) f ts)
  | st {xs : List X} : (∀ x ∈ xs, Ok h g x) → Ok h g (.st xs)
  | tp {xs : List X} : (∀ x ∈ xs, Ok h g x) → Ok h g (.tp xs)
structure S (g : H2) (h : Heap) : Prop where
 n : g.n = h.n
 row : ∀ b k, g.get b = some k → b < h.n ∧ h.get b = some ⟨true, k.z, k.cs.map er⟩ ∧ ∀ x ∈ k.cs, Ok h g x
structure Ext (g : H2) (h : Heap) (g' : H2) (h' : Heap) : Prop where
 n : h.n ≤ h'.n
 keep : ∀ b, b < h.n → g.get b = none → h'.get b = h.get b
 non : ∀ b, b < h.n → g.get b = none → g'.get b = none
theorem Ext.refl {g : H2} {h : Heap} : Ext g h g h := ⟨Nat.le_refl _, fun _ _ _ => rfl, fun _ _ h => h⟩
theorem Ext.trans {g g' g'' : H2} {h h' h'' : Heap} (a : Ext g h g' h') (b : Ext g' h' g'' h'') : Ext g h g'' h'' :=
 ⟨Nat.le_trans a.n b.n, fun x hx hg => (b.keep x (Nat.lt_of_lt_of_le hx a.n) (a.non x hx hg)).trans (a.keep x hx hg), fun x hx hg => b.non x (Nat.lt_of_lt_of_le hx a.n) (a.non x hx hg)⟩
theorem Ja.mono {g g' : H2} {h h' : Heap} (x : Ext g h g' h') {f : AQ} {t : T} (r : Ja h g f t) : Ja h' g' f t := by
 induction r with
 | v h1 => exact .v h1
 | o h1 => exact .o h1
 | l a c h1 h2 h3 h4 ih =>
  refine .l a c h1 h2 (h3.imp_right ?_) ih
  rintro ⟨b, off, w, k, cs, e1, e2, e3, e4, e5, e6⟩
  exact ⟨b, off, w, k, cs, e1, Nat.lt_of_lt_of_le e2 x.n, x.non b e2 e3, by rw [x.keep b e2 e3]; exact e4, e5, e6⟩
theorem Ok.mono {g g' : H2} {h h' : Heap} (x : Ext g h g' h') {y : X} (r : Ok h g y) : Ok h' g' y := by
 induction r with
 | raw => exact .raw
 | sl h1 => exact .sl (h1.mono x)
 | pr h1 h2 h3 h0 h4 h5 => exact .pr (Nat.lt_of_lt_of_le h1 x.n) (x.non _ h1 h2) (by rw [x.keep _ h1 h2]; exact h3) h0 h4 fun j t ht => (h5 j t ht).mono x
 | st _ ih => exact .st ih
 | tp _ ih => exact .tp ih
abbrev E2 := Nat → X
def E2.put (e : E2) (d : Nat) (v : X) : E2 := fun t => if t = d then v else e t
def E2.putO (e : E2) : Option Nat → X → E2
 | some d, v => e.put d v
 | none, _ => e
def gD : Value → X
 | .agg cs => .st (cs.toList.map .raw)
 | v => .raw v
def Wm : Value → X
 | .agg cs => .st (cs.toList.map .raw)
 | .tuple vs => .tp (vs.toList.map gD)
 | v => .raw v
def E2.op (e : E2) : Operand → X
 | .tmp t => e t
 | .const v => Wm v
 | .global g => .raw (.pointer (some ⟨g, 0, none⟩))
 | .func f => .raw (.func (.func f) #[] #[])
theorem DN : ∀ l : List Value, (l.map X.raw).map er = l
 | [] => rfl
 | x :: l => by simp only [List.map_cons, er, DN l]
theorem eP (v : Value) : er (gD v) = v := by
 cases v <;> try rfl
 simp only [gD, er, C0, DN]
theorem MH : ∀ l : List Value, (l.map gD).map er = l
 | [] => rfl
 | x :: l => by simp only [List.map_cons, eP, MH l]
theorem dx (v : Value) : er (Wm v) = v := by
 cases v <;> try rfl
 ·simp only [Wm, er, C0, DN]
 ·simp only [Wm, er, C0, MH]
theorem Gc {h : Heap} {g : H2} : ∀ {l : List Value}, ∀ x ∈ l.map X.raw, Ok h g x := by
 intro l x hx
 obtain ⟨v, _, rfl⟩ := List.mem_map.1 hx
 exact .raw
theorem cL {h : Heap} {g : H2} (v : Value) : Ok h g (gD v) := by
 cases v <;> try exact .raw
 exact .st Gc
theorem Ye {h : Heap} {g : H2} (v : Value) : Ok h g (Wm v) := by
 cases v <;> try exact .raw
 ·exact .st Gc
 ·refine .tp fun x hx => ?_
  obtain ⟨v, _, rfl⟩ := List.mem_map.1 hx
  exact cL v
def E2.er (e : E2) : Env := fun t => Bi.er (e t)
theorem CQ (e : E2) (x : Operand) : Bi.er (e.op x) = (e.er).op x := by
 cases x <;> try rfl
 exact dx _
theorem eG (e : E2) (d : Option Nat) (v : X) : (e.putO d v).er = e.er.putO d (Bi.er v) := by
 cases d with
 | none => rfl
 | some d => funext t; simp only [E2.er, E2.putO, E2.put, Env.putO, Env.put]; split <;> rfl
def Jl {α : Type} (cs : List α) (off n : Nat) : Option (List α) := if off + n ≤ cs.length then some ((cs.drop off).take n) else none
def Cv {α : Type} (cs : List α) (off : Nat) (vs : List α) : Option (List α) :=
 if off + vs.length ≤ cs.length then some (cs.take off ++ vs ++ cs.drop (off + vs.length)) else none
def Qz (f : AQ) (j : Nat) : T → X
 | .v x => .raw x
 | .l z es => .sl (under f j) z es
def Gv (f : AQ) : Nat → List T → List X
 | _, [] => []
 | j, t :: r => Qz f j t :: Gv f (j + 1) r
def IC (o : Option Value) : Option X := o.map .raw
def Qt : Value → Bool
 | .slice none _ _ => true
 | _ => false
def A3 : X → Option (List X)
 | .st xs => some xs
 | .tp _ => none
 | .raw (.agg _) => none
 | .raw (.tuple _) => none
 | .raw (.chan _) => none
 | x => some [x]
def FC : X → Bool
 | .raw (.chan _) => false
 | .raw _ => true
 | .sl _ _ _ => true
 | .pr _ _ _ => true
 | _ => false
def Gy : List X → Option (List Value)
 | [] => some []
 | .raw v :: l => (Gy l).map (v :: ·)
 | _ :: _ => none
def MV (P : Program) (op : BinOp) (t : TypeId) : X → X → Option X
 | .raw a, .raw b => IC (binV P op t a b)
 | .sl f _ _, .raw (.slice none _ _) => match op, cls? P t with
  | .eql, some .sl => some (.raw (.bool (Qt (f []))))
  | .neq, some .sl => some (.raw (.bool !(Qt (f []))))
  | _, _ => none
 | .pr _ _ _, .raw (.pointer none) => match op, cls? P t with
  | .eql, some .ptr => some (.raw (.bool false))
  | .neq, some .ptr => some (.raw (.bool true))
  | _, _ => none
 | .st a, .st b => match Gy a, Gy b with
  | some u, some v => IC (binV P op t (.agg u.toArray) (.agg v.toArray))
  | _, _ => none
 | _, _ => none
def fe (op : UnOp) : X → Option X
 | .raw a => IC (unV op a)
 | _ => none
def HH (P : Program) (g : H2) (t : TypeId) : X → Option X
 | .raw (.pointer (some a)) => match g.get a.block with
  | some k => match agg? P t with
   | some true => (match sz? P t with | some n => (Jl k.cs a.off n).map .st | none => none)
   | some false => k.cs[a.off]?
   | none => none
  | none => none
 | .pr _ f ts => match agg? P t with
  | some true => (match sz? P t with | some n => if n ≤ ts.length then some (.st (Gv f 0 (ts.take n))) else none | none => none)
  | some false => (match ts with | t :: _ => some (Qz f 0 t) | [] => none)
  | none => none
 | _ => none
def IT (P : Program) (g : H2) (t : TypeId) (x y : X) : Option H2 :=
 match x, A3 y, sz? P t with
 | .raw (.pointer (some a)), some vs, some n => match g.get a.block with
  | some k => if vs.length = n ∧ vs.all FC = true then (Cv k.cs a.off vs).map fun cs => g.set a.block ⟨k.z, cs⟩ else none
  | none => none
 | _, _, _ => none
def cA (off : Nat) : Value → Value
 | .pointer (some a) => .pointer (some ⟨a.block, a.off + off, none⟩)
 | v => v
def fI (f : AQ) (off : Nat) : AQ
 | [] => f []
 | j :: p => f ((j + off) :: p)
def B8 (P : Program) (s : TypeId) (x : X) (f : Nat) : Option X :=
 match x with
 | .raw v => IC (fieldAddrV P s v f)
 | .pr a g ts => match fld? P s f with
  | some (off, _ + 1, _) => if off ≤ ts.length then some (.pr (cA off a) (fI g off) (ts.drop off)) else none
  | _ => none
 | _ => none
def WX (cs : List X) : Nat × Nat × Bool → Option X
 | (off, n, true) => (Jl cs off n).map .st
 | (off, _, false) => cs[off]?
def W5 (P : Program) (s : TypeId) (x : X) (f : Nat) : Option X :=
 match x, fld? P s f with
 | .st cs, some p => WX cs p
 | _, _ => none
def dI (i z : Nat) : Value → Value
 | .slice (some a) _ _ => .pointer (some ⟨a.block, a.off + i * z, none⟩)
 | _ => undef
def Cl (P : Program) (t : TypeId) (x ix : X) : Option X :=
 match x, ix with
 | .raw v, .raw i => IC (indexAddrV P t v i)
 | .sl f z es, .raw (.int _ i) => match elt? P t with
  | some (_, sz, _) => if sz = z ∧ 0 ≤ i ∧ i.toNat < es.length then some (.pr (dI i.toNat z (f [])) (under f i.toNat) (es.getD i.toNat [])) else none
  | none => none
 | _, _ => none
def XO (P : Program) (t : TypeId) : X → X → Option X
 | .raw v, .raw i => IC (Mn P t v i)
 | _, _ => none
def EG (x : X) (i : Nat) : Option X :=
 match x with
 | .tp vs => vs[i]?
 | _ => none
def Em (place : Nat → Option (Nat × Nat)) (e : E2) : List (Nat × Operand) → List X → Option (List X)
 | [], cs => some cs
 | (i, x) :: r, cs =>
  match place i, A3 (e.op x) with
  | some (off, n), some vs => if vs.length = n then (match Cv cs off vs with | some cs' => Em place e r cs' | none => none) else none
  | _, _ => none
def Be (len : Nat) : Option X → Nat → Option Nat
 | none, d => some d
 | some (.raw (.int _ i)), _ => if 0 ≤ i ∧ i ≤ len then some i.toNat else none
 | _, _ => none
def RO (l n z : Nat) : Value → Value
 | .slice (some a) _ _ => .slice (some ⟨a.block, a.off + l * z, none⟩) n n
 | .map none => .map none
 | _ => .slice none 0 0
def PO (f : AQ) (l n z : Nat) : AQ
 | [] => RO l n z (f [])
 | i :: p => f ((i + l) :: p)
def If (P : Program) (g : H2) (t : TypeId) (x : X) (lo hi mx : Option X) : Option X :=
 if mx.isSome = true then none else
 match x with
 | .raw (.slice none len _) => match elt? P t with
  | some _ => (match Be len hi len with
   | some hh => match Be hh lo 0 with
    | some _ => some (.raw (.slice none 0 0))
    | none => none
   | none => none)
  | none => none
 | .raw (.slice (some a) len _) => match elt? P t, g.get a.block with
  | some (_, sz, _), some k => if k.z = sz then (match Be len hi len with
   | some hh => match Be hh lo 0 with
    | some l => some (.raw (.slice (some ⟨a.block, a.off + l * sz, none⟩) (hh - l) (hh - l)))
    | none => none
   | none => none) else none
  | _, _ => none
 | .raw (.string s) => (match cls? P t with
  | some .str => match Be s.size hi s.size with
   | some hh => match Be hh lo 0 with
    | some l => some (.raw (.string (s.extract l hh)))
    | none => none
   | none => none
  | _ => none)
 | .sl f z es => match elt? P t with
  | some (_, sz, _) => if sz = z then (match Be es.length hi es.length with
   | some hh => match Be hh lo 0 with
    | some l => some (.sl (PO f l (hh - l) z) z ((es.drop l).take (hh - l)))
    | none => none
   | none => none) else none
  | none => none
 | _ => none
def CC (f : AQ) : Nat → List (List T) → List X
 | _, [] => []
 | i, e :: r => Gv (under f i) 0 e ++ CC f (i + 1) r
def E0 (g : H2) (sz : Nat) : X → Option (Nat × List X)
 | .raw (.slice none _ _) => some (0, [])
 | .raw (.slice (some a) n _) => match g.get a.block with
  | some k => (Jl k.cs a.off (n * sz)).map fun l => (n, l)
  | none => none
 | .sl f z es => if z = sz then some (es.length, CC f 0 es) else none
 | _ => none
def Dr : List X → Option (List UInt8)
 | [] => some []
 | .raw v :: l => match byteV v, Dr l with
  | some b, some r => some (b :: r)
  | _, _ => none
 | _ :: _ => none
def NH (P : Program) (g : H2) (s d : TypeId) (x : X) : Option (X × H2) :=
 match cls? P s, cls? P d, x with
 | some (.int _), some (.int k), .raw (.int _ n) => some (.raw (.int k (k.wrap n)), g)
 | some .str, some .str, .raw (.string b) => some (.raw (.string b), g)
 | some .sl, some .str, v => match elt? P s, E0 g 1 v with
  | some (e, 1, _), some (_, l) => match cls? P e, Dr l with
   | some (.int .u8), some bs => some (.raw (.string ⟨bs.toArray⟩), g)
   | _, _ => none
  | _, _ => none
 | some .str, some .sl, .raw (.string b) => match elt? P d with
  | some (e, 1, 1) => match cls? P e with
   | some (.int .u8) => if b.size ≤ 1048576 then some (.raw (.slice (some ⟨g.n, 0, none⟩) b.size b.size), g.push ⟨1, b.data.toList.map fun x => .raw (.int .u8 x.toNat)⟩) else none
   | _ => none
  | _ => none
 | _, _, _ => none
def Gb (P : Program) (g : H2) (t : TypeId) (x y : X) : Option (X × H2) :=
 match x, elt? P t with
 | .raw (.slice a n c), some (e, sz + 1, by_) =>
  match E0 g (sz + 1) y, zr? P e with
  | some (m, news), some z =>
   if z.length = sz + 1 ∧ (n + m) * (by_ + 1) ≤ Ai.most ∧ news.all FC = true then
    if m = 0 then some (.raw (.slice a n n), g) else
    match a with
    | none => some (.raw (.slice (some ⟨g.n, 0, none⟩) m m), g.push ⟨sz + 1, news⟩)
    | some a => match g.get a.block with
     | some k => if k.z = sz + 1 ∧ a.off = 0 then (Jl k.cs 0 (n * (sz + 1))).map fun olds => (.raw (.slice (some ⟨g.n, 0, none⟩) (n + m) (n + m)), (g.kill a.block).push ⟨sz + 1, olds ++ news⟩) else none
     | none => none
   else none
  | _, _ => none
 | _, _ => none
def B1 (P : Program) (g : H2) (b : Builtin) (ts : List TypeId) (xs : List X) : Option (X × H2) :=
 match b, ts, xs with
 | .len, [t], [.raw (.string s)] => match cls? P t with | some .str => some (.raw (.int .i64 s.size), g) | _ => none
 | .len, [t], [.raw (.slice _ n _)] => match cls? P t with | some .sl => some (.raw (.int .i64 n), g) | _ => none
 | .len, [t], [.sl _ _ es] => match cls? P t with | some .sl => some (.raw (.int .i64 es.length), g) | _ => none
 | .append, [t, u], [x, y] => match cls? P u with | some .sl => Gb P g t x y | _ => none
 | .max, _, xs => match Gy xs with | some l => (Bo mxI l).map (.raw ·, g) | none => none
 | .min, _, xs => match Gy xs with | some l => (Bo mnI l).map (.raw ·, g) | none => none
 | _, _, _ => none
def El (P : Program) (g : H2) (t : TypeId) (l c : X) : Option (X × H2) :=
 match l, c, elt? P t with
 | .raw (.int .i64 l), .raw (.int .i64 c), some (e, sz, by_) => match zr? P e with
  | some z => if z.length = sz ∧ 0 < sz ∧ l = c ∧ 0 ≤ l ∧ l.toNat * (by_ + 1) ≤ Ai.most then some (.raw (.slice (some ⟨g.n, 0, none⟩) l.toNat l.toNat), g.push ⟨sz, (repL l.toNat z).map .raw⟩) else none
  | none => none
 | _, _, _ => none
def Jc : X → Option T
 | .raw v => if Bx v = true then some (.v v) else none
 | .sl _ z es => some (.l z es)
 | _ => none
def CR : List X → Option (List T)
 | [] => some []
 | x :: l => match Jc x, CR l with
  | some t, some r => some (t :: r)
  | _, _ => none
def chunk (z : Nat) : Nat → List T → List (List T)
 | 0, _ => []
 | n + 1, l => l.take z :: chunk z n (l.drop z)
def Qe (p : List Nat) : X → Value
 | .raw v => v
 | .sl f _ _ => f p
 | x => er x
def FY (b n z : Nat) (cs : List X) : AQ
 | i :: j :: p => Qe p (cs.getD (i * z + j) (.raw undef))
 | _ => .slice (some ⟨b, 0, none⟩) n n
def UD (g : H2) (n z : Nat) (cs : List X) : X × H2 :=
 match n, CR cs with
 | m + 1, some ts => (.sl (FY g.n (m + 1) z cs) z (chunk z (m + 1) ts), g.up (g.n + 1))
 | n, _ => (.raw (.slice (some ⟨g.n, 0, none⟩) n n), g.push ⟨z, cs⟩)
def aV : X → Bool
 | .raw (.pointer (some _)) => true
 | .pr _ _ _ => true
 | _ => false
def ZP (g : H2) (z : Nat) (cs : List X) : X × H2 := (.raw (.pointer (some ⟨g.n, 0, none⟩)), g.push ⟨z, cs⟩)
def Kk (P : Program) (e : E2) (g : H2) : Op → Option (X × H2)
 | .move x => some (e.op x, g)
 | .assign x => some (e.op x, g)
 | .pick c a b => match e.op c with
  | .raw (.bool true) => some (e.op a, g)
  | .raw (.bool false) => some (e.op b, g)
  | _ => none
 | .alloc t => match zr? P t, sz? P t with
  | some z, some n => some (ZP g n (z.map .raw))
  | _, _ => none
 | .box t x => match A3 (e.op x), sz? P t with
  | some cs, some n => some (ZP g n cs)
  | _, _ => none
 | .build t parts => match zr? P t with
  | some z => if bldOk P t = true then (Em (fun i => (fld? P t i).map fun p => (p.1, p.2.1)) e parts.toList (z.map .raw)).map fun l => (.st l, g) else none
  | none => none
 | .buildSlice t n parts => match elt? P t with
  | some (u, sz, by_) => match zr? P u with
   | some z => if n ≤ 64 ∧ z.length = sz ∧ sz ≤ 64 then (Em (fun i => some (i * sz, sz)) e parts.toList ((repL n z).map .raw)).map fun l => UD g n sz l else none
   | none => none
  | none => none
 | .load t x => (HH P g t (e.op x)).map (·, g)
 | .store t x y => (IT P g t (e.op x) (e.op y)).map (.raw undef, ·)
 | .nilCheck x => if aV (e.op x) then some (e.op x, g) else none
 | .binOp op t x y _ => (MV P op t (e.op x) (e.op y)).map (·, g)
 | .unOp op _ x => (fe op (e.op x)).map (·, g)
 | .convert s d x => NH P g s d (e.op x)
 | .makeFunc (.func f) first caps => match Gy (caps.toList.map e.op) with
  | some l => if first.size = 0 ∧ l.all ptrV = true then some (.raw (.func (.func f) #[] l.toArray), g) else none
  | none => none
 | .makeSlice t l c => El P g t (e.op l) (e.op c)
 | .slice t x lo hi mx => (If P g t (e.op x) (lo.map e.op) (hi.map e.op) (mx.map e.op)).map (·, g)
 | .fieldAddr s x f => (B8 P s (e.op x) f).map (·, g)
 | .field s x f => (W5 P s (e.op x) f).map (·, g)
 | .indexAddr t x ix => (Cl P t (e.op x) (e.op ix)).map (·, g)
 | .index t x ix => (XO P t (e.op x) (e.op ix)).map (·, g)
 | .extract x i => (EG (e.op x) i).map (·, g)
 | .call { callee := .builtin b, args := xs, argTypes := ts } => B1 P g b ts.toList (xs.toList.map e.op)
 | _ => none
end Go.Bi
namespace Go.Bi
open Go.Ai
variable {P : Program} {g : H2} {h : Heap}
theorem JL {cs l : List X} {off n : Nat} (hr : Jl cs off n = some l) : rd (cs.map er) off n = some (l.map er) ∧ ∀ x ∈ l, x ∈ cs := by
 unfold Jl at hr
 split at hr
 ·cases hr
  refine ⟨?_, fun x hx => List.mem_of_mem_drop (List.mem_of_mem_take hx)⟩
  unfold rd; rw [if_pos (by simpa using ‹off + n ≤ cs.length›)]
  simp [List.map_take, List.map_drop]
 ·cases hr
theorem No {cs vs l : List X} {off : Nat} (hr : Cv cs off vs = some l) : Qy (cs.map er) off (vs.map er) = some (l.map er) ∧ ∀ x ∈ l, x ∈ cs ∨ x ∈ vs := by
 unfold Cv at hr
 split at hr
 ·cases hr
  refine ⟨?_, fun x hx => ?_⟩
  ·unfold Qy; rw [if_pos (by simpa using ‹off + vs.length ≤ cs.length›)]
   simp [List.map_take, List.map_drop]
  ·simp only [List.mem_append] at hx
   rcases hx with (hx | hx) | hx
   ·exact .inl (List.mem_of_mem_take hx)
   ·exact .inr hx
   ·exact .inl (List.mem_of_mem_drop hx)
 ·cases hr
theorem Ok.slV {f : AQ} {z : Nat} {es : List (List T)} (o : Ok h g (.sl f z es)) : (∃ a c, f [] = .slice a es.length c) ∨ (f [] = .map none ∧ es = []) := by
 cases o with | sl r => cases r with | l a c h1 => exact .inl ⟨a, c, h1⟩ | o h1 => exact .inr ⟨h1, rfl⟩
theorem HU {y : X} {vs : List X} (o : Ok h g y) (hc : A3 y = some vs) : Ds (er y) = some (vs.map er) ∧ ∀ x ∈ vs, Ok h g x := by
 cases o with
 | raw =>
  rename_i v
  cases v <;> simp only [A3] at hc <;> first
   | cases hc; done
   | (cases hc; refine ⟨rfl, fun x hx => ?_⟩; simp at hx; subst hx; exact .raw)
 | sl r =>
  simp only [A3] at hc; cases hc
  refine ⟨?_, fun x hx => ?_⟩
  ·rcases (Ok.sl r).slV with ⟨a, c, e⟩ | ⟨e, _⟩ <;> (simp only [er, e, List.map_cons, List.map_nil]; rfl)
  ·simp at hx; subst hx; exact .sl r
 | pr h1 h2 h3 h0 h4 h5 =>
  simp only [A3] at hc; cases hc
  refine ⟨rfl, fun x hx => ?_⟩
  simp at hx; subst hx; exact .pr h1 h2 h3 h0 h4 h5
 | st hx => simp only [A3] at hc; cases hc; exact ⟨by simp [er, C0, Ds], hx⟩
 | tp => simp only [A3] at hc; cases hc
theorem Zt {x : X} (o : Ok h g x) (hx : FC x = true) : FZ (er x) = true := by
 cases o with
 | raw => rename_i v; cases v <;> first | rfl | (simp [FC] at hx)
 | sl r => rcases (Ok.sl r).slV with ⟨a, c, e⟩ | ⟨e, _⟩ <;> (simp only [er, e]; rfl)
 | pr => rfl
 | st => simp [FC] at hx
 | tp => simp [FC] at hx
theorem PZ {vs : List X} (o : ∀ x ∈ vs, Ok h g x) (hx : vs.all FC = true) : (vs.map er).all FZ = true := by
 rw [List.all_eq_true] at hx ⊢
 intro v hv
 obtain ⟨x, hx2, rfl⟩ := List.mem_map.1 hv
 exact Zt (o x hx2) (hx x hx2)
theorem S.fresh (s : S g h) : g.get h.n = none := by
 cases hk : g.get h.n with
 | none => rfl
 | some k => have := (s.row _ _ hk).1; omega
theorem S.set (s : S g h) {b : Nat} {k : OB} (hb : g.get b = some k) {z : Nat} {cs : List X} (hz : k.z = z) (ok : ∀ x ∈ cs, Ok h g x) :
  S (g.set b ⟨z, cs⟩) (h.set b ⟨true, z, cs.map er⟩) ∧ Ext g h (g.set b ⟨z, cs⟩) (h.set b ⟨true, z, cs.map er⟩) := by
 have x : Ext g h (g.set b ⟨z, cs⟩) (h.set b ⟨true, z, cs.map er⟩) := by
  refine ⟨Nat.le_refl _, fun c _ hc => ?_, fun c _ hc => ?_⟩
  ·have : ¬ c = b := fun e => by rw [e, hb] at hc; cases hc
   simp [Heap.set, this]
  ·have : ¬ c = b := fun e => by rw [e, hb] at hc; cases hc
   simp [H2.set, this, hc]
 refine ⟨⟨s.n, fun c k' hc => ?_⟩, x⟩
 simp only [H2.set] at hc
 by_cases hcb : c = b
 ·subst hcb
  rw [if_pos rfl] at hc; cases hc
  exact ⟨(s.row _ _ hb).1, by simp [Heap.set], fun y hy => (ok y hy).mono x⟩
 ·rw [if_neg hcb] at hc
  obtain ⟨h1, h2, h3⟩ := s.row _ _ hc
  exact ⟨h1, by simp [Heap.set, hcb, h2], fun y hy => (h3 y hy).mono x⟩
theorem Ext.push {g : H2} {h : Heap} {k : OB} {k' : KP} (hn : g.n = h.n) : Ext g h (g.push k) (h.push k') := by
 refine ⟨by simp [Heap.push], fun c hc _ => ?_, fun c hc hg => ?_⟩
 ·have : ¬ c = h.n := by omega
  simp [Heap.push, this]
 ·have : ¬ c = g.n := by omega
  simp [H2.push, this, hg]
theorem S.push (s : S g h) {z : Nat} {cs : List X} (ok : ∀ x ∈ cs, Ok h g x) :
  S (g.push ⟨z, cs⟩) (h.push ⟨true, z, cs.map er⟩) ∧ Ext g h (g.push ⟨z, cs⟩) (h.push ⟨true, z, cs.map er⟩) := by
 have x : Ext g h (g.push ⟨z, cs⟩) (h.push ⟨true, z, cs.map er⟩) := Ext.push s.n
 refine ⟨⟨by simp [H2.push, Heap.push, s.n], fun c k' hc => ?_⟩, x⟩
 simp only [H2.push] at hc
 by_cases hcb : c = g.n
 ·subst hcb
  rw [if_pos rfl] at hc; cases hc
  exact ⟨by simp [Heap.push, s.n], by simp [Heap.push, s.n], fun y hy => (ok y hy).mono x⟩
 ·rw [if_neg hcb] at hc
  obtain ⟨h1, h2, h3⟩ := s.row _ _ hc
  have : ¬ c = h.n := by omega
  exact ⟨by simp [Heap.push]; omega, by simp [Heap.push, this, h2], fun y hy => (h3 y hy).mono x⟩
theorem S.up (s : S g h) {k' : KP} : S (g.up (g.n + 1)) (h.push k') ∧ Ext g h (g.up (g.n + 1)) (h.push k') := by
 have x : Ext g h (g.up (g.n + 1)) (h.push k') := by
  refine ⟨by simp [Heap.push], fun c hc _ => ?_, fun c hc hg => hg⟩
  have : ¬ c = h.n := by omega
  simp [Heap.push, this]
 refine ⟨⟨by simp [H2.up, Heap.push, s.n], fun c k hc => ?_⟩, x⟩
 obtain ⟨h1, h2, h3⟩ := s.row _ _ hc
 have : ¬ c = h.n := by omega
 exact ⟨by simp [Heap.push]; omega, by simp [Heap.push, this, h2], fun y hy => (h3 y hy).mono x⟩
theorem S.kill (s : S g h) {b : Nat} {k : OB} (hb : g.get b = some k) : S (g.kill b) (h.kill b) ∧ Ext g h (g.kill b) (h.kill b) := by
 have x : Ext g h (g.kill b) (h.kill b) := by
  refine ⟨Nat.le_refl _, fun c _ hc => ?_, fun c _ hc => ?_⟩
  ·have : ¬ c = b := fun e => by rw [e, hb] at hc; cases hc
   simp [Heap.kill, this]
  ·simp only [H2.kill]; split <;> simp_all
 refine ⟨⟨s.n, fun c k' hc => ?_⟩, x⟩
 simp only [H2.kill] at hc
 by_cases hcb : c = b
 ·rw [if_pos hcb] at hc; cases hc
 ·rw [if_neg hcb] at hc
  obtain ⟨h1, h2, h3⟩ := s.row _ _ hc
  exact ⟨h1, by simp [Heap.kill, hcb, h2], fun y hy => (h3 y hy).mono x⟩
theorem Wu {f : AQ} {j : Nat} {t : T} (r : Ja h g (under f j) t) : er (Qz f j t) = f [j] := by
 cases r with
 | v h1 => simp only [Qz, er]; exact h1.symm
 | o => rfl
 | l => rfl
theorem YC {f : AQ} {j : Nat} {t : T} (r : Ja h g (under f j) t) : Ok h g (Qz f j t) := by
 cases t with
 | v x => exact .raw
 | l z es => exact .sl r
theorem OE {f : AQ} : ∀ {ts : List T} {k i : Nat}, (Gv f k ts)[i]? = (ts[i]?).map (Qz f (k + i))
 | [], k, i => by simp [Gv]
 | t :: ts, k, 0 => by simp [Gv]
 | t :: ts, k, i + 1 => by simp only [Gv, List.getElem?_cons_succ, OE]; congr 2; omega
theorem Tn {f : AQ} : ∀ {ts : List T} {k : Nat}, (Gv f k ts).length = ts.length
 | [], k => rfl
 | t :: ts, k => by simp [Gv, Tn]
theorem eY {cs l : List Value} {off : Nat} (h0 : off + l.length ≤ cs.length) (hl : ∀ i, i < l.length → cs[off + i]? = l[i]?) : rd cs off l.length = some l := by
 unfold rd; rw [if_pos h0]
 congr 1
 apply List.ext_getElem?
 intro i
 rw [List.getElem?_take]
 split
 ·rename_i hi; rw [List.getElem?_drop]; exact hl i hi
 ·rename_i hi; rw [List.getElem?_eq_none (by omega)]
theorem X4 {cs : List Value} {off : Nat} {f : AQ} {ts : List T} {k : Nat} (h0 : off ≤ cs.length) (h1 : ∀ j t, ts[j]? = some t → cs[off + j]? = some (f [k + j])) (h2 : ∀ j t, ts[j]? = some t → Ja h g (under f (k + j)) t) :
  rd cs off ts.length = some ((Gv f k ts).map er) := by
 have hlen : ((Gv f k ts).map er).length = ts.length := by simp [Tn]
 rw [← hlen]
 refine eY ?_ fun i hi => ?_
 ·rw [hlen]
  rcases Nat.eq_zero_or_pos ts.length with h3 | h3
  ·omega
  ·have h4 : ts[ts.length - 1]? = some ts[ts.length - 1] := List.getElem?_eq_getElem (by omega)
   have := h1 _ _ h4
   obtain ⟨hh, _⟩ := List.getElem?_eq_some_iff.1 this
   omega
 ·rw [hlen] at hi
  have h4 : ts[i]? = some ts[i] := List.getElem?_eq_getElem hi
  rw [h1 _ _ h4, List.getElem?_map, OE, h4]
  simp [Wu (h2 _ _ h4)]
theorem Xv {f : AQ} {ts : List T} {k : Nat} (h2 : ∀ j t, ts[j]? = some t → Ja h g (under f (k + j)) t) : ∀ x ∈ Gv f k ts, Ok h g x := by
 intro x hx
 obtain ⟨i, hi⟩ := List.mem_iff_getElem?.1 hx
 rw [OE] at hi
 cases ht : ts[i]? with
 | none => rw [ht] at hi; cases hi
 | some t => rw [ht] at hi; cases hi; exact YC (h2 i t ht)
theorem Vj {cs x y : List Value} {o n m : Nat} (h1 : rd cs o n = some x) (h2 : rd cs (o + n) m = some y) : rd cs o (n + m) = some (x ++ y) := by
 unfold rd at h1 h2 ⊢
 split at h1
 ·split at h2
  ·cases h1; cases h2
   rw [if_pos (by omega)]
   congr 1
   rw [List.take_add, List.drop_drop]
  ·cases h2
 ·cases h1
theorem KU (s : S g h) {t : TypeId} {x y : X} (o : Ok h g x) (hx : HH P g t x = some y) : Gn P h t (er x) = some (er y) ∧ Ok h g y := by
 cases o with
 | raw =>
  rename_i v
  unfold HH at hx
  split at hx
  ·rename_i a heq
   cases heq
   split at hx
   ·rename_i k hk
    obtain ⟨h1, h2, h3⟩ := s.row _ _ hk
    simp only [er, Gn, h2]
    split at hx
    ·rename_i hag
     split at hx
     ·rename_i n hn
      simp only [hag, hn]
      cases hr : Jl k.cs a.off n with
      | none => rw [hr] at hx; cases hx
      | some l =>
       rw [hr] at hx; cases hx
       obtain ⟨e1, e2⟩ := JL hr
       exact ⟨by rw [e1]; simp [er, C0], .st fun z hz => h3 z (e2 z hz)⟩
     ·cases hx
    ·rename_i hag
     simp only [hag, List.getElem?_map]
     exact ⟨by rw [hx]; rfl, h3 y (List.mem_of_getElem? hx)⟩
    ·cases hx
   ·cases hx
  ·rename_i heq; cases heq
  ·cases hx
 | pr h1 h2 h3 h0 h4 h5 =>
  rename_i b off f ts w k cs
  simp only [HH] at hx
  simp only [er, Gn, h3]
  split at hx
  ·rename_i hag
   split at hx
   ·rename_i n hn
    split at hx
    ·rename_i hle
     cases hx
     simp only [hag, hn]
     have hts : ∀ (j : Nat) (t : T), (ts.take n)[j]? = some t → ts[j]? = some t := by
      intro j t ht; rw [List.getElem?_take] at ht; split at ht
      ·exact ht
      ·cases ht
     have hl : (ts.take n).length = n := by simp; omega
     have := X4 (h := h) (g := g) (k := 0) (f := f) h0 (fun j t ht => by rw [Nat.zero_add]; exact h4 j t (hts j t ht)) (fun j t ht => by rw [Nat.zero_add]; exact h5 j t (hts j t ht))
     rw [hl] at this
     rw [this]
     exact ⟨by simp [er, C0], .st (Xv (k := 0) fun j t ht => by rw [Nat.zero_add]; exact h5 j t (hts j t ht))⟩
    ·cases hx
   ·cases hx
  ·rename_i hag
   split at hx
   ·rename_i t r
    cases hx
    simp only [hag]
    exact ⟨by rw [Wu (h5 0 t rfl)]; have := h4 0 t rfl; simpa using this, YC (h5 0 t rfl)⟩
   ·cases hx
  ·cases hx
 | _ => simp [HH] at hx
theorem OD (s : S g h) {t : TypeId} {x y : X} {g' : H2} (oy : Ok h g y) (hx : IT P g t x y = some g') : ∃ h', KJ P h t (er x) (er y) = some h' ∧ S g' h' ∧ Ext g h g' h' := by
 unfold IT at hx
 split at hx
 ·rename_i a vs n hvs hsz
  obtain ⟨c1, c2⟩ := HU oy hvs
  split at hx
  ·rename_i k hk
   obtain ⟨h1, h2, h3⟩ := s.row _ _ hk
   split at hx
   ·rename_i hcond
    cases hw : Cv k.cs a.off vs with
    | none => rw [hw] at hx; cases hx
    | some cs =>
     rw [hw] at hx; cases hx
     obtain ⟨w1, w2⟩ := No hw
     obtain ⟨q1, q2⟩ := s.set (b := a.block) hk (cs := cs) rfl fun z hz => (w2 z hz).elim (h3 z) (c2 z)
     refine ⟨_, ?_, q1, q2⟩
     simp only [er, KJ, c1, hsz, h2]
     rw [if_pos ⟨trivial, by simpa using hcond.1, PZ c2 hcond.2⟩, w1]; rfl
   ·cases hx
  ·cases hx
 ·cases hx
theorem Jp {t : TypeId} {x y : X} {f : Nat} (o : Ok h g x) (hx : B8 P t x f = some y) : fieldAddrV P t (er x) f = some (er y) ∧ Ok h g y := by
 cases o with
 | raw =>
  rename_i v
  simp only [B8, IC] at hx
  cases hv : fieldAddrV P t v f with
  | none => rw [hv] at hx; cases hx
  | some u => rw [hv] at hx; cases hx; exact ⟨hv, .raw⟩
 | pr h1 h2 h3 h0 h4 h5 =>
  rename_i b off f' ts w k cs
  simp only [B8] at hx
  split at hx
  ·rename_i o n q hf
   split at hx
   ·rename_i hle
    cases hx
    refine ⟨by simp only [er, fieldAddrV, hf, cA], ?_⟩
    refine .pr h1 h2 h3 ?_ (fun j t ht => ?_) (fun j t ht => ?_)
    ·show off + o ≤ cs.length
     rcases Nat.eq_zero_or_pos o with h6 | h6
     ·omega
     ·have h7 : ts[o - 1]? = some ts[o - 1] := List.getElem?_eq_getElem (by omega)
      obtain ⟨hh, _⟩ := List.getElem?_eq_some_iff.1 (h4 _ _ h7)
      omega
    ·rw [List.getElem?_drop] at ht
     rw [Nat.add_assoc, h4 _ _ ht]; simp [fI, Nat.add_comm]
    ·rw [List.getElem?_drop] at ht
     have := h5 _ _ ht
     have e : under (fI f' o) j = under f' (o + j) := by funext p; simp [under, fI, Nat.add_comm]
     rw [e]; exact this
   ·cases hx
  ·cases hx
 | _ => simp [B8] at hx
end Go.Bi
namespace Go.Bi
open Go.Ai
variable {P : Program} {g : H2} {h : Heap}
theorem Fo {o : Option Value} {y : X} (hx : IC o = some y) : ∃ v, o = some v ∧ y = .raw v := by
 cases o with
 | none => cases hx
 | some v => cases hx; exact ⟨v, rfl, rfl⟩
theorem Jj {t : TypeId} {x i y : X} (o : Ok h g x) (hx : Cl P t x i = some y) : indexAddrV P t (er x) (er i) = some (er y) ∧ Ok h g y := by
  unfold Cl at hx
  split at hx
  · obtain ⟨v, h1, rfl⟩ := Fo hx; exact ⟨h1, .raw⟩
  · rename_i f z es kd ii
    split at hx
    · rename_i u sz b he
      split at hx
      · rename_i hc
        obtain ⟨rfl, hi0, hi⟩ := hc
        cases hx
        cases o with
        | sl r =>
          cases r with
          | o h1 => simp at hi
          | l a c h1 h2 h3 h4 =>
            rcases h3 with ⟨_, rfl⟩ | ⟨b, off, w, k, cs, rfl, e2, e3, e4, e5, e7, e6⟩
            · simp at hi
            · have hmem : es.getD ii.toNat [] ∈ es := by
                rw [List.getD_eq_getElem?_getD, List.getElem?_eq_getElem hi]; exact List.getElem_mem hi
              have hlen := h2 _ hmem
              have hget : es[ii.toNat]? = some (es.getD ii.toNat []) := by
                rw [List.getD_eq_getElem?_getD, List.getElem?_eq_getElem hi]; rfl
              have hcell : ∀ (j : Nat) (t : T), (es.getD ii.toNat [])[j]? = some t → cs[off + ii.toNat * sz + j]? = some (f [ii.toNat, j]) := by
                intro j t ht
                obtain ⟨hj, _⟩ := List.getElem?_eq_some_iff.1 ht
                exact e6 _ _ hi (by omega)
              refine ⟨?_, ?_⟩
              · simp only [er, h1, indexAddrV, he, dI]
                rw [if_pos ⟨hi0, by omega⟩]
              · rw [h1]
                refine .pr e2 e3 e4 ?_ hcell fun j t ht => h4 ii.toNat j t (by rw [hget]; exact ht)
                rcases Nat.eq_zero_or_pos sz with hz | hz
                · rw [hz]; simpa using e7
                · obtain ⟨hh, _⟩ := List.getElem?_eq_some_iff.1 (e6 ii.toNat 0 hi hz)
                  show off + ii.toNat * sz ≤ cs.length
                  omega
      · cases hx
    · cases hx
  · cases hx
theorem Oo {n d : Nat} : EP n none d = some d := rfl
theorem As {len : Nat} {o : Option X} {d r : Nat} (hb : Be len o d = some r) : EP len (o.map er) d = some r ∧ (o = none → r = d) ∧ (o ≠ none → r ≤ len) := by
 unfold Be at hb
 split at hb
 ·cases hb; exact ⟨rfl, fun _ => rfl, fun hh => absurd rfl hh⟩
 ·split at hb
  ·rename_i hc; cases hb
   exact ⟨by simp [er, EP, hc], fun hh => (by cases hh), fun _ => by omega⟩
  ·cases hb
 ·cases hb
theorem Ph {len : Nat} {o : Option X} {d r : Nat} (hb : Be len o d = some r) (hd : d ≤ len) : r ≤ len := by
 obtain ⟨_, h2, h3⟩ := As hb
 cases o with
 | none => rw [h2 rfl]; exact hd
 | some x => exact h3 (by simp)
theorem Y2 {t : TypeId} (hc : cls? P t = some .str) : elt? P t = none := by
 unfold cls? at hc; unfold elt?
 cases hu : P.underlying t with
 | none => rfl
 | some d => rw [hu] at hc; cases d <;> first | rfl | (simp at hc)
theorem PR (s : S g h) {t : TypeId} {x y : X} {lo hi mx : Option X} (o : Ok h g x) (hx : If P g t x lo hi mx = some y) : Ej P h t (er x) (lo.map er) (hi.map er) (mx.map er) = some (er y) ∧ Ok h g y := by
 unfold If at hx
 split at hx
 ·cases hx
 ·rename_i hmx
  have hmx' : mx = none := by cases mx <;> simp_all
  subst hmx'
  split at hx
  ·rename_i len c
   split at hx
   ·rename_i q he
    obtain ⟨u, z, b⟩ := q
    split at hx
    ·rename_i hh hb1
     split at hx
     ·rename_i l hb2
      cases hx
      refine ⟨?_, .raw⟩
      simp only [er, Ej, he, Option.map_none, Oo, (As hb1).1, (As hb2).1]
      rfl
     ·cases hx
    ·cases hx
   ·cases hx
  ·rename_i a len c
   split at hx
   ·rename_i u sz b k he hk
    split at hx
    ·rename_i hz
     split at hx
     ·rename_i hh hb1
      split at hx
      ·rename_i l hb2
       cases hx
       refine ⟨?_, .raw⟩
       obtain ⟨h1, h2, h3⟩ := s.row _ _ hk
       simp only [er, Ej, he, Option.map_none, Oo, (As hb1).1, (As hb2).1, h2]
       rw [if_neg (by simp), if_pos (.inr hz)]
      ·cases hx
     ·cases hx
    ·cases hx
   ·cases hx
  ·rename_i st
   split at hx
   ·rename_i hc
    split at hx
    ·rename_i hh hb1
     split at hx
     ·rename_i l hb2
      cases hx
      exact ⟨by simp only [er, Ej, hc, Y2 hc, Option.map_none, (As hb1).1, (As hb2).1], .raw⟩
     ·cases hx
    ·cases hx
   ·cases hx
  ·rename_i f z es
   split at hx
   ·rename_i u sz b he
    split at hx
    ·rename_i hz
     subst hz
     split at hx
     ·rename_i hh hb1
      split at hx
      ·rename_i l hb2
       cases hx
       have hhle : hh ≤ es.length := Ph hb1 (Nat.le_refl _)
       have hlle : l ≤ hh := Ph hb2 (Nat.zero_le _)
       have hlen : ((es.drop l).take (hh - l)).length = hh - l := by simp; omega
       have hgets : ∀ i : Nat, i < hh - l → ((es.drop l).take (hh - l))[i]? = es[i + l]? := by
        intro i hi; rw [List.getElem?_take, if_pos hi, List.getElem?_drop, Nat.add_comm]
       cases o with
       | sl r =>
        cases r with
        | o h1 =>
         have hh0 : hh = 0 := by simpa using hhle
         subst hh0
         have hl0 : l = 0 := by omega
         subst hl0
         refine ⟨?_, ?_⟩
         ·have b1 := (As hb1).1
          have b2 := (As hb2).1
          simp only [List.length_nil] at b1
          simp only [er, h1, Ej, he, Option.map_none, b1, b2]
          simp [PO, h1, RO]
         ·simp only [List.drop_nil, List.take_nil]
          exact .sl (.o (by simp [PO, h1, RO]))
        | l a c h1 h2 h3 h4 =>
         rcases h3 with ⟨rfl, rfl⟩ | ⟨b, off, w, k, cs, rfl, e2, e3, e4, e5, e7, e6⟩
         ·have hh0 : hh = 0 := by simpa using hhle
          subst hh0
          have hl0 : l = 0 := by omega
          subst hl0
          refine ⟨?_, ?_⟩
          ·simp only [er, h1, Ej, he, Option.map_none, Oo, (As hb1).1, (As hb2).1]
           simp [PO, h1, RO]
          ·refine .sl (.l none 0 (by simp [PO, h1, RO]) (by simp) (.inl ⟨rfl, by simp⟩) (by simp))
         ·refine ⟨?_, ?_⟩
          ·simp only [er, h1, Ej, he, Option.map_none, Oo, (As hb1).1, (As hb2).1, e4]
           rw [if_neg (by simp), if_pos (by cases w with | false => exact .inl rfl | true => exact .inr (e5 rfl))]
           simp [PO, h1, RO]
          ·refine .sl (.l (some ⟨b, off + l * sz, none⟩) (hh - l) (by simp only [PO, h1, RO, hlen]) (fun e he => h2 e (List.mem_of_mem_drop (List.mem_of_mem_take he))) (.inr ⟨b, off + l * sz, w, k, cs, rfl, e2, e3, e4, e5, ?_, fun i j hi hj => ?_⟩) fun i j t ht => ?_)
           ·rcases Nat.eq_zero_or_pos l with hl0 | hl0
            ·subst hl0; simpa using e7
            ·rcases Nat.eq_zero_or_pos sz with hz0 | hz0
             ·subst hz0; simpa using e7
             ·obtain ⟨hh2, _⟩ := List.getElem?_eq_some_iff.1 (e6 (l - 1) (sz - 1) (by omega) (by omega))
              have : l * sz = (l - 1) * sz + sz := by
               rw [← Nat.succ_mul]; congr 1; omega
              omega
           ·rw [hlen] at hi
            have := e6 (i + l) j (by omega) hj
            have e : off + l * sz + i * sz + j = off + (i + l) * sz + j := by rw [Nat.add_mul]; omega
            rw [e, this]; rfl
           ·by_cases hi : i < hh - l
            ·rw [hgets i hi] at ht
             exact h4 (i + l) j t ht
            ·rw [List.getElem?_eq_none (by omega)] at ht; cases ht
      ·cases hx
     ·cases hx
    ·cases hx
   ·cases hx
  ·cases hx
theorem Tc {cs : List Value} {f : AQ} {z : Nat} : ∀ {es : List (List T)} {o k : Nat}, o ≤ cs.length → (∀ e ∈ es, e.length = z) → (∀ i j, i < es.length → j < z → cs[o + i * z + j]? = some (f [k + i, j])) →
  (∀ i j t, ((es[i]?).bind (·[j]?)) = some t → Ja h g (below f (k + i) j) t) → rd cs o (es.length * z) = some ((CC f k es).map er) ∧ ∀ x ∈ CC f k es, Ok h g x
 | [], o, k, h0, _, _, _ => by simp [rd, CC, h0]
 | e :: r, o, k, h0, h1, h2, h3 => by
  have hz : e.length = z := h1 e (by simp)
  have r1 : rd cs o z = some ((Gv (under f k) 0 e).map er) := by
   rw [← hz]
   refine X4 h0 (fun j t ht => ?_) (fun j t ht => ?_) (h := h) (g := g)
   ·obtain ⟨hj, _⟩ := List.getElem?_eq_some_iff.1 ht
    have := h2 0 j (by simp) (by omega)
    rw [Nat.zero_add]; simpa [under] using this
   ·have := h3 0 j t (by simpa using ht)
    rw [Nat.zero_add]; exact this
  have hoz : o + z ≤ cs.length := by
   unfold rd at r1; split at r1
   ·assumption
   ·cases r1
  obtain ⟨r2, r3⟩ := Tc (cs := cs) (f := f) (z := z) (es := r) (o := o + z) (k := k + 1) hoz (fun e he => h1 e (by simp [he])) (fun i j hi hj => by
   have := h2 (i + 1) j (by simpa using hi) hj
   rw [show o + z + i * z + j = o + (i + 1) * z + j by rw [Nat.add_mul]; omega, this, show k + (i + 1) = k + 1 + i by omega]) (fun i j t ht => by
   have := h3 (i + 1) j t (by simpa using ht)
   rw [show k + (i + 1) = k + 1 + i by omega] at this; exact this)
  refine ⟨?_, ?_⟩
  ·rw [List.length_cons, show (r.length + 1) * z = z + r.length * z by rw [Nat.add_mul]; omega, Vj r1 r2]
   simp [CC]
  ·intro x hx
   simp only [CC, List.mem_append] at hx
   rcases hx with hx | hx
   ·refine Xv (k := 0) (fun j t ht => ?_) x hx
    have := h3 0 j t (by simpa using ht)
    rw [Nat.zero_add]; exact this
   ·exact r3 x hx
theorem MG (s : S g h) {z m : Nat} {y : X} {l : List X} (o : Ok h g y) (hx : E0 g z y = some (m, l)) : Oj h z (er y) = some (m, l.map er) ∧ ∀ x ∈ l, Ok h g x := by
 unfold E0 at hx
 split at hx
 ·cases hx; exact ⟨rfl, by simp⟩
 ·rename_i a n c
  split at hx
  ·rename_i k hk
   obtain ⟨h1, h2, h3⟩ := s.row _ _ hk
   cases hr : Jl k.cs a.off (n * z) with
   | none => rw [hr] at hx; cases hx
   | some l' =>
    rw [hr] at hx; cases hx
    obtain ⟨e1, e2⟩ := JL hr
    exact ⟨by simp only [er, Oj, h2, e1]; rfl, fun x hx => h3 x (e2 x hx)⟩
  ·cases hx
 ·rename_i f z' es
  split at hx
  ·rename_i hz
   subst hz
   cases hx
   cases o with
   | sl r =>
    cases r with
    | o h1 => exact ⟨by simp only [er, h1]; rfl, by simp [CC]⟩
    | l a c h1 h2 h3 h4 =>
     rcases h3 with ⟨rfl, rfl⟩ | ⟨b, off, w, k, cs, rfl, e2, e3, e4, e5, e7, e6⟩
     ·exact ⟨by simp only [er, h1]; rfl, by simp [CC]⟩
     ·obtain ⟨r1, r2⟩ := Tc (h := h) (g := g) (k := 0) (f := f) e7 h2 (fun i j hi hj => by rw [Nat.zero_add]; exact e6 i j hi hj) (fun i j t ht => by rw [Nat.zero_add]; exact h4 i j t ht)
      exact ⟨by simp only [er, h1, Oj, e4, r1]; rfl, r2⟩
  ·cases hx
 ·cases hx
theorem KL : ∀ {l : List X} {bs : List UInt8}, Dr l = some bs → HT (l.map er) = some bs
 | [], bs, hb => by simpa [Dr, HT] using hb
 | x :: l, bs, hb => by
  cases x with
  | raw v =>
   simp only [Dr] at hb
   split at hb
   ·rename_i b r h1 h2
    cases hb
    simp only [List.map_cons, er, HT, h1, KL h2]
   ·cases hb
  | _ => cases hb
theorem P4 (s : S g h) {a d : TypeId} {x y : X} {g' : H2} (o : Ok h g x) (hx : NH P g a d x = some (y, g')) : ∃ h', HM P h a d (er x) = some (er y, h') ∧ S g' h' ∧ Ext g h g' h' ∧ Ok h' g' y := by
 unfold NH at hx
 split at hx
 ·rename_i h1 h2; cases hx; exact ⟨h, by simp only [er, HM, h1, h2], s, Ext.refl, .raw⟩
 ·rename_i h1 h2; cases hx; exact ⟨h, by simp only [er, HM, h1, h2], s, Ext.refl, .raw⟩
 ·rename_i h1 h2
  split at hx
  ·rename_i e b n l he hs
   split at hx
   ·rename_i bs hc hb
    cases hx
    obtain ⟨e1, e2⟩ := MG s o hs
    refine ⟨h, ?_, s, Ext.refl, .raw⟩
    simp only [HM, h1, h2, he, e1, hc, KL hb, er]
   ·cases hx
  ·cases hx
 ·rename_i b h1 h2
  split at hx
  ·rename_i e he
   split at hx
   ·rename_i hc
    split at hx
    ·rename_i hb
     cases hx
     obtain ⟨q1, q2⟩ := s.push (z := 1) (cs := b.data.toList.map fun x => X.raw (.int .u8 x.toNat)) (fun x hx => by
      obtain ⟨v, _, rfl⟩ := List.mem_map.1 hx; exact .raw)
     refine ⟨_, ?_, q1, q2, .raw⟩
     simp only [er, HM, h1, h2, he, hc, if_pos hb, s.n]
     congr 3
     simp [List.map_map, Function.comp_def, er]
    ·cases hx
   ·cases hx
  ·cases hx
 ·cases hx
theorem M6 (s : S g h) {t : TypeId} {x y r : X} {g' : H2} (ox : Ok h g x) (oy : Ok h g y) (hx : Gb P g t x y = some (r, g')) : ∃ h', EX P h t (er x) (er y) = some (er r, h') ∧ S g' h' ∧ Ext g h g' h' ∧ Ok h' g' r := by
 unfold Gb at hx
 split at hx
 ·rename_i a n c e sz by_ he
  split at hx
  ·rename_i m news z hs hz
   obtain ⟨s1, s2⟩ := MG s oy hs
   split at hx
   ·rename_i hc
    have hok := PZ s2 hc.2.2
    split at hx
    ·rename_i hm
     cases hx
     refine ⟨h, ?_, s, Ext.refl, .raw⟩
     simp only [er, EX, he, s1, hz]
     rw [if_pos ⟨hc.1, hc.2.1, hok⟩, if_pos hm]
    ·rename_i hm
     split at hx
     ·cases hx
      obtain ⟨q1, q2⟩ := s.push (z := sz + 1) s2
      refine ⟨_, ?_, q1, q2, .raw⟩
      simp only [er, EX, he, s1, hz, s.n]
      rw [if_pos ⟨hc.1, hc.2.1, hok⟩, if_neg hm]
     ·rename_i a
      split at hx
      ·rename_i k hk
       obtain ⟨k1, k2, k3⟩ := s.row _ _ hk
       split at hx
       ·rename_i hk4
        cases hr : Jl k.cs 0 (n * (sz + 1)) with
        | none => rw [hr] at hx; cases hx
        | some olds =>
         rw [hr] at hx; cases hx
         obtain ⟨e1, e2⟩ := JL hr
         obtain ⟨q1, q2⟩ := s.kill hk
         obtain ⟨p1, p2⟩ := q1.push (z := sz + 1) (cs := olds ++ news) (fun x hx => by
          rcases List.mem_append.1 hx with hx | hx
          ·exact (k3 x (e2 x hx)).mono q2
          ·exact (s2 x hx).mono q2)
         refine ⟨_, ?_, p1, q2.trans p2, .raw⟩
         simp only [er, EX, he, s1, hz, k2]
         rw [if_pos ⟨hc.1, hc.2.1, hok⟩, if_neg hm, if_pos ⟨trivial, hk4.1, hk4.2⟩, e1]
         simp [s.n, Heap.kill]
       ·cases hx
      ·cases hx
   ·cases hx
  ·cases hx
 ·cases hx
theorem Dm : ∀ {xs : List X} {l : List Value}, Gy xs = some l → xs.map er = l
 | [], l, hl => by simp [Gy] at hl; simp [hl]
 | x :: xs, l, hl => by
  cases x with
  | raw v =>
   simp only [Gy] at hl
   cases hr : Gy xs with
   | none => rw [hr] at hl; cases hl
   | some r => rw [hr] at hl; cases hl; simp [er, Dm hr]
  | _ => cases hl
theorem Lj (s : S g h) {b : Builtin} {ts : List TypeId} {xs : List X} {y : X} {g' : H2} (o : ∀ x ∈ xs, Ok h g x) (hx : B1 P g b ts xs = some (y, g')) :
  ∃ h', BX P h b ts (xs.map er) = some (er y, h') ∧ S g' h' ∧ Ext g h g' h' ∧ Ok h' g' y := by
 unfold B1 at hx
 split at hx
 ·split at hx
  ·rename_i hc; cases hx; exact ⟨h, by simp only [List.map_cons, List.map_nil, er, BX, hc], s, Ext.refl, .raw⟩
  ·cases hx
 ·split at hx
  ·rename_i hc; cases hx; exact ⟨h, by simp only [List.map_cons, List.map_nil, er, BX, hc], s, Ext.refl, .raw⟩
  ·cases hx
 ·split at hx
  ·rename_i hc; cases hx
   refine ⟨h, ?_, s, Ext.refl, .raw⟩
   rcases (o _ List.mem_cons_self).slV with ⟨a, c, e⟩ | ⟨e, rfl⟩ <;> simp only [List.map_cons, List.map_nil, er, e, BX, hc, List.length_nil, Int.natCast_zero]
  ·cases hx
 ·split at hx
  ·rename_i hc
   obtain ⟨h', h1, h2⟩ := M6 s (o _ (by simp)) (o _ (by simp)) hx
   exact ⟨h', by simp only [List.map_cons, List.map_nil, BX, hc, if_true, h1], h2⟩
  ·cases hx
 ·split at hx
  ·rename_i l hl
   cases hm : Bo mxI l with
   | none => rw [hm] at hx; cases hx
   | some v => rw [hm] at hx; cases hx; exact ⟨h, by simp only [Dm hl, BX, hm]; rfl, s, Ext.refl, .raw⟩
  ·cases hx
 ·split at hx
  ·rename_i l hl
   cases hm : Bo mnI l with
   | none => rw [hm] at hx; cases hx
   | some v => rw [hm] at hx; cases hx; exact ⟨h, by simp only [Dm hl, BX, hm]; rfl, s, Ext.refl, .raw⟩
  ·cases hx
 ·cases hx
theorem Qv (s : S g h) {t : TypeId} {l c y : X} {g' : H2} (hx : El P g t l c = some (y, g')) : ∃ h', E3 P h t (er l) (er c) = some (er y, h') ∧ S g' h' ∧ Ext g h g' h' ∧ Ok h' g' y := by
 unfold El at hx
 split at hx
 ·rename_i l c e sz by_ he
  split at hx
  ·rename_i z hz
   split at hx
   ·rename_i hc
    cases hx
    obtain ⟨q1, q2⟩ := s.push (z := sz) (cs := (repL l.toNat z).map .raw) Gc
    refine ⟨_, ?_, q1, q2, .raw⟩
    simp only [er, E3, he, hz]
    rw [if_pos hc, DN, s.n]
   ·cases hx
  ·cases hx
 ·cases hx
end Go.Bi
namespace Go.Bi
open Go.Ai
variable {P : Program} {g : H2} {h : Heap}
theorem HG {place : Nat → Option (Nat × Nat)} {e : E2} (o : ∀ t, Ok h g (e t)) : ∀ {ps : List (Nat × Operand)} {cs l : List X}, (∀ x ∈ cs, Ok h g x) → Em place e ps cs = some l →
  Aw place e.er ps (cs.map er) = some (l.map er) ∧ ∀ x ∈ l, Ok h g x
 | [], cs, l, h0, hf => by simp only [Em] at hf; cases hf; exact ⟨rfl, h0⟩
 | (i, x) :: r, cs, l, h0, hf => by
  simp only [Em] at hf
  have oo : Ok h g (e.op x) := by
   cases x with
   | tmp t => exact o t
   | const v => exact Ye v
   | global _ => exact .raw
   | func _ => exact .raw
  split at hf
  ·rename_i off n vs hp hc
   obtain ⟨c1, c2⟩ := HU oo hc
   split at hf
   ·rename_i hv
    split at hf
    ·rename_i cs' hw
     obtain ⟨w1, w2⟩ := No hw
     obtain ⟨f1, f2⟩ := HG o (fun x hx => (w2 x hx).elim (h0 x) (c2 x)) hf
     refine ⟨?_, f2⟩
     simp only [Aw, hp, ← CQ, c1]
     rw [if_pos (by simpa using hv), w1]; exact f1
    ·cases hf
   ·cases hf
  ·cases hf
theorem NX {x : X} {t : T} (o : Ok h g x) (ht : Jc x = some t) {f : AQ} (hf : ∀ p, f p = Qe p x) : Ja h g f t := by
 cases o with
 | raw =>
  simp only [Jc] at ht
  split at ht
  ·cases ht; exact .v (hf [])
  ·cases ht
 | sl r =>
  simp only [Jc] at ht; cases ht
  have : f = _ := funext hf
  rw [this]; exact r
 | _ => simp [Jc] at ht
theorem GC : ∀ {cs : List X} {ts : List T}, CR cs = some ts → ts.length = cs.length ∧ ∀ (i : Nat) (t : T), ts[i]? = some t → ∃ x, cs[i]? = some x ∧ Jc x = some t
 | [], ts, ht => by simp [CR] at ht; subst ht; simp
 | x :: cs, ts, ht => by
  simp only [CR] at ht
  split at ht
  ·rename_i t r h1 h2
   cases ht
   obtain ⟨e1, e2⟩ := GC h2
   refine ⟨by simp [e1], fun i t hi => ?_⟩
   cases i with
   | zero => simp at hi; subst hi; exact ⟨x, rfl, h1⟩
   | succ i => simp at hi; simpa using e2 i t hi
  ·cases ht
theorem GJ {z : Nat} : ∀ {n : Nat} {l : List T}, (chunk z n l).length = n
 | 0, l => rfl
 | n + 1, l => by simp [chunk, GJ]
theorem J3 {z : Nat} : ∀ {n : Nat} {l : List T}, l.length = n * z → ∀ e ∈ chunk z n l, e.length = z
 | 0, l, _, e, he => by simp [chunk] at he
 | n + 1, l, hl, e, he => by
  rw [Nat.add_mul] at hl
  simp only [chunk, List.mem_cons] at he
  rcases he with rfl | he
  ·simp; omega
  ·exact J3 (by simp; omega) e he
theorem Hr {z : Nat} : ∀ {n : Nat} {l : List T} {i j : Nat} {t : T}, ((chunk z n l)[i]?).bind (·[j]?) = some t → j < z ∧ l[i * z + j]? = some t
 | 0, l, i, j, t, ht => by simp [chunk] at ht
 | n + 1, l, 0, j, t, ht => by
  simp only [chunk, List.getElem?_cons_zero, Option.bind_some, List.getElem?_take] at ht
  split at ht
  ·rename_i hj; exact ⟨hj, by simpa using ht⟩
  ·cases ht
 | n + 1, l, i + 1, j, t, ht => by
  simp only [chunk, List.getElem?_cons_succ] at ht
  obtain ⟨h1, h2⟩ := Hr ht
  refine ⟨h1, ?_⟩
  rw [List.getElem?_drop] at h2
  rw [← h2]; congr 1; rw [Nat.add_mul]; omega
theorem UI (s : S g h) {n z : Nat} {cs : List X} (hl : cs.length = n * z) (o : ∀ x ∈ cs, Ok h g x) {y : X} {g' : H2} (hx : UD g n z cs = (y, g')) :
  er y = .slice (some ⟨h.n, 0, none⟩) n n ∧ S g' (h.push ⟨true, z, cs.map er⟩) ∧ Ext g h g' (h.push ⟨true, z, cs.map er⟩) ∧ Ok (h.push ⟨true, z, cs.map er⟩) g' y := by
 unfold UD at hx
 split at hx
 ·rename_i m ts hts
  cases hx
  obtain ⟨q1, q2⟩ := s.up (k' := ⟨true, z, cs.map er⟩)
  obtain ⟨t1, t2⟩ := GC hts
  refine ⟨by simp only [er, FY, s.n], q1, q2, .sl (.l (some ⟨g.n, 0, none⟩) (m + 1) (by simp only [FY, GJ]) (J3 (by rw [t1, hl])) (.inr ⟨g.n, 0, true, z, cs.map er, rfl, ?_, ?_, ?_, fun _ => rfl, Nat.zero_le _, fun i j hi hj => ?_⟩) fun i j t ht => ?_)⟩
  ·simp [Heap.push, s.n]
  ·simp only [H2.up]; rw [s.n]; exact s.fresh
  ·simp [Heap.push, s.n]
  ·rw [GJ] at hi
   have hlt : i * z + j < cs.length := by
    have : i * z + z ≤ (m + 1) * z := by rw [← Nat.succ_mul]; exact Nat.mul_le_mul_right z hi
    have h9 : cs.length = (m + 1) * z := hl
    omega
   rw [Nat.zero_add, List.getElem?_map, List.getElem?_eq_getElem hlt]
   simp only [Option.map_some, FY, List.getD_eq_getElem?_getD, List.getElem?_eq_getElem hlt, Option.getD_some]
   cases cs[i * z + j] <;> rfl
  ·obtain ⟨c1, c2⟩ := Hr ht
   obtain ⟨x, x1, x2⟩ := t2 _ _ c2
   refine NX ((o x (List.mem_of_getElem? x1)).mono q2) x2 fun p => ?_
   simp only [below, FY, List.getD_eq_getElem?_getD, x1, Option.getD_some]
 ·cases hx
  obtain ⟨q1, q2⟩ := s.push (z := z) o
  exact ⟨by simp only [er, s.n], q1, q2, .raw⟩
theorem Db {e : E2} (o : ∀ t, Ok h g (e t)) (x : Operand) : Ok h g (e.op x) := by
 cases x with
 | tmp t => exact o t
 | const v => exact Ye v
 | global _ => exact .raw
 | func _ => exact .raw
theorem Q7 {op : BinOp} {t : TypeId} {x y r : X} (ox : Ok h g x) (oy : Ok h g y) (hx : MV P op t x y = some r) : binV P op t (er x) (er y) = some (er r) ∧ Ok h g r := by
 unfold MV at hx
 split at hx
 ·obtain ⟨v, h1, rfl⟩ := Fo hx; exact ⟨h1, .raw⟩
 ·split at hx
  ·rename_i hc; cases hx
   refine ⟨?_, .raw⟩
   rcases ox.slV with ⟨a, c, e⟩ | ⟨e, _⟩
   ·simp only [er, e, binV, eqV, hc, Qt]
    cases a <;> simp
   ·simp only [er, e, binV, eqV, hc, Qt]; rfl
  ·rename_i hc; cases hx
   refine ⟨?_, .raw⟩
   rcases ox.slV with ⟨a, c, e⟩ | ⟨e, _⟩
   ·simp only [er, e, binV, eqV, hc, Qt]
    cases a <;> simp
   ·simp only [er, e, binV, eqV, hc, Qt]; rfl
  ·cases hx
 ·cases ox with
  | pr h1 h2 h3 h0 h4 h5 =>
   split at hx
   ·rename_i hc; cases hx
    exact ⟨by simp only [er, binV, eqV, hc]; rfl, .raw⟩
   ·rename_i hc; cases hx
    exact ⟨by simp only [er, binV, eqV, hc]; rfl, .raw⟩
   ·cases hx
 ·split at hx
  ·rename_i u v hu hv
   obtain ⟨w, h1, rfl⟩ := Fo hx
   refine ⟨?_, .raw⟩
   simp only [er, C0, Dm hu, Dm hv]
   exact h1
  ·cases hx
 ·cases hx
theorem Kw {n : Nat} {z : List Value} : (repL n z).length = n * z.length := by
 induction n with
 | zero => simp [repL]
 | succ n ih => rw [Wd, List.length_append, ih, Nat.add_mul]; omega
theorem XV {cs vs l : List X} {off : Nat} (hw : Cv cs off vs = some l) : l.length = cs.length := by
 unfold Cv at hw; split at hw
 ·cases hw; simp; omega
 ·cases hw
theorem NQ {place : Nat → Option (Nat × Nat)} {e : E2} : ∀ {ps : List (Nat × Operand)} {cs l : List X}, Em place e ps cs = some l → l.length = cs.length
 | [], cs, l, hf => by simp only [Em] at hf; cases hf; rfl
 | (i, x) :: r, cs, l, hf => by
  simp only [Em] at hf
  split at hf
  ·split at hf
   ·split at hf
    ·rename_i hw; rw [NQ hf, XV hw]
    ·cases hf
   ·cases hf
  ·cases hf
theorem VF {x : X} (o : Ok h g x) (hp : aV x = true) : ptrV (er x) = true := by
  cases o with
  | raw => rename_i v; cases v <;> try (cases hp; done)
           rename_i a; cases a <;> first | rfl | cases hp
  | pr => rfl
  | _ => cases hp
theorem Np {e : E2} (s : S g h) (o : ∀ t, Ok h g (e t)) {op : Op} {y : X} {g' : H2} (hx : Kk P e g op = some (y, g')) :
  ∃ h', C4 P e.er h op = some (er y, h') ∧ S g' h' ∧ Ext g h g' h' ∧ Ok h' g' y := by
 have stay : ∀ {r : Option X} {v : Option Value}, (∀ z, r = some z → v = some (er z) ∧ Ok h g z) → r.map (·, g) = some (y, g') → ∃ h', v.map (·, h) = some (er y, h') ∧ S g' h' ∧ Ext g h g' h' ∧ Ok h' g' y := by
  intro r v hrv hm
  cases r with
  | none => cases hm
  | some z => simp only [Option.map_some, Option.some.injEq, Prod.mk.injEq] at hm; obtain ⟨rfl, rfl⟩ := hm; obtain ⟨h1, h2⟩ := hrv _ rfl; exact ⟨h, by rw [h1]; rfl, s, Ext.refl, h2⟩
 unfold Kk at hx
 split at hx
 ·cases hx; exact ⟨h, by simp only [C4, ← CQ], s, Ext.refl, Db o _⟩
 ·cases hx; exact ⟨h, by simp only [C4, ← CQ], s, Ext.refl, Db o _⟩
 ·split at hx
  ·rename_i hc; cases hx; exact ⟨h, by simp only [C4, ← CQ, hc, er], s, Ext.refl, Db o _⟩
  ·rename_i hc; cases hx; exact ⟨h, by simp only [C4, ← CQ, hc, er], s, Ext.refl, Db o _⟩
  ·cases hx
 ·split at hx
  ·rename_i z n hz hn
   cases hx
   obtain ⟨q1, q2⟩ := s.push (z := n) (cs := z.map .raw) Gc
   refine ⟨_, ?_, q1, q2, .raw⟩
   simp only [C4, hz, hn, SW, er, DN, s.n]
  ·cases hx
 ·split at hx
  ·rename_i cs n hc hn
   cases hx
   obtain ⟨c1, c2⟩ := HU (Db o _) hc
   obtain ⟨q1, q2⟩ := s.push (z := n) c2
   refine ⟨_, ?_, q1, q2, .raw⟩
   simp only [C4, ← CQ, c1, hn, SW, er, s.n]
  ·cases hx
 ·split at hx
  ·rename_i z hz
   split at hx
   ·rename_i hb
    generalize hf : Em _ _ _ _ = r at hx
    cases r with
    | none => cases hx
    | some l =>
     cases hx
     obtain ⟨f1, f2⟩ := HG o Gc hf
     rw [DN] at f1
     refine ⟨h, ?_, s, Ext.refl, .st f2⟩
     simp only [C4, hz, if_pos hb, f1, er, C0]; rfl
   ·cases hx
  ·cases hx
 ·split at hx
  ·rename_i u sz by_ he
   split at hx
   ·rename_i z hz
    split at hx
    ·rename_i hc
     generalize hf : Em _ _ _ _ = r at hx
     cases r with
     | none => cases hx
     | some l =>
      have hx := Option.some.inj hx
      have hlen := NQ hf
      obtain ⟨f1, f2⟩ := HG o Gc hf
      rw [DN] at f1
      obtain ⟨l1, l2, l3, l4⟩ := UI s (n := _) (z := sz) (cs := l) (by rw [hlen, List.length_map, Kw, hc.2.1]) f2 hx
      refine ⟨_, ?_, l2, l3, l4⟩
      simp only [C4, he, hz, if_pos hc, f1, l1]; rfl
    ·cases hx
   ·cases hx
  ·cases hx
 ·simp only [C4, ← CQ]
  exact stay (fun z hz => KU s (Db o _) hz) hx
 ·generalize hf : IT _ _ _ _ _ = r at hx
  cases r with
  | none => cases hx
  | some g2 =>
   cases hx
   obtain ⟨h', s1, s2, s3⟩ := OD s (Db o _) hf
   exact ⟨h', by simp only [C4, ← CQ, s1]; rfl, s2, s3, .raw⟩
 ·split at hx
  ·rename_i hp
   cases hx
   refine ⟨h, ?_, s, Ext.refl, Db o _⟩
   simp only [C4, ← CQ]; rw [if_pos (VF (Db o _) hp)]
  ·cases hx
 ·simp only [C4, ← CQ]
  exact stay (fun z hz => Q7 (Db o _) (Db o _) hz) hx
 ·simp only [C4, ← CQ]
  refine stay (fun z hz => ?_) hx
  unfold fe at hz
  split at hz
  ·rename_i heq
   obtain ⟨v, h1, rfl⟩ := Fo hz
   rw [heq]
   exact ⟨h1, .raw⟩
  ·cases hz
 ·simp only [C4, ← CQ]
  exact P4 s (Db o _) hx
 ·split at hx
  ·rename_i l hl
   split at hx
   ·rename_i hc
    cases hx
    refine ⟨h, ?_, s, Ext.refl, .raw⟩
    have hr := Dm hl
    rw [List.map_map, show (Bi.er ∘ e.op) = e.er.op from funext fun x => CQ e x] at hr
    simp only [C4]
    rw [if_pos ⟨hc.1, by have := hc.2; rw [← hr] at this; simpa using this⟩, ← hr]
    simp only [er]
    congr 3
    apply Array.ext'; simp
   ·cases hx
  ·cases hx
 ·simp only [C4, ← CQ]
  exact Qv s hx
 ·simp only [C4]
  refine stay (fun z hz => ?_) hx
  have := PR s (Db o _) hz
  simp only [Option.map_map, show (Bi.er ∘ e.op) = e.er.op from funext fun x => CQ e x, CQ] at this
  exact this
 ·simp only [C4, ← CQ]
  exact stay (fun z hz => Jp (Db o _) hz) hx
 ·simp only [C4, ← CQ]
  refine stay (fun z hz => ?_) hx
  have oo := Db o (x := ‹Operand›)
  unfold W5 at hz
  split at hz
  ·rename_i cs p heq hf
   rw [heq] at oo ⊢
   cases oo with
   | st hcs =>
    simp only [er, C0, L9, hf]
    obtain ⟨off, n, b⟩ := p
    cases b with
    | true =>
     simp only [WX] at hz
     cases hr : Jl cs off n with
     | none => rw [hr] at hz; cases hz
     | some l =>
      rw [hr] at hz; cases hz
      obtain ⟨e1, e2⟩ := JL hr
      exact ⟨by simp only [Ns, e1]; simp [er, C0], .st fun x hx => hcs x (e2 x hx)⟩
    | false =>
     simp only [WX] at hz
     exact ⟨by simp only [Ns, List.getElem?_map, hz]; rfl, hcs _ (List.mem_of_getElem? hz)⟩
  ·cases hz
 ·simp only [C4, ← CQ]
  exact stay (fun z hz => Jj (Db o _) hz) hx
 ·simp only [C4, ← CQ]
  refine stay (fun z hz => ?_) hx
  unfold XO at hz
  split at hz
  ·rename_i h1 h2
   obtain ⟨v, h3, rfl⟩ := Fo hz
   rw [h1, h2]
   exact ⟨h3, .raw⟩
  ·cases hz
 ·simp only [C4, ← CQ]
  refine stay (fun z hz => ?_) hx
  have oo := Db o (x := ‹Operand›)
  unfold EG at hz
  split at hz
  ·rename_i vs heq
   rw [heq] at oo ⊢
   cases oo with
   | tp hcs => exact ⟨by simp [er, C0, HN, hz], hcs _ (List.mem_of_getElem? hz)⟩
  ·cases hz
 ·obtain ⟨h', b1, b2⟩ := Lj s (xs := List.map e.op _) (fun x hx => by obtain ⟨q, _, rfl⟩ := List.mem_map.1 hx; exact Db o q) hx
  rw [List.map_map, show (Bi.er ∘ e.op) = e.er.op from funext fun x => CQ e x] at b1
  exact ⟨h', by simp only [C4]; exact b1, b2⟩
 ·cases hx
end Go.Bi
namespace Go.Bi
open Go.Ai
variable {P : Program} {W0 : World}
def A7 (P : Program) (W0 : World) (f : FuncId) (xs : List X) (g : H2) (K : X → H2 → Prop) : Prop :=
 ∀ h, S g h → (∀ x ∈ xs, Ok h g x) → WC P W0 f (xs.map er) h fun v h' => ∃ x g', v = er x ∧ S g' h' ∧ Ext g h g' h' ∧ Ok h' g' x ∧ K x g'
theorem A7.mono {f : FuncId} {xs : List X} {g : H2} {K K' : X → H2 → Prop} (c : A7 P W0 f xs g K) (hk : ∀ x g', K x g' → K' x g') : A7 P W0 f xs g K' :=
 fun h s o => (c h s o).mono fun v h' ⟨x, g', h1, h2, h3, h4, h5⟩ => ⟨x, g', h1, h2, h3, h4, hk _ _ h5⟩
abbrev Q2 := Ex → E2 → H2 → Prop
def Cy (e : E2) : Op → Option (FuncId × List X)
 | .call { callee := .value f, args := xs, argTypes := _ } =>
  match e.op f with
  | .raw (.func (.func g) first caps) => if first.size = 0 then some (g, xs.toList.map e.op ++ caps.toList.map .raw) else none
  | _ => none
 | _ => none
def V0 (want : Bool) : X → Option Bool
 | .raw (.bool b) => some (b == want)
 | .raw (.tuple _) => some false
 | _ => none
def Dn (ops : List Oper) (e : E2) : Option (Nat × Bool) → Option Bool
 | none => some true
 | some (j, want) => match Ba ops j with
  | none => some false
  | some t => V0 want (e t)
def Fm (r : Option (X × H2)) (K : X → H2 → Prop) : Prop := match r with | some (v, g) => K v g | none => False
def DJ (P : Program) (W0 : World) (e : E2) (g : H2) (o : Op) (K : X → H2 → Prop) : Prop :=
 match Cy e o with
 | some (f, args) => A7 P W0 f args g K
 | none => Fm (Kk P e g o) K
def M5 (P : Program) (W0 : World) (ops : List Oper) : List Oper → E2 → H2 → Q2 → Prop
 | [], e, g, Q => Q .normal e g
 | o :: r, e, g, Q => guarded (Dn ops e o.guard) (DJ P W0 e g o.op fun v g' => M5 P W0 ops r (e.putO o.dst v) g' Q) (M5 P W0 ops r (e.putO o.dst (.raw undef)) g Q)
def MT (P : Program) (l : List Oper) (q : Nat) (e : E2) (g : H2) : Prop := match l[q]? with
 | none => True
 | some o => match Dn l e o.guard with
  | some true => (match o.dst with | some d => CE P o.op = true ∧ Kk P e g o.op = some (e d, g) | none => False)
  | some false => True
  | none => False
def JG (P : Program) (W0 : World) (l : List Oper) : PT → E2 → H2 → Q2 → Prop
 | .nil, e, g, Q => Q .normal e g
 | .alt a b, e, g, Q => JG P W0 l a e g Q ∧ JG P W0 l b e g Q
 | .op i pd r, e, g, Q => match l[i]? with
  | none => False
  | some o => guarded (Dn l e o.guard) (DJ P W0 e g o.op fun v g' => (∀ q ∈ pd, MT P l q (e.putO o.dst v) g') ∧ JG P W0 l r (e.putO o.dst v) g' Q) (JG P W0 l r (e.putO o.dst (.raw undef)) g Q)
def bZ (K : E2 → H2 → Prop) (Q : Q2) : Q2
 | .normal, e, g => K e g
 | .ret, e, g => Q .ret e g
 | .exit j, e, g => Q (.exit j) e g
def FP (id : Nat) (Q : Q2) : Q2
 | .normal, e, g => Q .normal e g
 | .ret, e, g => Q .ret e g
 | .exit j, e, g => if j = id then Q .normal e g else Q (.exit j) e g
def IQ (I : Nat → E2 → H2 → Prop) (n : Nat) (Q : Q2) : Q2
 | .normal, e, g => ∃ m, m < n ∧ I m e g
 | .ret, e, g => Q .ret e g
 | .exit j, e, g => Q (.exit j) e g
def Tv (v : X) (A B : Prop) : Prop := match v with | .raw (.bool b) => gate b A B | _ => False
def UE : Option (List Nat) → E2 → E2
 | none, e => e
 | some ks, e => fun t => if ks.contains t then e t else .raw hole
def E8 (P : Program) (W0 : World) (cp : Nat → Option (List Nat)) : Code → E2 → H2 → Q2 → Prop
 | .skip, e, g, Q => Q .normal e g
 | .region id ops false, e, g, Q => M5 P W0 ops.toList ops.toList (UE (cp id) e) g Q
 | .region id ops true, e, g, Q => ∃ p, G5 P ops.toList p = true ∧ JG P W0 ops.toList p (UE (cp id) e) g Q
 | .seq a b, e, g, Q => E8 P W0 cp a e g (bZ (fun e g => E8 P W0 cp b e g Q) Q)
 | .cond c t f, e, g, Q => Tv (e.op c) (E8 P W0 cp t e g Q) (E8 P W0 cp f e g Q)
 | .block id b, e, g, Q => E8 P W0 cp b e g (FP id Q)
 | .loop b, e, g, Q => ∃ (I : Nat → E2 → H2 → Prop) (n : Nat), I n e g ∧ ∀ n e g, I n e g → E8 P W0 cp b e g (IQ I n Q)
 | .exit id, e, g, Q => Q (.exit id) e g
 | .ret, e, g, Q => Q .ret e g
 | _, _, _, _ => False
def Ko (P : Program) (g : H2) (e : E2) : List ResultVar → Option (List X)
 | [] => some []
 | .tmp t :: r => match Ko P g e r with
  | some l => some (e t :: l)
  | none => none
 | .cell a t :: r => match HH P g t (e a), Ko P g e r with
  | some v, some l => some (v :: l)
  | _, _ => none
def Bg : X → Bool
 | .tp _ => true
 | .raw (.tuple _) => true
 | _ => false
def VH (l : List X) : Option X := match l with
 | [v] => some v
 | l => if l.all (fun v => !Bg v) = true then some (.tp l) else none
def HX (xs : List X) : E2 := fun t => xs.getD t (.raw undef)
def Pm (r : Option (List X)) (g : H2) (K : X → H2 → Prop) : Prop := match r with
 | some l => match VH l with
  | some v => K v g
  | none => False
 | none => False
def Qu (P : Program) (rs : List ResultVar) (K : X → H2 → Prop) : Q2
 | .exit _, _, _ => False
 | .normal, e, g => Pm (Ko P g e rs) g K
 | .ret, e, g => Pm (Ko P g e rs) g K
structure Re (g0 : H2) (h0 : Heap) (e : E2) (g : H2) (e' : Env) (h : Heap) : Prop where
 env : e' = e.er
 s : S g h
 x : Ext g0 h0 g h
 ok : ∀ t, Ok h g (e t)
theorem Re.put {g0 g g' : H2} {h0 h h' : Heap} {e : E2} {e' : Env} (r : Re g0 h0 e g e' h) (s : S g' h') (x : Ext g h g' h') {d : Option Nat} {v : X} (ov : Ok h' g' v) : Re g0 h0 (e.putO d v) g' (e'.putO d (er v)) h' := by
 refine ⟨by rw [r.env, eG], s, r.x.trans x, fun t => ?_⟩
 cases d with
 | none => exact (r.ok t).mono x
 | some d =>
  simp only [E2.putO, E2.put]
  split
  ·exact ov
  ·exact (r.ok t).mono x
theorem EW {ops : List Oper} {e : E2} {g : Option (Nat × Bool)} {b : Bool} (hg : Dn ops e g = some b) : guardOf ops e.er g = some b := by
 unfold Dn at hg; unfold guardOf
 split at hg
 ·exact hg
 ·split at hg
  ·rename_i h1; simp only [h1]; exact hg
  ·rename_i t h1
   simp only [h1, E2.er]
   unfold V0 at hg
   split at hg
   ·rename_i h2; rw [h2]; exact hg
   ·rename_i h2; rw [h2]; exact hg
   ·cases hg
theorem QD {e : E2} {o : Op} {f : FuncId} {args : List X} (hc : Cy e o = some (f, args)) : B6 e.er o = some (f, args.map er) := by
 unfold Cy at hc
 split at hc
 ·rename_i fo xs ts
  split at hc
  ·rename_i fn first caps hfo
   split at hc
   ·rename_i h0
    cases hc
    have : e.er.op fo = .func (.func f) first caps := by rw [← CQ, hfo]; rfl
    simp only [B6, this, if_pos h0, List.map_append, List.map_map, show (er ∘ e.op) = e.er.op from funext fun x => CQ e x]
    congr 2
    simp [Function.comp_def, er]
   ·cases hc
  ·cases hc
 ·cases hc
theorem S6 {e : E2} {g : H2} {o : Op} {r : X × H2} (hx : Kk P e g o = some r) (e' : Env) : B6 e' o = none := by
 unfold Kk at hx
 split at hx <;> first | rfl | cases hx
theorem LO {g0 g : H2} {h0 h : Heap} {e : E2} {e' : Env} {o : Op} {K : X → H2 → Prop} {K' : Value → Heap → Prop} (r : Re g0 h0 e g e' h) (hv : DJ P W0 e g o K)
  (hk : ∀ x g' h', S g' h' → Ext g h g' h' → Ok h' g' x → K x g' → K' (er x) h') : H8 P W0 e' h o K' := by
 unfold DJ at hv
 obtain rfl := r.env
 split at hv
 ·rename_i f args hc
  unfold H8
  rw [QD hc]
  refine (hv h r.s fun x hx => ?_).mono fun v h' ⟨x, g', h1, h2, h3, h4, h5⟩ => by rw [h1]; exact hk x g' h' h2 h3 h4 h5
  unfold Cy at hc
  split at hc
  ·split at hc
   ·split at hc
    ·cases hc
     rcases List.mem_append.1 hx with hx | hx
     ·obtain ⟨q, _, rfl⟩ := List.mem_map.1 hx; exact Db r.ok q
     ·exact Gc x hx
    ·cases hc
   ·cases hc
  ·cases hc
 ·unfold Fm at hv
  split at hv
  ·rename_i v g' hx
   obtain ⟨h', h1, h2, h3, h4⟩ := Np r.s r.ok hx
   unfold H8
   rw [S6 hx]
   simp only [h1, andThen]
   exact hk v g' h' h2 h3 h4 hv
  ·cases hv
abbrev To (g0 : H2) (h0 : Heap) (Q : Q2) (Q' : QT) : Prop := ∀ x e g e' h, Re g0 h0 e g e' h → Q x e g → Q' x e' h
theorem Ie {g0 : H2} {h0 : Heap} {ops : List Oper} {Q : Q2} {Q' : QT} (hQ : To g0 h0 Q Q') : ∀ (l : List Oper) (e : E2) (g : H2) (e' : Env) (h : Heap), Re g0 h0 e g e' h → M5 P W0 ops l e g Q → YN P W0 ops l e' h Q'
 | [], e, g, e', h, r, hv => hQ _ _ _ _ _ r hv
 | o :: l, e, g, e', h, r, hv => by
  simp only [M5, guarded] at hv
  simp only [YN, guarded]
  split at hv
  ·rename_i b hb
   have := EW hb
   rw [← r.env] at this
   rw [this]
   refine ⟨fun hbt => ?_, fun hbf => ?_⟩
   ·exact LO r (hv.1 hbt) fun x g' h' s1 s2 s3 s4 => Ie hQ l _ _ _ _ (r.put s1 s2 s3) s4
   ·exact Ie hQ l _ _ _ _ (r.put r.s Ext.refl .raw) (hv.2 hbf)
  ·cases hv
theorem Oe {g0 g : H2} {h0 h : Heap} {e : E2} {e' : Env} (r : Re g0 h0 e g e' h) {l : List Oper} {q : Nat} (hs : MT P l q e g) : stays P l q e' h := by
 unfold MT at hs; unfold stays
 obtain rfl := r.env
 split at hs
 ·rename_i h1; simp only [h1]
 ·rename_i o h1
  simp only [h1]
  split at hs
  ·rename_i hg
   rw [EW hg]
   simp only
   split at hs
   ·rename_i d hd
    obtain ⟨h', o1, _, _, _⟩ := Np r.s r.ok hs.2
    have := (Ey hs.1 o1).1
    simp only [hd]; rw [o1, this]; rfl
   ·cases hs
  ·rename_i hg; rw [EW hg]; trivial
  ·cases hs
theorem En {g0 : H2} {h0 : Heap} {l : List Oper} {Q : Q2} {Q' : QT} (hQ : To g0 h0 Q Q') : ∀ (p : PT) (e : E2) (g : H2) (e' : Env) (h : Heap), Re g0 h0 e g e' h → JG P W0 l p e g Q → ES P W0 l p e' h Q'
 | .nil, e, g, e', h, r, hv => hQ _ _ _ _ _ r hv
 | .alt a b, e, g, e', h, r, hv => ⟨En hQ a _ _ _ _ r hv.1, En hQ b _ _ _ _ r hv.2⟩
 | .op i pd p, e, g, e', h, r, hv => by
  simp only [JG] at hv
  simp only [ES]
  split at hv
  ·cases hv
  ·rename_i o ho
   unfold guarded at hv ⊢
   split at hv
   ·rename_i b hb
    have := EW hb
    rw [← r.env] at this
    simp only [ho, this]
    refine ⟨fun hbt => ?_, fun hbf => ?_⟩
    ·refine LO r (hv.1 hbt) fun x g' h' s1 s2 s3 s4 => ?_
     have r' := r.put s1 s2 (d := o.dst) s3
     exact ⟨fun q hq => Oe r' (s4.1 q hq), En hQ p _ _ _ _ r' s4.2⟩
    ·exact En hQ p _ _ _ _ (r.put r.s Ext.refl .raw) (hv.2 hbf)
   ·cases hv
theorem Re.cut {g0 g : H2} {h0 h : Heap} {e : E2} {e' : Env} (r : Re g0 h0 e g e' h) (o : Option (List Nat)) : Re g0 h0 (UE o e) g (Rq o e') h := by
 obtain rfl := r.env
 cases o with
 | none => exact r
 | some ks =>
  refine ⟨?_, r.s, r.x, fun t => ?_⟩
  ·funext t; simp only [Rq, dR, UE, E2.er]; split <;> rfl
  ·simp only [UE]; split
   ·exact r.ok t
   ·exact .raw
theorem DI {g0 : H2} {h0 : Heap} {cp : Nat → Option (List Nat)} : ∀ (c : Code) (Q : Q2) (Q' : QT), To g0 h0 Q Q' → ∀ (e : E2) (g : H2) (e' : Env) (h : Heap), Re g0 h0 e g e' h → E8 P W0 cp c e g Q → Qx P W0 ⟨gZ P W0, cp⟩ c e' h Q'
 | .skip, Q, Q', hQ, e, g, e', h, r, hv => hQ _ _ _ _ _ r hv
 | .region id ops false, Q, Q', hQ, e, g, e', h, r, hv => Ie hQ _ _ _ _ _ (r.cut _) hv
 | .region id ops true, Q, Q', hQ, e, g, e', h, r, hv => by
  obtain ⟨p, h1, h2⟩ := hv
  exact ⟨p, h1, En hQ _ _ _ _ _ (r.cut _) h2⟩
 | .seq a b, Q, Q', hQ, e, g, e', h, r, hv => by
  refine DI a _ _ ?_ e g e' h r hv
  intro x e g e' h r hq
  cases x with
  | normal => exact DI b Q Q' hQ e g e' h r hq
  | ret => exact hQ _ _ _ _ _ r hq
  | exit j => exact hQ _ _ _ _ _ r hq
 | .cond c t f, Q, Q', hQ, e, g, e', h, r, hv => by
  simp only [E8, Tv] at hv
  simp only [Qx, Tr]
  split at hv
  ·rename_i b hb
   have : e'.op c = .bool b := by rw [r.env, ← CQ, hb]; rfl
   rw [this]
   exact ⟨fun hb => DI t Q Q' hQ e g e' h r (hv.1 hb), fun hb => DI f Q Q' hQ e g e' h r (hv.2 hb)⟩
  ·cases hv
 | .block id b, Q, Q', hQ, e, g, e', h, r, hv => by
  refine DI b _ _ ?_ e g e' h r hv
  intro x e g e' h r hq
  cases x with
  | normal => exact hQ _ _ _ _ _ r hq
  | ret => exact hQ _ _ _ _ _ r hq
  | exit j =>
   simp only [FP] at hq
   simp only [Ia]
   split at hq
   ·rename_i hj; rw [if_pos hj]; exact hQ _ _ _ _ _ r hq
   ·rename_i hj; rw [if_neg hj]; exact hQ _ _ _ _ _ r hq
 | .loop b, Q, Q', hQ, e, g, e', h, r, hv => by
  obtain ⟨I, n, h1, h2⟩ := hv
  refine ⟨fun n e' h => ∃ e g, Re g0 h0 e g e' h ∧ I n e g, n, ⟨e, g, r, h1⟩, ?_⟩
  rintro n e' h ⟨e, g, r, hI⟩
  refine DI b _ _ ?_ e g e' h r (h2 n e g hI)
  intro x e g e' h r hq
  cases x with
  | normal => obtain ⟨m, hm, hq⟩ := hq; exact ⟨m, hm, e, g, r, hq⟩
  | ret => exact hQ _ _ _ _ _ r hq
  | exit j => exact hQ _ _ _ _ _ r hq
 | .exit id, Q, Q', hQ, e, g, e', h, r, hv => hQ _ _ _ _ _ r hv
 | .ret, Q, Q', hQ, e, g, e', h, r, hv => hQ _ _ _ _ _ r hv
 | .rangeFunc .., _, _, _, _, _, _, _, _, hv => by simp [E8] at hv
 | .scope .., _, _, _, _, _, _, _, _, hv => by simp [E8] at hv
 | .label .., _, _, _, _, _, _, _, _, hv => by simp [E8] at hv
 | .goto .., _, _, _, _, _, _, _, _, hv => by simp [E8] at hv
 | .refuse .., _, _, _, _, _, _, _, _, hv => by simp [E8] at hv
theorem IS {g0 g : H2} {h0 h : Heap} {e : E2} {e' : Env} (r : Re g0 h0 e g e' h) : ∀ {rs : List ResultVar} {l : List X}, Ko P g e rs = some l → IA P h e' rs = some (l.map er) ∧ ∀ x ∈ l, Ok h g x
 | [], l, hl => by simp only [Ko] at hl; cases hl; exact ⟨rfl, by simp⟩
 | .tmp t :: rs, l, hl => by
  simp only [Ko] at hl
  split at hl
  ·rename_i l0 h0
   cases hl
   obtain ⟨h1, h2⟩ := IS r h0
   simp only [IA, h1]
   exact ⟨by rw [r.env]; rfl, fun x hx => by
    rcases List.mem_cons.1 hx with rfl | hx
    ·exact r.ok t
    ·exact h2 x hx⟩
  ·cases hl
 | .cell a t :: rs, l, hl => by
  simp only [Ko] at hl
  split at hl
  ·rename_i v l0 hv h0
   cases hl
   obtain ⟨h1, h2⟩ := IS r h0
   obtain ⟨v1, v2⟩ := KU r.s (r.ok a) hv
   have : e' a = er (e a) := by rw [r.env]; rfl
   simp only [IA, h1, this, v1]
   exact ⟨rfl, fun x hx => by
    rcases List.mem_cons.1 hx with rfl | hx
    ·exact v2
    ·exact h2 x hx⟩
  ·cases hl
theorem Ug {g : H2} {h : Heap} {x : X} (o : Ok h g x) (hx : Bg x = false) : QV (er x) = false := by
 cases o with
 | raw => rename_i v; cases v <;> first | rfl | (simp [Bg] at hx)
 | sl r => rcases (Ok.sl r).slV with ⟨a, c, e⟩ | ⟨e, _⟩ <;> (simp only [er, e]; rfl)
 | pr => rfl
 | st => rfl
 | tp => simp [Bg] at hx
theorem SB {g : H2} {h : Heap} {l : List X} (o : ∀ x ∈ l, Ok h g x) {x : X} (hx : VH l = some x) : Z1 (l.map er) = some (er x) ∧ Ok h g x := by
 unfold VH at hx
 split at hx
 ·cases hx; exact ⟨rfl, o _ (by simp)⟩
 ·rename_i hne
  split at hx
  ·rename_i ht
   cases hx
   refine ⟨?_, .tp o⟩
   unfold Z1
   split
   ·rename_i v hv
    exfalso
    match l, hv with
    | [y], _ => exact hne y rfl
   ·rw [if_pos, er, C0]
    rw [List.all_eq_true] at ht ⊢
    intro v hv
    obtain ⟨y, hy, rfl⟩ := List.mem_map.1 hv
    have := ht y hy
    rw [Ug (o y hy) (by simpa using this)]; rfl
  ·cases hx
theorem ZK (xs : List X) : (HX xs).er = DE (xs.map er) := by
 funext t
 simp only [E2.er, HX, DE, List.getD_eq_getElem?_getD, List.getElem?_map]
 cases xs[t]? <;> rfl
theorem Pv {cp : Nat → Option (List Nat)} (hm : P.follows .mixedOrders = true) {f : FuncId} {fn : Func} {c : Code} (hf : P.funcs[f]? = some fn) (hb : fn.body = some c)
  (hn : (fn.name != "runtime.NumGoroutine") = true) (hok : Bc fn.ntmps (fun _ => true) c = true) {xs : List X} {g : H2} (hlen : xs.length ≤ fn.ntmps) {K : X → H2 → Prop}
  (hv : (∀ b, g.n ≤ b → g.get b = none) → E8 P W0 cp c (HX xs) g (Qu P fn.results.toList K)) : A7 P W0 f xs g K := by
 intro h s o
 have hwf : ∀ b, g.n ≤ b → g.get b = none := fun b hb => by
  cases hk : g.get b with
  | none => rfl
  | some k => have := (s.row _ _ hk).1; rw [s.n] at hb; omega
 refine Lk (D := ⟨gZ P W0, cp⟩) (VC hm) hf hb hn hok (by simpa using hlen) ?_
 refine DI (g0 := g) (h0 := h) c _ _ ?_ (HX xs) g _ h ⟨(ZK xs).symm, s, Ext.refl, fun t => ?_⟩ (hv hwf)
 ·intro x e g' e' h' r hq
  have fin : Pm (Ko P g' e fn.results.toList) g' K → Rt (IA P h' e' fn.results.toList) h' fun v h' => ∃ x g', v = er x ∧ S g' h' ∧ Ext g h g' h' ∧ Ok h' g' x ∧ K x g' := by
   intro hq
   unfold Pm at hq
   split at hq
   ·rename_i l hl
    obtain ⟨r1, r2⟩ := IS r hl
    split at hq
    ·rename_i y hy
     obtain ⟨o1, o2⟩ := SB r2 hy
     simp only [Rt, r1, o1]
     exact ⟨y, g', rfl, r.s, r.x, o2, hq⟩
    ·cases hq
   ·cases hq
  cases x with
  | normal => exact fin hq
  | ret => exact fin hq
  | exit j => exact hq
 ·simp only [HX, List.getD_eq_getElem?_getD]
  cases hx : xs[t]? with
  | none => exact .raw
  | some x => exact o x (List.mem_of_getElem? hx)
end Go.Bi
end
