/- The abstract machine, part 12: what code must meet, as rules for rewriting. A term that bears a 'Hold' is not looked into: so only what stands at the head is rewritten. Nothing about the program stands here. -/
import Derived.Test.YtdakdjpndomdpaaAi11
set_option linter.unusedVariables false
set_option linter.unusedSimpArgs false
namespace Go.Ai

/-- A mark that keeps 'simp' out of what it names. -/
inductive Hold {α : Type} (a : α) : Type
  | mk
abbrev KT := Value → Heap → Prop

def look (e : Env) (t : Nat) (_ : Hold e) : Value := e t
def opz (e : Env) (x : Operand) (_ : Hold e) : Value := e.op x
def lookL (e : Env) (l : List Operand) (_ : Hold e) : List Value := l.map e.op
def hg (h : Heap) (b : Nat) (_ : Hold h) : Option Blk := h.get b
def hn (h : Heap) (_ : Hold h) : Nat := h.n

section
variable (P : Program) (W0 : World) (D : Rules)
def cz (c : Code) (e : Env) (h : Heap) (Q : QT) (_ : Hold (c, e, h, Q, D)) : Prop := vcC P W0 D c e h Q
def qz (Q : QT) (x : Ex) (e : Env) (h : Heap) (_ : Hold (Q, e, h)) : Prop := Q x e h
def oz (ops l : List Oper) (e : Env) (h : Heap) (Q : QT) (_ : Hold (ops, l, e, h, Q)) : Prop := vcO P W0 ops l e h Q
def xz (o : Op) (e : Env) (h : Heap) (K : KT) (_ : Hold (o, e, h, K)) : Prop := opO P W0 e h o K
def wz (f : FuncId) (a : List Value) (h : Heap) (K : KT) (_ : Hold (h, K)) : Prop := WC P W0 f a h K
def lz (b : Code) (e : Env) (h : Heap) (Q : QT) (_ : Hold (b, e, h, Q, D)) : Prop := vcC P W0 D (.loop b) e h Q
def drz (l : List Oper) (e : Env) (h : Heap) (Q : QT) (_ : Hold (l, e, h, Q, D)) : Prop := D.d l e h Q
def rz (e : Env) (h : Heap) (rs : List ResultVar) (_ : Hold (e, h)) : Option (List Value) := resH P h e rs
def seqK (b : Code) (Q : QT) : QT := seqQ (fun e h => vcC P W0 D b e h Q) Q
def oK (ops r : List Oper) (d : Option Tmp) (e : Env) (Q : QT) : KT := fun v h' => vcO P W0 ops r (e.putO d v) h' Q
end
def kz (K : KT) (v : Value) (h : Heap) (_ : Hold (K, h)) : Prop := K v h
def bz (o : Option Value) (h : Heap) (K : KT) (_ : Hold (h, K)) : Prop := match o with | some v => K v h | none => False
def az (o : Option (Value × Heap)) (K : KT) (_ : Hold K) : Prop := andThen o K
def sz (o : Option Heap) (K : KT) (_ : Hold K) : Prop := match o with | some h' => K undef h' | none => False
def gz (b : Bool) (A B : Prop) (_ : Hold (A, B)) : Prop := gate b A B
def gd (b : Option Bool) (A B : Prop) (_ : Hold (A, B)) : Prop := guarded b A B
def dz (v : Value) (A B : Prop) (_ : Hold (A, B)) : Prop := condV v A B
def ez (r : Option (List Value)) (h : Heap) (K : KT) (_ : Hold (h, K)) : Prop := endH r h K
def nz (cs : Option (List Value)) (n : Option Nat) (h : Heap) (K : KT) (_ : Hold (h, K)) : Prop := match cs, n with | some cs, some n => K (.pointer (some ⟨h.n, 0, none⟩)) (h.push ⟨true, n, cs⟩) | _, _ => False
def roz (r : Option (List Value)) (z n : Nat) (h : Heap) (K : KT) (_ : Hold (h, K)) : Prop := match r with | some l => K (.slice (some ⟨h.n, 0, none⟩) n n) (h.push ⟨true, z, l⟩) | none => False
def dyz (P : Program) (W0 : World) (v : Value) (xs : List Value) (h : Heap) (K : KT) (_ : Hold (h, K)) : Prop := match v with | .func (.func g) first caps => if first.size = 0 then WC P W0 g (xs ++ caps.toList) h K else False | _ => False

variable {P : Program} {W0 : World} {D : Rules} {e : Env} {h : Heap} {Q : QT} {K : KT}

/-! ### Slots and heaps -/
/-- One of two. -/
def pk (b : Bool) (v : Value) (e : Env) (t : Nat) (_ : Hold (v, e)) : Value := match b with | true => v | false => e t
theorem pk_t {v : Value} {t : Nat} : pk true v e t .mk = v := rfl
theorem pk_f {v : Value} {t : Nat} : pk false v e t .mk = look e t .mk := rfl
theorem look_put {d t : Nat} {v : Value} : look (e.put d v) t .mk = pk (t == d) v e t .mk := by
  simp only [look, Env.put, pk]; by_cases ht : t = d
  · simp [ht]
  · have : (t == d) = false := by simp [ht]
    rw [if_neg ht, this]
theorem look_putO {d t : Nat} {v : Value} : look (e.putO (some d) v) t .mk = pk (t == d) v e t .mk := look_put
theorem look_putN {t : Nat} {v : Value} : look (e.putO none v) t .mk = look e t .mk := rfl
def hk (b : Bool) (o : Option Blk) (h : Heap) (c : Nat) (_ : Hold (o, h)) : Option Blk := match b with | true => o | false => h.get c
theorem hk_t {o : Option Blk} {c : Nat} : hk true o h c .mk = o := rfl
theorem hk_f {o : Option Blk} {c : Nat} : hk false o h c .mk = hg h c .mk := rfl
theorem put_at {d t : Nat} {v : Value} : e.put d v t = if t = d then v else e t := rfl
theorem putO_at {d t : Nat} {v : Value} : e.putO (some d) v t = if t = d then v else e t := rfl
theorem putN_at {t : Nat} {v : Value} : e.putO none v t = e t := rfl
theorem root0 {v : Value} {l : List Value} : look (rootEnv (v :: l)) 0 .mk = v := rfl
theorem rootS {v : Value} {l : List Value} {n : Nat} : look (rootEnv (v :: l)) (n + 1) .mk = look (rootEnv l) n .mk := by simp [rootEnv, look]
theorem rootN {n : Nat} : look (rootEnv []) n .mk = undef := by simp [rootEnv, look]
theorem op_tmp {t : Nat} : opz e (.tmp t) .mk = look e t .mk := rfl
theorem op_const {v : Value} : opz e (.const v) .mk = v := rfl
theorem op_func {f : FuncId} : opz e (.func f) .mk = .func (.func f) #[] #[] := rfl
theorem lookL_nil : lookL e [] .mk = [] := rfl
theorem lookL_cons {x : Operand} {l : List Operand} : lookL e (x :: l) .mk = opz e x .mk :: lookL e l .mk := rfl
theorem hk_ite {b c : Nat} {o : Option Blk} : (if b = c then o else h.get b) = hk (b == c) o h b .mk := by
  unfold hk; by_cases hb : b = c
  · simp [hb]
  · have : (b == c) = false := by simp [hb]
    rw [if_neg hb, this]
theorem hg_push {k : Blk} {b : Nat} : hg (h.push k) b .mk = hk (b == hn h .mk) (some k) h b .mk := hk_ite
theorem hg_set {k : Blk} {b b' : Nat} : hg (h.set b' k) b .mk = hk (b == b') (some k) h b .mk := hk_ite
theorem hg_kill {b b' : Nat} : hg (h.kill b') b .mk = hk (b == b') none h b .mk := hk_ite
theorem hn_push {k : Blk} : hn (h.push k) .mk = hn h .mk + 1 := rfl
theorem hn_set {k : Blk} {b : Nat} : hn (h.set b k) .mk = hn h .mk := rfl
theorem hn_kill {b : Nat} : hn (h.kill b) .mk = hn h .mk := rfl

/-! ### Code -/
theorem c_skip : cz P W0 D .skip e h Q .mk = qz Q .normal e h .mk := rfl
theorem c_ret : cz P W0 D .ret e h Q .mk = qz Q .ret e h .mk := rfl
theorem c_exit {id : Nat} : cz P W0 D (.exit id) e h Q .mk = qz Q (.exit id) e h .mk := rfl
theorem c_seq {a b : Code} : cz P W0 D (.seq a b) e h Q .mk = cz P W0 D a e h (seqK P W0 D b Q) .mk := rfl
theorem c_block {id : Nat} {b : Code} : cz P W0 D (.block id b) e h Q .mk = cz P W0 D b e h (blockQ id Q) .mk := rfl
theorem c_cond {c : Operand} {a b : Code} : cz P W0 D (.cond c a b) e h Q .mk = dz (opz e c .mk) (cz P W0 D a e h Q .mk) (cz P W0 D b e h Q .mk) .mk := rfl
theorem c_loop {b : Code} : cz P W0 D (.loop b) e h Q .mk = lz P W0 D b e h Q .mk := rfl
/-- What goes on with the slots that are kept. -/
def ctz (F : Env → Prop) (ks : List Nat) (e E : Env) (_ : Hold (F, e, E)) : Prop := F fun t => if ks.contains t then e t else E t
def ctc (F : Env → Prop) (ks : List Nat) (e : Env) (k : Nat) (v : Value) (E : Env) (_ : Hold (F, e, E)) : Prop := F fun t => if ks.contains t then e t else E.put k v t
def ctO (F : Env → Prop) (o : Option (List Nat)) (e : Env) (_ : Hold (F, e)) : Prop := F (cutO o e)
def noE : Env := fun _ => hole
def fz (F : Env → Prop) (e : Env) (_ : Hold (F, e)) : Prop := F e
theorem ctz_nil {F : Env → Prop} {e E : Env} : ctz F [] e E .mk = fz F E .mk := by simp [ctz, fz]
theorem ctz_cons {F : Env → Prop} {e E : Env} {k : Nat} {ks : List Nat} : ctz F (k :: ks) e E .mk = ctc F ks e k (look e k .mk) E .mk := by
  simp only [ctz, ctc, look]
  congr 1
  funext t
  by_cases ht : t = k
  · subst ht; simp [Env.put]
  · simp [Env.put, ht]
theorem ctc_put {F : Env → Prop} {e E : Env} {k : Nat} {v : Value} {ks : List Nat} : ctc F ks e k v E .mk = ctz F ks e (E.put k v) .mk := rfl
theorem ctO_none {F : Env → Prop} {e : Env} : ctO F none e .mk = fz F e .mk := rfl
theorem ctO_some {F : Env → Prop} {e : Env} {ks : List Nat} : ctO F (some ks) e .mk = ctz F ks e noE .mk := rfl
theorem look_no {t : Nat} : look noE t .mk = hole := rfl
def cpz (D : Rules) (id : Nat) (_ : Hold D) : Option (List Nat) := D.cp id
def cpL (l : List (List Nat)) (id : Nat) : Option (List Nat) := l[id]?
theorem cp_0 {d : DT} {a : List Nat} {l : List (List Nat)} : cpz ⟨d, cpL (a :: l)⟩ 0 .mk = some a := rfl
theorem cp_S {d : DT} {a : List Nat} {l : List (List Nat)} {n : Nat} : cpz ⟨d, cpL (a :: l)⟩ (n + 1) .mk = cpz ⟨d, cpL l⟩ n .mk := by simp [cpz, cpL]
theorem cp_N {d : DT} {n : Nat} : cpz ⟨d, cpL []⟩ n .mk = none := by simp [cpz, cpL]
def rgF (P : Program) (W0 : World) (l : List Oper) (h : Heap) (Q : QT) : Env → Prop := fun e => vcO P W0 l l e h Q
def rdF (D : Rules) (l : List Oper) (h : Heap) (Q : QT) : Env → Prop := fun e => D.d l e h Q
theorem c_region {id : Nat} {l : List Oper} : cz P W0 D (.region id l.toArray false) e h Q .mk = ctO (rgF P W0 l h Q) (cpz D id .mk) e .mk := by simp [cz, vcC, ctO, rgF, cpz]
theorem c_regionD {id : Nat} {l : List Oper} : cz P W0 D (.region id l.toArray true) e h Q .mk = ctO (rdF D l h Q) (cpz D id .mk) e .mk := by simp [cz, vcC, ctO, rdF, cpz]
theorem fz_rg {l : List Oper} : fz (rgF P W0 l h Q) e .mk = oz P W0 l l e h Q .mk := rfl
theorem fz_rd {l : List Oper} : fz (rdF D l h Q) e .mk = drz D l e h Q .mk := rfl
theorem d_bool {b : Bool} {A B : Prop} : dz (.bool b) A B .mk = gz b A B .mk := rfl
theorem g_true {A B : Prop} : gz true A B .mk = A := by simp [gz, gate]
theorem g_false {A B : Prop} : gz false A B .mk = B := by simp [gz, gate]
theorem seqQ_n {b : Code} : qz (seqK P W0 D b Q) .normal e h .mk = cz P W0 D b e h Q .mk := rfl
theorem seqQ_r {b : Code} : qz (seqK P W0 D b Q) .ret e h .mk = qz Q .ret e h .mk := rfl
theorem seqQ_x {b : Code} {j : Nat} : qz (seqK P W0 D b Q) (.exit j) e h .mk = qz Q (.exit j) e h .mk := rfl
theorem blockQ_n {id : Nat} : qz (blockQ id Q) .normal e h .mk = qz Q .normal e h .mk := rfl
theorem blockQ_r {id : Nat} : qz (blockQ id Q) .ret e h .mk = qz Q .ret e h .mk := rfl
theorem blockQ_x {id j : Nat} : qz (blockQ id Q) (.exit j) e h .mk = if j = id then qz Q .normal e h .mk else qz Q (.exit j) e h .mk := rfl
/-- The invariant again, with fewer rounds to go. -/
def nxz (I : Nat → Env → Heap → Prop) (n : Nat) (e : Env) (h : Heap) (_ : Hold (I, n, e, h)) : Prop := ∃ m, m < n ∧ I m e h
theorem loopQ_n {I : Nat → Env → Heap → Prop} {n : Nat} : qz (loopQ I n Q) .normal e h .mk = nxz I n e h .mk := rfl
theorem loopQ_r {I : Nat → Env → Heap → Prop} {n : Nat} : qz (loopQ I n Q) .ret e h .mk = qz Q .ret e h .mk := rfl
theorem loopQ_x {I : Nat → Env → Heap → Prop} {n j : Nat} : qz (loopQ I n Q) (.exit j) e h .mk = qz Q (.exit j) e h .mk := rfl
theorem ends_n {rs : List ResultVar} : qz (ends P rs K) .normal e h .mk = ez (rz P e h rs .mk) h K .mk := rfl
theorem ends_r {rs : List ResultVar} : qz (ends P rs K) .ret e h .mk = ez (rz P e h rs .mk) h K .mk := rfl
theorem rz_nil : rz P e h [] .mk = some [] := rfl
def consR (v : Option Value) (l : Option (List Value)) : Option (List Value) := match v, l with | some v, some l => some (v :: l) | _, _ => none
theorem consR_some {v : Value} {l : List Value} : consR (some v) (some l) = some (v :: l) := rfl
theorem rz_tmp {t : Nat} {r : List ResultVar} : rz P e h (.tmp t :: r) .mk = consR (some (look e t .mk)) (rz P e h r .mk) := by simp only [rz, resH, consR, look]; cases resH P h e r <;> rfl
def loadz (P : Program) (h : Heap) (t : TypeId) (v : Value) (_ : Hold h) : Option Value := loadV P h t v
theorem rz_cell {a t : Nat} {r : List ResultVar} : rz P e h (.cell a t :: r) .mk = consR (loadz P h t (look e a .mk) .mk) (rz P e h r .mk) := rfl
theorem e_1 {v : Value} : ez (some [v]) h K .mk = kz K v h .mk := rfl
theorem e_0 : ez (some []) h K .mk = kz K (.tuple #[]) h .mk := by simp [ez, endH, outV, kz]
theorem e_2 {v u : Value} (hv : isTup v = false) (hu : isTup u = false) : ez (some [v, u]) h K .mk = kz K (.tuple #[v, u]) h .mk := by simp [ez, endH, outV, hv, hu, kz]
theorem e_3 {v u x : Value} (hv : isTup v = false) (hu : isTup u = false) (hx : isTup x = false) : ez (some [v, u, x]) h K .mk = kz K (.tuple #[v, u, x]) h .mk := by simp [ez, endH, outV, hv, hu, hx, kz]
theorem e_4 {v u x y : Value} (hv : isTup v = false) (hu : isTup u = false) (hx : isTup x = false) (hy : isTup y = false) : ez (some [v, u, x, y]) h K .mk = kz K (.tuple #[v, u, x, y]) h .mk := by simp [ez, endH, outV, hv, hu, hx, hy, kz]
theorem tup_int {k : IntKind} {n : Int} : isTup (.int k n) = false := rfl
theorem tup_bool {b : Bool} : isTup (.bool b) = false := rfl
theorem tup_str {b : ByteArray} : isTup (.string b) = false := rfl
theorem tup_sl {a : Option Addr} {l c : Nat} : isTup (.slice a l c) = false := rfl
theorem tup_ptr {a : Option Addr} : isTup (.pointer a) = false := rfl
theorem tup_agg {a : Array Value} : isTup (.agg a) = false := rfl

/-! ### Operations -/
theorem kz_o {ops r : List Oper} {d : Option Tmp} {v : Value} : kz (oK P W0 ops r d e Q) v h .mk = oz P W0 ops r (e.putO d v) h Q .mk := rfl
theorem b_some {v : Value} : bz (some v) h K .mk = kz K v h .mk := rfl
theorem a_some {v : Value} {h' : Heap} : az (some (v, h')) K .mk = kz K v h' .mk := rfl
theorem s_some {h' : Heap} : sz (some h') K .mk = kz K undef h' .mk := rfl
theorem n_some {cs : List Value} {n : Nat} : nz (some cs) (some n) h K .mk = kz K (.pointer (some ⟨hn h .mk, 0, none⟩)) (h.push ⟨true, n, cs⟩) .mk := rfl
theorem ro_some {l : List Value} {z n : Nat} : roz (some l) z n h K .mk = kz K (.slice (some ⟨hn h .mk, 0, none⟩) n n) (h.push ⟨true, z, l⟩) .mk := rfl
theorem o_nil {ops : List Oper} : oz P W0 ops [] e h Q .mk = qz Q .normal e h .mk := rfl
theorem o_cons {ops r : List Oper} {d : Option Tmp} {o : Op} {t : TypeId} {p : String} {a : Array Edge} :
    oz P W0 ops (⟨d, o, t, p, a, none⟩ :: r) e h Q .mk = xz P W0 o e h (oK P W0 ops r d e Q) .mk := by
  show gate true (opO P W0 e h o (oK P W0 ops r d e Q)) _ = opO P W0 e h o (oK P W0 ops r d e Q)
  simp only [gate]; exact propext ⟨fun hh => hh.1 trivial, fun hh => ⟨fun _ => hh, fun hf => absurd hf (by simp)⟩⟩
theorem o_guard {ops r : List Oper} {d : Option Tmp} {o : Op} {t : TypeId} {p : String} {a : Array Edge} {j : Nat} {b : Bool} :
    oz P W0 ops (⟨d, o, t, p, a, some (j, b)⟩ :: r) e h Q .mk =
      gd (guardOf ops e (some (j, b))) (xz P W0 o e h (oK P W0 ops r d e Q) .mk) (oz P W0 ops r (e.putO d undef) h Q .mk) .mk := rfl
def dstz (l : List Oper) (j : Nat) (_ : Hold l) : Option Nat := dstAt l j
def gof (d : Option Nat) (b : Bool) (e : Env) (_ : Hold e) : Option Bool := match d with | none => some false | some t => bitOf b (e t)
theorem guard_at {ops : List Oper} {j : Nat} {b : Bool} : guardOf ops e (some (j, b)) = gof (dstz ops j .mk) b e .mk := rfl
theorem gof_some {t : Nat} {b : Bool} : gof (some t) b e .mk = bitOf b (look e t .mk) := rfl
theorem gof_none {b : Bool} : gof none b e .mk = some false := rfl
theorem dst0 {o : Oper} {l : List Oper} : dstz (o :: l) 0 .mk = o.dst := rfl
theorem dstS {o : Oper} {l : List Oper} {n : Nat} : dstz (o :: l) (n + 1) .mk = dstz l n .mk := rfl
theorem gd_some {b : Bool} {A B : Prop} : gd (some b) A B .mk = gz b A B .mk := rfl
theorem bit_bool {w b : Bool} : bitOf w (.bool b) = some (b == w) := rfl
theorem bit_undef {w : Bool} : bitOf w undef = some false := rfl
theorem beq_tt {b : Bool} : (b == true) = b := by simp
theorem beq_ff {b : Bool} : (b == false) = !b := by cases b <;> rfl

theorem x_move {x : Operand} : xz P W0 (.move x) e h K .mk = kz K (opz e x .mk) h .mk := rfl
theorem x_assign {x : Operand} : xz P W0 (.assign x) e h K .mk = kz K (opz e x .mk) h .mk := rfl
def pickV (c a b : Value) : Option Value := match c with | .bool true => some a | .bool false => some b | _ => none
theorem x_pick {c x y : Operand} : xz P W0 (.pick c x y) e h K .mk = bz (pickV (opz e c .mk) (opz e x .mk) (opz e y .mk)) h K .mk := by
  simp only [xz, opO, callOf, opv, andThen, bz, pickV, opz]; cases e.op c <;> simp; rename_i b; cases b <;> simp
theorem pick_t {a b : Value} : pickV (.bool true) a b = some a := rfl
theorem pick_f {a b : Value} : pickV (.bool false) a b = some b := rfl
def pkB (c a b : Bool) : Bool := match c with | true => a | false => b
theorem pkB_t {a b : Bool} : pkB true a b = a := rfl
theorem pkB_f {a b : Bool} : pkB false a b = b := rfl
theorem pick_b {c a b : Bool} : pickV (.bool c) (.bool a) (.bool b) = some (.bool (pkB c a b)) := by cases c <;> rfl
theorem x_alloc {t : TypeId} : xz P W0 (.alloc t) e h K .mk = nz (zr? P t) (sz? P t) h K .mk := by
  simp only [xz, opO, callOf, opv, andThen, nz]; cases zr? P t <;> cases sz? P t <;> simp [newV]
theorem x_box {t : TypeId} {x : Operand} : xz P W0 (.box t x) e h K .mk = nz (cellsL (opz e x .mk)) (sz? P t) h K .mk := by
  simp only [xz, opO, callOf, opv, andThen, nz, opz]; cases cellsL (e.op x) <;> cases sz? P t <;> simp [newV]
theorem x_load {t : TypeId} {x : Operand} : xz P W0 (.load t x) e h K .mk = bz (loadz P h t (opz e x .mk) .mk) h K .mk := by
  simp only [xz, opO, callOf, opv, bz, loadz, opz]; cases loadV P h t (e.op x) <;> rfl
def storez (P : Program) (h : Heap) (t : TypeId) (x y : Value) (_ : Hold h) : Option Heap := storeV P h t x y
theorem x_store {t : TypeId} {x y : Operand} : xz P W0 (.store t x y) e h K .mk = sz (storez P h t (opz e x .mk) (opz e y .mk) .mk) K .mk := by
  simp only [xz, opO, callOf, opv, andThen, sz, storez, opz]; cases storeV P h t (e.op x) (e.op y) <;> simp
def nilV (v : Value) : Option Value := if ptrV v then some v else none
theorem x_nil {x : Operand} : xz P W0 (.nilCheck x) e h K .mk = bz (nilV (opz e x .mk)) h K .mk := by
  simp only [xz, opO, callOf, opv, andThen, bz, nilV, opz]; by_cases hp : ptrV (e.op x) = true <;> simp [hp]
theorem nilV_ptr {a : Addr} : nilV (.pointer (some a)) = some (.pointer (some a)) := rfl
theorem x_bin {op : BinOp} {t u : TypeId} {x y : Operand} : xz P W0 (.binOp op t x y u) e h K .mk = bz (binV P op t (opz e x .mk) (opz e y .mk)) h K .mk := by
  simp only [xz, opO, callOf, opv, bz, opz]; cases binV P op t (e.op x) (e.op y) <;> rfl
theorem x_un {op : UnOp} {t : TypeId} {x : Operand} : xz P W0 (.unOp op t x) e h K .mk = bz (unV op (opz e x .mk)) h K .mk := by
  simp only [xz, opO, callOf, opv, bz, opz]; cases unV op (e.op x) <;> rfl
def convz (P : Program) (h : Heap) (s d : TypeId) (x : Value) (_ : Hold h) : Option (Value × Heap) := convV P h s d x
theorem x_conv {s d : TypeId} {x : Operand} : xz P W0 (.convert s d x) e h K .mk = az (convz P h s d (opz e x .mk) .mk) K .mk := rfl
def omap (o : Option Operand) (e : Env) (_ : Hold e) : Option Value := o.map e.op
theorem omap_none : omap none e .mk = none := rfl
theorem omap_some {x : Operand} : omap (some x) e .mk = some (opz e x .mk) := rfl
def slicez (P : Program) (h : Heap) (t : TypeId) (x : Value) (lo hi mx : Option Value) (_ : Hold h) : Option Value := sliceV P h t x lo hi mx
theorem x_slice {t : TypeId} {x : Operand} {lo hi mx : Option Operand} : xz P W0 (.slice t x lo hi mx) e h K .mk = bz (slicez P h t (opz e x .mk) (omap lo e .mk) (omap hi e .mk) (omap mx e .mk) .mk) h K .mk := by
  simp only [xz, opO, callOf, opv, bz, opz, slicez, omap]; cases sliceV P h t (e.op x) (lo.map e.op) (hi.map e.op) (mx.map e.op) <;> rfl
theorem x_fieldAddr {s : TypeId} {x : Operand} {f : Nat} : xz P W0 (.fieldAddr s x f) e h K .mk = bz (fieldAddrV P s (opz e x .mk) f) h K .mk := by
  simp only [xz, opO, callOf, opv, bz, opz]; cases fieldAddrV P s (e.op x) f <;> rfl
theorem x_field {s : TypeId} {x : Operand} {f : Nat} : xz P W0 (.field s x f) e h K .mk = bz (fieldV P s (opz e x .mk) f) h K .mk := by
  simp only [xz, opO, callOf, opv, bz, opz]; cases fieldV P s (e.op x) f <;> rfl
theorem x_indexAddr {t : TypeId} {x y : Operand} : xz P W0 (.indexAddr t x y) e h K .mk = bz (indexAddrV P t (opz e x .mk) (opz e y .mk)) h K .mk := by
  simp only [xz, opO, callOf, opv, bz, opz]; cases indexAddrV P t (e.op x) (e.op y) <;> rfl
theorem x_index {t : TypeId} {x y : Operand} : xz P W0 (.index t x y) e h K .mk = bz (indexV P t (opz e x .mk) (opz e y .mk)) h K .mk := by
  simp only [xz, opO, callOf, opv, bz, opz]; cases indexV P t (e.op x) (e.op y) <;> rfl
theorem x_extract {x : Operand} {i : Nat} : xz P W0 (.extract x i) e h K .mk = bz (extractV (opz e x .mk) i) h K .mk := by
  simp only [xz, opO, callOf, opv, bz, opz]; cases extractV (e.op x) i <;> rfl
def makez (P : Program) (h : Heap) (t : TypeId) (x y : Value) (_ : Hold h) : Option (Value × Heap) := makeSliceV P h t x y
theorem x_make {t : TypeId} {x y : Operand} : xz P W0 (.makeSlice t x y) e h K .mk = az (makez P h t (opz e x .mk) (opz e y .mk) .mk) K .mk := rfl
def fillz (place : Nat → Option (Nat × Nat)) (e : Env) (l : List (Nat × Operand)) (cs : List Value) (_ : Hold e) : Option (List Value) := fillL place e l cs
def stepz (p : Option (Nat × Nat)) (vs : Option (List Value)) (cs : List Value) : Option (List Value) := match p, vs with | some (off, n), some vs => if vs.length = n then wrt cs off vs else none | _, _ => none
def fillo (place : Nat → Option (Nat × Nat)) (e : Env) (l : List (Nat × Operand)) (cs : Option (List Value)) (_ : Hold (place, e, l)) : Option (List Value) := match cs with | some cs => fillL place e l cs | none => none
theorem fillo_nil {p : Nat → Option (Nat × Nat)} {cs : List Value} : fillo p e [] (some cs) .mk = some cs := rfl
theorem fillo_cons {p : Nat → Option (Nat × Nat)} {i : Nat} {x : Operand} {l : List (Nat × Operand)} {cs : List Value} : fillo p e ((i, x) :: l) (some cs) .mk = fillo p e l (stepz (p i) (cellsL (opz e x .mk)) cs) .mk := by
  simp only [fillo, fillL, stepz, opz]
  cases p i with
  | none => rfl
  | some q =>
    obtain ⟨off, n⟩ := q
    cases cellsL (e.op x) with
    | none => rfl
    | some vs =>
      by_cases hv : vs.length = n
      · simp only [if_pos hv]; cases wrt cs off vs <;> rfl
      · simp only [if_neg hv]
def aggO (l : Option (List Value)) : Option Value := l.map fun l => .agg l.toArray
theorem aggO_some {l : List Value} : aggO (some l) = some (.agg l.toArray) := rfl
def placeS (P : Program) (t : TypeId) : Nat → Option (Nat × Nat) := fun i => (fld? P t i).map fun p => (p.1, p.2.1)
theorem placeS_at {t i : Nat} : placeS P t i = (fld? P t i).map fun p => (p.1, p.2.1) := rfl
theorem x_build {t : TypeId} {ps : List (Nat × Operand)} (hz : (zr? P t).isSome = true) (hb : bldOk P t = true) : xz P W0 (.build t ps.toArray) e h K .mk = bz (aggO (fillo (placeS P t) e ps (zr? P t) .mk)) h K .mk := by
  cases hz' : zr? P t with
  | none => rw [hz'] at hz; cases hz
  | some z =>
    simp only [xz, opO, callOf, opv, bz, hz', if_pos hb, aggO, fillo, show placeS P t = (fun i => (fld? P t i).map fun p => (p.1, p.2.1)) from rfl]
    generalize fillL (fun i => (fld? P t i).map fun p => (p.1, p.2.1)) e ps z = r
    cases r <;> rfl
def placeE (z : Nat) : Nat → Option (Nat × Nat) := fun i => some (i * z, z)
theorem placeE_at {z i : Nat} : placeE z i = some (i * z, z) := rfl
def elT (o : Option (TypeId × Nat × Nat)) : Nat := match o with | some (e, _, _) => e | none => 0
def elZ (o : Option (TypeId × Nat × Nat)) : Nat := match o with | some (_, z, _) => z | none => 0
theorem elT_some {e z b : Nat} : elT (some (e, z, b)) = e := rfl
theorem elZ_some {e z b : Nat} : elZ (some (e, z, b)) = z := rfl
def rowOk (o : Option (TypeId × Nat × Nat)) (zs : Option (List Value)) (n : Nat) : Bool := match o, zs with
  | some (_, z, _), some zs => decide (n ≤ 64) && (decide (zs.length = z) && decide (z ≤ 64))
  | _, _ => false
theorem rowOk_some {u z b n : Nat} {zs : List Value} : rowOk (some (u, z, b)) (some zs) n = (decide (n ≤ 64) && (decide (zs.length = z) && decide (z ≤ 64))) := rfl
def repO (n : Nat) (o : Option (List Value)) : Option (List Value) := match o with | some z => some (repL n z) | none => none
theorem repO_some {n : Nat} {z : List Value} : repO n (some z) = some (repL n z) := rfl
theorem rep_0 {z : List Value} : repL 0 z = [] := rfl
theorem rep_S {n : Nat} {z : List Value} : repL (n + 1) z = z ++ repL n z := by simp [repL, List.replicate_succ]
theorem x_row {t n : Nat} {ps : List (Nat × Operand)} (hn : rowOk (elt? P t) (zr? P (elT (elt? P t))) n = true) :
    xz P W0 (.buildSlice t n ps.toArray) e h K .mk = roz (fillo (placeE (elZ (elt? P t))) e ps (repO n (zr? P (elT (elt? P t)))) .mk) (elZ (elt? P t)) n h K .mk := by
  cases he : elt? P t with
  | none => rw [he] at hn; cases hn
  | some q =>
    obtain ⟨u, z, y⟩ := q
    rw [he] at hn
    simp only [elT] at hn
    cases hz : zr? P u with
    | none => rw [hz] at hn; cases hn
    | some zs =>
      rw [hz] at hn
      simp only [rowOk, Bool.and_eq_true, decide_eq_true_eq] at hn
      simp only [xz, opO, callOf, opv, roz, he, hz, if_pos hn, fillo, elZ, elT, repO, show placeE z = (fun i => some (i * z, z)) from rfl]
      generalize fillL (fun i => some (i * z, z)) e ps (repL n zs) = r
      cases r <;> rfl
theorem x_call {f : FuncId} {xs : List Operand} {ts : Array TypeId} : xz P W0 (.call ⟨.value (.func f), xs.toArray, ts⟩) e h K .mk = wz P W0 f (lookL e xs .mk) h K .mk := by
  simp [xz, opO, callOf, Env.op, wz, lookL]
theorem dy_fn {g : FuncId} {xs : List Value} {caps : List Value} : dyz P W0 (.func (.func g) #[] caps.toArray) xs h K .mk = wz P W0 g (xs ++ caps) h K .mk := by simp [dyz, wz]
theorem x_dyn {t : Tmp} {xs : List Operand} {ts : Array TypeId} : xz P W0 (.call ⟨.value (.tmp t), xs.toArray, ts⟩) e h K .mk = dyz P W0 (look e t .mk) (lookL e xs .mk) h K .mk := by
  have hno : opv P e h (.call ⟨.value (.tmp t), xs.toArray, ts⟩) = none := rfl
  simp only [xz, opO, callOf, dyz, hno, andThen, look, lookL, Env.op]
  generalize e t = v
  cases v <;> try rfl
  rename_i fn first caps
  cases fn <;> try rfl
  by_cases h3 : first.size = 0 <;> simp [h3]
def biz (P : Program) (h : Heap) (b : Builtin) (ts : List TypeId) (xs : List Value) (_ : Hold h) : Option (Value × Heap) := builtinV P h b ts xs
theorem x_builtin {b : Builtin} {xs : List Operand} {ts : List TypeId} : xz P W0 (.call ⟨.builtin b, xs.toArray, ts.toArray⟩) e h K .mk = az (biz P h b ts (lookL e xs .mk) .mk) K .mk := by
  simp [xz, opO, callOf, opv, biz, lookL, az]
def fnB (b : Bool) (f : FuncId) (l : List Value) : Option Value := match b with | true => some (.func (.func f) #[] l.toArray) | false => none
def fnV (f : FuncId) (l : List Value) : Option Value := fnB (l.all ptrV) f l
theorem fnV0 {f : FuncId} : fnV f [] = some (.func (.func f) #[] #[]) := rfl
theorem fnV1 {f : FuncId} {a : Addr} : fnV f [.pointer (some a)] = some (.func (.func f) #[] [.pointer (some a)].toArray) := rfl
theorem fnV2 {f : FuncId} {a b : Addr} : fnV f [.pointer (some a), .pointer (some b)] = some (.func (.func f) #[] [.pointer (some a), .pointer (some b)].toArray) := rfl
theorem x_fn {f : FuncId} {xs : List Operand} : xz P W0 (.makeFunc (.func f) #[] xs.toArray) e h K .mk = bz (fnV f (lookL e xs .mk)) h K .mk := by
  have hl : lookL e xs .mk = xs.map e.op := rfl
  have hm : xs.toArray.map e.op = (xs.map e.op).toArray := by simp
  simp only [xz, opO, callOf, opv, fnV, hl, hm]
  by_cases hp : (xs.all fun x => ptrV (e.op x)) = true
  · have h2 : ((xs.map e.op).all ptrV) = true := by simpa using hp
    rw [if_pos ⟨rfl, hp⟩, h2]; rfl
  · have h2 : ((xs.map e.op).all ptrV) = false := by simpa using hp
    rw [if_neg (fun hh => hp hh.2), h2]; rfl

/-! ### What the operations come to -/
def ldA (o : Option (List Value)) : Option Value := match o with | some l => some (.agg l.toArray) | none => none
def ldz (g : Option Bool) (n : Option Nat) (k : Option Blk) (off : Nat) : Option Value := match k with
  | some k => (match g with | some true => (match n with | some n => ldA (rd k.cs off n) | none => none) | some false => k.cs[off]? | none => none)
  | none => none
theorem ldA_some {l : List Value} : ldA (some l) = some (.agg l.toArray) := rfl
theorem ld_one {n : Option Nat} {w : Bool} {z off : Nat} {cs : List Value} : ldz (some false) n (some ⟨w, z, cs⟩) off = cs[off]? := rfl
theorem ld_agg {n : Nat} {w : Bool} {z off : Nat} {cs : List Value} : ldz (some true) (some n) (some ⟨w, z, cs⟩) off = ldA (rd cs off n) := rfl
theorem load_ptr {t : TypeId} {b off : Nat} {p : Option Nat} : loadz P h t (.pointer (some ⟨b, off, p⟩)) .mk = ldz (agg? P t) (sz? P t) (hg h b .mk) off := by
  simp only [loadz, loadV, hg, ldz, ldA]
  cases h.get b with
  | none => rfl
  | some k =>
    simp only
    cases agg? P t with
    | none => rfl
    | some g =>
      cases g with
      | false => rfl
      | true =>
        simp only
        cases sz? P t with
        | none => rfl
        | some n => simp only; cases rd k.cs off n <;> rfl
def stz (vs : Option (List Value)) (n : Option Nat) (k : Option Blk) (h : Heap) (b off : Nat) (_ : Hold h) : Option Heap := match vs, n, k with
  | some vs, some n, some k => if k.w = true ∧ vs.length = n ∧ vs.all okCell = true then (wrt k.cs off vs).map fun cs => h.set b ⟨true, k.sz, cs⟩ else none
  | _, _, _ => none
def stw (b : Bool) (cs : Option (List Value)) (h : Heap) (c z : Nat) (_ : Hold h) : Option Heap := match b, cs with
  | true, some cs => some (h.set c ⟨true, z, cs⟩)
  | _, _ => none
theorem stw_some {cs : List Value} {c z : Nat} : stw true (some cs) h c z .mk = some (h.set c ⟨true, z, cs⟩) := rfl
theorem st_some {vs : List Value} {n z b off : Nat} {cs : List Value} : stz (some vs) (some n) (some ⟨true, z, cs⟩) h b off .mk = stw (vs.length == n && vs.all okCell) (wrt cs off vs) h b z .mk := by
  simp only [stz, stw]
  by_cases hv : vs.length = n
  · by_cases hq : vs.all okCell = true
    · simp only [hv, hq, and_self, if_true, beq_self_eq_true, Bool.and_self]; cases wrt cs off vs <;> rfl
    · simp [hv, hq]
  · simp [hv]
theorem store_ptr {t : TypeId} {b off : Nat} {p : Option Nat} {y : Value} : storez P h t (.pointer (some ⟨b, off, p⟩)) y .mk = stz (cellsL y) (sz? P t) (hg h b .mk) h b off .mk := by
  simp only [storez, storeV, hg, stz]
  cases cellsL y <;> cases sz? P t <;> first | rfl | (dsimp only; cases h.get b <;> rfl)
theorem cells_int {k : IntKind} {n : Int} : cellsL (.int k n) = some [.int k n] := rfl
theorem cells_bool {b : Bool} : cellsL (.bool b) = some [.bool b] := rfl
theorem cells_str {b : ByteArray} : cellsL (.string b) = some [.string b] := rfl
theorem cells_sl {a : Option Addr} {l c : Nat} : cellsL (.slice a l c) = some [.slice a l c] := rfl
theorem cells_ptr {a : Option Addr} : cellsL (.pointer a) = some [.pointer a] := rfl
theorem cells_fn {f : Fn} {a b : Array Value} : cellsL (.func f a b) = some [.func f a b] := rfl
theorem cells_agg {l : List Value} : cellsL (.agg l.toArray) = some l := by simp [cellsL]
theorem i_add {t : TypeId} {k : IntKind} {x y : Int} : binV P .add t (.int k x) (.int k y) = some (.int k (k.wrap (x + y))) := (if_pos rfl : binV P .add t (.int k x) (.int k y) = binI .add k x y).trans (rfl)
theorem i_sub {t : TypeId} {k : IntKind} {x y : Int} : binV P .sub t (.int k x) (.int k y) = some (.int k (k.wrap (x - y))) := (if_pos rfl : binV P .sub t (.int k x) (.int k y) = binI .sub k x y).trans (rfl)
theorem i_mul {t : TypeId} {k : IntKind} {x y : Int} : binV P .mul t (.int k x) (.int k y) = some (.int k (k.wrap (x * y))) := (if_pos rfl : binV P .mul t (.int k x) (.int k y) = binI .mul k x y).trans (rfl)
theorem i_and {t : TypeId} {k : IntKind} {x y : Int} : binV P .and t (.int k x) (.int k y) = some (.int k (Go.bits .and k x y)) := (if_pos rfl : binV P .and t (.int k x) (.int k y) = binI .and k x y).trans (rfl)
theorem i_or {t : TypeId} {k : IntKind} {x y : Int} : binV P .or t (.int k x) (.int k y) = some (.int k (Go.bits .or k x y)) := (if_pos rfl : binV P .or t (.int k x) (.int k y) = binI .or k x y).trans (rfl)
theorem i_xor {t : TypeId} {k : IntKind} {x y : Int} : binV P .xor t (.int k x) (.int k y) = some (.int k (Go.bits .xor k x y)) := (if_pos rfl : binV P .xor t (.int k x) (.int k y) = binI .xor k x y).trans (rfl)
theorem i_eql {t : TypeId} {k : IntKind} {x y : Int} : binV P .eql t (.int k x) (.int k y) = some (.bool (decide (x = y))) := (if_pos rfl : binV P .eql t (.int k x) (.int k y) = binI .eql k x y).trans (by simp [binI, Bool.beq_eq_decide_eq])
theorem i_neq {t : TypeId} {k : IntKind} {x y : Int} : binV P .neq t (.int k x) (.int k y) = some (.bool (decide (x ≠ y))) := (if_pos rfl : binV P .neq t (.int k x) (.int k y) = binI .neq k x y).trans (by simp only [binI]; congr 2; by_cases hxy : x = y <;> simp [hxy])
theorem i_lss {t : TypeId} {k : IntKind} {x y : Int} : binV P .lss t (.int k x) (.int k y) = some (.bool (decide (x < y))) := (if_pos rfl : binV P .lss t (.int k x) (.int k y) = binI .lss k x y).trans (rfl)
theorem i_leq {t : TypeId} {k : IntKind} {x y : Int} : binV P .leq t (.int k x) (.int k y) = some (.bool (decide (x ≤ y))) := (if_pos rfl : binV P .leq t (.int k x) (.int k y) = binI .leq k x y).trans (rfl)
theorem i_gtr {t : TypeId} {k : IntKind} {x y : Int} : binV P .gtr t (.int k x) (.int k y) = some (.bool (decide (y < x))) := (if_pos rfl : binV P .gtr t (.int k x) (.int k y) = binI .gtr k x y).trans (rfl)
theorem i_geq {t : TypeId} {k : IntKind} {x y : Int} : binV P .geq t (.int k x) (.int k y) = some (.bool (decide (y ≤ x))) := (if_pos rfl : binV P .geq t (.int k x) (.int k y) = binI .geq k x y).trans (rfl)
theorem i_quo {t : TypeId} {k : IntKind} {x y : Int} (h0 : (y == 0) = false) : binV P .quo t (.int k x) (.int k y) = some (.int k (k.wrap (x.tdiv y))) := (if_pos rfl : binV P .quo t (.int k x) (.int k y) = binI .quo k x y).trans (by simp_all [binI])
theorem i_rem {t : TypeId} {k : IntKind} {x y : Int} (h0 : (y == 0) = false) : binV P .rem t (.int k x) (.int k y) = some (.int k (x.tmod y)) := (if_pos rfl : binV P .rem t (.int k x) (.int k y) = binI .rem k x y).trans (by simp_all [binI])
theorem bin_shl {t : TypeId} {k k' : IntKind} {x y : Int} : binV P .shl t (.int k x) (.int k' y) = shiftI .shl k x y := rfl
theorem bin_shr {t : TypeId} {k k' : IntKind} {x y : Int} : binV P .shr t (.int k x) (.int k' y) = shiftI .shr k x y := rfl
theorem bin_str {op : BinOp} {t : TypeId} {x y : ByteArray} : binV P op t (.string x) (.string y) = binS op x y := rfl
theorem un_neg {k : IntKind} {n : Int} : unV .neg (.int k n) = some (.int k (k.wrap (0 - n))) := rfl
theorem un_not {b : Bool} : unV .not (.bool b) = some (.bool !b) := rfl

theorem gz_intro {b : Bool} {A B : Prop} (ha : b = true → A) (hb : b = false → B) : gz b A B .mk := ⟨ha, hb⟩
theorem gz_dec {p : Prop} [Decidable p] {A B : Prop} (ha : p → A) (hb : ¬ p → B) : gz (decide p) A B .mk := ⟨fun h => ha (of_decide_eq_true h), fun h => hb (of_decide_eq_false h)⟩
theorem lz_intro {b : Code} (I : Nat → Env → Heap → Prop) (n : Nat) (h0 : I n e h) (hr : ∀ n e h, I n e h → cz P W0 D b e h (loopQ I n Q) .mk) : lz P W0 D b e h Q .mk := ⟨I, n, h0, hr⟩
theorem wz_intro {f : FuncId} {a : List Value} {K0 : KT} (c : WC P W0 f a h K0) (hk : ∀ v h', K0 v h' → kz K v h' .mk) : wz P W0 f a h K .mk := c.mono hk
theorem WC_start {okD : List Oper → Bool} {f : FuncId} {fn : Func} {c : Code} (hD : SoundD P W0 fn.ntmps D.d okD) (hf : P.funcs[f]? = some fn) (hb : fn.body = some c)
    (hn : (fn.name != "runtime.NumGoroutine") = true) (hok : okCode fn.ntmps okD c = true) {rs : List ResultVar} (hrs : fn.results.toList = rs) {args : List Value} {nt : Nat} (hnt : fn.ntmps = nt) (hlen : args.length ≤ nt)
    (hv : cz P W0 D c (rootEnv args) h (ends P rs K) .mk) : WC P W0 f args h K := WC_of_body hD hf hb hn hok (by rw [hnt]; exact hlen) (by rw [hrs]; exact hv)

attribute [go_sem] pk_t pk_f hk_t hk_f look_put look_putO look_putN root0 rootS rootN op_tmp op_const op_func lookL_nil lookL_cons hg_push hg_set hg_kill hn_push hn_set hn_kill
  c_skip c_ret c_exit c_seq c_block c_cond c_loop c_region c_regionD fz_rg fz_rd ctz_nil ctz_cons ctc_put ctO_none ctO_some look_no cp_0 cp_S cp_N d_bool g_true g_false seqQ_n seqQ_r seqQ_x blockQ_n blockQ_r blockQ_x loopQ_n loopQ_r loopQ_x ends_n ends_r rz_nil consR_some rz_tmp rz_cell e_0 e_1 e_2 e_3 e_4
  tup_int tup_bool tup_str tup_sl tup_ptr tup_agg b_some a_some s_some n_some ro_some o_nil o_cons o_guard guard_at gof_some gof_none dst0 dstS gd_some bit_bool bit_undef beq_tt beq_ff
  x_move x_assign x_pick pick_t pick_f pkB_t pkB_f pick_b x_alloc x_box x_load x_store x_nil nilV_ptr x_bin x_un x_conv omap_none omap_some x_slice x_fieldAddr x_field x_indexAddr x_index x_extract x_make fillo_nil fillo_cons aggO_some placeS_at placeE_at x_build elT_some elZ_some rowOk_some repO_some rep_0 rep_S x_row List.cons_append List.nil_append List.append_nil
  x_call dy_fn x_dyn x_builtin fnV0 fnV1 fnV2 x_fn ldA_some ld_one ld_agg load_ptr stw_some st_some store_ptr cells_int cells_bool cells_str cells_sl cells_ptr cells_fn cells_agg bin_shl bin_shr bin_str i_add i_sub i_mul i_quo i_rem i_and i_or i_xor i_eql i_neq i_lss i_leq i_gtr i_geq un_neg un_not

end Go.Ai
