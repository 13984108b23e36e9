/- Deep values, part 6: what code must meet, as rules for rewriting. A term that bears a 'Hold' is not looked into. Nothing about the program stands here. -/
import Derived.Test.YtdakdjpndomdpaaBi5
import Derived.Test.YtdakdjpndomdpaaAi20
set_option linter.unusedVariables false
set_option linter.unusedSimpArgs false
namespace Go.Bi
open Go.Ai (Hold fnOk okPlan quietO dstAt guarded gate okCode bitOf hole mxI mnI shrI shlI minmaxV clsK isI posN fldO fldN eltT eltZ eltB elT elZ rowOk repO repL dstz dst0 dstS atz at0 atS cpL)
abbrev KT := X → H2 → Prop

def look (e : E2) (t : Nat) (_ : Hold e) : X := e t
def opz (e : E2) (x : Operand) (_ : Hold e) : X := e.op x
def lookL (e : E2) (l : List Operand) (_ : Hold e) : List X := l.map e.op
def hg (h : H2) (b : Nat) (_ : Hold h) : Option OB := h.get b
def hn (h : H2) (_ : Hold h) : Nat := h.n

section
variable (P : Program) (W0 : World) (D : Nat → Option (List Nat))
def cz (c : Code) (e : E2) (h : H2) (Q : Q2) (_ : Hold (c, e, h, Q, D)) : Prop := vcC2 P W0 D c e h Q
def qz (Q : Q2) (x : Ai.Ex) (e : E2) (h : H2) (_ : Hold (Q, e, h)) : Prop := Q x e h
def oz (ops l : List Oper) (e : E2) (h : H2) (Q : Q2) (_ : Hold (ops, l, e, h, Q)) : Prop := vcO2 P W0 ops l e h Q
def xz (o : Op) (e : E2) (h : H2) (K : KT) (_ : Hold (o, e, h, K)) : Prop := opO2 P W0 e h o K
def wz (f : FuncId) (a : List X) (h : H2) (K : KT) (_ : Hold (h, K)) : Prop := WC2 P W0 f a h K
def lz (b : Code) (e : E2) (h : H2) (Q : Q2) (_ : Hold (b, e, h, Q, D)) : Prop := vcC2 P W0 D (.loop b) e h Q
def drz (l : List Oper) (e : E2) (h : H2) (Q : Q2) (_ : Hold (l, e, h, Q)) : Prop := ∃ p, okPlan P l p = true ∧ runX P W0 l p e h Q
def rz (e : E2) (h : H2) (rs : List ResultVar) (_ : Hold (e, h)) : Option (List X) := resX P h e rs
def seqK (b : Code) (Q : Q2) : Q2 := seqQ2 (fun e h => vcC2 P W0 D b e h Q) Q
def oK (ops r : List Oper) (d : Option Tmp) (e : E2) (Q : Q2) : KT := fun v h' => vcO2 P W0 ops r (e.putO d v) h' Q
end
def kz (K : KT) (v : X) (h : H2) (_ : Hold (K, h)) : Prop := K v h
def bz (o : Option X) (h : H2) (K : KT) (_ : Hold (h, K)) : Prop := match o with | some v => K v h | none => False
def az (o : Option (X × H2)) (K : KT) (_ : Hold K) : Prop := thenX o K
def sz (o : Option H2) (K : KT) (_ : Hold K) : Prop := match o with | some h' => K (.raw undef) h' | none => False
def gz (b : Bool) (A B : Prop) (_ : Hold (A, B)) : Prop := gate b A B
def gd (b : Option Bool) (A B : Prop) (_ : Hold (A, B)) : Prop := guarded b A B
def dz (v : X) (A B : Prop) (_ : Hold (A, B)) : Prop := condX v A B
def ez (r : Option (List X)) (h : H2) (K : KT) (_ : Hold (h, K)) : Prop := endX r h K
def nz (cs : Option (List X)) (n : Option Nat) (h : H2) (K : KT) (_ : Hold (h, K)) : Prop := match cs, n with | some cs, some n => K (.raw (.pointer (some ⟨h.n, 0, none⟩))) (h.push ⟨n, cs⟩) | _, _ => False
def roz (r : Option (List X)) (z n : Nat) (h : H2) (K : KT) (_ : Hold (h, K)) : Prop := match r with | some l => K (litX h n z l).1 (litX h n z l).2 | none => False
def dyz (P : Program) (W0 : World) (v : X) (xs : List X) (h : H2) (K : KT) (_ : Hold (h, K)) : Prop := match v with | .raw (.func (.func g) first caps) => if first.size = 0 then WC2 P W0 g (xs ++ caps.toList.map .raw) h K else False | _ => False

variable {P : Program} {W0 : World} {D : Nat → Option (List Nat)} {e : E2} {h : H2} {Q : Q2} {K : KT}

/-! ### Slots and heaps -/
def pk (b : Bool) (v : X) (e : E2) (t : Nat) (_ : Hold (v, e)) : X := match b with | true => v | false => e t
theorem pk_t {v : X} {t : Nat} : pk true v e t .mk = v := rfl
theorem pk_f {v : X} {t : Nat} : pk false v e t .mk = look e t .mk := rfl
theorem look_put {d t : Nat} {v : X} : look (e.put d v) t .mk = pk (t == d) v e t .mk := by
  simp only [look, E2.put, pk]; by_cases ht : t = d
  · simp [ht]
  · have : (t == d) = false := by simp [ht]
    rw [if_neg ht, this]
theorem look_putO {d t : Nat} {v : X} : look (e.putO (some d) v) t .mk = pk (t == d) v e t .mk := look_put
theorem look_putN {t : Nat} {v : X} : look (e.putO none v) t .mk = look e t .mk := rfl
def hk (b : Bool) (o : Option OB) (h : H2) (c : Nat) (_ : Hold (o, h)) : Option OB := match b with | true => o | false => h.get c
theorem hk_t {o : Option OB} {c : Nat} : hk true o h c .mk = o := rfl
theorem hk_f {o : Option OB} {c : Nat} : hk false o h c .mk = hg h c .mk := rfl
theorem root0 {v : X} {l : List X} : look (rootX (v :: l)) 0 .mk = v := rfl
theorem rootS {v : X} {l : List X} {n : Nat} : look (rootX (v :: l)) (n + 1) .mk = look (rootX l) n .mk := by simp [rootX, look]
theorem rootN {n : Nat} : look (rootX []) n .mk = .raw undef := by simp [rootX, look]
theorem op_tmp {t : Nat} : opz e (.tmp t) .mk = look e t .mk := rfl
theorem op_const {v : Value} : opz e (.const v) .mk = ofV v := rfl
theorem of_int {k : IntKind} {n : Int} : ofV (.int k n) = .raw (.int k n) := rfl
theorem of_bool {b : Bool} : ofV (.bool b) = .raw (.bool b) := rfl
theorem of_str {b : ByteArray} : ofV (.string b) = .raw (.string b) := rfl
theorem of_sl {a : Option Addr} {n c : Nat} : ofV (.slice a n c) = .raw (.slice a n c) := rfl
theorem of_ptr {a : Option Addr} : ofV (.pointer a) = .raw (.pointer a) := rfl
theorem of_nf : ofV .nilFunc = .raw .nilFunc := rfl
theorem of_agg {l : List Value} : ofV (.agg l.toArray) = .st (l.map .raw) := rfl
theorem op_func {f : FuncId} : opz e (.func f) .mk = .raw (.func (.func f) #[] #[]) := rfl
theorem lookL_nil : lookL e [] .mk = [] := rfl
theorem lookL_cons {x : Operand} {l : List Operand} : lookL e (x :: l) .mk = opz e x .mk :: lookL e l .mk := rfl
theorem hk_ite {b c : Nat} {o : Option OB} : (if b = c then o else h.get b) = hk (b == c) o h b .mk := by
  unfold hk; by_cases hb : b = c
  · simp [hb]
  · have : (b == c) = false := by simp [hb]
    rw [if_neg hb, this]
theorem hg_push {k : OB} {b : Nat} : hg (h.push k) b .mk = hk (b == hn h .mk) (some k) h b .mk := hk_ite
theorem hg_set {k : OB} {b b' : Nat} : hg (h.set b' k) b .mk = hk (b == b') (some k) h b .mk := hk_ite
theorem hg_kill {b b' : Nat} : hg (h.kill b') b .mk = hk (b == b') none h b .mk := hk_ite
theorem hg_up {n b : Nat} : hg (h.up n) b .mk = hg h b .mk := rfl
theorem hn_push {k : OB} : hn (h.push k) .mk = hn h .mk + 1 := rfl
theorem hn_set {k : OB} {b : Nat} : hn (h.set b k) .mk = hn h .mk := rfl
theorem hn_kill {b : Nat} : hn (h.kill b) .mk = hn h .mk := rfl
theorem hn_up {n : Nat} : hn (h.up n) .mk = n := rfl

/-! ### Code -/
theorem c_skip : cz P W0 D .skip e h Q .mk = qz Q .normal e h .mk := rfl
theorem c_ret : cz P W0 D .ret e h Q .mk = qz Q .ret e h .mk := rfl
theorem c_exit {id : Nat} : cz P W0 D (.exit id) e h Q .mk = qz Q (.exit id) e h .mk := rfl
theorem c_seq {a b : Code} : cz P W0 D (.seq a b) e h Q .mk = cz P W0 D a e h (seqK P W0 D b Q) .mk := rfl
theorem c_block {id : Nat} {b : Code} : cz P W0 D (.block id b) e h Q .mk = cz P W0 D b e h (blockQ2 id Q) .mk := rfl
theorem c_cond {c : Operand} {a b : Code} : cz P W0 D (.cond c a b) e h Q .mk = dz (opz e c .mk) (cz P W0 D a e h Q .mk) (cz P W0 D b e h Q .mk) .mk := rfl
theorem c_loop {b : Code} : cz P W0 D (.loop b) e h Q .mk = lz P W0 D b e h Q .mk := rfl
def ctz (F : E2 → Prop) (ks : List Nat) (e E : E2) (_ : Hold (F, e, E)) : Prop := F fun t => if ks.contains t then e t else E t
def ctc (F : E2 → Prop) (ks : List Nat) (e : E2) (k : Nat) (v : X) (E : E2) (_ : Hold (F, e, E)) : Prop := F fun t => if ks.contains t then e t else E.put k v t
def ctO (F : E2 → Prop) (o : Option (List Nat)) (e : E2) (_ : Hold (F, e)) : Prop := F (cut2 o e)
def noE : E2 := fun _ => .raw hole
def fz (F : E2 → Prop) (e : E2) (_ : Hold (F, e)) : Prop := F e
theorem ctz_nil {F : E2 → Prop} {e E : E2} : ctz F [] e E .mk = fz F E .mk := by simp [ctz, fz]
theorem ctz_cons {F : E2 → Prop} {e E : E2} {k : Nat} {ks : List Nat} : ctz F (k :: ks) e E .mk = ctc F ks e k (look e k .mk) E .mk := by
  simp only [ctz, ctc, look]
  congr 1
  funext t
  by_cases ht : t = k
  · subst ht; simp [E2.put]
  · simp [E2.put, ht]
theorem ctc_put {F : E2 → Prop} {e E : E2} {k : Nat} {v : X} {ks : List Nat} : ctc F ks e k v E .mk = ctz F ks e (E.put k v) .mk := rfl
theorem ctO_none {F : E2 → Prop} {e : E2} : ctO F none e .mk = fz F e .mk := rfl
theorem ctO_some {F : E2 → Prop} {e : E2} {ks : List Nat} : ctO F (some ks) e .mk = ctz F ks e noE .mk := rfl
theorem look_no {t : Nat} : look noE t .mk = .raw hole := rfl
def cpz (D : Nat → Option (List Nat)) (id : Nat) (_ : Hold D) : Option (List Nat) := D id
theorem cp_0 {a : List Nat} {l : List (List Nat)} : cpz (cpL (a :: l)) 0 .mk = some a := rfl
theorem cp_S {a : List Nat} {l : List (List Nat)} {n : Nat} : cpz (cpL (a :: l)) (n + 1) .mk = cpz (cpL l) n .mk := by simp [cpz, cpL]
theorem cp_N {n : Nat} : cpz (cpL []) n .mk = none := by simp [cpz, cpL]
def rgF (P : Program) (W0 : World) (l : List Oper) (h : H2) (Q : Q2) : E2 → Prop := fun e => vcO2 P W0 l l e h Q
def rdF (P : Program) (W0 : World) (l : List Oper) (h : H2) (Q : Q2) : E2 → Prop := fun e => drz P W0 l e h Q .mk
theorem c_region {id : Nat} {l : List Oper} : cz P W0 D (.region id l.toArray false) e h Q .mk = ctO (rgF P W0 l h Q) (cpz D id .mk) e .mk := by simp [cz, vcC2, ctO, rgF, cpz]
theorem c_regionD {id : Nat} {l : List Oper} : cz P W0 D (.region id l.toArray true) e h Q .mk = ctO (rdF P W0 l h Q) (cpz D id .mk) e .mk := by simp [cz, vcC2, ctO, rdF, cpz, drz]
theorem fz_rg {l : List Oper} : fz (rgF P W0 l h Q) e .mk = oz P W0 l l e h Q .mk := rfl
theorem fz_rd {l : List Oper} : fz (rdF P W0 l h Q) e .mk = drz P W0 l e h Q .mk := rfl
theorem d_bool {b : Bool} {A B : Prop} : dz (.raw (.bool b)) A B .mk = gz b A B .mk := rfl
theorem g_true {A B : Prop} : gz true A B .mk = A := by simp [gz, gate]
theorem g_false {A B : Prop} : gz false A B .mk = B := by simp [gz, gate]
theorem seqQ_n {b : Code} : qz (seqK P W0 D b Q) .normal e h .mk = cz P W0 D b e h Q .mk := rfl
theorem seqQ_r {b : Code} : qz (seqK P W0 D b Q) .ret e h .mk = qz Q .ret e h .mk := rfl
theorem seqQ_x {b : Code} {j : Nat} : qz (seqK P W0 D b Q) (.exit j) e h .mk = qz Q (.exit j) e h .mk := rfl
theorem blockQ_n {id : Nat} : qz (blockQ2 id Q) .normal e h .mk = qz Q .normal e h .mk := rfl
theorem blockQ_r {id : Nat} : qz (blockQ2 id Q) .ret e h .mk = qz Q .ret e h .mk := rfl
def bqz (b : Bool) (j : Nat) (Q : Q2) (e : E2) (h : H2) (_ : Hold (Q, e, h)) : Prop := match b with | true => Q .normal e h | false => Q (.exit j) e h
theorem bq_t {j : Nat} : bqz true j Q e h .mk = qz Q .normal e h .mk := rfl
theorem bq_f {j : Nat} : bqz false j Q e h .mk = qz Q (.exit j) e h .mk := rfl
theorem blockQ_x {id j : Nat} : qz (blockQ2 id Q) (.exit j) e h .mk = bqz (j == id) j Q e h .mk := by
  simp only [qz, blockQ2, bqz]
  by_cases hj : j = id
  · simp [hj]
  · have : (j == id) = false := by simp [hj]
    rw [if_neg hj, this]
/-- The invariant again, with fewer rounds to go. -/
def nxz (I : Nat → E2 → H2 → Prop) (n : Nat) (e : E2) (h : H2) (_ : Hold (I, n, e, h)) : Prop := ∃ m, m < n ∧ I m e h
theorem loopQ_n {I : Nat → E2 → H2 → Prop} {n : Nat} : qz (loopQ2 I n Q) .normal e h .mk = nxz I n e h .mk := rfl
theorem loopQ_r {I : Nat → E2 → H2 → Prop} {n : Nat} : qz (loopQ2 I n Q) .ret e h .mk = qz Q .ret e h .mk := rfl
theorem loopQ_x {I : Nat → E2 → H2 → Prop} {n j : Nat} : qz (loopQ2 I n Q) (.exit j) e h .mk = qz Q (.exit j) e h .mk := rfl
theorem ends_n {rs : List ResultVar} : qz (endsX P rs K) .normal e h .mk = ez (rz P e h rs .mk) h K .mk := rfl
theorem ends_r {rs : List ResultVar} : qz (endsX P rs K) .ret e h .mk = ez (rz P e h rs .mk) h K .mk := rfl
theorem rz_nil : rz P e h [] .mk = some [] := rfl
def consR (v : Option X) (l : Option (List X)) : Option (List X) := match v, l with | some v, some l => some (v :: l) | _, _ => none
theorem consR_some {v : X} {l : List X} : consR (some v) (some l) = some (v :: l) := rfl
theorem rz_tmp {t : Nat} {r : List ResultVar} : rz P e h (.tmp t :: r) .mk = consR (some (look e t .mk)) (rz P e h r .mk) := by simp only [rz, resX, consR, look]; cases resX P h e r <;> rfl
def loadz (P : Program) (h : H2) (t : TypeId) (v : X) (_ : Hold h) : Option X := loadX P h t v
theorem rz_cell {a t : Nat} {r : List ResultVar} : rz P e h (.cell a t :: r) .mk = consR (loadz P h t (look e a .mk) .mk) (rz P e h r .mk) := rfl
theorem e_1 {v : X} : ez (some [v]) h K .mk = kz K v h .mk := rfl
theorem e_0 : ez (some []) h K .mk = kz K (.tp []) h .mk := by simp [ez, endX, outX, kz]
theorem e_2 {v u : X} (hv : isTpX v = false) (hu : isTpX u = false) : ez (some [v, u]) h K .mk = kz K (.tp [v, u]) h .mk := by simp [ez, endX, outX, hv, hu, kz]
theorem e_3 {v u x : X} (hv : isTpX v = false) (hu : isTpX u = false) (hx : isTpX x = false) : ez (some [v, u, x]) h K .mk = kz K (.tp [v, u, x]) h .mk := by simp [ez, endX, outX, hv, hu, hx, kz]
theorem e_4 {v u x y : X} (hv : isTpX v = false) (hu : isTpX u = false) (hx : isTpX x = false) (hy : isTpX y = false) : ez (some [v, u, x, y]) h K .mk = kz K (.tp [v, u, x, y]) h .mk := by simp [ez, endX, outX, hv, hu, hx, hy, kz]
theorem tup_int {k : IntKind} {n : Int} : isTpX (.raw (.int k n)) = false := rfl
theorem tup_bool {b : Bool} : isTpX (.raw (.bool b)) = false := rfl
theorem tup_str {b : ByteArray} : isTpX (.raw (.string b)) = false := rfl
theorem tup_slr {a : Option Addr} {l c : Nat} : isTpX (.raw (.slice a l c)) = false := rfl
theorem tup_ptr {a : Option Addr} : isTpX (.raw (.pointer a)) = false := rfl
theorem tup_sl {f : Adr} {z : Nat} {es : List (List T)} : isTpX (.sl f z es) = false := rfl
theorem tup_st {a : List X} : isTpX (.st a) = false := rfl

/-! ### Operations -/
theorem kz_o {ops r : List Oper} {d : Option Tmp} {v : X} : kz (oK P W0 ops r d e Q) v h .mk = oz P W0 ops r (e.putO d v) h Q .mk := rfl
theorem b_some {v : X} : bz (some v) h K .mk = kz K v h .mk := rfl
theorem a_some {v : X} {h' : H2} : az (some (v, h')) K .mk = kz K v h' .mk := rfl
theorem s_some {h' : H2} : sz (some h') K .mk = kz K (.raw undef) h' .mk := rfl
theorem n_some {cs : List X} {n : Nat} : nz (some cs) (some n) h K .mk = kz K (.raw (.pointer (some ⟨hn h .mk, 0, none⟩))) (h.push ⟨n, cs⟩) .mk := rfl
def litz (n z : Nat) (cs : List X) (t : Option (List T)) (h : H2) (K : KT) (_ : Hold (h, K)) : Prop := match n, t with
  | m + 1, some ts => K (.sl (litA h.n (m + 1) z cs) z (chunk z (m + 1) ts)) (h.up (h.n + 1))
  | n, _ => K (.raw (.slice (some ⟨h.n, 0, none⟩) n n)) (h.push ⟨z, cs⟩)
theorem ro_some {l : List X} {z n : Nat} : roz (some l) z n h K .mk = litz n z l (toTs l) h K .mk := by
  simp only [roz, litX, litz]
  cases n <;> cases toTs l <;> rfl
theorem lit_0 {z : Nat} {cs : List X} {t : Option (List T)} : litz 0 z cs t h K .mk = kz K (.raw (.slice (some ⟨hn h .mk, 0, none⟩) 0 0)) (h.push ⟨z, cs⟩) .mk := by cases t <;> rfl
theorem lit_S {z n : Nat} {cs : List X} {ts : List T} : litz (n + 1) z cs (some ts) h K .mk = kz K (.sl (litA (hn h .mk) (n + 1) z cs) z (chunk z (n + 1) ts)) (h.up (hn h .mk + 1)) .mk := rfl
theorem lit_N {z n : Nat} {cs : List X} : litz n z cs none h K .mk = kz K (.raw (.slice (some ⟨hn h .mk, 0, none⟩) n n)) (h.push ⟨z, cs⟩) .mk := by cases n <;> rfl
def toTc (t : Option T) (r : Option (List T)) : Option (List T) := match t, r with | some t, some r => some (t :: r) | _, _ => none
theorem toTs_nil : toTs [] = some [] := rfl
theorem toTs_cons {x : X} {l : List X} : toTs (x :: l) = toTc (toT x) (toTs l) := rfl
theorem toTc_some {t : T} {r : List T} : toTc (some t) (some r) = some (t :: r) := rfl
theorem toTc_none {r : Option (List T)} : toTc none r = none := rfl
theorem toT_int {k : IntKind} {n : Int} : toT (.raw (.int k n)) = some (.v (.int k n)) := rfl
theorem toT_bool {b : Bool} : toT (.raw (.bool b)) = some (.v (.bool b)) := rfl
theorem toT_str {b : ByteArray} : toT (.raw (.string b)) = some (.v (.string b)) := rfl
theorem toT_sl {f : Adr} {z : Nat} {es : List (List T)} : toT (.sl f z es) = some (.l z es) := rfl
theorem toT_own {a : Addr} {n c : Nat} : toT (.raw (.slice (some a) n c)) = none := rfl
theorem toT_ptr {a : Addr} : toT (.raw (.pointer (some a))) = none := rfl
theorem o_nil {ops : List Oper} : oz P W0 ops [] e h Q .mk = qz Q .normal e h .mk := rfl
theorem o_cons {ops r : List Oper} {d : Option Tmp} {o : Op} {t : TypeId} {p : String} {a : Array Edge} :
    oz P W0 ops (⟨d, o, t, p, a, none⟩ :: r) e h Q .mk = xz P W0 o e h (oK P W0 ops r d e Q) .mk := by
  show gate true (opO2 P W0 e h o (oK P W0 ops r d e Q)) _ = opO2 P W0 e h o (oK P W0 ops r d e Q)
  simp only [gate]; exact propext ⟨fun hh => hh.1 trivial, fun hh => ⟨fun _ => hh, fun hf => absurd hf (by simp)⟩⟩
theorem o_guard {ops r : List Oper} {d : Option Tmp} {o : Op} {t : TypeId} {p : String} {a : Array Edge} {j : Nat} {b : Bool} :
    oz P W0 ops (⟨d, o, t, p, a, some (j, b)⟩ :: r) e h Q .mk =
      gd (guardX ops e (some (j, b))) (xz P W0 o e h (oK P W0 ops r d e Q) .mk) (oz P W0 ops r (e.putO d (.raw undef)) h Q .mk) .mk := rfl
def gof (d : Option Nat) (b : Bool) (e : E2) (_ : Hold e) : Option Bool := match d with | none => some false | some t => bitX b (e t)
theorem guard_at {ops : List Oper} {j : Nat} {b : Bool} : guardX ops e (some (j, b)) = gof (dstz ops j .mk) b e .mk := rfl
theorem gof_some {t : Nat} {b : Bool} : gof (some t) b e .mk = bitX b (look e t .mk) := rfl
theorem gof_none {b : Bool} : gof none b e .mk = some false := rfl
theorem gd_some {b : Bool} {A B : Prop} : gd (some b) A B .mk = gz b A B .mk := rfl
theorem bit_bool {w b : Bool} : bitX w (.raw (.bool b)) = some (b == w) := rfl
theorem bit_undef {w : Bool} : bitX w (.raw undef) = some false := rfl

theorem x_move {x : Operand} : xz P W0 (.move x) e h K .mk = kz K (opz e x .mk) h .mk := rfl
theorem x_assign {x : Operand} : xz P W0 (.assign x) e h K .mk = kz K (opz e x .mk) h .mk := rfl
def pickV (c a b : X) : Option X := match c with | .raw (.bool true) => some a | .raw (.bool false) => some b | _ => none
theorem x_pick {c x y : Operand} : xz P W0 (.pick c x y) e h K .mk = bz (pickV (opz e c .mk) (opz e x .mk) (opz e y .mk)) h K .mk := by
  simp only [xz, opO2, callX, opx, thenX, bz, pickV, opz]
  split <;> rename_i heq <;> split at heq <;> simp_all
theorem pick_t {a b : X} : pickV (.raw (.bool true)) a b = some a := rfl
theorem pick_f {a b : X} : pickV (.raw (.bool false)) a b = some b := rfl
theorem pick_b {c a b : Bool} : pickV (.raw (.bool c)) (.raw (.bool a)) (.raw (.bool b)) = some (.raw (.bool (Ai.pkB c a b))) := by cases c <;> rfl
theorem x_alloc {t : TypeId} : xz P W0 (.alloc t) e h K .mk = nz ((Ai.zr? P t).map (·.map .raw)) (Ai.sz? P t) h K .mk := by
  simp only [xz, opO2, callX, opx, thenX, nz]; cases Ai.zr? P t <;> cases Ai.sz? P t <;> simp [newX]
theorem zr_map {l : List Value} : (some l).map (·.map X.raw) = some (l.map X.raw) := rfl
theorem x_box {t : TypeId} {x : Operand} : xz P W0 (.box t x) e h K .mk = nz (cellsX (opz e x .mk)) (Ai.sz? P t) h K .mk := by
  simp only [xz, opO2, callX, opx, thenX, nz, opz]; cases cellsX (e.op x) <;> cases Ai.sz? P t <;> simp [newX]
theorem x_load {t : TypeId} {x : Operand} : xz P W0 (.load t x) e h K .mk = bz (loadz P h t (opz e x .mk) .mk) h K .mk := by
  simp only [xz, opO2, callX, opx, bz, loadz, opz]; cases loadX P h t (e.op x) <;> rfl
def storez (P : Program) (h : H2) (t : TypeId) (x y : X) (_ : Hold h) : Option H2 := storeX P h t x y
theorem x_store {t : TypeId} {x y : Operand} : xz P W0 (.store t x y) e h K .mk = sz (storez P h t (opz e x .mk) (opz e y .mk) .mk) K .mk := by
  simp only [xz, opO2, callX, opx, thenX, sz, storez, opz]; cases storeX P h t (e.op x) (e.op y) <;> simp
def nilV (v : X) : Option X := if ptrX v then some v else none
theorem x_nil {x : Operand} : xz P W0 (.nilCheck x) e h K .mk = bz (nilV (opz e x .mk)) h K .mk := by
  simp only [xz, opO2, callX, opx, thenX, bz, nilV, opz]; by_cases hp : ptrX (e.op x) = true <;> simp [hp]
theorem nilV_ptr {a : Addr} : nilV (.raw (.pointer (some a))) = some (.raw (.pointer (some a))) := rfl
theorem nilV_pr {a : Value} {f : Adr} {c : List T} : nilV (.pr a f c) = some (.pr a f c) := rfl
theorem x_bin {op : BinOp} {t u : TypeId} {x y : Operand} : xz P W0 (.binOp op t x y u) e h K .mk = bz (binX P op t (opz e x .mk) (opz e y .mk)) h K .mk := by
  simp only [xz, opO2, callX, opx, bz, opz]; cases binX P op t (e.op x) (e.op y) <;> rfl
theorem x_un {op : UnOp} {t : TypeId} {x : Operand} : xz P W0 (.unOp op t x) e h K .mk = bz (unX op (opz e x .mk)) h K .mk := by
  simp only [xz, opO2, callX, opx, bz, opz]; cases unX op (e.op x) <;> rfl
def convz (P : Program) (h : H2) (s d : TypeId) (x : X) (_ : Hold h) : Option (X × H2) := convX P h s d x
theorem x_conv {s d : TypeId} {x : Operand} : xz P W0 (.convert s d x) e h K .mk = az (convz P h s d (opz e x .mk) .mk) K .mk := rfl
def omap (o : Option Operand) (e : E2) (_ : Hold e) : Option X := o.map e.op
theorem omap_none : omap none e .mk = none := rfl
theorem omap_some {x : Operand} : omap (some x) e .mk = some (opz e x .mk) := rfl
def slicez (P : Program) (h : H2) (t : TypeId) (x : X) (lo hi mx : Option X) (_ : Hold h) : Option X := sliceX P h t x lo hi mx
theorem x_slice {t : TypeId} {x : Operand} {lo hi mx : Option Operand} : xz P W0 (.slice t x lo hi mx) e h K .mk = bz (slicez P h t (opz e x .mk) (omap lo e .mk) (omap hi e .mk) (omap mx e .mk) .mk) h K .mk := by
  simp only [xz, opO2, callX, opx, bz, opz, slicez, omap]; cases sliceX P h t (e.op x) (lo.map e.op) (hi.map e.op) (mx.map e.op) <;> rfl
theorem x_fieldAddr {s : TypeId} {x : Operand} {f : Nat} : xz P W0 (.fieldAddr s x f) e h K .mk = bz (fieldAddrX P s (opz e x .mk) f) h K .mk := by
  simp only [xz, opO2, callX, opx, bz, opz]; cases fieldAddrX P s (e.op x) f <;> rfl
theorem x_field {s : TypeId} {x : Operand} {f : Nat} : xz P W0 (.field s x f) e h K .mk = bz (fieldX P s (opz e x .mk) f) h K .mk := by
  simp only [xz, opO2, callX, opx, bz, opz]; cases fieldX P s (e.op x) f <;> rfl
theorem x_indexAddr {t : TypeId} {x y : Operand} : xz P W0 (.indexAddr t x y) e h K .mk = bz (indexAddrX P t (opz e x .mk) (opz e y .mk)) h K .mk := by
  simp only [xz, opO2, callX, opx, bz, opz]; cases indexAddrX P t (e.op x) (e.op y) <;> rfl
theorem x_index {t : TypeId} {x y : Operand} : xz P W0 (.index t x y) e h K .mk = bz (indexX P t (opz e x .mk) (opz e y .mk)) h K .mk := by
  simp only [xz, opO2, callX, opx, bz, opz]; cases indexX P t (e.op x) (e.op y) <;> rfl
theorem x_extract {x : Operand} {i : Nat} : xz P W0 (.extract x i) e h K .mk = bz (extractX (opz e x .mk) i) h K .mk := by
  simp only [xz, opO2, callX, opx, bz, opz]; cases extractX (e.op x) i <;> rfl
def makez (P : Program) (h : H2) (t : TypeId) (x y : X) (_ : Hold h) : Option (X × H2) := makeSliceX P h t x y
theorem x_make {t : TypeId} {x y : Operand} : xz P W0 (.makeSlice t x y) e h K .mk = az (makez P h t (opz e x .mk) (opz e y .mk) .mk) K .mk := rfl
def stepz (p : Option (Nat × Nat)) (vs : Option (List X)) (cs : List X) : Option (List X) := match p, vs with | some (off, n), some vs => if vs.length = n then wrtL cs off vs else none | _, _ => none
def fillo (place : Nat → Option (Nat × Nat)) (e : E2) (l : List (Nat × Operand)) (cs : Option (List X)) (_ : Hold (place, e, l)) : Option (List X) := match cs with | some cs => fillX place e l cs | none => none
theorem fillo_nil {p : Nat → Option (Nat × Nat)} {cs : List X} : fillo p e [] (some cs) .mk = some cs := rfl
theorem fillo_cons {p : Nat → Option (Nat × Nat)} {i : Nat} {x : Operand} {l : List (Nat × Operand)} {cs : List X} : fillo p e ((i, x) :: l) (some cs) .mk = fillo p e l (stepz (p i) (cellsX (opz e x .mk)) cs) .mk := by
  simp only [fillo, fillX, stepz, opz]
  cases p i with
  | none => rfl
  | some q =>
    obtain ⟨off, n⟩ := q
    cases cellsX (e.op x) with
    | none => rfl
    | some vs =>
      by_cases hv : vs.length = n
      · simp only [if_pos hv]; cases wrtL cs off vs <;> rfl
      · simp only [if_neg hv]
def aggO (l : Option (List X)) : Option X := l.map fun l => .st l
theorem aggO_some {l : List X} : aggO (some l) = some (.st l) := rfl
def placeS (P : Program) (t : TypeId) : Nat → Option (Nat × Nat) := fun i => (Ai.fld? P t i).map fun p => (p.1, p.2.1)
theorem placeS_at {t i : Nat} : placeS P t i = (Ai.fld? P t i).map fun p => (p.1, p.2.1) := rfl
theorem x_build {t : TypeId} {ps : List (Nat × Operand)} (hz : (Ai.zr? P t).isSome = true) (hb : Ai.bldOk P t = true) : xz P W0 (.build t ps.toArray) e h K .mk = bz (aggO (fillo (placeS P t) e ps ((Ai.zr? P t).map (·.map .raw)) .mk)) h K .mk := by
  cases hz' : Ai.zr? P t with
  | none => rw [hz'] at hz; cases hz
  | some z =>
    simp only [xz, opO2, callX, opx, bz, hz', if_pos hb, aggO, fillo, Option.map_some, show placeS P t = (fun i => (Ai.fld? P t i).map fun p => (p.1, p.2.1)) from rfl]
    generalize fillX (fun i => (Ai.fld? P t i).map fun p => (p.1, p.2.1)) e ps (z.map .raw) = r
    cases r <;> rfl
def placeE (z : Nat) : Nat → Option (Nat × Nat) := fun i => some (i * z, z)
theorem placeE_at {z i : Nat} : placeE z i = some (i * z, z) := rfl
theorem repO_raw {n : Nat} {z : List Value} : (repO n (some z)).map (·.map X.raw) = some ((repL n z).map X.raw) := rfl
theorem x_row {t n : Nat} {ps : List (Nat × Operand)} (hn : rowOk (Ai.elt? P t) (Ai.zr? P (elT (Ai.elt? P t))) n = true) :
    xz P W0 (.buildSlice t n ps.toArray) e h K .mk = roz (fillo (placeE (elZ (Ai.elt? P t))) e ps ((repO n (Ai.zr? P (elT (Ai.elt? P t)))).map (·.map .raw)) .mk) (elZ (Ai.elt? P t)) n h K .mk := by
  cases he : Ai.elt? P t with
  | none => rw [he] at hn; cases hn
  | some q =>
    obtain ⟨u, z, y⟩ := q
    rw [he] at hn
    simp only [elT] at hn
    cases hz : Ai.zr? P u with
    | none => rw [hz] at hn; cases hn
    | some zs =>
      rw [hz] at hn
      simp only [rowOk, Bool.and_eq_true, decide_eq_true_eq] at hn
      simp only [xz, opO2, callX, opx, roz, he, hz, if_pos hn, fillo, elZ, elT, repO, Option.map_some, show placeE z = (fun i => some (i * z, z)) from rfl]
      generalize fillX (fun i => some (i * z, z)) e ps ((repL n zs).map .raw) = r
      cases r <;> rfl
theorem x_call {f : FuncId} {xs : List Operand} {ts : Array TypeId} : xz P W0 (.call ⟨.value (.func f), xs.toArray, ts⟩) e h K .mk = wz P W0 f (lookL e xs .mk) h K .mk := by
  simp [xz, opO2, callX, E2.op, wz, lookL]
theorem dy_fn {g : FuncId} {xs : List X} {caps : List Value} : dyz P W0 (.raw (.func (.func g) #[] caps.toArray)) xs h K .mk = wz P W0 g (xs ++ caps.map .raw) h K .mk := by simp [dyz, wz]
theorem dy_fn0 {g : FuncId} {xs : List X} : dyz P W0 (.raw (.func (.func g) #[] #[])) xs h K .mk = wz P W0 g xs h K .mk := by simp [dyz, wz]
theorem x_dyn {t : Tmp} {xs : List Operand} {ts : Array TypeId} : xz P W0 (.call ⟨.value (.tmp t), xs.toArray, ts⟩) e h K .mk = dyz P W0 (look e t .mk) (lookL e xs .mk) h K .mk := by
  have hno : opx P e h (.call ⟨.value (.tmp t), xs.toArray, ts⟩) = none := rfl
  simp only [xz, opO2, callX, dyz, hno, thenX, look, lookL, E2.op]
  generalize e t = v
  cases v <;> try rfl
  rename_i v
  cases v <;> try rfl
  rename_i fn first caps
  cases fn <;> try rfl
  by_cases h3 : first.size = 0 <;> simp [h3]
def biz (P : Program) (h : H2) (b : Builtin) (ts : List TypeId) (xs : List X) (_ : Hold h) : Option (X × H2) := builtinX P h b ts xs
theorem x_builtin {b : Builtin} {xs : List Operand} {ts : List TypeId} : xz P W0 (.call ⟨.builtin b, xs.toArray, ts.toArray⟩) e h K .mk = az (biz P h b ts (lookL e xs .mk) .mk) K .mk := by
  simp [xz, opO2, callX, opx, biz, lookL, az]
def fnX (f : FuncId) (l : Option (List Value)) : Option X := match l with | some l => (match l.all Ai.ptrV with | true => some (.raw (.func (.func f) #[] l.toArray)) | false => none) | none => none
theorem fn_some {f : FuncId} {l : List Value} : fnX f (some l) = (match l.all Ai.ptrV with | true => some (.raw (.func (.func f) #[] l.toArray)) | false => none) := rfl
theorem fnV0 {f : FuncId} : fnX f (rawL []) = some (.raw (.func (.func f) #[] #[])) := rfl
theorem fnV1 {f : FuncId} {a : Addr} : fnX f (rawL [.raw (.pointer (some a))]) = some (.raw (.func (.func f) #[] [.pointer (some a)].toArray)) := rfl
theorem fnV2 {f : FuncId} {a b : Addr} : fnX f (rawL [.raw (.pointer (some a)), .raw (.pointer (some b))]) = some (.raw (.func (.func f) #[] [.pointer (some a), .pointer (some b)].toArray)) := rfl
theorem x_fn {f : FuncId} {xs : List Operand} : xz P W0 (.makeFunc (.func f) #[] xs.toArray) e h K .mk = bz (fnX f (rawL (lookL e xs .mk))) h K .mk := by
  simp only [xz, opO2, callX, opx, bz, fnX, lookL]
  cases hr : rawL (xs.map e.op) with
  | none => simp [hr, thenX]
  | some l =>
    cases ha : l.all Ai.ptrV
    · simp only [hr, ha, thenX]
      rw [if_neg (by simp)]
    · simp only [hr, ha, thenX]
      rw [if_pos (by simp)]

/-! ### What the operations come to -/
def ldS (o : Option (List X)) : Option X := match o with | some l => some (.st l) | none => none
theorem ldS_some {l : List X} : ldS (some l) = some (.st l) := rfl
def ldz (g : Option Bool) (n : Option Nat) (k : Option OB) (off : Nat) : Option X := match k with
  | some k => (match g with | some true => (match n with | some n => ldS (rdL k.cs off n) | none => none) | some false => k.cs[off]? | none => none)
  | none => none
theorem ld_one {n : Option Nat} {z off : Nat} {cs : List X} : ldz (some false) n (some ⟨z, cs⟩) off = cs[off]? := rfl
theorem ld_agg {n : Nat} {z off : Nat} {cs : List X} : ldz (some true) (some n) (some ⟨z, cs⟩) off = ldS (rdL cs off n) := rfl
theorem load_ptr {t : TypeId} {b off : Nat} {p : Option Nat} : loadz P h t (.raw (.pointer (some ⟨b, off, p⟩))) .mk = ldz (Ai.agg? P t) (Ai.sz? P t) (hg h b .mk) off := by
  simp only [loadz, loadX, hg, ldz, ldS]
  cases h.get b with
  | none => rfl
  | some k =>
    simp only
    cases Ai.agg? P t with
    | none => rfl
    | some g =>
      cases g with
      | false => rfl
      | true =>
        simp only
        cases Ai.sz? P t with
        | none => rfl
        | some n => simp only; cases rdL k.cs off n <;> rfl
def ldp (g : Option Bool) (n : Option Nat) (f : Adr) (cs : List T) : Option X := match g, n with
  | some true, some n => if n ≤ cs.length then some (.st (mkL f 0 (cs.take n))) else none
  | some false, _ => (match cs with | t :: _ => some (mkC f 0 t) | [] => none)
  | _, _ => none
theorem load_pr {t : TypeId} {a : Value} {f : Adr} {cs : List T} : loadz P h t (.pr a f cs) .mk = ldp (Ai.agg? P t) (Ai.sz? P t) f cs := by
  simp only [loadz, loadX, ldp]
  cases Ai.agg? P t with
  | none => rfl
  | some g => cases g <;> cases Ai.sz? P t <;> rfl
theorem ldp_one {n : Option Nat} {f : Adr} {t : T} {cs : List T} : ldp (some false) n f (t :: cs) = some (mkC f 0 t) := rfl
theorem ldp_agg {n : Nat} {f : Adr} {cs : List T} (hn : (decide (n ≤ cs.length)) = true) : ldp (some true) (some n) f cs = some (.st (mkL f 0 (cs.take n))) := by simp only [ldp]; rw [if_pos (of_decide_eq_true hn)]
theorem mkL_nil {f : Adr} {j : Nat} : mkL f j [] = [] := rfl
theorem mkL_cons {f : Adr} {j : Nat} {t : T} {r : List T} : mkL f j (t :: r) = mkC f j t :: mkL f (j + 1) r := rfl
theorem mkC_v {f : Adr} {j : Nat} {x : Value} : mkC f j (.v x) = .raw x := rfl
theorem mkC_l {f : Adr} {j z : Nat} {es : List (List T)} : mkC f j (.l z es) = .sl (under f j) z es := rfl
def stz (vs : Option (List X)) (n : Option Nat) (k : Option OB) (h : H2) (b off : Nat) (_ : Hold h) : Option H2 := match vs, n, k with
  | some vs, some n, some k => if vs.length = n ∧ vs.all okX = true then (wrtL k.cs off vs).map fun cs => h.set b ⟨k.z, cs⟩ else none
  | _, _, _ => none
def stw (b : Bool) (cs : Option (List X)) (h : H2) (c z : Nat) (_ : Hold h) : Option H2 := match b, cs with
  | true, some cs => some (h.set c ⟨z, cs⟩)
  | _, _ => none
theorem stw_some {cs : List X} {c z : Nat} : stw true (some cs) h c z .mk = some (h.set c ⟨z, cs⟩) := rfl
theorem st_some {vs : List X} {n z b off : Nat} {cs : List X} : stz (some vs) (some n) (some ⟨z, cs⟩) h b off .mk = stw (vs.length == n && vs.all okX) (wrtL cs off vs) h b z .mk := by
  simp only [stz, stw]
  by_cases hv : vs.length = n
  · by_cases hq : vs.all okX = true
    · simp only [hv, hq, and_self, if_true, beq_self_eq_true, Bool.and_self]; cases wrtL cs off vs <;> rfl
    · simp [hv, hq]
  · simp [hv]
theorem store_ptr {t : TypeId} {b off : Nat} {p : Option Nat} {y : X} : storez P h t (.raw (.pointer (some ⟨b, off, p⟩))) y .mk = stz (cellsX y) (Ai.sz? P t) (hg h b .mk) h b off .mk := by
  simp only [storez, storeX, hg, stz]
  cases cellsX y <;> cases Ai.sz? P t <;> first | rfl | (dsimp only; cases h.get b <;> rfl)
theorem cells_int {k : IntKind} {n : Int} : cellsX (.raw (.int k n)) = some [.raw (.int k n)] := rfl
theorem cells_bool {b : Bool} : cellsX (.raw (.bool b)) = some [.raw (.bool b)] := rfl
theorem cells_str {b : ByteArray} : cellsX (.raw (.string b)) = some [.raw (.string b)] := rfl
theorem cells_slr {a : Option Addr} {l c : Nat} : cellsX (.raw (.slice a l c)) = some [.raw (.slice a l c)] := rfl
theorem cells_ptr {a : Option Addr} : cellsX (.raw (.pointer a)) = some [.raw (.pointer a)] := rfl
theorem cells_fn {f : Fn} {a b : Array Value} : cellsX (.raw (.func f a b)) = some [.raw (.func f a b)] := rfl
theorem cells_sl {f : Adr} {z : Nat} {es : List (List T)} : cellsX (.sl f z es) = some [.sl f z es] := rfl
theorem cells_pr {a : Value} {f : Adr} {c : List T} : cellsX (.pr a f c) = some [.pr a f c] := rfl
theorem cells_st {l : List X} : cellsX (.st l) = some l := rfl
def rw1 (o : Option Value) : Option X := rawO o
theorem rw_some {v : Value} : rawO (some v) = some (.raw v) := rfl
theorem bin_raw {op : BinOp} {t : TypeId} {a b : Value} : binX P op t (.raw a) (.raw b) = rawO (Ai.binV P op t a b) := rfl
theorem un_raw {op : UnOp} {a : Value} : unX op (.raw a) = rawO (Ai.unV op a) := rfl
theorem ix_raw {t : TypeId} {a b : Value} : indexX P t (.raw a) (.raw b) = rawO (Ai.indexV P t a b) := rfl
theorem nil_sl {t : TypeId} {f : Adr} {z n c : Nat} {es : List (List T)} (hc : Ai.cls? P t = some .sl) : binX P .eql t (.sl f z es) (.raw (.slice none n c)) = some (.raw (.bool (nilS (f [])))) := by simp [binX, hc]
theorem nnil_sl {t : TypeId} {f : Adr} {z n c : Nat} {es : List (List T)} (hc : Ai.cls? P t = some .sl) : binX P .neq t (.sl f z es) (.raw (.slice none n c)) = some (.raw (.bool (!nilS (f [])))) := by simp [binX, hc]
theorem nil_slr {t : TypeId} {a : Option Addr} {m k n c : Nat} (hc : Ai.cls? P t = some .sl) : binX P .eql t (.raw (.slice a m k)) (.raw (.slice none n c)) = some (.raw (.bool a.isNone)) := by
  simp only [binX, Ai.binV, Ai.eqV, hc, rawO]; cases a <;> rfl
theorem nnil_slr {t : TypeId} {a : Option Addr} {m k n c : Nat} (hc : Ai.cls? P t = some .sl) : binX P .neq t (.raw (.slice a m k)) (.raw (.slice none n c)) = some (.raw (.bool (!a.isNone))) := by
  simp only [binX, Ai.binV, Ai.eqV, hc, rawO]; cases a <;> rfl
theorem isN_none : (none : Option Addr).isNone = true := rfl
theorem isN_some {a : Addr} : (some a).isNone = false := rfl
theorem fa_raw {s f : Nat} {v : Value} : fieldAddrX P s (.raw v) f = rawO (Ai.fieldAddrV P s v f) := rfl
theorem fa_pr {s f : Nat} {a : Value} {k : Adr} {ts : List T} (hp : posN (fldN (Ai.fld? P s f)) = true) (hl : decide (fldO (Ai.fld? P s f) ≤ ts.length) = true) :
    fieldAddrX P s (.pr a k ts) f = some (.pr (offV (fldO (Ai.fld? P s f)) a) (shA k (fldO (Ai.fld? P s f))) (ts.drop (fldO (Ai.fld? P s f)))) := by
  simp only [fieldAddrX]
  cases hf : Ai.fld? P s f with
  | none => rw [hf] at hp; cases hp
  | some q =>
    obtain ⟨o, n, b⟩ := q
    rw [hf] at hp hl
    cases n with
    | zero => cases hp
    | succ n => simp only [fldO] at hl ⊢; rw [if_pos (of_decide_eq_true hl)]
def partz (cs : List X) (q : Option (Nat × Nat × Bool)) : Option X := match q with | some q => partX cs q | none => none
theorem part_one {cs : List X} {o n : Nat} : partz cs (some (o, n, false)) = cs[o]? := rfl
theorem part_agg {cs : List X} {o n : Nat} : partz cs (some (o, n, true)) = ldS (rdL cs o n) := by simp only [partz, partX, ldS]; cases rdL cs o n <;> rfl
theorem field_st {s f : Nat} {cs : List X} : fieldX P s (.st cs) f = partz cs (Ai.fld? P s f) := by
  unfold fieldX partz; cases Ai.fld? P s f <;> rfl
theorem ia_raw {t : TypeId} {a i : Value} : indexAddrX P t (.raw a) (.raw i) = rawO (Ai.indexAddrV P t a i) := rfl
/-- The element at a place. -/
def el (es : List (List T)) (i : Nat) : List T := es.getD i []
theorem ia_sl {t z : Nat} {f : Adr} {es : List (List T)} {k : IntKind} {i : Int} (h1 : (eltZ (Ai.elt? P t) == z) = true) (he : (Ai.elt? P t).isSome = true) (h2 : 0 ≤ i) (h3 : i.toNat < es.length) :
    indexAddrX P t (.sl f z es) (.raw (.int k i)) = some (.pr (idxV i.toNat z (f [])) (under f i.toNat) (el es i.toNat)) := by
  simp only [indexAddrX]
  cases hq : Ai.elt? P t with
  | none => rw [hq] at he; cases he
  | some q =>
    obtain ⟨u, s, b⟩ := q
    rw [hq] at h1
    simp only [eltZ, beq_iff_eq] at h1
    simp only
    rw [if_pos ⟨h1, h2, h3⟩]; rfl
theorem el_map {α : Type} [Inhabited α] {xs : List α} {F : α → List T} {i : Nat} (hi : i < xs.length) : el (xs.map F) i = F (xs.getD i default) := by
  unfold el
  rw [List.getD_eq_getElem?_getD, List.getD_eq_getElem?_getD, List.getElem?_map, List.getElem?_eq_getElem hi]; rfl
theorem ex_0 {v : X} {l : List X} : extractX (.tp (v :: l)) 0 = some v := rfl
theorem ex_S {v : X} {l : List X} {n : Nat} : extractX (.tp (v :: l)) (n + 1) = extractX (.tp l) n := by simp [extractX]
theorem len_str {t : TypeId} {s : ByteArray} (hc : Ai.cls? P t = some .str) : biz P h .len [t] [.raw (.string s)] .mk = some (.raw (.int .i64 s.size), h) := by simp only [biz, builtinX, hc]
theorem len_slr {t : TypeId} {a : Option Addr} {n c : Nat} (hc : Ai.cls? P t = some .sl) : biz P h .len [t] [.raw (.slice a n c)] .mk = some (.raw (.int .i64 n), h) := by simp only [biz, builtinX, hc]
theorem len_sl {t : TypeId} {f : Adr} {z : Nat} {es : List (List T)} (hc : Ai.cls? P t = some .sl) : biz P h .len [t] [.sl f z es] .mk = some (.raw (.int .i64 es.length), h) := by simp only [biz, builtinX, hc]
theorem bi_max {ts : List TypeId} {k : IntKind} {x y : Int} : biz P h .max ts [.raw (.int k x), .raw (.int k y)] .mk = some (.raw (.int k (mxI x y)), h) := by simp [biz, builtinX, minmaxV, rawL]
theorem bi_min {ts : List TypeId} {k : IntKind} {x y : Int} : biz P h .min ts [.raw (.int k x), .raw (.int k y)] .mk = some (.raw (.int k (mnI x y)), h) := by simp [biz, builtinX, minmaxV, rawL]
theorem bi_max3 {ts : List TypeId} {k : IntKind} {x y z : Int} : biz P h .max ts [.raw (.int k x), .raw (.int k y), .raw (.int k z)] .mk = some (.raw (.int k (mxI (mxI x y) z)), h) := by simp [biz, builtinX, minmaxV, rawL]
theorem cv_int {s d : TypeId} {k : IntKind} {n : Int} (hs : isI (Ai.cls? P s) = true) (hd : isI (Ai.cls? P d) = true) : convz P h s d (.raw (.int k n)) .mk = some (.raw (.int (clsK (Ai.cls? P d)) ((clsK (Ai.cls? P d)).wrap n)), h) := by
  simp only [convz, convX]
  cases hs' : Ai.cls? P s with
  | none => rw [hs'] at hs; simp [isI] at hs
  | some c =>
    cases c <;> (try (rw [hs'] at hs; simp [isI] at hs; done))
    cases hd' : Ai.cls? P d with
    | none => rw [hd'] at hd; simp [isI] at hd
    | some c' => cases c' <;> first | rfl | (rw [hd'] at hd; simp [isI] at hd; done)
theorem cv_str {s d : TypeId} {b : ByteArray} (hs : Ai.cls? P s = some .str) (hd : Ai.cls? P d = some .str) : convz P h s d (.raw (.string b)) .mk = some (.raw (.string b), h) := by
  simp only [convz, convX, hs, hd]
theorem ok_all_nil : (([] : List X).all okX) = true := rfl
theorem ok_all_cons {v : X} {l : List X} : ((v :: l).all okX) = (okX v && l.all okX) := rfl
theorem ok_int {k : IntKind} {n : Int} : okX (.raw (.int k n)) = true := rfl
theorem ok_bool {b : Bool} : okX (.raw (.bool b)) = true := rfl
theorem ok_str {b : ByteArray} : okX (.raw (.string b)) = true := rfl
theorem ok_slr {a : Option Addr} {l c : Nat} : okX (.raw (.slice a l c)) = true := rfl
theorem ok_ptr {a : Option Addr} : okX (.raw (.pointer a)) = true := rfl
theorem ok_fn {f : Fn} {a b : Array Value} : okX (.raw (.func f a b)) = true := rfl
theorem ok_sl {f : Adr} {z : Nat} {es : List (List T)} : okX (.sl f z es) = true := rfl
theorem ok_pr {a : Value} {f : Adr} {c : List T} : okX (.pr a f c) = true := rfl
def consO (v : X) (l : Option (List X)) : Option (List X) := match l with | some l => some (v :: l) | none => none
theorem consO_some {v : X} {l : List X} : consO v (some l) = some (v :: l) := rfl
theorem rd_nil {cs : List X} : rdL cs 0 0 = some [] := by simp [rdL]
theorem rd_one {c : X} {cs : List X} {n : Nat} : rdL (c :: cs) 0 (n + 1) = consO c (rdL cs 0 n) := by
  simp only [rdL, consO, List.length_cons, Nat.zero_add, List.drop_zero, List.take_succ_cons]
  by_cases hn : n ≤ cs.length
  · rw [if_pos (by omega), if_pos hn]
  · rw [if_neg (by omega), if_neg hn]
theorem rd_skip {c : X} {cs : List X} {o n : Nat} : rdL (c :: cs) (o + 1) n = rdL cs o n := by
  simp only [rdL, List.length_cons, List.drop_succ_cons]
  by_cases hn : o + n ≤ cs.length
  · rw [if_pos (by omega), if_pos hn]
  · rw [if_neg (by omega), if_neg hn]
theorem rd_all {cs : List X} {n : Nat} (hn : cs.length = n) : rdL cs 0 n = some cs := by subst hn; simp [rdL]
theorem wrt_nil {cs : List X} : wrtL cs 0 [] = some cs := by simp [wrtL]
theorem wrt_one {c v : X} {cs vs : List X} : wrtL (c :: cs) 0 (v :: vs) = consO v (wrtL cs 0 vs) := by
  simp only [wrtL, consO, List.length_cons, Nat.zero_add, List.take_zero, List.nil_append, List.drop_succ_cons, List.cons_append]
  by_cases hn : vs.length ≤ cs.length
  · rw [if_pos (by omega), if_pos hn]
  · rw [if_neg (by omega), if_neg hn]
theorem wrt_skip {c : X} {cs vs : List X} {o : Nat} : wrtL (c :: cs) (o + 1) vs = consO c (wrtL cs o vs) := by
  simp only [wrtL, consO, List.length_cons, List.take_succ_cons, List.cons_append]
  by_cases hn : o + vs.length ≤ cs.length
  · rw [if_pos (by omega), if_pos hn, show o + 1 + vs.length = (o + vs.length) + 1 by omega, List.drop_succ_cons]
  · rw [if_neg (by omega), if_neg hn]
theorem step_some {off n : Nat} {vs cs : List X} (hn : (vs.length == n) = true) : stepz (some (off, n)) (some vs) cs = wrtL cs off vs := by
  simp only [stepz]; rw [if_pos (by simpa using hn)]
theorem chunk_0 {z : Nat} {l : List T} : chunk z 0 l = [] := rfl
theorem chunk_S {z n : Nat} {l : List T} : chunk z (n + 1) l = l.take z :: chunk z n (l.drop z) := rfl

/-! ### Plans -/
def runz (P : Program) (W0 : World) (l : List Oper) (p : List (Nat × List Nat)) (e : E2) (h : H2) (Q : Q2) (_ : Hold (l, p, e, h, Q)) : Prop := runX P W0 l p e h Q
def rK (P : Program) (W0 : World) (l : List Oper) (pd : List Nat) (r : List (Nat × List Nat)) (d : Option Tmp) (e : E2) (Q : Q2) : KT :=
  fun v h' => (∀ q ∈ pd, staysX P l q (e.putO d v) h') ∧ runX P W0 l r (e.putO d v) h' Q
def opzz (P : Program) (W0 : World) (l : List Oper) (o : Option Oper) (pd : List Nat) (r : List (Nat × List Nat)) (e : E2) (h : H2) (Q : Q2) (_ : Hold (l, pd, r, e, h, Q)) : Prop := match o with
  | none => False
  | some o => guarded (guardX l e o.guard) (opO2 P W0 e h o.op (rK P W0 l pd r o.dst e Q)) (runX P W0 l r (e.putO o.dst (.raw undef)) h Q)
theorem run_nil {l : List Oper} : runz P W0 l [] e h Q .mk = qz Q .normal e h .mk := rfl
theorem run_cons {l : List Oper} {i : Nat} {pd : List Nat} {r : List (Nat × List Nat)} : runz P W0 l ((i, pd) :: r) e h Q .mk = opzz P W0 l (atz l i .mk) pd r e h Q .mk := rfl
theorem op_plain {l : List Oper} {pd : List Nat} {r : List (Nat × List Nat)} {d : Option Tmp} {o : Op} {t : TypeId} {p : String} {a : Array Edge} :
    opzz P W0 l (some ⟨d, o, t, p, a, none⟩) pd r e h Q .mk = xz P W0 o e h (rK P W0 l pd r d e Q) .mk := by
  show gate true (opO2 P W0 e h o (rK P W0 l pd r d e Q)) _ = opO2 P W0 e h o (rK P W0 l pd r d e Q)
  simp only [gate]; exact propext ⟨fun hh => hh.1 trivial, fun hh => ⟨fun _ => hh, fun hf => absurd hf (by simp)⟩⟩
theorem op_guard {l : List Oper} {pd : List Nat} {r : List (Nat × List Nat)} {d : Option Tmp} {o : Op} {t : TypeId} {p : String} {a : Array Edge} {j : Nat} {b : Bool} :
    opzz P W0 l (some ⟨d, o, t, p, a, some (j, b)⟩) pd r e h Q .mk = gd (guardX l e (some (j, b))) (xz P W0 o e h (rK P W0 l pd r d e Q) .mk) (runz P W0 l r (e.putO d (.raw undef)) h Q .mk) .mk := rfl
def andz (A B : Prop) (_ : Hold (A, B)) : Prop := A ∧ B
def allz (P : Program) (l : List Oper) (pd : List Nat) (e : E2) (h : H2) (_ : Hold (l, e, h)) : Prop := ∀ q ∈ pd, staysX P l q e h
theorem kz_r {l : List Oper} {pd : List Nat} {r : List (Nat × List Nat)} {d : Option Tmp} {v : X} : kz (rK P W0 l pd r d e Q) v h .mk = (allz P l pd (e.putO d v) h .mk ∧ runz P W0 l r (e.putO d v) h Q .mk) := rfl
theorem kz_r0 {l : List Oper} {r : List (Nat × List Nat)} {d : Option Tmp} {v : X} : kz (rK P W0 l [] r d e Q) v h .mk = runz P W0 l r (e.putO d v) h Q .mk := by
  simp [kz, rK, runz]
theorem kz_r1 {l : List Oper} {q : Nat} {pd : List Nat} {r : List (Nat × List Nat)} {d : Option Tmp} {v : X} : kz (rK P W0 l (q :: pd) r d e Q) v h .mk = (allz P l (q :: pd) (e.putO d v) h .mk ∧ runz P W0 l r (e.putO d v) h Q .mk) := rfl
theorem dq_intro {l : List Oper} (p : List (Nat × List Nat)) (hp : okPlan P l p = true) (hr : runz P W0 l p e h Q .mk) : drz P W0 l e h Q .mk := ⟨p, hp, hr⟩
def stayz (P : Program) (o : Option Oper) (l : List Oper) (e : E2) (h : H2) (_ : Hold (l, e, h)) : Prop := match o with
  | none => True
  | some o => match guardX l e o.guard with
    | some true => (match o.dst with | some d => quietO P o.op = true ∧ opx P e h o.op = some (e d, h) | none => False)
    | some false => True
    | none => False
theorem all_nil {l : List Oper} : allz P l [] e h .mk = True := by simp [allz]
theorem all_cons {l : List Oper} {q : Nat} {pd : List Nat} : allz P l (q :: pd) e h .mk = (stayz P (atz l q .mk) l e h .mk ∧ allz P l pd e h .mk) := by
  simp only [allz, List.forall_mem_cons]; rfl
def stayG (g : Option Bool) (A : Prop) (_ : Hold A) : Prop := match g with | some true => A | some false => True | none => False
theorem stayG_t {A : Prop} : stayG (some true) A .mk = A := rfl
theorem stayG_f {A : Prop} : stayG (some false) A .mk = True := rfl
theorem stay_load {l : List Oper} {d t : Nat} {ty : TypeId} {x : Operand} {p : String} {a : Array Edge} {q : Option (Nat × Bool)} : stayz P (some ⟨some d, .load t x, ty, p, a, q⟩) l e h .mk = stayG (guardX l e q) (loadz P h t (opz e x .mk) .mk = some (look e d .mk)) .mk := by
  simp only [stayz, opx, loadz, opz, look, quietO, stayG]
  cases guardX l e q with
  | none => rfl
  | some b => cases b with
    | false => rfl
    | true => simp only [true_and]; cases loadX P h t (e.op x) <;> simp
theorem stay_slice {l : List Oper} {d t : Nat} {ty : TypeId} {x : Operand} {lo hi mx : Option Operand} {p : String} {a : Array Edge} {q : Option (Nat × Bool)} : stayz P (some ⟨some d, .slice t x lo hi mx, ty, p, a, q⟩) l e h .mk = stayG (guardX l e q) (slicez P h t (opz e x .mk) (omap lo e .mk) (omap hi e .mk) (omap mx e .mk) .mk = some (look e d .mk)) .mk := by
  simp only [stayz, opx, slicez, opz, look, quietO, omap, stayG]
  cases guardX l e q with
  | none => rfl
  | some b => cases b with
    | false => rfl
    | true => simp only [true_and]; cases sliceX P h t (e.op x) (lo.map e.op) (hi.map e.op) (mx.map e.op) <;> simp
theorem guard_none {l : List Oper} : guardX l e none = some true := rfl
theorem somex {x : X} : (some x = some x) = True := by simp

theorem gz_intro {b : Bool} {A B : Prop} (ha : b = true → A) (hb : b = false → B) : gz b A B .mk := ⟨ha, hb⟩
theorem gz_dec {p : Prop} [Decidable p] {A B : Prop} (ha : p → A) (hb : ¬ p → B) : gz (decide p) A B .mk := ⟨fun h => ha (of_decide_eq_true h), fun h => hb (of_decide_eq_false h)⟩
theorem lz_intro {b : Code} (I : Nat → E2 → H2 → Prop) (n : Nat) (h0 : I n e h) (hr : ∀ n e h, I n e h → cz P W0 D b e h (loopQ2 I n Q) .mk) : lz P W0 D b e h Q .mk := ⟨I, n, h0, hr⟩
theorem wz_intro {f : FuncId} {a : List X} {K0 : KT} (c : WC2 P W0 f a h K0) (hk : ∀ v h', K0 v h' → kz K v h' .mk) : wz P W0 f a h K .mk := c.mono hk
theorem start (cp : List (List Nat)) {f : FuncId} {fn : Func} {c : Code} (hm : P.follows .mixedOrders = true) (hf : P.funcs[f]? = some fn) (hb : fn.body = some c)
    (hname : (fn.name != "runtime.NumGoroutine") = true) (hok : okCode fn.ntmps (fun _ => true) c = true) {rs : List ResultVar} (hrs : fn.results.toList = rs) {args : List X} {nt : Nat} (hnt : fn.ntmps = nt) (hlen : args.length ≤ nt)
    (hv : (∀ b, hn h .mk ≤ b → hg h b .mk = none) → cz P W0 (cpL cp) c (rootX args) h (endsX P rs K) .mk) : WC2 P W0 f args h K := WC2_of_body (cp := cpL cp) hm hf hb hname hok (by rw [hnt]; exact hlen) (by rw [hrs]; exact hv)

attribute [go_sem] bq_t bq_f and_self decide_true decide_false Bool.not_true Bool.not_false ne_eq not_false_eq_true Nat.zero_add Nat.add_zero Nat.mul_one
attribute [go_sem] pk_t pk_f hk_t hk_f look_put look_putO look_putN root0 rootS rootN op_tmp op_const of_int of_bool of_str of_sl of_ptr of_nf of_agg op_func lookL_nil lookL_cons hg_push hg_set hg_kill hg_up hn_push hn_set hn_kill hn_up
  c_skip c_ret c_exit c_seq c_block c_cond c_loop c_region c_regionD fz_rg fz_rd ctz_nil ctz_cons ctc_put ctO_none ctO_some look_no cp_0 cp_S cp_N d_bool g_true g_false seqQ_n seqQ_r seqQ_x blockQ_n blockQ_r blockQ_x loopQ_n loopQ_r loopQ_x ends_n ends_r rz_nil consR_some rz_tmp rz_cell e_0 e_1 e_2 e_3 e_4
  tup_int tup_bool tup_str tup_slr tup_ptr tup_sl tup_st b_some a_some s_some n_some ro_some lit_0 lit_S lit_N toTs_nil toTs_cons toTc_some toTc_none toT_int toT_bool toT_str toT_sl toT_own toT_ptr o_nil o_cons o_guard guard_at gof_some gof_none gd_some bit_bool bit_undef
  x_move x_assign x_pick pick_t pick_f pick_b x_alloc zr_map x_box x_load x_store x_nil nilV_ptr nilV_pr x_bin x_un x_conv omap_none omap_some x_slice x_fieldAddr x_field x_indexAddr x_index x_extract x_make fillo_nil fillo_cons aggO_some placeS_at placeE_at x_build repO_raw x_row List.map_cons List.map_nil
  x_call dy_fn dy_fn0 x_dyn x_builtin fnV0 fnV1 fnV2 x_fn ldS_some ld_one ld_agg load_ptr load_pr ldp_one ldp_agg mkL_nil mkL_cons mkC_v mkC_l stw_some st_some store_ptr cells_int cells_bool cells_str cells_slr cells_ptr cells_fn cells_sl cells_pr cells_st rw_some bin_raw un_raw ix_raw nil_sl nnil_sl nil_slr nnil_slr isN_none isN_some
  fa_raw fa_pr part_one part_agg field_st ia_raw ia_sl ex_0 ex_S len_str len_slr len_sl bi_max bi_min bi_max3 cv_int cv_str ok_all_nil ok_all_cons ok_int ok_bool ok_str ok_slr ok_ptr ok_fn ok_sl ok_pr consO_some rd_nil rd_one rd_skip wrt_nil wrt_one wrt_skip step_some chunk_0 chunk_S
  run_nil run_cons op_plain op_guard kz_r1 all_nil all_cons stayG_t stayG_f stay_load stay_slice guard_none somex List.take_succ_cons List.take_zero List.drop_succ_cons List.drop_zero
end Go.Bi
