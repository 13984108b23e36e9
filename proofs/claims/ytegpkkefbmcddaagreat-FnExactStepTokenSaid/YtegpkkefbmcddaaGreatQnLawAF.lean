/- Own lemmas that the theorem of this claim needs: the abstract machine and walks of functions. -/
import Derived.Test.YtegpkkefbmcddaaGreatQnLawAE
set_option linter.unusedSimpArgs false
set_option linter.unusedVariables false
section
namespace Go.Bi
open Go.Ai (Hold fnOk okPlan okTree PT quietO dstAt guarded gate okCode bitOf hole mxI mnI shrI shlI minmaxV posN fldO fldN eltZ elT elZ rowOk repO repL dstz dst0 dstS atz at0 atS cpL)
abbrev KT := X → H2 → Prop
def look (e : E2) (t : Nat) (_ : Hold e) : X := e t
def opz (e : E2) (x : Operand) (_ : Hold e) : X := e.op x
def lookL (e : E2) (l : List Operand) (_ : Hold e) : List X := l.map e.op
def hg (h : H2) (b : Nat) (_ : Hold h) : Option OB := h.get b
def hn (h : H2) (_ : Hold h) : Nat := h.n
section
variable (P : Program) (W0 : World) (D : Nat → Option (List Nat))
def cz (c : Code) (e : E2) (h : H2) (Q : Q2) (_ : Hold (c, e, h, Q, D)) : Prop := vcC2 P W0 D c e h Q
def qz (Q : Q2) (x : Ai.Ex) (e : E2) (h : H2) (_ : Hold (Q, e, h)) : Prop := Q x e h
def oz (ops l : List Oper) (e : E2) (h : H2) (Q : Q2) (_ : Hold (ops, l, e, h, Q)) : Prop := vcO2 P W0 ops l e h Q
def xz (o : Op) (e : E2) (h : H2) (K : KT) (_ : Hold (o, e, h, K)) : Prop := opO2 P W0 e h o K
def wz (f : FuncId) (a : List X) (h : H2) (K : KT) (_ : Hold (h, K)) : Prop := WC2 P W0 f a h K
def lz (b : Code) (e : E2) (h : H2) (Q : Q2) (_ : Hold (b, e, h, Q, D)) : Prop := vcC2 P W0 D (.loop b) e h Q
def drz (l : List Oper) (e : E2) (h : H2) (Q : Q2) (_ : Hold (l, e, h, Q)) : Prop := ∃ p, okTree P l p = true ∧ runX P W0 l p e h Q
def rz (e : E2) (h : H2) (rs : List ResultVar) (_ : Hold (e, h)) : Option (List X) := resX P h e rs
def seqK (b : Code) (Q : Q2) : Q2 := seqQ2 (fun e h => vcC2 P W0 D b e h Q) Q
def oK (ops r : List Oper) (d : Option Tmp) (e : E2) (Q : Q2) : KT := fun v h' => vcO2 P W0 ops r (e.putO d v) h' Q
end
def kz (K : KT) (v : X) (h : H2) (_ : Hold (K, h)) : Prop := K v h
def bz (o : Option X) (h : H2) (K : KT) (_ : Hold (h, K)) : Prop := match o with | some v => K v h | none => False
def az (o : Option (X × H2)) (K : KT) (_ : Hold K) : Prop := thenX o K
def sz (o : Option H2) (K : KT) (_ : Hold K) : Prop := match o with | some h' => K (.raw undef) h' | none => False
def gz (b : Bool) (A B : Prop) (_ : Hold (A, B)) : Prop := gate b A B
def gd (b : Option Bool) (A B : Prop) (_ : Hold (A, B)) : Prop := guarded b A B
def dz (v : X) (A B : Prop) (_ : Hold (A, B)) : Prop := condX v A B
def ez (r : Option (List X)) (h : H2) (K : KT) (_ : Hold (h, K)) : Prop := endX r h K
def nz (cs : Option (List X)) (n : Option Nat) (h : H2) (K : KT) (_ : Hold (h, K)) : Prop := match cs, n with | some cs, some n => K (.raw (.pointer (some ⟨h.n, 0, none⟩))) (h.push ⟨n, cs⟩) | _, _ => False
def roz (r : Option (List X)) (z n : Nat) (h : H2) (K : KT) (_ : Hold (h, K)) : Prop := match r with | some l => K (litX h n z l).1 (litX h n z l).2 | none => False
def dyz (P : Program) (W0 : World) (v : X) (xs : List X) (h : H2) (K : KT) (_ : Hold (h, K)) : Prop := match v with | .raw (.func (.func g) first caps) => if first.size = 0 then WC2 P W0 g (xs ++ caps.toList.map .raw) h K else False | _ => False
variable {P : Program} {W0 : World} {D : Nat → Option (List Nat)} {e : E2} {h : H2} {Q : Q2} {K : KT}
def pk (b : Bool) (v : X) (e : E2) (t : Nat) (_ : Hold (v, e)) : X := match b with | true => v | false => e t
theorem pk_t {v : X} {t : Nat} : pk true v e t .mk = v := rfl
theorem pk_f {v : X} {t : Nat} : pk false v e t .mk = look e t .mk := rfl
theorem look_put {d t : Nat} {v : X} : look (e.put d v) t .mk = pk (t == d) v e t .mk := by
 simp only [look, E2.put, pk]; by_cases ht : t = d
 ·simp [ht]
 ·have : (t == d) = false := by simp [ht]
  rw [if_neg ht, this]
theorem look_putO {d t : Nat} {v : X} : look (e.putO (some d) v) t .mk = pk (t == d) v e t .mk := look_put
theorem look_putN {t : Nat} {v : X} : look (e.putO none v) t .mk = look e t .mk := rfl
def hk (b : Bool) (o : Option OB) (h : H2) (c : Nat) (_ : Hold (o, h)) : Option OB := match b with | true => o | false => h.get c
theorem hk_t {o : Option OB} {c : Nat} : hk true o h c .mk = o := rfl
theorem hk_f {o : Option OB} {c : Nat} : hk false o h c .mk = hg h c .mk := rfl
theorem root0 {v : X} {l : List X} : look (rootX (v :: l)) 0 .mk = v := rfl
theorem rootS {v : X} {l : List X} {n : Nat} : look (rootX (v :: l)) (n + 1) .mk = look (rootX l) n .mk := by simp [rootX, look]
theorem op_tmp {t : Nat} : opz e (.tmp t) .mk = look e t .mk := rfl
theorem op_const {v : Value} : opz e (.const v) .mk = ofV v := rfl
theorem of_int {k : IntKind} {n : Int} : ofV (.int k n) = .raw (.int k n) := rfl
theorem of_bool {b : Bool} : ofV (.bool b) = .raw (.bool b) := rfl
theorem of_sl {a : Option Addr} {n c : Nat} : ofV (.slice a n c) = .raw (.slice a n c) := rfl
theorem of_ptr {a : Option Addr} : ofV (.pointer a) = .raw (.pointer a) := rfl
theorem lookL_nil : lookL e [] .mk = [] := rfl
theorem lookL_cons {x : Operand} {l : List Operand} : lookL e (x :: l) .mk = opz e x .mk :: lookL e l .mk := rfl
theorem hk_ite {b c : Nat} {o : Option OB} : (if b = c then o else h.get b) = hk (b == c) o h b .mk := by
 unfold hk; by_cases hb : b = c
 ·simp [hb]
 ·have : (b == c) = false := by simp [hb]
  rw [if_neg hb, this]
theorem hg_push {k : OB} {b : Nat} : hg (h.push k) b .mk = hk (b == hn h .mk) (some k) h b .mk := hk_ite
theorem hg_set {k : OB} {b b' : Nat} : hg (h.set b' k) b .mk = hk (b == b') (some k) h b .mk := hk_ite
theorem hg_kill {b b' : Nat} : hg (h.kill b') b .mk = hk (b == b') none h b .mk := hk_ite
theorem hg_up {n b : Nat} : hg (h.up n) b .mk = hg h b .mk := rfl
theorem hn_push {k : OB} : hn (h.push k) .mk = hn h .mk + 1 := rfl
theorem hn_set {k : OB} {b : Nat} : hn (h.set b k) .mk = hn h .mk := rfl
theorem hn_kill {b : Nat} : hn (h.kill b) .mk = hn h .mk := rfl
theorem hn_up {n : Nat} : hn (h.up n) .mk = n := rfl
theorem c_skip : cz P W0 D .skip e h Q .mk = qz Q .normal e h .mk := rfl
theorem c_ret : cz P W0 D .ret e h Q .mk = qz Q .ret e h .mk := rfl
theorem c_exit {id : Nat} : cz P W0 D (.exit id) e h Q .mk = qz Q (.exit id) e h .mk := rfl
theorem c_seq {a b : Code} : cz P W0 D (.seq a b) e h Q .mk = cz P W0 D a e h (seqK P W0 D b Q) .mk := rfl
theorem c_block {id : Nat} {b : Code} : cz P W0 D (.block id b) e h Q .mk = cz P W0 D b e h (blockQ2 id Q) .mk := rfl
theorem c_cond {c : Operand} {a b : Code} : cz P W0 D (.cond c a b) e h Q .mk = dz (opz e c .mk) (cz P W0 D a e h Q .mk) (cz P W0 D b e h Q .mk) .mk := rfl
theorem c_loop {b : Code} : cz P W0 D (.loop b) e h Q .mk = lz P W0 D b e h Q .mk := rfl
def ctz (F : E2 → Prop) (ks : List Nat) (e E : E2) (_ : Hold (F, e, E)) : Prop := F fun t => if ks.contains t then e t else E t
def ctc (F : E2 → Prop) (ks : List Nat) (e : E2) (k : Nat) (v : X) (E : E2) (_ : Hold (F, e, E)) : Prop := F fun t => if ks.contains t then e t else E.put k v t
def ctO (F : E2 → Prop) (o : Option (List Nat)) (e : E2) (_ : Hold (F, e)) : Prop := F (cut2 o e)
def noE : E2 := fun _ => .raw hole
def fz (F : E2 → Prop) (e : E2) (_ : Hold (F, e)) : Prop := F e
theorem ctz_nil {F : E2 → Prop} {e E : E2} : ctz F [] e E .mk = fz F E .mk := by simp [ctz, fz]
theorem ctz_cons {F : E2 → Prop} {e E : E2} {k : Nat} {ks : List Nat} : ctz F (k :: ks) e E .mk = ctc F ks e k (look e k .mk) E .mk := by
 simp only [ctz, ctc, look]
 congr 1
 funext t
 by_cases ht : t = k
 ·subst ht; simp [E2.put]
 ·simp [E2.put, ht]
theorem ctc_put {F : E2 → Prop} {e E : E2} {k : Nat} {v : X} {ks : List Nat} : ctc F ks e k v E .mk = ctz F ks e (E.put k v) .mk := rfl
theorem ctO_some {F : E2 → Prop} {e : E2} {ks : List Nat} : ctO F (some ks) e .mk = ctz F ks e noE .mk := rfl
def cpz (D : Nat → Option (List Nat)) (id : Nat) (_ : Hold D) : Option (List Nat) := D id
theorem cp_0 {a : List Nat} {l : List (List Nat)} : cpz (cpL (a :: l)) 0 .mk = some a := rfl
theorem cp_S {a : List Nat} {l : List (List Nat)} {n : Nat} : cpz (cpL (a :: l)) (n + 1) .mk = cpz (cpL l) n .mk := by simp [cpz, cpL]
def rgF (P : Program) (W0 : World) (l : List Oper) (h : H2) (Q : Q2) : E2 → Prop := fun e => vcO2 P W0 l l e h Q
def rdF (P : Program) (W0 : World) (l : List Oper) (h : H2) (Q : Q2) : E2 → Prop := fun e => drz P W0 l e h Q .mk
theorem c_region {id : Nat} {l : List Oper} : cz P W0 D (.region id l.toArray false) e h Q .mk = ctO (rgF P W0 l h Q) (cpz D id .mk) e .mk := by simp [cz, vcC2, ctO, rgF, cpz]
theorem c_regionD {id : Nat} {l : List Oper} : cz P W0 D (.region id l.toArray true) e h Q .mk = ctO (rdF P W0 l h Q) (cpz D id .mk) e .mk := by simp [cz, vcC2, ctO, rdF, cpz, drz]
theorem fz_rg {l : List Oper} : fz (rgF P W0 l h Q) e .mk = oz P W0 l l e h Q .mk := rfl
theorem fz_rd {l : List Oper} : fz (rdF P W0 l h Q) e .mk = drz P W0 l e h Q .mk := rfl
theorem d_bool {b : Bool} {A B : Prop} : dz (.raw (.bool b)) A B .mk = gz b A B .mk := rfl
theorem g_true {A B : Prop} : gz true A B .mk = A := by simp [gz, gate]
theorem g_false {A B : Prop} : gz false A B .mk = B := by simp [gz, gate]
theorem seqQ_n {b : Code} : qz (seqK P W0 D b Q) .normal e h .mk = cz P W0 D b e h Q .mk := rfl
theorem seqQ_r {b : Code} : qz (seqK P W0 D b Q) .ret e h .mk = qz Q .ret e h .mk := rfl
theorem seqQ_x {b : Code} {j : Nat} : qz (seqK P W0 D b Q) (.exit j) e h .mk = qz Q (.exit j) e h .mk := rfl
theorem blockQ_n {id : Nat} : qz (blockQ2 id Q) .normal e h .mk = qz Q .normal e h .mk := rfl
theorem blockQ_r {id : Nat} : qz (blockQ2 id Q) .ret e h .mk = qz Q .ret e h .mk := rfl
def bqz (b : Bool) (j : Nat) (Q : Q2) (e : E2) (h : H2) (_ : Hold (Q, e, h)) : Prop := match b with | true => Q .normal e h | false => Q (.exit j) e h
theorem bq_t {j : Nat} : bqz true j Q e h .mk = qz Q .normal e h .mk := rfl
theorem blockQ_x {id j : Nat} : qz (blockQ2 id Q) (.exit j) e h .mk = bqz (j == id) j Q e h .mk := by
 simp only [qz, blockQ2, bqz]
 by_cases hj : j = id
 ·simp [hj]
 ·have : (j == id) = false := by simp [hj]
  rw [if_neg hj, this]
def nxz (I : Nat → E2 → H2 → Prop) (n : Nat) (e : E2) (h : H2) (_ : Hold (I, n, e, h)) : Prop := ∃ m, m < n ∧ I m e h
theorem loopQ_n {I : Nat → E2 → H2 → Prop} {n : Nat} : qz (loopQ2 I n Q) .normal e h .mk = nxz I n e h .mk := rfl
theorem loopQ_r {I : Nat → E2 → H2 → Prop} {n : Nat} : qz (loopQ2 I n Q) .ret e h .mk = qz Q .ret e h .mk := rfl
theorem loopQ_x {I : Nat → E2 → H2 → Prop} {n j : Nat} : qz (loopQ2 I n Q) (.exit j) e h .mk = qz Q (.exit j) e h .mk := rfl
theorem ends_n {rs : List ResultVar} : qz (endsX P rs K) .normal e h .mk = ez (rz P e h rs .mk) h K .mk := rfl
theorem ends_r {rs : List ResultVar} : qz (endsX P rs K) .ret e h .mk = ez (rz P e h rs .mk) h K .mk := rfl
theorem rz_nil : rz P e h [] .mk = some [] := rfl
def consR (v : Option X) (l : Option (List X)) : Option (List X) := match v, l with | some v, some l => some (v :: l) | _, _ => none
theorem consR_some {v : X} {l : List X} : consR (some v) (some l) = some (v :: l) := rfl
theorem rz_tmp {t : Nat} {r : List ResultVar} : rz P e h (.tmp t :: r) .mk = consR (some (look e t .mk)) (rz P e h r .mk) := by simp only [rz, resX, consR, look]; cases resX P h e r <;> rfl
def loadz (P : Program) (h : H2) (t : TypeId) (v : X) (_ : Hold h) : Option X := loadX P h t v
theorem rz_cell {a t : Nat} {r : List ResultVar} : rz P e h (.cell a t :: r) .mk = consR (loadz P h t (look e a .mk) .mk) (rz P e h r .mk) := rfl
theorem e_1 {v : X} : ez (some [v]) h K .mk = kz K v h .mk := rfl
theorem e_0 : ez (some []) h K .mk = kz K (.tp []) h .mk := by simp [ez, endX, outX, kz]
theorem e_2 {v u : X} (hv : isTpX v = false) (hu : isTpX u = false) : ez (some [v, u]) h K .mk = kz K (.tp [v, u]) h .mk := by simp [ez, endX, outX, hv, hu, kz]
theorem e_3 {v u x : X} (hv : isTpX v = false) (hu : isTpX u = false) (hx : isTpX x = false) : ez (some [v, u, x]) h K .mk = kz K (.tp [v, u, x]) h .mk := by simp [ez, endX, outX, hv, hu, hx, kz]
theorem tup_int {k : IntKind} {n : Int} : isTpX (.raw (.int k n)) = false := rfl
theorem tup_bool {b : Bool} : isTpX (.raw (.bool b)) = false := rfl
theorem tup_slr {a : Option Addr} {l c : Nat} : isTpX (.raw (.slice a l c)) = false := rfl
theorem tup_sl {f : Adr} {z : Nat} {es : List (List T)} : isTpX (.sl f z es) = false := rfl
theorem tup_st {a : List X} : isTpX (.st a) = false := rfl
theorem ko {ops r : List Oper} {d : Option Tmp} {v : X} : kz (oK P W0 ops r d e Q) v h .mk = oz P W0 ops r (e.putO d v) h Q .mk := rfl
theorem b_some {v : X} : bz (some v) h K .mk = kz K v h .mk := rfl
theorem a_some {v : X} {h' : H2} : az (some (v, h')) K .mk = kz K v h' .mk := rfl
theorem s_some {h' : H2} : sz (some h') K .mk = kz K (.raw undef) h' .mk := rfl
theorem n_some {cs : List X} {n : Nat} : nz (some cs) (some n) h K .mk = kz K (.raw (.pointer (some ⟨hn h .mk, 0, none⟩))) (h.push ⟨n, cs⟩) .mk := rfl
def litz (n z : Nat) (cs : List X) (t : Option (List T)) (h : H2) (K : KT) (_ : Hold (h, K)) : Prop := match n, t with
 | m + 1, some ts => K (.sl (litA h.n (m + 1) z cs) z (chunk z (m + 1) ts)) (h.up (h.n + 1))
 | n, _ => K (.raw (.slice (some ⟨h.n, 0, none⟩) n n)) (h.push ⟨z, cs⟩)
theorem ro_some {l : List X} {z n : Nat} : roz (some l) z n h K .mk = litz n z l (toTs l) h K .mk := by
 simp only [roz, litX, litz]
 cases n <;> cases toTs l <;> rfl
theorem lit_0 {z : Nat} {cs : List X} {t : Option (List T)} : litz 0 z cs t h K .mk = kz K (.raw (.slice (some ⟨hn h .mk, 0, none⟩) 0 0)) (h.push ⟨z, cs⟩) .mk := by cases t <;> rfl
theorem lit_S {z n : Nat} {cs : List X} {ts : List T} : litz (n + 1) z cs (some ts) h K .mk = kz K (.sl (litA (hn h .mk) (n + 1) z cs) z (chunk z (n + 1) ts)) (h.up (hn h .mk + 1)) .mk := rfl
theorem lit_N {z n : Nat} {cs : List X} : litz n z cs none h K .mk = kz K (.raw (.slice (some ⟨hn h .mk, 0, none⟩) n n)) (h.push ⟨z, cs⟩) .mk := by cases n <;> rfl
def toTc (t : Option T) (r : Option (List T)) : Option (List T) := match t, r with | some t, some r => some (t :: r) | _, _ => none
theorem toTs_nil : toTs [] = some [] := rfl
theorem toTs_cons {x : X} {l : List X} : toTs (x :: l) = toTc (toT x) (toTs l) := rfl
theorem toTc_some {t : T} {r : List T} : toTc (some t) (some r) = some (t :: r) := rfl
theorem toT_int {k : IntKind} {n : Int} : toT (.raw (.int k n)) = some (.v (.int k n)) := rfl
theorem toT_sl {f : Adr} {z : Nat} {es : List (List T)} : toT (.sl f z es) = some (.l z es) := rfl
theorem o_nil {ops : List Oper} : oz P W0 ops [] e h Q .mk = qz Q .normal e h .mk := rfl
theorem o_cons {ops r : List Oper} {d : Option Tmp} {o : Op} {t : TypeId} {p : String} {a : Array Edge} :
  oz P W0 ops (⟨d, o, t, p, a, none⟩ :: r) e h Q .mk = xz P W0 o e h (oK P W0 ops r d e Q) .mk := by
 show gate true (opO2 P W0 e h o (oK P W0 ops r d e Q)) _ = opO2 P W0 e h o (oK P W0 ops r d e Q)
 simp only [gate]; exact propext ⟨fun hh => hh.1 trivial, fun hh => ⟨fun _ => hh, fun hf => absurd hf (by simp)⟩⟩
theorem o_guard {ops r : List Oper} {d : Option Tmp} {o : Op} {t : TypeId} {p : String} {a : Array Edge} {j : Nat} {b : Bool} :
    oz P W0 ops (⟨d, o, t, p, a, some (j, b)⟩ :: r) e h Q .mk =
      gd (guardX ops e (some (j, b))) (xz P W0 o e h (oK P W0 ops r d e Q) .mk) (oz P W0 ops r (e.putO d (.raw undef)) h Q .mk) .mk := rfl
def gof (d : Option Nat) (b : Bool) (e : E2) (_ : Hold e) : Option Bool := match d with | none => some false | some t => bitX b (e t)
theorem guard_at {ops : List Oper} {j : Nat} {b : Bool} : guardX ops e (some (j, b)) = gof (dstz ops j .mk) b e .mk := rfl
theorem gof_some {t : Nat} {b : Bool} : gof (some t) b e .mk = bitX b (look e t .mk) := rfl
theorem gd_some {b : Bool} {A B : Prop} : gd (some b) A B .mk = gz b A B .mk := rfl
theorem bit_bool {w b : Bool} : bitX w (.raw (.bool b)) = some (b == w) := rfl
theorem bit_undef {w : Bool} : bitX w (.raw undef) = some false := rfl
theorem x_move {x : Operand} : xz P W0 (.move x) e h K .mk = kz K (opz e x .mk) h .mk := rfl
theorem x_assign {x : Operand} : xz P W0 (.assign x) e h K .mk = kz K (opz e x .mk) h .mk := rfl
def pickV (c a b : X) : Option X := match c with | .raw (.bool true) => some a | .raw (.bool false) => some b | _ => none
theorem x_pick {c x y : Operand} : xz P W0 (.pick c x y) e h K .mk = bz (pickV (opz e c .mk) (opz e x .mk) (opz e y .mk)) h K .mk := by
 simp only [xz, opO2, callX, opx, thenX, bz, pickV, opz]
 split <;> rename_i heq <;> split at heq <;> simp_all
theorem pick_t {a b : X} : pickV (.raw (.bool true)) a b = some a := rfl
theorem pick_f {a b : X} : pickV (.raw (.bool false)) a b = some b := rfl
theorem pick_b {c a b : Bool} : pickV (.raw (.bool c)) (.raw (.bool a)) (.raw (.bool b)) = some (.raw (.bool (Ai.pkB c a b))) := by cases c <;> rfl
theorem x_alloc {t : TypeId} : xz P W0 (.alloc t) e h K .mk = nz ((Ai.zr? P t).map (·.map .raw)) (Ai.sz? P t) h K .mk := by
 simp only [xz, opO2, callX, opx, thenX, nz]; cases Ai.zr? P t <;> cases Ai.sz? P t <;> simp [newX]
theorem zr_map {l : List Value} : (some l).map (·.map X.raw) = some (l.map X.raw) := rfl
theorem x_box {t : TypeId} {x : Operand} : xz P W0 (.box t x) e h K .mk = nz (cellsX (opz e x .mk)) (Ai.sz? P t) h K .mk := by
 simp only [xz, opO2, callX, opx, thenX, nz, opz]; cases cellsX (e.op x) <;> cases Ai.sz? P t <;> simp [newX]
theorem x_load {t : TypeId} {x : Operand} : xz P W0 (.load t x) e h K .mk = bz (loadz P h t (opz e x .mk) .mk) h K .mk := by
 simp only [xz, opO2, callX, opx, bz, loadz, opz]; cases loadX P h t (e.op x) <;> rfl
def storez (P : Program) (h : H2) (t : TypeId) (x y : X) (_ : Hold h) : Option H2 := storeX P h t x y
theorem x_store {t : TypeId} {x y : Operand} : xz P W0 (.store t x y) e h K .mk = sz (storez P h t (opz e x .mk) (opz e y .mk) .mk) K .mk := by
 simp only [xz, opO2, callX, opx, thenX, sz, storez, opz]; cases storeX P h t (e.op x) (e.op y) <;> simp
def nilV (v : X) : Option X := if ptrX v then some v else none
theorem x_nil {x : Operand} : xz P W0 (.nilCheck x) e h K .mk = bz (nilV (opz e x .mk)) h K .mk := by
 simp only [xz, opO2, callX, opx, thenX, bz, nilV, opz]; by_cases hp : ptrX (e.op x) = true <;> simp [hp]
theorem nilV_ptr {a : Addr} : nilV (.raw (.pointer (some a))) = some (.raw (.pointer (some a))) := rfl
theorem x_bin {op : BinOp} {t u : TypeId} {x y : Operand} : xz P W0 (.binOp op t x y u) e h K .mk = bz (binX P op t (opz e x .mk) (opz e y .mk)) h K .mk := by
 simp only [xz, opO2, callX, opx, bz, opz]; cases binX P op t (e.op x) (e.op y) <;> rfl
theorem x_un {op : UnOp} {t : TypeId} {x : Operand} : xz P W0 (.unOp op t x) e h K .mk = bz (unX op (opz e x .mk)) h K .mk := by
 simp only [xz, opO2, callX, opx, bz, opz]; cases unX op (e.op x) <;> rfl
def omap (o : Option Operand) (e : E2) (_ : Hold e) : Option X := o.map e.op
theorem omap_none : omap none e .mk = none := rfl
theorem omap_some {x : Operand} : omap (some x) e .mk = some (opz e x .mk) := rfl
def slicez (P : Program) (h : H2) (t : TypeId) (x : X) (lo hi mx : Option X) (_ : Hold h) : Option X := sliceX P h t x lo hi mx
theorem x_slice {t : TypeId} {x : Operand} {lo hi mx : Option Operand} : xz P W0 (.slice t x lo hi mx) e h K .mk = bz (slicez P h t (opz e x .mk) (omap lo e .mk) (omap hi e .mk) (omap mx e .mk) .mk) h K .mk := by
 simp only [xz, opO2, callX, opx, bz, opz, slicez, omap]; cases sliceX P h t (e.op x) (lo.map e.op) (hi.map e.op) (mx.map e.op) <;> rfl
theorem x_fieldAddr {s : TypeId} {x : Operand} {f : Nat} : xz P W0 (.fieldAddr s x f) e h K .mk = bz (fieldAddrX P s (opz e x .mk) f) h K .mk := by
 simp only [xz, opO2, callX, opx, bz, opz]; cases fieldAddrX P s (e.op x) f <;> rfl
theorem x_indexAddr {t : TypeId} {x y : Operand} : xz P W0 (.indexAddr t x y) e h K .mk = bz (indexAddrX P t (opz e x .mk) (opz e y .mk)) h K .mk := by
 simp only [xz, opO2, callX, opx, bz, opz]; cases indexAddrX P t (e.op x) (e.op y) <;> rfl
theorem x_extract {x : Operand} {i : Nat} : xz P W0 (.extract x i) e h K .mk = bz (extractX (opz e x .mk) i) h K .mk := by
 simp only [xz, opO2, callX, opx, bz, opz]; cases extractX (e.op x) i <;> rfl
def makez (P : Program) (h : H2) (t : TypeId) (x y : X) (_ : Hold h) : Option (X × H2) := makeSliceX P h t x y
theorem x_make {t : TypeId} {x y : Operand} : xz P W0 (.makeSlice t x y) e h K .mk = az (makez P h t (opz e x .mk) (opz e y .mk) .mk) K .mk := rfl
def stepz (p : Option (Nat × Nat)) (vs : Option (List X)) (cs : List X) : Option (List X) := match p, vs with | some (off, n), some vs => if vs.length = n then wrtL cs off vs else none | _, _ => none
def fillo (place : Nat → Option (Nat × Nat)) (e : E2) (l : List (Nat × Operand)) (cs : Option (List X)) (_ : Hold (place, e, l)) : Option (List X) := match cs with | some cs => fillX place e l cs | none => none
theorem fillo_nil {p : Nat → Option (Nat × Nat)} {cs : List X} : fillo p e [] (some cs) .mk = some cs := rfl
theorem fillo_cons {p : Nat → Option (Nat × Nat)} {i : Nat} {x : Operand} {l : List (Nat × Operand)} {cs : List X} : fillo p e ((i, x) :: l) (some cs) .mk = fillo p e l (stepz (p i) (cellsX (opz e x .mk)) cs) .mk := by
 simp only [fillo, fillX, stepz, opz]
 cases p i with
 | none => rfl
 | some q =>
  obtain ⟨off, n⟩ := q
  cases cellsX (e.op x) with
  | none => rfl
  | some vs =>
   by_cases hv : vs.length = n
   ·simp only [if_pos hv]; cases wrtL cs off vs <;> rfl
   ·simp only [if_neg hv]
def aggO (l : Option (List X)) : Option X := l.map fun l => .st l
theorem aggO_some {l : List X} : aggO (some l) = some (.st l) := rfl
def placeS (P : Program) (t : TypeId) : Nat → Option (Nat × Nat) := fun i => (Ai.fld? P t i).map fun p => (p.1, p.2.1)
theorem placeS_at {t i : Nat} : placeS P t i = (Ai.fld? P t i).map fun p => (p.1, p.2.1) := rfl
theorem x_build {t : TypeId} {ps : List (Nat × Operand)} (hz : (Ai.zr? P t).isSome = true) (hb : Ai.bldOk P t = true) : xz P W0 (.build t ps.toArray) e h K .mk = bz (aggO (fillo (placeS P t) e ps ((Ai.zr? P t).map (·.map .raw)) .mk)) h K .mk := by
 cases hz' : Ai.zr? P t with
 | none => rw [hz'] at hz; cases hz
 | some z =>
  simp only [xz, opO2, callX, opx, bz, hz', if_pos hb, aggO, fillo, Option.map_some, show placeS P t = (fun i => (Ai.fld? P t i).map fun p => (p.1, p.2.1)) from rfl]
  generalize fillX (fun i => (Ai.fld? P t i).map fun p => (p.1, p.2.1)) e ps (z.map .raw) = r
  cases r <;> rfl
def placeE (z : Nat) : Nat → Option (Nat × Nat) := fun i => some (i * z, z)
theorem placeE_at {z i : Nat} : placeE z i = some (i * z, z) := rfl
theorem x_row {t n : Nat} {ps : List (Nat × Operand)} (hn : rowOk (Ai.elt? P t) (Ai.zr? P (elT (Ai.elt? P t))) n = true) :
  xz P W0 (.buildSlice t n ps.toArray) e h K .mk = roz (fillo (placeE (elZ (Ai.elt? P t))) e ps ((repO n (Ai.zr? P (elT (Ai.elt? P t)))).map (·.map .raw)) .mk) (elZ (Ai.elt? P t)) n h K .mk := by
 cases he : Ai.elt? P t with
 | none => rw [he] at hn; cases hn
 | some q =>
  obtain ⟨u, z, y⟩ := q
  rw [he] at hn
  simp only [elT] at hn
  cases hz : Ai.zr? P u with
  | none => rw [hz] at hn; cases hn
  | some zs =>
   rw [hz] at hn
   simp only [rowOk, Bool.and_eq_true, decide_eq_true_eq] at hn
   simp only [xz, opO2, callX, opx, roz, he, hz, if_pos hn, fillo, elZ, elT, repO, Option.map_some, show placeE z = (fun i => some (i * z, z)) from rfl]
   generalize fillX (fun i => some (i * z, z)) e ps ((repL n zs).map .raw) = r
   cases r <;> rfl
theorem x_call {f : FuncId} {xs : List Operand} {ts : Array TypeId} : xz P W0 (.call ⟨.value (.func f), xs.toArray, ts⟩) e h K .mk = wz P W0 f (lookL e xs .mk) h K .mk := by
 simp [xz, opO2, callX, E2.op, wz, lookL]
theorem dy_fn {g : FuncId} {xs : List X} {caps : List Value} : dyz P W0 (.raw (.func (.func g) #[] caps.toArray)) xs h K .mk = wz P W0 g (xs ++ caps.map .raw) h K .mk := by simp [dyz, wz]
theorem x_dyn {t : Tmp} {xs : List Operand} {ts : Array TypeId} : xz P W0 (.call ⟨.value (.tmp t), xs.toArray, ts⟩) e h K .mk = dyz P W0 (look e t .mk) (lookL e xs .mk) h K .mk := by
 have hno : opx P e h (.call ⟨.value (.tmp t), xs.toArray, ts⟩) = none := rfl
 simp only [xz, opO2, callX, dyz, hno, thenX, look, lookL, E2.op]
 generalize e t = v
 cases v <;> try rfl
 rename_i v
 cases v <;> try rfl
 rename_i fn first caps
 cases fn <;> try rfl
 by_cases h3 : first.size = 0 <;> simp [h3]
def biz (P : Program) (h : H2) (b : Builtin) (ts : List TypeId) (xs : List X) (_ : Hold h) : Option (X × H2) := builtinX P h b ts xs
theorem x_builtin {b : Builtin} {xs : List Operand} {ts : List TypeId} : xz P W0 (.call ⟨.builtin b, xs.toArray, ts.toArray⟩) e h K .mk = az (biz P h b ts (lookL e xs .mk) .mk) K .mk := by
 simp [xz, opO2, callX, opx, biz, lookL, az]
def fnX (f : FuncId) (l : Option (List Value)) : Option X := match l with | some l => (match l.all Ai.ptrV with | true => some (.raw (.func (.func f) #[] l.toArray)) | false => none) | none => none
theorem fnV1 {f : FuncId} {a : Addr} : fnX f (rawL [.raw (.pointer (some a))]) = some (.raw (.func (.func f) #[] [.pointer (some a)].toArray)) := rfl
theorem fnV2 {f : FuncId} {a b : Addr} : fnX f (rawL [.raw (.pointer (some a)), .raw (.pointer (some b))]) = some (.raw (.func (.func f) #[] [.pointer (some a), .pointer (some b)].toArray)) := rfl
theorem x_fn {f : FuncId} {xs : List Operand} : xz P W0 (.makeFunc (.func f) #[] xs.toArray) e h K .mk = bz (fnX f (rawL (lookL e xs .mk))) h K .mk := by
 simp only [xz, opO2, callX, opx, bz, fnX, lookL]
 cases hr : rawL (xs.map e.op) with
 | none => simp [thenX]
 | some l =>
  cases ha : l.all Ai.ptrV
  ·simp only [ha, thenX]
   rw [if_neg (by simp)]
  ·simp only [ha, thenX]
   rw [if_pos (by simp)]
def ldS (o : Option (List X)) : Option X := match o with | some l => some (.st l) | none => none
theorem ldS_some {l : List X} : ldS (some l) = some (.st l) := rfl
def ldz (g : Option Bool) (n : Option Nat) (k : Option OB) (off : Nat) : Option X := match k with
 | some k => (match g with | some true => (match n with | some n => ldS (rdL k.cs off n) | none => none) | some false => k.cs[off]? | none => none)
 | none => none
theorem ld_one {n : Option Nat} {z off : Nat} {cs : List X} : ldz (some false) n (some ⟨z, cs⟩) off = cs[off]? := rfl
theorem ld_agg {n : Nat} {z off : Nat} {cs : List X} : ldz (some true) (some n) (some ⟨z, cs⟩) off = ldS (rdL cs off n) := rfl
theorem load_ptr {t : TypeId} {b off : Nat} {p : Option Nat} : loadz P h t (.raw (.pointer (some ⟨b, off, p⟩))) .mk = ldz (Ai.agg? P t) (Ai.sz? P t) (hg h b .mk) off := by
 simp only [loadz, loadX, hg, ldz, ldS]
 cases h.get b with
 | none => rfl
 | some k =>
  simp only
  cases Ai.agg? P t with
  | none => rfl
  | some g =>
   cases g with
   | false => rfl
   | true =>
    simp only
    cases Ai.sz? P t with
    | none => rfl
    | some n => simp only; cases rdL k.cs off n <;> rfl
def ldp (g : Option Bool) (n : Option Nat) (f : Adr) (cs : List T) : Option X := match g, n with
 | some true, some n => if n ≤ cs.length then some (.st (mkL f 0 (cs.take n))) else none
 | some false, _ => (match cs with | t :: _ => some (mkC f 0 t) | [] => none)
 | _, _ => none
theorem load_pr {t : TypeId} {a : Value} {f : Adr} {cs : List T} : loadz P h t (.pr a f cs) .mk = ldp (Ai.agg? P t) (Ai.sz? P t) f cs := by
 simp only [loadz, loadX, ldp]
 cases Ai.agg? P t with
 | none => rfl
 | some g => cases g <;> cases Ai.sz? P t <;> rfl
theorem ldp_one {n : Option Nat} {f : Adr} {t : T} {cs : List T} : ldp (some false) n f (t :: cs) = some (mkC f 0 t) := rfl
theorem ldp_agg {n : Nat} {f : Adr} {cs : List T} (hn : (decide (n ≤ cs.length)) = true) : ldp (some true) (some n) f cs = some (.st (mkL f 0 (cs.take n))) := by simp only [ldp]; rw [if_pos (of_decide_eq_true hn)]
theorem mkL_nil {f : Adr} {j : Nat} : mkL f j [] = [] := rfl
theorem mkL_cons {f : Adr} {j : Nat} {t : T} {r : List T} : mkL f j (t :: r) = mkC f j t :: mkL f (j + 1) r := rfl
theorem mkC_v {f : Adr} {j : Nat} {x : Value} : mkC f j (.v x) = .raw x := rfl
theorem mkC_l {f : Adr} {j z : Nat} {es : List (List T)} : mkC f j (.l z es) = .sl (under f j) z es := rfl
def stz (vs : Option (List X)) (n : Option Nat) (k : Option OB) (h : H2) (b off : Nat) (_ : Hold h) : Option H2 := match vs, n, k with
 | some vs, some n, some k => if vs.length = n ∧ vs.all okX = true then (wrtL k.cs off vs).map fun cs => h.set b ⟨k.z, cs⟩ else none
 | _, _, _ => none
def stw (b : Bool) (cs : Option (List X)) (h : H2) (c z : Nat) (_ : Hold h) : Option H2 := match b, cs with
 | true, some cs => some (h.set c ⟨z, cs⟩)
 | _, _ => none
theorem stw_some {cs : List X} {c z : Nat} : stw true (some cs) h c z .mk = some (h.set c ⟨z, cs⟩) := rfl
theorem st_some {vs : List X} {n z b off : Nat} {cs : List X} : stz (some vs) (some n) (some ⟨z, cs⟩) h b off .mk = stw (vs.length == n && vs.all okX) (wrtL cs off vs) h b z .mk := by
 simp only [stz, stw]
 by_cases hv : vs.length = n
 ·by_cases hq : vs.all okX = true
  ·simp only [hv, hq, and_self, if_true, beq_self_eq_true, Bool.and_self]; cases wrtL cs off vs <;> rfl
  ·simp [hv, hq]
 ·simp [hv]
theorem store_ptr {t : TypeId} {b off : Nat} {p : Option Nat} {y : X} : storez P h t (.raw (.pointer (some ⟨b, off, p⟩))) y .mk = stz (cellsX y) (Ai.sz? P t) (hg h b .mk) h b off .mk := by
 simp only [storez, storeX, hg, stz]
 cases cellsX y <;> cases Ai.sz? P t <;> first | rfl | (dsimp only; cases h.get b <;> rfl)
theorem cells_int {k : IntKind} {n : Int} : cellsX (.raw (.int k n)) = some [.raw (.int k n)] := rfl
theorem cells_slr {a : Option Addr} {l c : Nat} : cellsX (.raw (.slice a l c)) = some [.raw (.slice a l c)] := rfl
theorem cells_sl {f : Adr} {z : Nat} {es : List (List T)} : cellsX (.sl f z es) = some [.sl f z es] := rfl
theorem cells_st {l : List X} : cellsX (.st l) = some l := rfl
theorem rw_some {v : Value} : rawO (some v) = some (.raw v) := rfl
theorem bin_raw {op : BinOp} {t : TypeId} {a b : Value} : binX P op t (.raw a) (.raw b) = rawO (Ai.binV P op t a b) := rfl
theorem eq_st2 {t : TypeId} {k : IntKind} {a b c d : Int} (hT : Ai.intS? P t = some 2) : binX P .eql t (.st [.raw (.int k a), .raw (.int k b)]) (.st [.raw (.int k c), .raw (.int k d)]) = some (.raw (.bool (a == c && (b == d && true)))) := by
 simp [binX, rawL, Ai.binV, Ai.eqA, hT, Ai.eqIs, rawO]
theorem un_raw {op : UnOp} {a : Value} : unX op (.raw a) = rawO (Ai.unV op a) := rfl
theorem nil_sl {t : TypeId} {f : Adr} {z n c : Nat} {es : List (List T)} (hc : Ai.cls? P t = some .sl) : binX P .eql t (.sl f z es) (.raw (.slice none n c)) = some (.raw (.bool (nilS (f [])))) := by simp [binX, hc]
theorem isN_none : (none : Option Addr).isNone = true := rfl
theorem isN_some {a : Addr} : (some a).isNone = false := rfl
theorem fa_raw {s f : Nat} {v : Value} : fieldAddrX P s (.raw v) f = rawO (Ai.fieldAddrV P s v f) := rfl
theorem fa_pr {s f : Nat} {a : Value} {k : Adr} {ts : List T} (hp : posN (fldN (Ai.fld? P s f)) = true) (hl : decide (fldO (Ai.fld? P s f) ≤ ts.length) = true) :
  fieldAddrX P s (.pr a k ts) f = some (.pr (offV (fldO (Ai.fld? P s f)) a) (shA k (fldO (Ai.fld? P s f))) (ts.drop (fldO (Ai.fld? P s f)))) := by
 simp only [fieldAddrX]
 cases hf : Ai.fld? P s f with
 | none => rw [hf] at hp; cases hp
 | some q =>
  obtain ⟨o, n, b⟩ := q
  rw [hf] at hp hl
  cases n with
  | zero => cases hp
  | succ n => simp only [fldO] at hl ⊢; rw [if_pos (of_decide_eq_true hl)]
theorem ia_raw {t : TypeId} {a i : Value} : indexAddrX P t (.raw a) (.raw i) = rawO (Ai.indexAddrV P t a i) := rfl
def el (es : List (List T)) (i : Nat) : List T := es.getD i []
theorem ia_sl {t z : Nat} {f : Adr} {es : List (List T)} {k : IntKind} {i : Int} (h1 : (eltZ (Ai.elt? P t) == z) = true) (he : (Ai.elt? P t).isSome = true) (h2 : 0 ≤ i) (h3 : i.toNat < es.length) :
  indexAddrX P t (.sl f z es) (.raw (.int k i)) = some (.pr (idxV i.toNat z (f [])) (under f i.toNat) (el es i.toNat)) := by
 simp only [indexAddrX]
 cases hq : Ai.elt? P t with
 | none => rw [hq] at he; cases he
 | some q =>
  obtain ⟨u, s, b⟩ := q
  rw [hq] at h1
  simp only [eltZ, beq_iff_eq] at h1
  simp only
  rw [if_pos ⟨h1, h2, h3⟩]; rfl
theorem el_map {α : Type} [Inhabited α] {xs : List α} {F : α → List T} {i : Nat} (hi : i < xs.length) : el (xs.map F) i = F (xs.getD i default) := by
 unfold el
 rw [List.getD_eq_getElem?_getD, List.getD_eq_getElem?_getD, List.getElem?_map, List.getElem?_eq_getElem hi]; rfl
theorem ex_0 {v : X} {l : List X} : extractX (.tp (v :: l)) 0 = some v := rfl
theorem ex_S {v : X} {l : List X} {n : Nat} : extractX (.tp (v :: l)) (n + 1) = extractX (.tp l) n := by simp [extractX]
theorem len_slr {t : TypeId} {a : Option Addr} {n c : Nat} (hc : Ai.cls? P t = some .sl) : biz P h .len [t] [.raw (.slice a n c)] .mk = some (.raw (.int .i64 n), h) := by simp only [biz, builtinX, hc]
theorem len_sl {t : TypeId} {f : Adr} {z : Nat} {es : List (List T)} (hc : Ai.cls? P t = some .sl) : biz P h .len [t] [.sl f z es] .mk = some (.raw (.int .i64 es.length), h) := by simp only [biz, builtinX, hc]
theorem bi_max {ts : List TypeId} {k : IntKind} {x y : Int} : biz P h .max ts [.raw (.int k x), .raw (.int k y)] .mk = some (.raw (.int k (mxI x y)), h) := by simp [biz, builtinX, minmaxV, rawL]
theorem bi_min {ts : List TypeId} {k : IntKind} {x y : Int} : biz P h .min ts [.raw (.int k x), .raw (.int k y)] .mk = some (.raw (.int k (mnI x y)), h) := by simp [biz, builtinX, minmaxV, rawL]
theorem bi_max3 {ts : List TypeId} {k : IntKind} {x y z : Int} : biz P h .max ts [.raw (.int k x), .raw (.int k y), .raw (.int k z)] .mk = some (.raw (.int k (mxI (mxI x y) z)), h) := by simp [biz, builtinX, minmaxV, rawL]
theorem ok_all_nil : (([] : List X).all okX) = true := rfl
theorem ok_all_cons {v : X} {l : List X} : ((v :: l).all okX) = (okX v && l.all okX) := rfl
theorem ok_int {k : IntKind} {n : Int} : okX (.raw (.int k n)) = true := rfl
theorem ok_slr {a : Option Addr} {l c : Nat} : okX (.raw (.slice a l c)) = true := rfl
theorem ok_sl {f : Adr} {z : Nat} {es : List (List T)} : okX (.sl f z es) = true := rfl
def consO (v : X) (l : Option (List X)) : Option (List X) := match l with | some l => some (v :: l) | none => none
theorem consO_some {v : X} {l : List X} : consO v (some l) = some (v :: l) := rfl
theorem rd_nil {cs : List X} : rdL cs 0 0 = some [] := by simp [rdL]
theorem rd_one {c : X} {cs : List X} {n : Nat} : rdL (c :: cs) 0 (n + 1) = consO c (rdL cs 0 n) := by
 simp only [rdL, consO, List.length_cons, Nat.zero_add, List.drop_zero, List.take_succ_cons]
 by_cases hn : n ≤ cs.length
 ·rw [if_pos (by omega), if_pos hn]
 ·rw [if_neg (by omega), if_neg hn]
theorem rd_skip {c : X} {cs : List X} {o n : Nat} : rdL (c :: cs) (o + 1) n = rdL cs o n := by
 simp only [rdL, List.length_cons, List.drop_succ_cons]
 by_cases hn : o + n ≤ cs.length
 ·rw [if_pos (by omega), if_pos hn]
 ·rw [if_neg (by omega), if_neg hn]
theorem rd_all {cs : List X} {n : Nat} (hn : cs.length = n) : rdL cs 0 n = some cs := by subst hn; simp [rdL]
theorem wrt_nil {cs : List X} : wrtL cs 0 [] = some cs := by simp [wrtL]
theorem wrt_one {c v : X} {cs vs : List X} : wrtL (c :: cs) 0 (v :: vs) = consO v (wrtL cs 0 vs) := by
 simp only [wrtL, consO, List.length_cons, Nat.zero_add, List.take_zero, List.nil_append, List.drop_succ_cons, List.cons_append]
 by_cases hn : vs.length ≤ cs.length
 ·rw [if_pos (by omega), if_pos hn]
 ·rw [if_neg (by omega), if_neg hn]
theorem wrt_skip {c : X} {cs vs : List X} {o : Nat} : wrtL (c :: cs) (o + 1) vs = consO c (wrtL cs o vs) := by
 simp only [wrtL, consO, List.length_cons, List.take_succ_cons, List.cons_append]
 by_cases hn : o + vs.length ≤ cs.length
 ·rw [if_pos (by omega), if_pos hn, show o + 1 + vs.length = (o + vs.length) + 1 by omega, List.drop_succ_cons]
 ·rw [if_neg (by omega), if_neg hn]
theorem step_some {off n : Nat} {vs cs : List X} (hn : (vs.length == n) = true) : stepz (some (off, n)) (some vs) cs = wrtL cs off vs := by
 simp only [stepz]; rw [if_pos (by simpa using hn)]
theorem chunk_0 {z : Nat} {l : List T} : chunk z 0 l = [] := rfl
theorem chunk_S {z n : Nat} {l : List T} : chunk z (n + 1) l = l.take z :: chunk z n (l.drop z) := rfl
def runz (P : Program) (W0 : World) (l : List Oper) (p : PT) (e : E2) (h : H2) (Q : Q2) (_ : Hold (l, p, e, h, Q)) : Prop := runX P W0 l p e h Q
def rK (P : Program) (W0 : World) (l : List Oper) (pd : List Nat) (r : PT) (d : Option Tmp) (e : E2) (Q : Q2) : KT :=
 fun v h' => (∀ q ∈ pd, staysX P l q (e.putO d v) h') ∧ runX P W0 l r (e.putO d v) h' Q
def opzz (P : Program) (W0 : World) (l : List Oper) (o : Option Oper) (pd : List Nat) (r : PT) (e : E2) (h : H2) (Q : Q2) (_ : Hold (l, pd, r, e, h, Q)) : Prop := match o with
 | none => False
 | some o => guarded (guardX l e o.guard) (opO2 P W0 e h o.op (rK P W0 l pd r o.dst e Q)) (runX P W0 l r (e.putO o.dst (.raw undef)) h Q)
theorem run_nil {l : List Oper} : runz P W0 l .nil e h Q .mk = qz Q .normal e h .mk := rfl
theorem run_cons {l : List Oper} {i : Nat} {pd : List Nat} {r : PT} : runz P W0 l (.op i pd r) e h Q .mk = opzz P W0 l (atz l i .mk) pd r e h Q .mk := rfl
theorem op_plain {l : List Oper} {pd : List Nat} {r : PT} {d : Option Tmp} {o : Op} {t : TypeId} {p : String} {a : Array Edge} :
  opzz P W0 l (some ⟨d, o, t, p, a, none⟩) pd r e h Q .mk = xz P W0 o e h (rK P W0 l pd r d e Q) .mk := by
 show gate true (opO2 P W0 e h o (rK P W0 l pd r d e Q)) _ = opO2 P W0 e h o (rK P W0 l pd r d e Q)
 simp only [gate]; exact propext ⟨fun hh => hh.1 trivial, fun hh => ⟨fun _ => hh, fun hf => absurd hf (by simp)⟩⟩
theorem op_guard {l : List Oper} {pd : List Nat} {r : PT} {d : Option Tmp} {o : Op} {t : TypeId} {p : String} {a : Array Edge} {j : Nat} {b : Bool} :
    opzz P W0 l (some ⟨d, o, t, p, a, some (j, b)⟩) pd r e h Q .mk = gd (guardX l e (some (j, b))) (xz P W0 o e h (rK P W0 l pd r d e Q) .mk) (runz P W0 l r (e.putO d (.raw undef)) h Q .mk) .mk := rfl
def allz (P : Program) (l : List Oper) (pd : List Nat) (e : E2) (h : H2) (_ : Hold (l, e, h)) : Prop := ∀ q ∈ pd, staysX P l q e h
theorem kq {l : List Oper} {pd : List Nat} {r : PT} {d : Option Tmp} {v : X} : kz (rK P W0 l pd r d e Q) v h .mk = (allz P l pd (e.putO d v) h .mk ∧ runz P W0 l r (e.putO d v) h Q .mk) := rfl
theorem kr {l : List Oper} {r : PT} {d : Option Tmp} {v : X} : kz (rK P W0 l [] r d e Q) v h .mk = runz P W0 l r (e.putO d v) h Q .mk := by
 simp [kz, rK, runz]
theorem kz_r1 {l : List Oper} {q : Nat} {pd : List Nat} {r : PT} {d : Option Tmp} {v : X} : kz (rK P W0 l (q :: pd) r d e Q) v h .mk = (allz P l (q :: pd) (e.putO d v) h .mk ∧ runz P W0 l r (e.putO d v) h Q .mk) := rfl
def ofL : List (Nat × List Nat) → PT
 | [] => .nil
 | (i, pd) :: r => .op i pd (ofL r)
theorem run_ofn {l : List Oper} : runz P W0 l (ofL []) e h Q .mk = qz Q .normal e h .mk := rfl
theorem run_ofc {l : List Oper} {i : Nat} {pd : List Nat} {r : List (Nat × List Nat)} : runz P W0 l (ofL ((i, pd) :: r)) e h Q .mk = opzz P W0 l (atz l i .mk) pd (ofL r) e h Q .mk := rfl
theorem run_alt {l : List Oper} {a b : PT} : runz P W0 l (.alt a b) e h Q .mk = (runz P W0 l a e h Q .mk ∧ runz P W0 l b e h Q .mk) := rfl
theorem ofL_lin : ∀ (p : List (Nat × List Nat)), (ofL p).lin = p.map (·.1)
 | [] => rfl
 | (i, pd) :: r => by simp only [ofL, Ai.PT.lin, List.map_cons, ofL_lin r]
theorem desc_of {l : List Oper} : ∀ (p : List (Nat × List Nat)) (D : List Nat), Ai.descOk l D p = true → Ai.descT l [] D (p.map (·.1)) = true
 | [], D, h => rfl
 | (k, pd) :: r, D, h => by
  simp only [Ai.descOk, Bool.and_eq_true] at h
  simp only [List.map_cons, Ai.descT, Bool.and_eq_true, Bool.or_eq_true]
  exact ⟨.inr h.1, desc_of r _ h.2⟩
theorem chk_of {l : List Oper} : ∀ (p : List (Nat × List Nat)) (pre : List Nat), Ai.chk P l pre p = true → (∀ i, i < l.length → i ∈ pre ∨ i ∈ p.map (·.1)) → Ai.chkT P l pre [] (ofL p) = true
 | [], pre, h, hf => by
  simp only [ofL, Ai.chkT]
  rw [List.all_eq_true]
  intro i hi
  rcases hf i (by simpa using hi) with h | h
  ·simpa using h
  ·cases h
 | (i, pd) :: r, pre, h, hf => by
  simp only [Ai.chk, Bool.and_eq_true] at h
  obtain ⟨h1, h2, h3, h4, h5⟩ := h
  have h6 := chk_of r (i :: pre) h5 fun k hk => by
   rcases hf k hk with h | h
   ·exact .inl (by simp [h])
   ·rcases List.mem_cons.1 h with rfl | h
    ·exact .inl (by simp)
    ·exact .inr h
  simp only [ofL, Ai.chkT, Bool.and_eq_true]
  refine ⟨h1, h2, h3, ?_, h6⟩
  cases he : Ai.effO P l i with
  | false => rfl
  | true =>
   rw [he] at h4
   simp only [Bool.not_true, Bool.false_or, Bool.and_eq_true] at h4 ⊢
   exact ⟨by rw [ofL_lin]; exact desc_of r [i] h4.1, h4.2⟩
theorem okTree_of {l : List Oper} {p : List (Nat × List Nat)} (h : okPlan P l p = true) : okTree P l (ofL p) = true := by
 simp only [okPlan, Bool.and_eq_true] at h
 obtain ⟨h1, h2, h3⟩ := h
 simp only [okTree, Bool.and_eq_true]
 exact ⟨h1, chk_of p [] h3 fun i hi => .inr (by have := List.all_eq_true.1 h2 i (by simpa using hi); simpa using this)⟩
theorem dt_intro {l : List Oper} (p : PT) (hp : okTree P l p = true) (hr : runz P W0 l p e h Q .mk) : drz P W0 l e h Q .mk := ⟨p, hp, hr⟩
theorem dq_intro {l : List Oper} (p : List (Nat × List Nat)) (hp : okPlan P l p = true) (hr : runz P W0 l (ofL p) e h Q .mk) : drz P W0 l e h Q .mk := ⟨ofL p, okTree_of hp, hr⟩
def stayz (P : Program) (o : Option Oper) (l : List Oper) (e : E2) (h : H2) (_ : Hold (l, e, h)) : Prop := match o with
 | none => True
 | some o => match guardX l e o.guard with
  | some true => (match o.dst with | some d => quietO P o.op = true ∧ opx P e h o.op = some (e d, h) | none => False)
  | some false => True
  | none => False
theorem all_nil {l : List Oper} : allz P l [] e h .mk = True := by simp [allz]
theorem all_cons {l : List Oper} {q : Nat} {pd : List Nat} : allz P l (q :: pd) e h .mk = (stayz P (atz l q .mk) l e h .mk ∧ allz P l pd e h .mk) := by
 simp only [allz, List.forall_mem_cons]; rfl
def stayG (g : Option Bool) (A : Prop) (_ : Hold A) : Prop := match g with | some true => A | some false => True | none => False
theorem stayG_t {A : Prop} : stayG (some true) A .mk = A := rfl
theorem stay_load {l : List Oper} {d t : Nat} {ty : TypeId} {x : Operand} {p : String} {a : Array Edge} {q : Option (Nat × Bool)} : stayz P (some ⟨some d, .load t x, ty, p, a, q⟩) l e h .mk = stayG (guardX l e q) (loadz P h t (opz e x .mk) .mk = some (look e d .mk)) .mk := by
 simp only [stayz, opx, loadz, opz, look, quietO, stayG]
 cases guardX l e q with
 | none => rfl
 | some b => cases b with
  | false => rfl
  | true => simp only [true_and]; cases loadX P h t (e.op x) <;> simp
theorem guard_none {l : List Oper} : guardX l e none = some true := rfl
theorem gz_intro {b : Bool} {A B : Prop} (ha : b = true → A) (hb : b = false → B) : gz b A B .mk := ⟨ha, hb⟩
theorem gz_dec {p : Prop} [Decidable p] {A B : Prop} (ha : p → A) (hb : ¬ p → B) : gz (decide p) A B .mk := ⟨fun h => ha (of_decide_eq_true h), fun h => hb (of_decide_eq_false h)⟩
theorem lz_intro {b : Code} (I : Nat → E2 → H2 → Prop) (n : Nat) (h0 : I n e h) (hr : ∀ n e h, I n e h → cz P W0 D b e h (loopQ2 I n Q) .mk) : lz P W0 D b e h Q .mk := ⟨I, n, h0, hr⟩
theorem wz_intro {f : FuncId} {a : List X} {K0 : KT} (c : WC2 P W0 f a h K0) (hk : ∀ v h', K0 v h' → kz K v h' .mk) : wz P W0 f a h K .mk := c.mono hk
theorem start (cp : List (List Nat)) {f : FuncId} {fn : Func} {c : Code} (hm : P.follows .mixedOrders = true) (hf : P.funcs[f]? = some fn) (hb : fn.body = some c)
    (hname : (fn.name != "runtime.NumGoroutine") = true) (hok : okCode fn.ntmps (fun _ => true) c = true) {rs : List ResultVar} (hrs : fn.results.toList = rs) {args : List X} {nt : Nat} (hnt : fn.ntmps = nt) (hlen : args.length ≤ nt)
    (hv : (∀ b, hn h .mk ≤ b → hg h b .mk = none) → cz P W0 (cpL cp) c (rootX args) h (endsX P rs K) .mk) : WC2 P W0 f args h K := WC2_of_body (cp := cpL cp) hm hf hb hname hok (by rw [hnt]; exact hlen) (by rw [hrs]; exact hv)
attribute [go_sem] bq_t and_self decide_true decide_false Bool.not_true Bool.not_false ne_eq not_false_eq_true Nat.zero_add Nat.add_zero Nat.mul_one
attribute [go_sem] pk_t pk_f hk_t hk_f look_put look_putO look_putN root0 rootS op_tmp op_const of_int of_bool of_sl of_ptr lookL_nil lookL_cons hg_push hg_set hg_kill hg_up hn_push hn_set hn_kill hn_up c_skip c_ret c_exit c_seq c_block c_cond c_loop c_region c_regionD fz_rg fz_rd ctz_nil ctz_cons ctc_put ctO_some cp_0 cp_S d_bool g_true g_false seqQ_n seqQ_r seqQ_x blockQ_n blockQ_r blockQ_x loopQ_n loopQ_r loopQ_x ends_n ends_r rz_nil consR_some rz_tmp rz_cell e_0 e_1 e_2 e_3 tup_int tup_bool tup_slr tup_sl tup_st b_some a_some s_some n_some ro_some lit_0 lit_S lit_N toTs_nil toTs_cons toTc_some toT_int toT_sl o_nil o_cons o_guard guard_at gof_some gd_some bit_bool bit_undef x_move x_assign x_pick pick_t pick_f pick_b x_alloc zr_map x_box x_load x_store x_nil nilV_ptr x_bin x_un omap_none omap_some x_slice x_fieldAddr x_indexAddr x_extract x_make fillo_nil fillo_cons aggO_some placeS_at placeE_at x_build x_row List.map_cons List.map_nil x_call dy_fn x_dyn x_builtin fnV1 fnV2 x_fn ldS_some ld_one ld_agg load_ptr load_pr ldp_one ldp_agg mkL_nil mkL_cons mkC_v mkC_l stw_some st_some store_ptr cells_int cells_slr cells_sl cells_st rw_some bin_raw un_raw nil_sl isN_none isN_some fa_raw fa_pr ia_raw ia_sl ex_0 ex_S len_slr len_sl bi_max bi_min bi_max3 ok_all_nil ok_all_cons ok_int ok_slr ok_sl consO_some rd_nil rd_one rd_skip wrt_nil wrt_one wrt_skip step_some chunk_0 chunk_S run_nil run_cons run_ofn run_ofc op_plain op_guard kz_r1 all_nil all_cons stayG_t stay_load guard_none List.take_succ_cons List.take_zero List.drop_succ_cons List.drop_zero
end Go.Bi
namespace Go.Bi
open Go.Ai (Hold Heap)
variable {P : Program} {W0 : World} {D : Nat → Option (List Nat)} {e : E2} {g h : H2} {Q : Q2} {K : KT}
def H2.le (g g' : H2) : Prop := hn g .mk ≤ hn g' .mk ∧ ∀ b, b < hn g .mk → hg g' b .mk = hg g b .mk
theorem H2.le.refl (g : H2) : g.le g := ⟨Nat.le_refl _, fun _ _ => rfl⟩
theorem H2.le.trans {a b c : H2} (x : a.le b) (y : b.le c) : a.le c := ⟨Nat.le_trans x.1 y.1, fun q hq => (y.2 q (Nat.lt_of_lt_of_le hq x.1)).trans (x.2 q hq)⟩
theorem H2.le.n {g g' : H2} (x : g.le g') : hn g .mk ≤ hn g' .mk := x.1
theorem le_push {g g' : H2} {k : OB} (l : g.le g') : g.le (g'.push k) :=
 ⟨by rw [hn_push]; have := l.1; omega, fun b hb => by
  rw [hg_push]
  have : (b == hn g' .mk) = false := by have := l.1; simp; omega
  rw [this]; exact l.2 b hb⟩
theorem le_up {g g' : H2} {n : Nat} (l : g.le g') (hn' : hn g' .mk ≤ n) : g.le (g'.up n) := ⟨Nat.le_trans l.1 hn', fun b hb => l.2 b hb⟩
theorem le_up1 {g g' : H2} (l : g.le g') : g.le (g'.up (hn g' .mk + 1)) := le_up l (Nat.le_succ _)
theorem le_set {g g' : H2} {b : Nat} {k : OB} (l : g.le g') (hb : hn g .mk ≤ b) : g.le (g'.set b k) :=
 ⟨l.1, fun c hc => by
  rw [hg_set]
  have : (c == b) = false := by simp; omega
  rw [this]; exact l.2 c hc⟩
theorem le_kill {g g' : H2} {b : Nat} (l : g.le g') (hb : hn g .mk ≤ b) : g.le (g'.kill b) :=
 ⟨l.1, fun c hc => by
  rw [hg_kill]
  have : (c == b) = false := by simp; omega
  rw [this]; exact l.2 c hc⟩
def blockOf : X → Option Nat
 | .raw (.slice (some a) _ _) => some a.block
 | _ => none
def Own (N : Nat) (g : H2) (v : X) (z n : Nat) (cs : List X) : Prop :=
 cs.length = n * z ∧ ((v = .raw (.slice none 0 0) ∧ n = 0) ∨ ∃ b, v = .raw (.slice (some ⟨b, 0, none⟩) n n) ∧ N ≤ b ∧ b < hn g .mk ∧ hg g b .mk = some ⟨z, cs⟩)
theorem Own.keep {N : Nat} {g g' : H2} {v : X} {z n : Nat} {cs : List X} (o : Own N g v z n cs) (l : g.le g') : Own N g' v z n cs := by
 obtain ⟨h1, h3⟩ := o
 refine ⟨h1, h3.imp_right ?_⟩
 rintro ⟨b, e1, e2, e3, e4⟩
 exact ⟨b, e1, e2, Nat.lt_of_lt_of_le e3 l.n, by rw [l.2 b e3]; exact e4⟩
theorem Own.nil {N : Nat} {g : H2} {z : Nat} : Own N g (.raw (.slice none 0 0)) z 0 [] := ⟨by simp, .inl ⟨rfl, rfl⟩⟩
theorem Own.new {N z n : Nat} {cs : List X} (hN : N ≤ hn g .mk) (hl : cs.length = n * z) : Own N (g.push ⟨z, cs⟩) (.raw (.slice (some ⟨hn g .mk, 0, none⟩) n n)) z n cs :=
 ⟨hl, .inr ⟨_, rfl, hN, by rw [hn_push]; omega, by rw [hg_push, show (hn g .mk == hn g .mk) = true by simp]; rfl⟩⟩
theorem src_own {N z n : Nat} {v : X} {cs : List X} (o : Own N g v z n cs) : srcX g z v = some (n, cs) := by
 obtain ⟨h1, h2⟩ := o
 rcases h2 with ⟨rfl, rfl⟩ | ⟨b, rfl, h3, h4, h5⟩
 ·have : cs = [] := List.eq_nil_of_length_eq_zero (by omega)
  subst this; rfl
 ·have h5 : g.get b = some ⟨z, cs⟩ := h5
  simp only [srcX, h5, rd_all h1, Option.map_some]
theorem append_own {t u U z y N n m : Nat} {zs : List Value} {cs news : List X} {x v : X} (he : Ai.elt? P t = some (U, z + 1, y)) (hz : Ai.zr? P U = some zs) (hl : zs.length = z + 1) (hu : Ai.cls? P u = some .sl)
    (hx : Own N g x (z + 1) n cs) (hN0 : N ≤ hn g .mk) (hs : srcX g (z + 1) v = some (m, news)) (hlen : news.length = m * (z + 1)) (hok : news.all okX = true) (hn0 : (n + m) * (y + 1) ≤ Ai.most)
    (hk : ∀ v' g', Own N g' v' (z + 1) (n + m) (cs ++ news) → hn g .mk ≤ hn g' .mk → (∀ g0 : H2, hn g0 .mk ≤ N → g0.le g → g0.le g') → (∀ b, b < hn g .mk → blockOf x ≠ some b → hg g' b .mk = hg g b .mk) → kz K v' g' .mk) :
    az (biz P g .append [t, u] [x, v] .mk) K .mk := by
  obtain ⟨hlen0, hcase⟩ := hx
  have key : ∀ a, x = .raw (.slice a n n) → biz P g .append [t, u] [x, v] .mk = (if m = 0 then some (.raw (.slice a n n), g) else
        match a with
        | none => some (.raw (.slice (some ⟨g.n, 0, none⟩) m m), g.push ⟨z + 1, news⟩)
        | some a => match g.get a.block with
          | some k => if k.z = z + 1 ∧ a.off = 0 then (rdL k.cs 0 (n * (z + 1))).map fun olds => (.raw (.slice (some ⟨g.n, 0, none⟩) (n + m) (n + m)), (g.kill a.block).push ⟨z + 1, olds ++ news⟩) else none
          | none => none) := by
    intro a ha
    subst ha
    simp only [biz, builtinX, hu, appendX, he, hs, hz]
    rw [if_pos ⟨hl, hn0, hok⟩]
    rfl
  have hmv : ∀ b : Nat, (b == b) = true := by simp
  rcases hcase with ⟨rfl, rfl⟩ | ⟨b, rfl, hNb, hbn, hb⟩
  · have hcs : cs = [] := List.eq_nil_of_length_eq_zero (by omega)
    subst hcs
    rw [key none rfl]
    by_cases hm : m = 0
    · subst hm
      have hnews : news = [] := List.eq_nil_of_length_eq_zero (by omega)
      subst hnews
      rw [if_pos rfl]
      exact hk _ _ ⟨by simp, .inl ⟨rfl, rfl⟩⟩ (Nat.le_refl _) (fun g0 _ l => l) fun _ _ _ => rfl
    · rw [if_neg hm]
      refine hk _ _ ⟨by simpa using hlen, .inr ⟨g.n, ?_, hN0, ?_, ?_⟩⟩ ?_ ?_ ?_
      · simp
      · rw [hn_push]; exact Nat.lt_succ_self _
      · rw [hg_push]; show Go.Bi.hk (g.n == g.n) _ _ _ _ = _; rw [hmv]; rfl
      · rw [hn_push]; omega
      · intro g0 _ l0; exact le_push l0
      · intro b' hb' _
        rw [hg_push, show (b' == hn g .mk) = false by simp; omega]; rfl
  · have hb' : g.get b = some ⟨z + 1, cs⟩ := hb
    rw [key _ rfl]
    by_cases hm : m = 0
    · subst hm
      have hnews : news = [] := List.eq_nil_of_length_eq_zero (by omega)
      subst hnews
      rw [if_pos rfl]
      exact hk _ _ ⟨by simpa using hlen0, .inr ⟨b, rfl, hNb, hbn, by simpa using hb⟩⟩ (Nat.le_refl _) (fun g0 _ l => l) fun _ _ _ => rfl
    · rw [if_neg hm]
      simp only [hb']
      rw [if_pos ⟨trivial, trivial⟩, rd_all hlen0]
      have hne : (b == hn g .mk) = false := by simp; omega
      refine hk _ _ ⟨by simp [hlen0, hlen, Nat.add_mul], .inr ⟨g.n, rfl, ?_, ?_, ?_⟩⟩ ?_ ?_ ?_
      · unfold hn at hbn; omega
      · rw [hn_push, hn_kill]; exact Nat.lt_succ_self _
      · rw [hg_push, hn_kill]; show Go.Bi.hk (g.n == g.n) _ _ _ _ = _; rw [hmv]; rfl
      · rw [hn_push, hn_kill]; omega
      · intro g0 hN l0; exact le_push (le_kill l0 (by omega))
      · intro b' hb2 hne'
        have hbb : (b' == b) = false := by
          have : ¬ b' = b := fun e => hne' (by rw [e]; rfl)
          simp [this]
        rw [hg_push, hn_kill, show (b' == hn g .mk) = false by simp; omega, hk_f, hg_kill, hbb]; rfl
inductive AllT (p : Nat → Prop) : Adr → T → Prop
 | v {f : Adr} {x : Value} : AllT p f (.v x)
 | l {f : Adr} {z : Nat} {es : List (List T)} : (∀ a n c, f [] = .slice (some a) n c → p a.block) → (∀ i j t, ((es[i]?).bind (·[j]?)) = some t → AllT p (below f i j) t) → AllT p f (.l z es)
inductive AllB (p : Nat → Prop) : X → Prop
 | raw {x : Value} : AllB p (.raw x)
 | sl {f : Adr} {z : Nat} {es : List (List T)} : AllT p f (.l z es) → AllB p (.sl f z es)
 | pr {a : Value} {f : Adr} {ts : List T} : (∀ q, a = .pointer (some q) → p q.block) → (∀ j t, ts[j]? = some t → AllT p (under f j) t) → AllB p (.pr a f ts)
 | st {xs : List X} : (∀ x ∈ xs, AllB p x) → AllB p (.st xs)
 | tp {xs : List X} : (∀ x ∈ xs, AllB p x) → AllB p (.tp xs)
theorem AllT.imp {p q : Nat → Prop} (hpq : ∀ b, p b → q b) {f : Adr} {t : T} (a : AllT p f t) : AllT q f t := by
 induction a with
 | v => exact .v
 | l h1 _ ih => exact .l (fun a n c e => hpq _ (h1 a n c e)) ih
theorem AllB.imp {p q : Nat → Prop} (hpq : ∀ b, p b → q b) {x : X} (a : AllB p x) : AllB q x := by
 induction a with
 | raw => exact .raw
 | sl h1 => exact .sl (h1.imp hpq)
 | pr h1 h2 => exact .pr (fun q e => hpq _ (h1 q e)) fun j t ht => (h2 j t ht).imp hpq
 | st _ ih => exact .st ih
 | tp _ ih => exact .tp ih
theorem Rep.weaken {h : Heap} {g g' : H2} {f : Adr} {t : T} {p : Nat → Prop} (r : Rep h g f t) (a : AllT p f t) (hw : ∀ b, p b → g.get b = none → g'.get b = none) : Rep h g' f t := by
 induction r with
 | v h1 => exact .v h1
 | o h1 => exact .o h1
 | l q c h1 h2 h3 h4 ih =>
  cases a with
  | l a1 a2 =>
   refine .l q c h1 h2 (h3.imp_right ?_) fun i j t ht => ih i j t ht (a2 i j t ht)
   rintro ⟨b, off, w, k, cs, rfl, e2, e3, e4⟩
   exact ⟨b, off, w, k, cs, rfl, e2, hw b (a1 _ _ _ h1) e3, e4⟩
theorem Ok.weaken {h : Heap} {g g' : H2} {x : X} {p : Nat → Prop} (r : Ok h g x) (a : AllB p x) (hw : ∀ b, p b → g.get b = none → g'.get b = none) : Ok h g' x := by
 induction r with
 | raw => exact .raw
 | sl h1 => cases a with | sl a1 => exact .sl (h1.weaken a1 hw)
 | pr h1 h2 h3 h0 h4 h5 => cases a with | pr a1 a2 => exact .pr h1 (hw _ (a1 _ rfl) h2) h3 h0 h4 fun j t ht => (h5 j t ht).weaken (a2 j t ht) hw
 | st _ ih => cases a with | st a1 => exact .st fun x hx => ih x hx (a1 x hx)
 | tp _ ih => cases a with | tp a1 => exact .tp fun x hx => ih x hx (a1 x hx)
inductive Fz (p q : Nat → Prop) (g : H2) : X → X → Prop
  | raw {v : Value} : Fz p q g (.raw v) (.raw v)
  | nil {z : Nat} : Fz p q g (.raw (.slice none 0 0)) (.sl (fun _ => .slice none 0 0) z [])
  | own {b n z : Nat} {cs cs' : List X} {ts : List T} : g.get b = some ⟨z, cs⟩ → p b → cs.length = n * z → cs'.length = cs.length → (∀ i (hi : i < cs.length) (hi' : i < cs'.length), Fz p q g cs[i] cs'[i]) → toTs cs' = some ts →
      Fz p q g (.raw (.slice (some ⟨b, 0, none⟩) n n)) (.sl (litA b n z cs') z (chunk z n ts))
  | sl {f : Adr} {z : Nat} {es : List (List T)} : AllB q (.sl f z es) → Fz p q g (.sl f z es) (.sl f z es)
  | st {xs ys : List X} : ys.length = xs.length → (∀ i (hi : i < xs.length) (hi' : i < ys.length), Fz p q g xs[i] ys[i]) → Fz p q g (.st xs) (.st ys)
  | tp {xs ys : List X} : ys.length = xs.length → (∀ i (hi : i < xs.length) (hi' : i < ys.length), Fz p q g xs[i] ys[i]) → Fz p q g (.tp xs) (.tp ys)
theorem ers_of {xs ys : List X} (hl : ys.length = xs.length) (h : ∀ i (hi : i < xs.length) (hi' : i < ys.length), er xs[i] = er ys[i]) : ys.map er = xs.map er := by
 apply List.ext_getElem (by simp [hl])
 intro i h1 h2
 simp at h1 h2
 simp [h i h2 h1]
theorem Fz.er {p q : Nat → Prop} {g : H2} {x y : X} (z : Fz p q g x y) : Bi.er y = Bi.er x := by
 induction z with
 | raw => rfl
 | nil => rfl
 | own => rfl
 | sl => rfl
 | st hl _ ih => simp only [Bi.er, ers_eq]; rw [ers_of hl fun i hi hi' => (ih i hi hi').symm]
 | tp hl _ ih => simp only [Bi.er, ers_eq]; rw [ers_of hl fun i hi hi' => (ih i hi hi').symm]
theorem lit_ok {g1 : H2} {h : Heap} {b n z : Nat} {cs cs' : List X} {ts : List T} (hb : b < h.n) (hg1 : g1.get b = none) (hh : h.get b = some ⟨true, z, cs.map er⟩) (hl : cs.length = n * z) (hl' : cs'.length = cs.length)
  (he : cs'.map er = cs.map er) (o : ∀ x ∈ cs', Ok h g1 x) (ht : toTs cs' = some ts) : Ok h g1 (.sl (litA b n z cs') z (chunk z n ts)) := by
 obtain ⟨t1, t2⟩ := toTs_get ht
 refine .sl (.l (some ⟨b, 0, none⟩) n (by simp only [litA, chunk_len]) (chunk_all (by rw [t1, hl', hl])) (.inr ⟨b, 0, true, z, cs.map er, rfl, hb, hg1, hh, fun _ => rfl, Nat.zero_le _, fun i j hi hj => ?_⟩) fun i j t ht => ?_)
 ·rw [chunk_len] at hi
  have hlt : i * z + j < cs'.length := by
   have : i * z + z ≤ n * z := by rw [← Nat.succ_mul]; exact Nat.mul_le_mul_right z hi
   omega
  rw [Nat.zero_add, ← he, List.getElem?_map, List.getElem?_eq_getElem hlt]
  simp only [Option.map_some, litA, List.getD_eq_getElem?_getD, List.getElem?_eq_getElem hlt, Option.getD_some]
  cases cs'[i * z + j] <;> rfl
 ·obtain ⟨c1, c2⟩ := chunk_get ht
  obtain ⟨x, x1, x2⟩ := t2 _ _ c2
  refine toT_sound (o x (List.mem_of_getElem? x1)) x2 fun p => ?_
  simp only [below, litA, List.getD_eq_getElem?_getD, x1, Option.getD_some]
theorem Fz.ok {p q : Nat → Prop} {g g1 : H2} {h : Heap} (s : S g h) (hw : ∀ b, q b → g.get b = none → g1.get b = none) (hp : ∀ b, p b → g1.get b = none) {x y : X} (fz : Fz p q g x y) : Ok h g x → Ok h g1 y := by
 induction fz with
 | raw => intro _; exact .raw
 | nil => intro _; exact .sl (.l none 0 rfl (by simp) (.inl ⟨rfl, rfl⟩) (by simp))
 | own h1 h2 h3 h4 h5 h6 ih =>
  intro _
  rename_i b n z cs cs' ts
  obtain ⟨s1, s2, s3⟩ := s.row _ _ h1
  refine lit_ok s1 (hp _ h2) s2 h3 h4 (ers_of h4 fun i hi hi' => ((h5 i hi hi').er).symm) (fun x hx => ?_) h6
  obtain ⟨i, hi, rfl⟩ := List.getElem_of_mem hx
  exact ih i (by omega) hi (s3 _ (List.getElem_mem _))
 | sl a => intro o; exact o.weaken a hw
 | st hl _ ih =>
  intro o
  cases o with
  | st o =>
   refine .st fun x hx => ?_
   obtain ⟨i, hi, rfl⟩ := List.getElem_of_mem hx
   exact ih i (by omega) hi (o _ (List.getElem_mem _))
 | tp hl _ ih =>
  intro o
  cases o with
  | tp o =>
   refine .tp fun x hx => ?_
   obtain ⟨i, hi, rfl⟩ := List.getElem_of_mem hx
   exact ih i (by omega) hi (o _ (List.getElem_mem _))
theorem toT_all {r : Nat → Prop} {x : X} {t : T} (a : AllB r x) (ht : toT x = some t) : AllT r (fun p => pathX p x) t := by
 cases a with
 | raw => simp only [toT] at ht; split at ht <;> cases ht; exact .v
 | sl a => simp only [toT, Option.some.injEq] at ht; subst ht; exact a
 | _ => simp [toT] at ht
theorem Fz.all {p q r : Nat → Prop} {g : H2} (hpr : ∀ b, p b → r b) (hqr : ∀ b, q b → r b) {x y : X} (fz : Fz p q g x y) : AllB r y := by
 induction fz with
 | raw => exact .raw
 | nil => exact .sl (.l (by simp) (by simp))
 | own h1 h2 h3 h4 h5 h6 ih =>
  rename_i b n z cs cs' ts
  obtain ⟨t1, t2⟩ := toTs_get h6
  refine .sl (.l (fun a n c e => ?_) fun i j t ht => ?_)
  ·simp only [litA] at e; cases e; exact hpr _ h2
  ·obtain ⟨c1, c2⟩ := chunk_get ht
   obtain ⟨x, x1, x2⟩ := t2 _ _ c2
   obtain ⟨hi, hx⟩ := List.getElem?_eq_some_iff.1 x1
   have hh := ih (i * z + j) (by omega) hi
   rw [hx] at hh
   have e1 : Bi.below (litA b n z cs') i j = fun p => pathX p x := by
    funext p; simp only [Bi.below, litA, List.getD_eq_getElem?_getD, x1, Option.getD_some]
   rw [e1]
   exact toT_all hh x2
 | sl a => exact a.imp hqr
 | st hl _ ih =>
  refine .st fun x hx => ?_
  obtain ⟨i, hi, rfl⟩ := List.getElem_of_mem hx
  exact ih i (by omega) hi
 | tp hl _ ih =>
  refine .tp fun x hx => ?_
  obtain ⟨i, hi, rfl⟩ := List.getElem_of_mem hx
  exact ih i (by omega) hi
end Go.Bi
namespace Go.Bi
open Go.Ai (Hold Heap WC)
variable {P : Program} {W0 : World} {g : H2} {K : KT}
theorem S.wf {h : Heap} (s : S g h) : ∀ b, hn g .mk ≤ b → g.get b = none := fun b hb => by
 cases hk : g.get b with
 | none => rfl
 | some k => have := (s.row _ _ hk).1; have h2 := s.n; unfold hn at hb; omega
def PW (P : Program) (W0 : World) (f : FuncId) (xs : List X) (g : H2) (Q : X → Prop) : Prop :=
 WC2 P W0 f xs g fun y g' => g' = g.up (hn g' .mk) ∧ hn g .mk ≤ hn g' .mk ∧ Q y
theorem PW.mono {f : FuncId} {xs : List X} {Q Q' : X → Prop} (c : PW P W0 f xs g Q) (hq : ∀ y, Q y → Q' y) : PW P W0 f xs g Q' := WC2.mono c fun y g' ⟨h1, h2, h3⟩ => ⟨h1, h2, hq y h3⟩
theorem PW.of {q : Nat → Prop} {f : FuncId} {xs : List X} {Q : X → Prop} (c : WC2 P W0 f xs g fun x g' => g.le g' ∧ ∃ y, Fz (fun b => hn g .mk ≤ b) q g' x y ∧ Q y) :
  PW P W0 f xs g fun y => Q y ∧ AllB (fun b => hn g .mk ≤ b ∨ q b) y := by
 intro h s o
 refine (c h s o).mono ?_
 rintro v h' ⟨x, g', rfl, s', x', o', le, y, fz, hq⟩
 have hx : Ext g h (g.up (hn g' .mk)) h' := ⟨x'.n, x'.keep, fun _ _ h => h⟩
 refine ⟨y, g.up (hn g' .mk), fz.er.symm, ⟨s'.n, fun b k hk => ?_⟩, hx, ?_, rfl, le.1, hq, fz.all (fun _ h => .inl h) (fun _ h => .inr h)⟩
 ·obtain ⟨r1, r2, r3⟩ := s.row b k hk
  have hb : b < hn g .mk := by unfold hn; rw [s.n]; exact r1
  have hk' : g'.get b = some k := (le.2 b hb).trans hk
  obtain ⟨q1, q2, q3⟩ := s'.row b k hk'
  exact ⟨q1, q2, fun x hx2 => (r3 x hx2).mono hx⟩
 ·refine fz.ok (g1 := g.up (hn g' .mk)) s' (fun b _ hb => ?_) (fun b hb => s.wf b hb) o'
  by_cases hlt : b < hn g .mk
  ·exact (le.2 b hlt).symm.trans hb
  ·exact s.wf b (by omega)
theorem PW.scalar {f : FuncId} {xs : List X} {Q : X → Prop} (c : WC2 P W0 f xs g fun x g' => g.le g' ∧ (∃ v, x = .raw v) ∧ Q x) : PW P W0 f xs g Q :=
 (PW.of (q := fun _ => True) (Q := Q) (c.mono fun x g' ⟨h1, ⟨v, h2⟩, h3⟩ => ⟨h1, x, by subst h2; exact .raw, h3⟩)).mono fun y h => h.1
theorem pw_intro {f : FuncId} {xs : List X} {Q : X → Prop} (c : PW P W0 f xs g Q) (hk : ∀ y n, hn g .mk ≤ n → Q y → kz K y (g.up n) .mk) : wz P W0 f xs g K .mk :=
 WC2.mono c fun y g' ⟨h1, h2, h3⟩ => by have := hk y _ h2 h3; rw [← h1] at this; exact this
def H2.bare (g : H2) : H2 := ⟨g.n, fun _ => none⟩
abbrev Lent (g : H2) : X → X → Prop := Fz (fun _ => True) (fun _ => True) g
inductive Lents (g : H2) : List X → List X → Prop
 | nil : Lents g [] []
 | cons {x y : X} {xs ys : List X} : Lent g x y → Lents g xs ys → Lents g (x :: xs) (y :: ys)
theorem Lents.er : ∀ {xs ys : List X}, Lents g xs ys → ys.map Bi.er = xs.map Bi.er
 | _, _, .nil => rfl
 | _, _, .cons a b => by simp only [List.map_cons, Fz.er a, b.er]
theorem S.bare {h : Heap} (s : S g h) : S g.bare h := ⟨s.n, fun b k hk => by cases hk⟩
theorem Lents.ok {h : Heap} (s : S g h) : ∀ {xs ys : List X}, Lents g xs ys → (∀ x ∈ xs, Ok h g x) → ∀ y ∈ ys, Ok h g.bare y
 | _, _, .nil, _, y, hy => by cases hy
 | _, _, .cons a b, o, y, hy => by
  rcases List.mem_cons.1 hy with rfl | hy
  ·exact a.ok s (fun _ _ _ => rfl) (fun _ _ => rfl) (o _ (by simp))
  ·exact b.ok s (fun x hx => o x (by simp [hx])) y hy
theorem S.back {h h' : Heap} {n : Nat} (s : S g h) (x : Ext g.bare h (g.bare.up n) h') (hn' : n = h'.n) : S (g.up n) h' ∧ Ext g h (g.up n) h' := by
 have hx : Ext g h (g.up n) h' := ⟨x.n, fun b hb _ => x.keep b hb rfl, fun _ _ h => h⟩
 refine ⟨⟨hn', fun b k hk => ?_⟩, hx⟩
 obtain ⟨r1, r2, r3⟩ := s.row b k hk
 exact ⟨Nat.lt_of_lt_of_le r1 x.n, by rw [x.keep b r1 rfl]; exact r2, fun y hy => (r3 y hy).mono hx⟩
theorem PW.lend {f : FuncId} {xs ys : List X} {Q : X → Prop} (hl : Lents g xs ys) (c : PW P W0 f ys g.bare Q) (hq : ∀ y, Q y → AllB (fun b => hn g .mk ≤ b) y) : PW P W0 f xs g Q := by
 intro h s o
 rw [← hl.er]
 refine (c h s.bare (hl.ok s o)).mono ?_
 rintro v h' ⟨y, g', rfl, s', x', o', h1, h2, h3⟩
 obtain ⟨n', rfl⟩ : ∃ n, g' = g.bare.up n := ⟨_, h1⟩
 obtain ⟨b1, b2⟩ := s.back x' s'.n
 exact ⟨y, g.up n', rfl, b1, b2, o'.weaken (hq y h3) fun b hb _ => s.wf b hb, rfl, h2, h3⟩
theorem Own.fz {p q : Nat → Prop} {N z n : Nat} {x : X} {cs : List X} {ts : List T} (o : Own N g x z n cs) (hp : ∀ b, N ≤ b → p b) (hc : ∀ c ∈ cs, Fz p q g c c) (ht : toTs cs = some ts) : ∃ f, Fz p q g x (.sl f z (chunk z n ts)) := by
 obtain ⟨hlen, hcase⟩ := o
 rcases hcase with ⟨rfl, rfl⟩ | ⟨b, rfl, hb1, hb2, hb3⟩
 ·exact ⟨_, .nil⟩
 ·exact ⟨_, .own (cs' := cs) hb3 (hp b hb1) hlen rfl (fun i hi hi' => hc _ (List.getElem_mem hi)) ht⟩
def eI (n : Int) : List T := [.v (.int .i64 n)]
theorem eI_def {n : Int} : eI n = [.v (.int .i64 n)] := rfl
def cI (n : Int) : X := .raw (.int .i64 n)
def ints (zs : List Int) : List (List T) := zs.map eI
theorem ints_len {zs : List Int} : (ints zs).length = zs.length := by simp [ints]
theorem ints_el {zs : List Int} {i : Nat} (hi : i < zs.length) : el (ints zs) i = eI (zs.getD i default) := el_map hi
theorem toTs_ints : ∀ {zs : List Int}, toTs (zs.map cI) = some (zs.map fun n => .v (.int .i64 n))
 | [] => rfl
 | z :: zs => by simp only [List.map_cons, toTs_cons, cI, toT_int, toTs_ints, toTc_some]
theorem chunk_ints : ∀ {zs : List Int}, chunk 1 zs.length (zs.map fun n => T.v (.int .i64 n)) = ints zs
 | [] => rfl
 | z :: zs => by simp only [List.length_cons, List.map_cons, chunk, List.take_succ_cons, List.take_zero, List.drop_succ_cons, List.drop_zero, chunk_ints, ints, eI]
def OwnI (N : Nat) (g : H2) (v : X) (zs : List Int) : Prop := Own N g v 1 zs.length (zs.map cI)
theorem OwnI.keep {N : Nat} {g g' : H2} {v : X} {zs : List Int} (o : OwnI N g v zs) (l : g.le g') : OwnI N g' v zs := Own.keep o l
theorem OwnI.fz {p q : Nat → Prop} {N : Nat} {x : X} {zs : List Int} (o : OwnI N g x zs) (hp : ∀ b, N ≤ b → p b) : ∃ f, Fz p q g x (.sl f 1 (ints zs)) := by
 have := Own.fz (p := p) (q := q) o hp (fun c hc => by obtain ⟨z, _, rfl⟩ := List.mem_map.1 hc; exact .raw) toTs_ints
 rwa [chunk_ints] at this
theorem OwnI.lent {N : Nat} {x : X} {zs : List Int} (o : OwnI N g x zs) : ∃ f, Lent g x (.sl f 1 (ints zs)) := o.fz fun _ _ => trivial
theorem lent_raw {v : Value} : Lent g (.raw v) (.raw v) := Fz.raw
abbrev PI (P : Program) (W0 : World) (f : FuncId) (xs : List X) (g : H2) (zs : List Int) : Prop := WC2 P W0 f xs g fun x g' => g.le g' ∧ OwnI (hn g .mk) g' x zs
theorem PI.pw {f : FuncId} {xs : List X} {zs : List Int} (c : PI P W0 f xs g zs) : PW P W0 f xs g fun y => (∃ f, y = .sl f 1 (ints zs)) ∧ AllB (fun b => hn g .mk ≤ b) y := by
 refine (PW.of (q := fun b => hn g .mk ≤ b) (Q := fun y => ∃ f, y = .sl f 1 (ints zs)) (c.mono ?_)).mono fun y ⟨h1, h2⟩ => ⟨h1, h2.imp fun b hb => hb.elim id id⟩
 rintro x g' ⟨le, ow⟩
 obtain ⟨f, hf⟩ := ow.fz (p := fun b => hn g .mk ≤ b) (q := fun b => hn g .mk ≤ b) fun _ h => h
 exact ⟨le, _, hf, f, rfl⟩
attribute [go_sem] eI_def ints_len ints_el
end Go.Bi
namespace Go.Bi
open Go.Ai (Hold Heap WC plainS)
variable {P : Program} {W0 : World} {D : Nat → Option (List Nat)} {e : E2} {g : H2} {Q : Q2} {K : KT}
def samez (ks : List Nat) (e e' : E2) : Prop := ∀ t ∈ ks, look e' t .mk = look e t .mk
theorem same_nil {e e' : E2} : samez [] e e' = True := by simp [samez]
theorem same_cons {e e' : E2} {t : Nat} {ks : List Nat} : samez (t :: ks) e e' = (look e' t .mk = look e t .mk ∧ samez ks e e') := by simp [samez]
theorem lz_keep {b : Code} (ks : List Nat) (I : Nat → E2 → H2 → Prop) (n : Nat) (h0 : I n e g) (hr : ∀ n e' g, samez ks e e' → I n e' g → cz P W0 D b e' g (loopQ2 (fun m e'' g => samez ks e e'' ∧ I m e'' g) n Q) .mk) : lz P W0 D b e g Q .mk :=
 lz_intro (fun m e'' g => samez ks e e'' ∧ I m e'' g) n ⟨fun _ _ => rfl, h0⟩ fun n e' g ⟨h1, h2⟩ => hr n e' g h1 h2
theorem nx_keep {ks : List Nat} {I : Nat → E2 → H2 → Prop} {n : Nat} {e0 : E2} (m : Nat) (hm : m < n) (hs : samez ks e0 e) (hi : I m e g) : nxz (fun m e'' g => samez ks e0 e'' ∧ I m e'' g) n e g .mk := ⟨m, hm, hs, hi⟩
def mkG (f : Adr) : T → X
 | .v x => .raw x
 | .l z es => .sl f z es
def mkF (F : Nat → Adr) : Nat → List T → List X
 | _, [] => []
 | j, t :: r => mkG (F j) t :: mkF F (j + 1) r
theorem mkL_mkF {f : Adr} : ∀ {ts : List T} {j : Nat}, mkL f j ts = mkF (under f) j ts
 | [], _ => rfl
 | t :: ts, j => by simp only [mkL, mkF, mkL_mkF]; cases t <;> rfl
theorem mkF_len {F : Nat → Adr} : ∀ {ts : List T} {j : Nat}, (mkF F j ts).length = ts.length
 | [], _ => rfl
 | t :: ts, j => by simp [mkF, mkF_len]
mutual
/-- A cell of one's own, with all rows below it (the blocks are told), and what it holds. -/
inductive OT (g : H2) : List Nat → X → T → Prop
  | raw {v : Value} : plainS v = true → OT g [] (.raw v) (.v v)
  | nil {z : Nat} : OT g [] (.raw (.slice none 0 0)) (.l z [])
  | row {b n z : Nat} {bs : List Nat} {cs : List X} {es : List (List T)} : g.get b = some ⟨z, cs⟩ → cs.length = n * z → es.length = n → (∀ e ∈ es, e.length = z) → OTs g bs cs es.flatten →
      OT g (b :: bs) (.raw (.slice (some ⟨b, 0, none⟩) n n)) (.l z es)
inductive OTs (g : H2) : List Nat → List X → List T → Prop
  | nil : OTs g [] [] []
  | cons {bs bs' : List Nat} {x : X} {t : T} {xs : List X} {ts : List T} : OT g bs x t → OTs g bs' xs ts → OTs g (bs ++ bs') (x :: xs) (t :: ts)
end
mutual
theorem OT.frame {g g' : H2} : ∀ {bs : List Nat} {x : X} {t : T}, OT g bs x t → (∀ b ∈ bs, g'.get b = g.get b) → OT g' bs x t
 | _, _, _, .raw h, _ => .raw h
 | _, _, _, .nil, _ => .nil
 | _, _, _, .row h1 h2 h3 h4 h5, hb => .row (by rw [hb _ (by simp)]; exact h1) h2 h3 h4 (h5.frame fun b h => hb b (by simp [h]))
theorem OTs.frame {g g' : H2} : ∀ {bs : List Nat} {xs : List X} {ts : List T}, OTs g bs xs ts → (∀ b ∈ bs, g'.get b = g.get b) → OTs g' bs xs ts
 | _, _, _, .nil, _ => .nil
 | _, _, _, .cons h1 h2, hb => .cons (h1.frame fun b h => hb b (by simp [h])) (h2.frame fun b h => hb b (by simp [h]))
end
theorem OTs.len {g : H2} : ∀ {bs : List Nat} {xs : List X} {ts : List T}, OTs g bs xs ts → xs.length = ts.length
 | _, _, _, .nil => rfl
 | _, _, _, .cons _ h => by simp [h.len]
theorem chunk_flat {z : Nat} : ∀ {es : List (List T)}, (∀ e ∈ es, e.length = z) → chunk z es.length es.flatten = es
 | [], _ => rfl
 | e :: es, h => by
  have h1 : e.length = z := h e (by simp)
  simp only [List.length_cons, List.flatten_cons, chunk]
  rw [← h1, List.take_left, List.drop_left, h1, chunk_flat fun x hx => h x (by simp [hx])]
theorem toTs_mkF {F : Nat → Adr} : ∀ {ts : List T} {j : Nat}, (∀ t ∈ ts, ∀ v, t = .v v → plainS v = true) → toTs (mkF F j ts) = some ts
 | [], _, _ => rfl
 | t :: ts, j, h => by
  have h1 := toTs_mkF (F := F) (j := j + 1) fun t ht => h t (List.mem_cons_of_mem _ ht)
  cases t with
  | v x => simp only [mkF, mkG, toTs, h1, toT, if_pos (h _ List.mem_cons_self x rfl)]
  | l z es => simp only [mkF, mkG, toTs, h1, toT]
mutual
theorem OT.plain {g : H2} : ∀ {bs : List Nat} {x : X} {t : T}, OT g bs x t → ∀ v, t = .v v → plainS v = true
 | _, _, _, .raw h, v, e => by cases e; exact h
 | _, _, _, .nil, v, e => by cases e
 | _, _, _, .row .., v, e => by cases e
theorem OTs.plain {g : H2} : ∀ {bs : List Nat} {xs : List X} {ts : List T}, OTs g bs xs ts → ∀ t ∈ ts, ∀ v, t = .v v → plainS v = true
 | _, _, _, .nil, t, ht, _, _ => by cases ht
 | _, _, _, .cons h1 h2, t, ht, v, e => by
  rcases List.mem_cons.1 ht with rfl | ht
  ·exact h1.plain v e
  ·exact h2.plain t ht v e
end
mutual
theorem OT.fz {p q : Nat → Prop} {g : H2} : ∀ {bs : List Nat} {x : X} {t : T}, OT g bs x t → (∀ b ∈ bs, p b) → ∃ f, Fz p q g x (mkG f t)
 | _, _, _, .raw h, _ => ⟨fun _ => undef, .raw⟩
 | _, _, _, .nil, _ => ⟨_, .nil⟩
 | _, _, _, .row (b := b) (n := n) (z := z) (cs := cs) (es := es) h1 h2 h3 h4 h5, hb => by
  obtain ⟨F, hF⟩ := h5.fz (p := p) (q := q) (j := 0) fun b h => hb b (by simp [h])
  have hl : (mkF F 0 es.flatten).length = cs.length := by rw [mkF_len, h5.len]
  have := Fz.own (p := p) (q := q) h1 (hb _ (by simp)) h2 hl (fun i hi hi' => hF i hi hi') (toTs_mkF h5.plain)
  rw [← h3, chunk_flat h4] at this
  rw [h3] at this
  exact ⟨_, this⟩
theorem OTs.fz {p q : Nat → Prop} {g : H2} : ∀ {bs : List Nat} {xs : List X} {ts : List T} {j : Nat}, OTs g bs xs ts → (∀ b ∈ bs, p b) → ∃ F : Nat → Adr, ∀ i (hi : i < xs.length) (hi' : i < (mkF F j ts).length), Fz p q g xs[i] (mkF F j ts)[i]
 | _, _, _, _, .nil, _ => ⟨fun _ _ => undef, fun i hi => by simp at hi⟩
 | _, _, _, j, .cons (t := t) (ts := ts) h1 h2, hb => by
  obtain ⟨f, hf⟩ := h1.fz (p := p) (q := q) fun b h => hb b (by simp [h])
  obtain ⟨F, hF⟩ := h2.fz (p := p) (q := q) (j := j + 1) fun b h => hb b (by simp [h])
  have hc : ∀ (ts : List T) (k : Nat), j < k → mkF (fun i => if i = j then f else F i) k ts = mkF F k ts := by
   intro ts
   induction ts with
   | nil => intro k _; rfl
   | cons t ts ih => intro k hk; simp only [mkF]; rw [if_neg (by omega), ih (k + 1) (by omega)]
  have e1 : mkF (fun i => if i = j then f else F i) j (t :: ts) = mkG f t :: mkF F (j + 1) ts := by simp only [mkF, if_true, hc ts (j + 1) (by omega)]
  refine ⟨fun i => if i = j then f else F i, fun i hi hi' => ?_⟩
  simp only [e1]
  cases i with
  | zero => exact hf
  | succ i => simp only [List.getElem_cons_succ]; exact hF i (by simpa using hi) (by simpa [e1] using hi')
end
theorem OT.lent {bs : List Nat} {x : X} {t : T} (o : OT g bs x t) : ∃ f, Lent g x (mkG f t) := o.fz fun _ _ => trivial
theorem OTs.lent {bs : List Nat} {xs : List X} {ts : List T} (o : OTs g bs xs ts) : ∃ F : Nat → Adr, Lent g (.st xs) (.st (mkF F 0 ts)) := by
 obtain ⟨F, hF⟩ := o.fz (p := fun _ => True) (q := fun _ => True) (j := 0) fun _ _ => trivial
 exact ⟨F, .st (by rw [mkF_len, o.len]) fun i hi hi' => hF i hi hi'⟩
def Bl (N M : Nat) (bs : List Nat) : Prop := bs.Nodup ∧ ∀ b ∈ bs, N ≤ b ∧ b < M
theorem Bl.nil {N M : Nat} : Bl N M [] := ⟨.nil, by simp⟩
theorem Bl.wide {N M N' M' : Nat} {bs : List Nat} (b : Bl N M bs) (hN : N' ≤ N) (hM : M ≤ M') : Bl N' M' bs := ⟨b.1, fun x hx => ⟨Nat.le_trans hN (b.2 x hx).1, Nat.lt_of_lt_of_le (b.2 x hx).2 hM⟩⟩
theorem Bl.append {N M M' : Nat} {bs bs' : List Nat} (b : Bl N M bs) (b' : Bl M M' bs') (hN : N ≤ M) (hM : M ≤ M') : Bl N M' (bs ++ bs') :=
 ⟨List.nodup_append.2 ⟨b.1, b'.1, fun x hx y hy e => by have := (b.2 x hx).2; have := (b'.2 y hy).1; omega⟩, fun x hx => by
  rcases List.mem_append.1 hx with hx | hx
  ·have := b.2 x hx; omega
  ·have := b'.2 x hx; omega⟩
theorem Bl.one {b M : Nat} (h : b < M) : Bl b M [b] := ⟨by simp, by simp [h]⟩
theorem OT.keep {g g' : H2} {bs : List Nat} {x : X} {t : T} (o : OT g bs x t) (l : g.le g') {N : Nat} (hb : Bl N (hn g .mk) bs) : OT g' bs x t := o.frame fun b h => l.2 b (hb.2 b h).2
theorem OTs.keep {g g' : H2} {bs : List Nat} {xs : List X} {ts : List T} (o : OTs g bs xs ts) (l : g.le g') {N : Nat} (hb : Bl N (hn g .mk) bs) : OTs g' bs xs ts := o.frame fun b h => l.2 b (hb.2 b h).2
def NewT (P : Program) (W0 : World) (f : FuncId) (xs : List X) (g : H2) (t : T) : Prop := WC2 P W0 f xs g fun x g' => g.le g' ∧ ∃ bs, OT g' bs x t ∧ Bl (hn g .mk) (hn g' .mk) bs
def NewS (P : Program) (W0 : World) (f : FuncId) (xs : List X) (g : H2) (ts : List T) : Prop := WC2 P W0 f xs g fun x g' => g.le g' ∧ ∃ ys bs, x = .st ys ∧ OTs g' bs ys ts ∧ Bl (hn g .mk) (hn g' .mk) bs
theorem OTs.raws {g : H2} : ∀ {vs : List Value}, (∀ v ∈ vs, plainS v = true) → OTs g [] (vs.map .raw) (vs.map .v)
 | [], _ => .nil
 | v :: vs, h => by
  have := OTs.cons (OT.raw (g := g) (h v List.mem_cons_self)) (OTs.raws (g := g) fun v hv => h v (List.mem_cons_of_mem _ hv))
  simpa using this
theorem OT.flat {g : H2} {N b : Nat} {vs : List Value} (hb : hg g b .mk = some ⟨1, vs.map .raw⟩) (hp : ∀ v ∈ vs, plainS v = true) : OT g [b] (.raw (.slice (some ⟨b, 0, none⟩) vs.length vs.length)) (.l 1 (vs.map fun v => [.v v])) := by
 have hf : (vs.map fun v => [T.v v]).flatten = vs.map .v := by
  clear hb hp
  induction vs with
  | nil => rfl
  | cons v vs ih => simp [ih]
 refine .row hb (by simp) (by simp) (by simp) ?_
 rw [hf]
 exact OTs.raws hp
theorem ints_T {zs : List Int} : ints zs = (zs.map (Value.int .i64)).map fun v => [T.v v] := by simp [ints, eI, Function.comp_def]
theorem OwnI.tree {N : Nat} {x : X} {zs : List Int} (o : OwnI N g x zs) : ∃ bs, OT g bs x (.l 1 (ints zs)) ∧ Bl N (hn g .mk) bs := by
 obtain ⟨hl, hc⟩ := o
 rcases hc with ⟨rfl, h0⟩ | ⟨b, rfl, h1, h2, h3⟩
 ·have : zs = [] := List.eq_nil_of_length_eq_zero h0
  subst this
  exact ⟨[], .nil, .nil⟩
 ·have e : zs.map cI = (zs.map (Value.int .i64)).map .raw := by simp [cI, Function.comp_def]
  rw [e] at h3
  have := OT.flat (N := N) h3 (fun v hv => by obtain ⟨z, _, rfl⟩ := List.mem_map.1 hv; rfl)
  rw [← ints_T, List.length_map] at this
  exact ⟨[b], this, (Bl.one h2).wide h1 (Nat.le_refl _)⟩
theorem OT.own {bs : List Nat} {x : X} {zs : List Int} (o : OT g bs x (.l 1 (ints zs))) {N : Nat} (hb : Bl N (hn g .mk) bs) : OwnI N g x zs := by
 generalize ht : T.l 1 (ints zs) = t at o
 cases o with
 | raw => cases ht
 | nil =>
  simp only [T.l.injEq] at ht
  have : zs = [] := by cases zs <;> simp_all [ints]
  subst this
  exact .nil
 | row h1 h2 h3 h4 h5 =>
  simp only [T.l.injEq] at ht
  obtain ⟨rfl, rfl⟩ := ht
  rename_i b n bs' cs
  simp at h2
  have hn' : zs.length = n := by rw [← h3]; simp [ints]
  subst hn'
  refine ⟨by simp, .inr ⟨b, rfl, (hb.2 b (by simp)).1, (hb.2 b (by simp)).2, ?_⟩⟩
  have hcs : cs = zs.map cI := by
   clear h1 h2 h3 h4 hb
   induction zs generalizing cs bs' with
   | nil => simp [ints] at h5; cases h5; rfl
   | cons z zs ih =>
    simp only [ints, eI, List.map_cons, List.flatten_cons, List.cons_append, List.nil_append] at h5
    cases h5 with
    | cons a b =>
     cases a
     rw [List.map_cons, ih b]; rfl
  rw [← hcs]; exact h1
attribute [go_sem] same_nil same_cons
end Go.Bi
namespace Go.Bi
open Go.Ai (Hold guarded gate)
variable {P : Program} {W0 : World} {D : Nat → Option (List Nat)} {e : E2} {g : H2} {Q : Q2} {K : KT}
theorem guarded_mono {o : Option Bool} {A B A' B' : Prop} (h : guarded o A B) (ha : A → A') (hb : B → B') : guarded o A' B' := by
 unfold guarded at *
 cases o with
 | none => exact h
 | some b => exact ⟨fun hb' => ha (h.1 hb'), fun hb' => hb (h.2 hb')⟩
theorem opO_mono {o : Op} {K K' : X → H2 → Prop} (h : opO2 P W0 e g o K) (hk : ∀ v g, K v g → K' v g) : opO2 P W0 e g o K' := by
 unfold opO2 at *
 split at h
 ·exact WC2.mono h hk
 ·unfold thenX at *
  split at h
  ·exact hk _ _ h
  ·cases h
theorem vcO_mono {ops : List Oper} {Q Q' : Q2} (hQ : ∀ x e g, Q x e g → Q' x e g) : ∀ (l : List Oper) (e : E2) (g : H2), vcO2 P W0 ops l e g Q → vcO2 P W0 ops l e g Q'
 | [], e, g, h => hQ _ _ _ h
 | o :: l, e, g, h => guarded_mono h (fun h => opO_mono h fun v g h => vcO_mono hQ l _ g h) (fun h => vcO_mono hQ l _ g h)
theorem runX_mono {ops : List Oper} {Q Q' : Q2} (hQ : ∀ x e g, Q x e g → Q' x e g) : ∀ (l : Ai.PT) (e : E2) (g : H2), runX P W0 ops l e g Q → runX P W0 ops l e g Q'
 | .nil, e, g, h => hQ _ _ _ h
 | .alt a b, e, g, h => ⟨runX_mono hQ a _ _ h.1, runX_mono hQ b _ _ h.2⟩
 | .op i pd l, e, g, h => by
  simp only [runX] at h ⊢
  split at h
  ·cases h
  ·exact guarded_mono h (fun h => opO_mono h fun v g h => ⟨h.1, runX_mono hQ l _ g h.2⟩) (fun h => runX_mono hQ l _ g h)
theorem vcC_mono : ∀ (c : Code) {Q Q' : Q2}, (∀ x e g, Q x e g → Q' x e g) → ∀ (e : E2) (g : H2), vcC2 P W0 D c e g Q → vcC2 P W0 D c e g Q'
  | .skip, _, _, hQ, e, g, h => hQ _ _ _ h
  | .region id ops false, _, _, hQ, e, g, h => vcO_mono hQ _ _ _ h
  | .region id ops true, _, _, hQ, e, g, ⟨p, h1, h2⟩ => ⟨p, h1, runX_mono hQ _ _ _ h2⟩
  | .seq a b, _, _, hQ, e, g, h => vcC_mono a (fun x e g hx => by
      cases x with
      | normal => exact vcC_mono b hQ e g hx
      | ret => exact hQ _ _ _ hx
      | exit j => exact hQ _ _ _ hx) e g h
  | .cond c t f, _, _, hQ, e, g, h => by
    simp only [vcC2, condX] at h ⊢
    split at h
    · exact ⟨fun hb => vcC_mono t hQ e g (h.1 hb), fun hb => vcC_mono f hQ e g (h.2 hb)⟩
    · cases h
  | .block id b, _, _, hQ, e, g, h => vcC_mono b (fun x e g hx => by
      cases x with
      | normal => exact hQ _ _ _ hx
      | ret => exact hQ _ _ _ hx
      | exit j =>
        simp only [blockQ2] at hx ⊢
        split at hx
        · rename_i hj; rw [if_pos hj]; exact hQ _ _ _ hx
        · rename_i hj; rw [if_neg hj]; exact hQ _ _ _ hx) e g h
  | .loop b, _, _, hQ, e, g, ⟨I, n, h1, h2⟩ => ⟨I, n, h1, fun n e g hI => vcC_mono b (fun x e g hx => by
      cases x with
      | normal => exact hx
      | ret => exact hQ _ _ _ hx
      | exit j => exact hQ _ _ _ hx) e g (h2 n e g hI)⟩
  | .exit id, _, _, hQ, e, g, h => hQ _ _ _ h
  | .ret, _, _, hQ, e, g, h => hQ _ _ _ h
  | .rangeFunc .., _, _, _, _, _, h => h
  | .scope .., _, _, _, _, _, h => h
  | .label .., _, _, _, _, _, h => h
  | .goto .., _, _, _, _, _, h => h
  | .refuse .., _, _, _, _, _, h => h
def joinQ (J : E2 → H2 → Prop) (j : Nat) (Q : Q2) : Q2
 | .normal, e, g => Q .normal e g
 | .ret, e, g => Q .ret e g
 | .exit i, e, g => (i = j ∧ J e g) ∨ Q (.exit i) e g
theorem joinQ_r {J : E2 → H2 → Prop} {j : Nat} : qz (joinQ J j Q) .ret e g .mk = qz Q .ret e g .mk := rfl
theorem joinQ_out {J : E2 → H2 → Prop} {j : Nat} (h : J e g) : qz (joinQ J j Q) (.exit j) e g .mk := .inl ⟨rfl, h⟩
theorem lz_join {b : Code} (j : Nat) (ks : List Nat) (I : Nat → E2 → H2 → Prop) (J : E2 → H2 → Prop) (n : Nat) (h0 : I n e g)
  (hr : ∀ n e' g, samez ks e e' → I n e' g → cz P W0 D b e' g (loopQ2 (fun m e'' g => samez ks e e'' ∧ I m e'' g) n (joinQ (fun e'' g => samez ks e e'' ∧ J e'' g) j Q)) .mk)
  (hj : ∀ e' g, samez ks e e' → J e' g → qz Q (.exit j) e' g .mk) : lz P W0 D b e g Q .mk := by
 refine lz_intro (fun m e'' g => samez ks e e'' ∧ I m e'' g) n ⟨fun _ _ => rfl, h0⟩ fun n e' g ⟨h1, h2⟩ => ?_
 refine vcC_mono b (fun x e' g hx => ?_) e' g (hr n e' g h1 h2)
 cases x with
 | normal => exact hx
 | ret => exact hx
 | exit i =>
  rcases hx with ⟨rfl, h3, h4⟩ | hx
  ·exact hj e' g h3 h4
  ·exact hx
theorem out_keep {ks : List Nat} {J : E2 → H2 → Prop} {e0 : E2} {j : Nat} (hs : samez ks e0 e) (hi : J e g) : qz (joinQ (fun e'' g => samez ks e0 e'' ∧ J e'' g) j Q) (.exit j) e g .mk := joinQ_out ⟨hs, hi⟩
attribute [go_sem] joinQ_r
end Go.Bi

end
