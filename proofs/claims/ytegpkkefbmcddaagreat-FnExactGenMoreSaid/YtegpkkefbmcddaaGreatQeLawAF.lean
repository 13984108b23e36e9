/- Own lemmas that the theorem of this claim needs: the abstract machine and walks of functions. -/
import Derived.Test.YtegpkkefbmcddaaGreatQeLawAE
set_option linter.unusedSimpArgs false
set_option linter.unusedVariables false
section
namespace Go.Bi
open Go.Ai (Ar Vr Im HF PT CD Ba guarded gate Bd Nt hole mxI mnI shrI shlI Bs ZJ bg Vo QC UL eltT eltZ Yp bh NZ WI repL WJ fN fR aK iA hZ Rl)
abbrev KT := X → H2 → Prop
def look (e : E2) (t : Nat) (_ : Ar e) : X := e t
def C1 (e : E2) (x : Operand) (_ : Ar e) : X := e.op x
def Cm (e : E2) (l : List Operand) (_ : Ar e) : List X := l.map e.op
def hg (h : H2) (b : Nat) (_ : Ar h) : Option OB := h.get b
def hn (h : H2) (_ : Ar h) : Nat := h.n
section
variable (P : Program) (W0 : World) (D : Nat → Option (List Nat))
def cz (c : Code) (e : E2) (h : H2) (Q : Q2) (_ : Ar (c, e, h, Q, D)) : Prop := FD P W0 D c e h Q
def qz (Q : Q2) (x : Ai.Ex) (e : E2) (h : H2) (_ : Ar (Q, e, h)) : Prop := Q x e h
def oz (ops l : List Oper) (e : E2) (h : H2) (Q : Q2) (_ : Ar (ops, l, e, h, Q)) : Prop := M3 P W0 ops l e h Q
def xz (o : Op) (e : E2) (h : H2) (K : KT) (_ : Ar (o, e, h, K)) : Prop := DK P W0 e h o K
def wz (f : FuncId) (a : List X) (h : H2) (K : KT) (_ : Ar (h, K)) : Prop := BC P W0 f a h K
def lz (b : Code) (e : E2) (h : H2) (Q : Q2) (_ : Ar (b, e, h, Q, D)) : Prop := FD P W0 D (.loop b) e h Q
def bf (l : List Oper) (e : E2) (h : H2) (Q : Q2) (_ : Ar (l, e, h, Q)) : Prop := ∃ p, HF P l p = true ∧ JL P W0 l p e h Q
def rz (e : E2) (h : H2) (rs : List ResultVar) (_ : Ar (e, h)) : Option (List X) := Ks P h e rs
def Ox (b : Code) (Q : Q2) : Q2 := bZ (fun e h => FD P W0 D b e h Q) Q
def oK (ops r : List Oper) (d : Option Tmp) (e : E2) (Q : Q2) : KT := fun v h' => M3 P W0 ops r (e.putO d v) h' Q
end
def kz (K : KT) (v : X) (h : H2) (_ : Ar (K, h)) : Prop := K v h
def bz (o : Option X) (h : H2) (K : KT) (_ : Ar (h, K)) : Prop := match o with | some v => K v h | none => False
def az (o : Option (X × H2)) (K : KT) (_ : Ar K) : Prop := Fv o K
def sz (o : Option H2) (K : KT) (_ : Ar K) : Prop := match o with | some h' => K (.raw undef) h' | none => False
def gz (b : Bool) (A B : Prop) (_ : Ar (A, B)) : Prop := gate b A B
def gd (b : Option Bool) (A B : Prop) (_ : Ar (A, B)) : Prop := guarded b A B
def dz (v : X) (A B : Prop) (_ : Ar (A, B)) : Prop := Tj v A B
def ez (r : Option (List X)) (h : H2) (K : KT) (_ : Ar (h, K)) : Prop := Pn r h K
def nz (cs : Option (List X)) (n : Option Nat) (h : H2) (K : KT) (_ : Ar (h, K)) : Prop := match cs, n with | some cs, some n => K (.raw (.pointer (some ⟨h.n, 0, none⟩))) (h.push ⟨n, cs⟩) | _, _ => False
def bT (r : Option (List X)) (z n : Nat) (h : H2) (K : KT) (_ : Ar (h, K)) : Prop := match r with | some l => K (VL h n z l).1 (VL h n z l).2 | none => False
def aC (P : Program) (W0 : World) (v : X) (xs : List X) (h : H2) (K : KT) (_ : Ar (h, K)) : Prop := match v with | .raw (.func (.func g) first caps) => if first.size = 0 then BC P W0 g (xs ++ caps.toList.map .raw) h K else False | _ => False
variable {P : Program} {W0 : World} {D : Nat → Option (List Nat)} {e : E2} {h : H2} {Q : Q2} {K : KT}
def pk (b : Bool) (v : X) (e : E2) (t : Nat) (_ : Ar (v, e)) : X := match b with | true => v | false => e t
theorem bu {v : X} {t : Nat} : pk true v e t .mk = v := rfl
theorem cX {v : X} {t : Nat} : pk false v e t .mk = look e t .mk := rfl
theorem Hb {d t : Nat} {v : X} : look (e.put d v) t .mk = pk (t == d) v e t .mk := by
 simp only [look, E2.put, pk]; by_cases ht : t = d
 ·simp [ht]
 ·have : (t == d) = false := by simp [ht]
  rw [if_neg ht, this]
theorem KI {d t : Nat} {v : X} : look (e.putO (some d) v) t .mk = pk (t == d) v e t .mk := Hb
theorem Uk {t : Nat} {v : X} : look (e.putO none v) t .mk = look e t .mk := rfl
def hk (b : Bool) (o : Option OB) (h : H2) (c : Nat) (_ : Ar (o, h)) : Option OB := match b with | true => o | false => h.get c
theorem YF {o : Option OB} {c : Nat} : hk true o h c .mk = o := rfl
theorem FB {o : Option OB} {c : Nat} : hk false o h c .mk = hg h c .mk := rfl
theorem XW {v : X} {l : List X} : look (HY (v :: l)) 0 .mk = v := rfl
theorem Xd {v : X} {l : List X} {n : Nat} : look (HY (v :: l)) (n + 1) .mk = look (HY l) n .mk := by simp [HY, look]
theorem Sk {t : Nat} : C1 e (.tmp t) .mk = look e t .mk := rfl
theorem Mg {v : Value} : C1 e (.const v) .mk = Wd v := rfl
theorem of_int {k : IntKind} {n : Int} : Wd (.int k n) = .raw (.int k n) := rfl
theorem of_bool {b : Bool} : Wd (.bool b) = .raw (.bool b) := rfl
theorem eH {b : ByteArray} : Wd (.string b) = .raw (.string b) := rfl
theorem fj {a : Option Addr} {n c : Nat} : Wd (.slice a n c) = .raw (.slice a n c) := rfl
theorem de {a : Option Addr} : Wd (.pointer a) = .raw (.pointer a) := rfl
theorem ai {f : FuncId} : C1 e (.func f) .mk = .raw (.func (.func f) #[] #[]) := rfl
theorem J6 : Cm e [] .mk = [] := rfl
theorem IS {x : Operand} {l : List Operand} : Cm e (x :: l) .mk = C1 e x .mk :: Cm e l .mk := rfl
theorem MK {b c : Nat} {o : Option OB} : (if b = c then o else h.get b) = hk (b == c) o h b .mk := by
 unfold hk; by_cases hb : b = c
 ·simp [hb]
 ·have : (b == c) = false := by simp [hb]
  rw [if_neg hb, this]
theorem Ap {k : OB} {b : Nat} : hg (h.push k) b .mk = hk (b == hn h .mk) (some k) h b .mk := MK
theorem A7 {k : OB} {b b' : Nat} : hg (h.set b' k) b .mk = hk (b == b') (some k) h b .mk := MK
theorem FH {b b' : Nat} : hg (h.kill b') b .mk = hk (b == b') none h b .mk := MK
theorem Tg {n b : Nat} : hg (h.up n) b .mk = hg h b .mk := rfl
theorem AB {k : OB} : hn (h.push k) .mk = hn h .mk + 1 := rfl
theorem AG {k : OB} {b : Nat} : hn (h.set b k) .mk = hn h .mk := rfl
theorem Bh {b : Nat} : hn (h.kill b) .mk = hn h .mk := rfl
theorem AF {n : Nat} : hn (h.up n) .mk = n := rfl
theorem Rn : cz P W0 D .skip e h Q .mk = qz Q .normal e h .mk := rfl
theorem YJ : cz P W0 D .ret e h Q .mk = qz Q .ret e h .mk := rfl
theorem Q7 {id : Nat} : cz P W0 D (.exit id) e h Q .mk = qz Q (.exit id) e h .mk := rfl
theorem Yk {a b : Code} : cz P W0 D (.seq a b) e h Q .mk = cz P W0 D a e h (Ox P W0 D b Q) .mk := rfl
theorem N6 {id : Nat} {b : Code} : cz P W0 D (.block id b) e h Q .mk = cz P W0 D b e h (FJ id Q) .mk := rfl
theorem CV {c : Operand} {a b : Code} : cz P W0 D (.cond c a b) e h Q .mk = dz (C1 e c .mk) (cz P W0 D a e h Q .mk) (cz P W0 D b e h Q .mk) .mk := rfl
theorem Sl {b : Code} : cz P W0 D (.loop b) e h Q .mk = lz P W0 D b e h Q .mk := rfl
def ctz (F : E2 → Prop) (ks : List Nat) (e E : E2) (_ : Ar (F, e, E)) : Prop := F fun t => if ks.contains t then e t else E t
def cb (F : E2 → Prop) (ks : List Nat) (e : E2) (k : Nat) (v : X) (E : E2) (_ : Ar (F, e, E)) : Prop := F fun t => if ks.contains t then e t else E.put k v t
def X2 (F : E2 → Prop) (o : Option (List Nat)) (e : E2) (_ : Ar (F, e)) : Prop := F (U0 o e)
def gw : E2 := fun _ => .raw hole
def fz (F : E2 → Prop) (e : E2) (_ : Ar (F, e)) : Prop := F e
theorem OA {F : E2 → Prop} {e E : E2} : ctz F [] e E .mk = fz F E .mk := by simp [ctz, fz]
theorem LM {F : E2 → Prop} {e E : E2} {k : Nat} {ks : List Nat} : ctz F (k :: ks) e E .mk = cb F ks e k (look e k .mk) E .mk := by
 simp only [ctz, cb, look]
 congr 1
 funext t
 by_cases ht : t = k
 ·subst ht; simp [E2.put]
 ·simp [E2.put, ht]
theorem OF {F : E2 → Prop} {e E : E2} {k : Nat} {v : X} {ks : List Nat} : cb F ks e k v E .mk = ctz F ks e (E.put k v) .mk := rfl
theorem Lg {F : E2 → Prop} {e : E2} {ks : List Nat} : X2 F (some ks) e .mk = ctz F ks e gw .mk := rfl
def QS (D : Nat → Option (List Nat)) (id : Nat) (_ : Ar D) : Option (List Nat) := D id
theorem eF {a : List Nat} {l : List (List Nat)} : QS (Rl (a :: l)) 0 .mk = some a := rfl
theorem eE {a : List Nat} {l : List (List Nat)} {n : Nat} : QS (Rl (a :: l)) (n + 1) .mk = QS (Rl l) n .mk := by simp [QS, Rl]
def eB (P : Program) (W0 : World) (l : List Oper) (h : H2) (Q : Q2) : E2 → Prop := fun e => M3 P W0 l l e h Q
def ct (P : Program) (W0 : World) (l : List Oper) (h : H2) (Q : Q2) : E2 → Prop := fun e => bf P W0 l e h Q .mk
theorem LG {id : Nat} {l : List Oper} : cz P W0 D (.region id l.toArray false) e h Q .mk = X2 (eB P W0 l h Q) (QS D id .mk) e .mk := by simp [cz, FD, X2, eB, QS]
theorem KC {id : Nat} {l : List Oper} : cz P W0 D (.region id l.toArray true) e h Q .mk = X2 (ct P W0 l h Q) (QS D id .mk) e .mk := by simp [cz, FD, X2, ct, QS, bf]
theorem Wh {l : List Oper} : fz (eB P W0 l h Q) e .mk = oz P W0 l l e h Q .mk := rfl
theorem X5 {l : List Oper} : fz (ct P W0 l h Q) e .mk = bf P W0 l e h Q .mk := rfl
theorem R4 {b : Bool} {A B : Prop} : dz (.raw (.bool b)) A B .mk = gz b A B .mk := rfl
theorem SW {A B : Prop} : gz true A B .mk = A := by simp [gz, gate]
theorem O3 {A B : Prop} : gz false A B .mk = B := by simp [gz, gate]
theorem Sv {b : Code} : qz (Ox P W0 D b Q) .normal e h .mk = cz P W0 D b e h Q .mk := rfl
theorem RO {b : Code} : qz (Ox P W0 D b Q) .ret e h .mk = qz Q .ret e h .mk := rfl
theorem RN {b : Code} {j : Nat} : qz (Ox P W0 D b Q) (.exit j) e h .mk = qz Q (.exit j) e h .mk := rfl
theorem Lj {id : Nat} : qz (FJ id Q) .normal e h .mk = qz Q .normal e h .mk := rfl
theorem Lv {id : Nat} : qz (FJ id Q) .ret e h .mk = qz Q .ret e h .mk := rfl
def gT (b : Bool) (j : Nat) (Q : Q2) (e : E2) (h : H2) (_ : Ar (Q, e, h)) : Prop := match b with | true => Q .normal e h | false => Q (.exit j) e h
theorem gZ {j : Nat} : gT true j Q e h .mk = qz Q .normal e h .mk := rfl
theorem gV {j : Nat} : gT false j Q e h .mk = qz Q (.exit j) e h .mk := rfl
theorem MY {id j : Nat} : qz (FJ id Q) (.exit j) e h .mk = gT (j == id) j Q e h .mk := by
 simp only [qz, FJ, gT]
 by_cases hj : j = id
 ·simp [hj]
 ·have : (j == id) = false := by simp [hj]
  rw [if_neg hj, this]
def gN (I : Nat → E2 → H2 → Prop) (n : Nat) (e : E2) (h : H2) (_ : Ar (I, n, e, h)) : Prop := ∃ m, m < n ∧ I m e h
theorem PR {I : Nat → E2 → H2 → Prop} {n : Nat} : qz (IW I n Q) .normal e h .mk = gN I n e h .mk := rfl
theorem O6 {I : Nat → E2 → H2 → Prop} {n : Nat} : qz (IW I n Q) .ret e h .mk = qz Q .ret e h .mk := rfl
theorem Oe {I : Nat → E2 → H2 → Prop} {n j : Nat} : qz (IW I n Q) (.exit j) e h .mk = qz Q (.exit j) e h .mk := rfl
theorem cq {rs : List ResultVar} : qz (Px P rs K) .normal e h .mk = ez (rz P e h rs .mk) h K .mk := rfl
theorem SY {rs : List ResultVar} : qz (Px P rs K) .ret e h .mk = ez (rz P e h rs .mk) h K .mk := rfl
theorem SP : rz P e h [] .mk = some [] := rfl
def Ke (v : Option X) (l : Option (List X)) : Option (List X) := match v, l with | some v, some l => some (v :: l) | _, _ => none
theorem IT {v : X} {l : List X} : Ke (some v) (some l) = some (v :: l) := rfl
theorem SX {t : Nat} {r : List ResultVar} : rz P e h (.tmp t :: r) .mk = Ke (some (look e t .mk)) (rz P e h r .mk) := by simp only [rz, Ks, Ke, look]; cases Ks P h e r <;> rfl
def FM (P : Program) (h : H2) (t : TypeId) (v : X) (_ : Ar h) : Option X := G3 P h t v
theorem ZY {a t : Nat} {r : List ResultVar} : rz P e h (.cell a t :: r) .mk = Ke (FM P h t (look e a .mk) .mk) (rz P e h r .mk) := rfl
theorem gf {v : X} : ez (some [v]) h K .mk = kz K v h .mk := rfl
theorem iK : ez (some []) h K .mk = kz K (.tp []) h .mk := by simp [ez, Pn, UZ, kz]
theorem iJ {v u : X} (hv : Bg v = false) (hu : Bg u = false) : ez (some [v, u]) h K .mk = kz K (.tp [v, u]) h .mk := by simp [ez, Pn, UZ, hv, hu, kz]
theorem iL {v u x : X} (hv : Bg v = false) (hu : Bg u = false) (hx : Bg x = false) : ez (some [v, u, x]) h K .mk = kz K (.tp [v, u, x]) h .mk := by simp [ez, Pn, UZ, hv, hu, hx, kz]
theorem Z9 {k : IntKind} {n : Int} : Bg (.raw (.int k n)) = false := rfl
theorem Wl {b : Bool} : Bg (.raw (.bool b)) = false := rfl
theorem aD {a : Option Addr} {l c : Nat} : Bg (.raw (.slice a l c)) = false := rfl
theorem dd {f : AQ} {z : Nat} {es : List (List T)} : Bg (.sl f z es) = false := rfl
theorem eC {a : List X} : Bg (.st a) = false := rfl
theorem ko {ops r : List Oper} {d : Option Tmp} {v : X} : kz (oK P W0 ops r d e Q) v h .mk = oz P W0 ops r (e.putO d v) h Q .mk := rfl
theorem SS {v : X} : bz (some v) h K .mk = kz K v h .mk := rfl
theorem RY {v : X} {h' : H2} : az (some (v, h')) K .mk = kz K v h' .mk := rfl
theorem cd {h' : H2} : sz (some h') K .mk = kz K (.raw undef) h' .mk := rfl
theorem Rk {cs : List X} {n : Nat} : nz (some cs) (some n) h K .mk = kz K (.raw (.pointer (some ⟨hn h .mk, 0, none⟩))) (h.push ⟨n, cs⟩) .mk := rfl
def RB (n z : Nat) (cs : List X) (t : Option (List T)) (h : H2) (K : KT) (_ : Ar (h, K)) : Prop := match n, t with
 | m + 1, some ts => K (.sl (FW h.n (m + 1) z cs) z (chunk z (m + 1) ts)) (h.up (h.n + 1))
 | n, _ => K (.raw (.slice (some ⟨h.n, 0, none⟩) n n)) (h.push ⟨z, cs⟩)
theorem OO {l : List X} {z n : Nat} : bT (some l) z n h K .mk = RB n z l (CN l) h K .mk := by
 simp only [bT, VL, RB]
 cases n <;> cases CN l <;> rfl
theorem eT {z : Nat} {cs : List X} {t : Option (List T)} : RB 0 z cs t h K .mk = kz K (.raw (.slice (some ⟨hn h .mk, 0, none⟩) 0 0)) (h.push ⟨z, cs⟩) .mk := by cases t <;> rfl
theorem Yc {z n : Nat} {cs : List X} {ts : List T} : RB (n + 1) z cs (some ts) h K .mk = kz K (.sl (FW (hn h .mk) (n + 1) z cs) z (chunk z (n + 1) ts)) (h.up (hn h .mk + 1)) .mk := rfl
theorem WN {z n : Nat} {cs : List X} : RB n z cs none h K .mk = kz K (.raw (.slice (some ⟨hn h .mk, 0, none⟩) n n)) (h.push ⟨z, cs⟩) .mk := by cases n <;> rfl
def fM (t : Option T) (r : Option (List T)) : Option (List T) := match t, r with | some t, some r => some (t :: r) | _, _ => none
theorem Xv : CN [] = some [] := rfl
theorem H4 {x : X} {l : List X} : CN (x :: l) = fM (Jz x) (CN l) := rfl
theorem H3 {t : T} {r : List T} : fM (some t) (some r) = some (t :: r) := rfl
theorem PQ {k : IntKind} {n : Int} : Jz (.raw (.int k n)) = some (.v (.int k n)) := rfl
theorem Wf {f : AQ} {z : Nat} {es : List (List T)} : Jz (.sl f z es) = some (.l z es) := rfl
theorem X6 {ops : List Oper} : oz P W0 ops [] e h Q .mk = qz Q .normal e h .mk := rfl
theorem SM {ops r : List Oper} {d : Option Tmp} {o : Op} {t : TypeId} {p : String} {a : Array Edge} :
  oz P W0 ops (⟨d, o, t, p, a, none⟩ :: r) e h Q .mk = xz P W0 o e h (oK P W0 ops r d e Q) .mk := by
 show gate true (DK P W0 e h o (oK P W0 ops r d e Q)) _ = DK P W0 e h o (oK P W0 ops r d e Q)
 simp only [gate]; exact propext ⟨fun hh => hh.1 trivial, fun hh => ⟨fun _ => hh, fun hf => absurd hf (by simp)⟩⟩
theorem Oa {ops r : List Oper} {d : Option Tmp} {o : Op} {t : TypeId} {p : String} {a : Array Edge} {j : Nat} {b : Bool} :
    oz P W0 ops (⟨d, o, t, p, a, some (j, b)⟩ :: r) e h Q .mk =
      gd (Dq ops e (some (j, b))) (xz P W0 o e h (oK P W0 ops r d e Q) .mk) (oz P W0 ops r (e.putO d (.raw undef)) h Q .mk) .mk := rfl
def fU (d : Option Nat) (b : Bool) (e : E2) (_ : Ar e) : Option Bool := match d with | none => some false | some t => Vk b (e t)
theorem LL {ops : List Oper} {j : Nat} {b : Bool} : Dq ops e (some (j, b)) = fU (WJ ops j .mk) b e .mk := rfl
theorem Lh {t : Nat} {b : Bool} : fU (some t) b e .mk = Vk b (look e t .mk) := rfl
theorem PA {b : Bool} {A B : Prop} : gd (some b) A B .mk = gz b A B .mk := rfl
theorem Ml {w b : Bool} : Vk w (.raw (.bool b)) = some (b == w) := rfl
theorem UK {w : Bool} : Vk w (.raw undef) = some false := rfl
theorem R1 {x : Operand} : xz P W0 (.move x) e h K .mk = kz K (C1 e x .mk) h .mk := rfl
theorem LF {x : Operand} : xz P W0 (.assign x) e h K .mk = kz K (C1 e x .mk) h .mk := rfl
def HQ (c a b : X) : Option X := match c with | .raw (.bool true) => some a | .raw (.bool false) => some b | _ => none
theorem Sm {c x y : Operand} : xz P W0 (.pick c x y) e h K .mk = bz (HQ (C1 e c .mk) (C1 e x .mk) (C1 e y .mk)) h K .mk := by
 simp only [xz, DK, Cw, Ki, Fv, bz, HQ, C1]
 split <;> rename_i heq <;> split at heq <;> simp_all
theorem RC {a b : X} : HQ (.raw (.bool true)) a b = some a := rfl
theorem R6 {a b : X} : HQ (.raw (.bool false)) a b = some b := rfl
theorem Q6 {c a b : Bool} : HQ (.raw (.bool c)) (.raw (.bool a)) (.raw (.bool b)) = some (.raw (.bool (Ai.pkB c a b))) := by cases c <;> rfl
theorem ZF {t : TypeId} : xz P W0 (.alloc t) e h K .mk = nz ((Ai.zr? P t).map (·.map .raw)) (Ai.sz? P t) h K .mk := by
 simp only [xz, DK, Cw, Ki, Fv, nz]; cases Ai.zr? P t <;> cases Ai.sz? P t <;> simp [aY]
theorem dO {l : List Value} : (some l).map (·.map X.raw) = some (l.map X.raw) := rfl
theorem YG {t : TypeId} {x : Operand} : xz P W0 (.box t x) e h K .mk = nz (A3 (C1 e x .mk)) (Ai.sz? P t) h K .mk := by
 simp only [xz, DK, Cw, Ki, Fv, nz, C1]; cases A3 (e.op x) <;> cases Ai.sz? P t <;> simp [aY]
theorem Q4 {t : TypeId} {x : Operand} : xz P W0 (.load t x) e h K .mk = bz (FM P h t (C1 e x .mk) .mk) h K .mk := by
 simp only [xz, DK, Cw, Ki, bz, FM, C1]; cases G3 P h t (e.op x) <;> rfl
def O8 (P : Program) (h : H2) (t : TypeId) (x y : X) (_ : Ar h) : Option H2 := IQ P h t x y
theorem ZE {t : TypeId} {x y : Operand} : xz P W0 (.store t x y) e h K .mk = sz (O8 P h t (C1 e x .mk) (C1 e y .mk) .mk) K .mk := by
 simp only [xz, DK, Cw, Ki, Fv, sz, O8, C1]; cases IQ P h t (e.op x) (e.op y) <;> simp
def cf (v : X) : Option X := if ak v then some v else none
theorem gI {x : Operand} : xz P W0 (.nilCheck x) e h K .mk = bz (cf (C1 e x .mk)) h K .mk := by
 simp only [xz, DK, Cw, Ki, Fv, bz, cf, C1]; by_cases hp : ak (e.op x) = true <;> simp [hp]
theorem Yo {a : Addr} : cf (.raw (.pointer (some a))) = some (.raw (.pointer (some a))) := rfl
theorem YV {op : BinOp} {t u : TypeId} {x y : Operand} : xz P W0 (.binOp op t x y u) e h K .mk = bz (Lr P op t (C1 e x .mk) (C1 e y .mk)) h K .mk := by
 simp only [xz, DK, Cw, Ki, bz, C1]; cases Lr P op t (e.op x) (e.op y) <;> rfl
theorem cZ {op : UnOp} {t : TypeId} {x : Operand} : xz P W0 (.unOp op t x) e h K .mk = bz (fQ op (C1 e x .mk)) h K .mk := by
 simp only [xz, DK, Cw, Ki, bz, C1]; cases fQ op (e.op x) <;> rfl
def Nl (P : Program) (h : H2) (s d : TypeId) (x : X) (_ : Ar h) : Option (X × H2) := NI P h s d x
theorem bo {s d : TypeId} {x : Operand} : xz P W0 (.convert s d x) e h K .mk = az (Nl P h s d (C1 e x .mk) .mk) K .mk := rfl
def UG (o : Option Operand) (e : E2) (_ : Ar e) : Option X := o.map e.op
theorem UU : UG none e .mk = none := rfl
theorem UA {x : Operand} : UG (some x) e .mk = some (C1 e x .mk) := rfl
def Jn (P : Program) (h : H2) (t : TypeId) (x : X) (lo hi mx : Option X) (_ : Ar h) : Option X := IL P h t x lo hi mx
theorem al {t : TypeId} {x : Operand} {lo hi mx : Option Operand} : xz P W0 (.slice t x lo hi mx) e h K .mk = bz (Jn P h t (C1 e x .mk) (UG lo e .mk) (UG hi e .mk) (UG mx e .mk) .mk) h K .mk := by
 simp only [xz, DK, Cw, Ki, bz, C1, Jn, UG]; cases IL P h t (e.op x) (lo.map e.op) (hi.map e.op) (mx.map e.op) <;> rfl
theorem QX {s : TypeId} {x : Operand} {f : Nat} : xz P W0 (.fieldAddr s x f) e h K .mk = bz (B7 P s (C1 e x .mk) f) h K .mk := by
 simp only [xz, DK, Cw, Ki, bz, C1]; cases B7 P s (e.op x) f <;> rfl
theorem HK {t : TypeId} {x y : Operand} : xz P W0 (.indexAddr t x y) e h K .mk = bz (Cg P t (C1 e x .mk) (C1 e y .mk)) h K .mk := by
 simp only [xz, DK, Cw, Ki, bz, C1]; cases Cg P t (e.op x) (e.op y) <;> rfl
theorem Vi {x : Operand} {i : Nat} : xz P W0 (.extract x i) e h K .mk = bz (EA (C1 e x .mk) i) h K .mk := by
 simp only [xz, DK, Cw, Ki, bz, C1]; cases EA (e.op x) i <;> rfl
def TU (P : Program) (h : H2) (t : TypeId) (x y : X) (_ : Ar h) : Option (X × H2) := Eu P h t x y
theorem dU {t : TypeId} {x y : Operand} : xz P W0 (.makeSlice t x y) e h K .mk = az (TU P h t (C1 e x .mk) (C1 e y .mk) .mk) K .mk := rfl
def I7 (p : Option (Nat × Nat)) (vs : Option (List X)) (cs : List X) : Option (List X) := match p, vs with | some (off, n), some vs => if vs.length = n then Cq cs off vs else none | _, _ => none
def Ev (place : Nat → Option (Nat × Nat)) (e : E2) (l : List (Nat × Operand)) (cs : Option (List X)) (_ : Ar (place, e, l)) : Option (List X) := match cs with | some cs => E6 place e l cs | none => none
theorem KB {p : Nat → Option (Nat × Nat)} {cs : List X} : Ev p e [] (some cs) .mk = some cs := rfl
theorem IU {p : Nat → Option (Nat × Nat)} {i : Nat} {x : Operand} {l : List (Nat × Operand)} {cs : List X} : Ev p e ((i, x) :: l) (some cs) .mk = Ev p e l (I7 (p i) (A3 (C1 e x .mk)) cs) .mk := by
 simp only [Ev, E6, I7, C1]
 cases p i with
 | none => rfl
 | some q =>
  obtain ⟨off, n⟩ := q
  cases A3 (e.op x) with
  | none => rfl
  | some vs =>
   by_cases hv : vs.length = n
   ·simp only [if_pos hv]; cases Cq cs off vs <;> rfl
   ·simp only [if_neg hv]
def eD (l : Option (List X)) : Option X := l.map fun l => .st l
theorem Vf {l : List X} : eD (some l) = some (.st l) := rfl
def RR (P : Program) (t : TypeId) : Nat → Option (Nat × Nat) := fun i => (Ai.fld? P t i).map fun p => (p.1, p.2.1)
theorem UR {t i : Nat} : RR P t i = (Ai.fld? P t i).map fun p => (p.1, p.2.1) := rfl
theorem ao {t : TypeId} {ps : List (Nat × Operand)} (hz : (Ai.zr? P t).isSome = true) (hb : Ai.bldOk P t = true) : xz P W0 (.build t ps.toArray) e h K .mk = bz (eD (Ev (RR P t) e ps ((Ai.zr? P t).map (·.map .raw)) .mk)) h K .mk := by
 cases hz' : Ai.zr? P t with
 | none => rw [hz'] at hz; cases hz
 | some z =>
  simp only [xz, DK, Cw, Ki, bz, hz', if_pos hb, eD, Ev, Option.map_some, show RR P t = (fun i => (Ai.fld? P t i).map fun p => (p.1, p.2.1)) from rfl]
  generalize E6 (fun i => (Ai.fld? P t i).map fun p => (p.1, p.2.1)) e ps (z.map .raw) = r
  cases r <;> rfl
def Ie (z : Nat) : Nat → Option (Nat × Nat) := fun i => some (i * z, z)
theorem J0 {z i : Nat} : Ie z i = some (i * z, z) := rfl
theorem Xc {t n : Nat} {ps : List (Nat × Operand)} (hn : NZ (Ai.elt? P t) (Ai.zr? P (Yp (Ai.elt? P t))) n = true) :
  xz P W0 (.buildSlice t n ps.toArray) e h K .mk = bT (Ev (Ie (bh (Ai.elt? P t))) e ps ((WI n (Ai.zr? P (Yp (Ai.elt? P t)))).map (·.map .raw)) .mk) (bh (Ai.elt? P t)) n h K .mk := by
 cases he : Ai.elt? P t with
 | none => rw [he] at hn; cases hn
 | some q =>
  obtain ⟨u, z, y⟩ := q
  rw [he] at hn
  simp only [Yp] at hn
  cases hz : Ai.zr? P u with
  | none => rw [hz] at hn; cases hn
  | some zs =>
   rw [hz] at hn
   simp only [NZ, Bool.and_eq_true, decide_eq_true_eq] at hn
   simp only [xz, DK, Cw, Ki, bT, he, hz, if_pos hn, Ev, bh, Yp, WI, Option.map_some, show Ie z = (fun i => some (i * z, z)) from rfl]
   generalize E6 (fun i => some (i * z, z)) e ps ((repL n zs).map .raw) = r
   cases r <;> rfl
theorem Ru {f : FuncId} {xs : List Operand} {ts : Array TypeId} : xz P W0 (.call ⟨.value (.func f), xs.toArray, ts⟩) e h K .mk = wz P W0 f (Cm e xs .mk) h K .mk := by
 simp [xz, DK, Cw, E2.op, wz, Cm]
theorem Wc {g : FuncId} {xs : List X} {caps : List Value} : aC P W0 (.raw (.func (.func g) #[] caps.toArray)) xs h K .mk = wz P W0 g (xs ++ caps.map .raw) h K .mk := by simp [aC, wz]
theorem Wb {t : Tmp} {xs : List Operand} {ts : Array TypeId} : xz P W0 (.call ⟨.value (.tmp t), xs.toArray, ts⟩) e h K .mk = aC P W0 (look e t .mk) (Cm e xs .mk) h K .mk := by
 have hno : Ki P e h (.call ⟨.value (.tmp t), xs.toArray, ts⟩) = none := rfl
 simp only [xz, DK, Cw, aC, hno, Fv, look, Cm, E2.op]
 generalize e t = v
 cases v <;> try rfl
 rename_i v
 cases v <;> try rfl
 rename_i fn first caps
 cases fn <;> try rfl
 by_cases h3 : first.size = 0 <;> simp [h3]
def EM (P : Program) (h : H2) (b : Builtin) (ts : List TypeId) (xs : List X) (_ : Ar h) : Option (X × H2) := B2 P h b ts xs
theorem J8 {b : Builtin} {xs : List Operand} {ts : List TypeId} : xz P W0 (.call ⟨.builtin b, xs.toArray, ts.toArray⟩) e h K .mk = az (EM P h b ts (Cm e xs .mk) .mk) K .mk := by
 simp [xz, DK, Cw, Ki, EM, Cm, az]
def gR (f : FuncId) (l : Option (List Value)) : Option X := match l with | some l => (match l.all Ai.ptrV with | true => some (.raw (.func (.func f) #[] l.toArray)) | false => none) | none => none
theorem gi {f : FuncId} {a : Addr} : gR f (G0 [.raw (.pointer (some a))]) = some (.raw (.func (.func f) #[] [.pointer (some a)].toArray)) := rfl
theorem cM {f : FuncId} {a b : Addr} : gR f (G0 [.raw (.pointer (some a)), .raw (.pointer (some b))]) = some (.raw (.func (.func f) #[] [.pointer (some a), .pointer (some b)].toArray)) := rfl
theorem bx {f : FuncId} {xs : List Operand} : xz P W0 (.makeFunc (.func f) #[] xs.toArray) e h K .mk = bz (gR f (G0 (Cm e xs .mk))) h K .mk := by
 simp only [xz, DK, Cw, Ki, bz, gR, Cm]
 cases hr : G0 (xs.map e.op) with
 | none => simp [Fv]
 | some l =>
  cases ha : l.all Ai.ptrV
  ·simp only [ha, Fv]
   rw [if_neg (by simp)]
  ·simp only [ha, Fv]
   rw [if_pos (by simp)]
def gO (o : Option (List X)) : Option X := match o with | some l => some (.st l) | none => none
theorem Xa {l : List X} : gO (some l) = some (.st l) := rfl
def bj (g : Option Bool) (n : Option Nat) (k : Option OB) (off : Nat) : Option X := match k with
 | some k => (match g with | some true => (match n with | some n => gO (Jw k.cs off n) | none => none) | some false => k.cs[off]? | none => none)
 | none => none
theorem RZ {n : Option Nat} {z off : Nat} {cs : List X} : bj (some false) n (some ⟨z, cs⟩) off = cs[off]? := rfl
theorem cA {n : Nat} {z off : Nat} {cs : List X} : bj (some true) (some n) (some ⟨z, cs⟩) off = gO (Jw cs off n) := rfl
theorem LI {t : TypeId} {b off : Nat} {p : Option Nat} : FM P h t (.raw (.pointer (some ⟨b, off, p⟩))) .mk = bj (Ai.agg? P t) (Ai.sz? P t) (hg h b .mk) off := by
 simp only [FM, G3, hg, bj, gO]
 cases h.get b with
 | none => rfl
 | some k =>
  simp only
  cases Ai.agg? P t with
  | none => rfl
  | some g =>
   cases g with
   | false => rfl
   | true =>
    simp only
    cases Ai.sz? P t with
    | none => rfl
    | some n => simp only; cases Jw k.cs off n <;> rfl
def fE (g : Option Bool) (n : Option Nat) (f : AQ) (cs : List T) : Option X := match g, n with
 | some true, some n => if n ≤ cs.length then some (.st (Gx f 0 (cs.take n))) else none
 | some false, _ => (match cs with | t :: _ => some (Qy f 0 t) | [] => none)
 | _, _ => none
theorem bJ {t : TypeId} {a : Value} {f : AQ} {cs : List T} : FM P h t (.pr a f cs) .mk = fE (Ai.agg? P t) (Ai.sz? P t) f cs := by
 simp only [FM, G3, fE]
 cases Ai.agg? P t with
 | none => rfl
 | some g => cases g <;> cases Ai.sz? P t <;> rfl
theorem ZL {n : Option Nat} {f : AQ} {t : T} {cs : List T} : fE (some false) n f (t :: cs) = some (Qy f 0 t) := rfl
theorem Yt {n : Nat} {f : AQ} {cs : List T} (hn : (decide (n ≤ cs.length)) = true) : fE (some true) (some n) f cs = some (.st (Gx f 0 (cs.take n))) := by simp only [fE]; rw [if_pos (of_decide_eq_true hn)]
theorem Y2 {f : AQ} {j : Nat} : Gx f j [] = [] := rfl
theorem XH {f : AQ} {j : Nat} {t : T} {r : List T} : Gx f j (t :: r) = Qy f j t :: Gx f (j + 1) r := rfl
theorem fF {f : AQ} {j : Nat} {x : Value} : Qy f j (.v x) = .raw x := rfl
theorem fY {f : AQ} {j z : Nat} {es : List (List T)} : Qy f j (.l z es) = .sl (under f j) z es := rfl
def gS (vs : Option (List X)) (n : Option Nat) (k : Option OB) (h : H2) (b off : Nat) (_ : Ar h) : Option H2 := match vs, n, k with
 | some vs, some n, some k => if vs.length = n ∧ vs.all E8 = true then (Cq k.cs off vs).map fun cs => h.set b ⟨k.z, cs⟩ else none
 | _, _, _ => none
def gx (b : Bool) (cs : Option (List X)) (h : H2) (c z : Nat) (_ : Ar h) : Option H2 := match b, cs with
 | true, some cs => some (h.set c ⟨z, cs⟩)
 | _, _ => none
theorem WR {cs : List X} {c z : Nat} : gx true (some cs) h c z .mk = some (h.set c ⟨z, cs⟩) := rfl
theorem Zx {vs : List X} {n z b off : Nat} {cs : List X} : gS (some vs) (some n) (some ⟨z, cs⟩) h b off .mk = gx (vs.length == n && vs.all E8) (Cq cs off vs) h b z .mk := by
 simp only [gS, gx]
 by_cases hv : vs.length = n
 ·by_cases hq : vs.all E8 = true
  ·simp only [hv, hq, and_self, if_true, beq_self_eq_true, Bool.and_self]; cases Cq cs off vs <;> rfl
  ·simp [hv, hq]
 ·simp [hv]
theorem Uu {t : TypeId} {b off : Nat} {p : Option Nat} {y : X} : O8 P h t (.raw (.pointer (some ⟨b, off, p⟩))) y .mk = gS (A3 y) (Ai.sz? P t) (hg h b .mk) h b off .mk := by
 simp only [O8, IQ, hg, gS]
 cases A3 y <;> cases Ai.sz? P t <;> first | rfl | (dsimp only; cases h.get b <;> rfl)
theorem Jf {k : IntKind} {n : Int} : A3 (.raw (.int k n)) = some [.raw (.int k n)] := rfl
theorem T9 {b : ByteArray} : A3 (.raw (.string b)) = some [.raw (.string b)] := rfl
theorem Va {a : Option Addr} {l c : Nat} : A3 (.raw (.slice a l c)) = some [.raw (.slice a l c)] := rfl
theorem WQ {f : AQ} {z : Nat} {es : List (List T)} : A3 (.sl f z es) = some [.sl f z es] := rfl
theorem XT {l : List X} : A3 (.st l) = some l := rfl
theorem aq {v : Value} : IC (some v) = some (.raw v) := rfl
theorem ZC {op : BinOp} {t : TypeId} {a b : Value} : Lr P op t (.raw a) (.raw b) = IC (Ai.binV P op t a b) := rfl
theorem dG {t : TypeId} {k : IntKind} {a b c d : Int} (hT : Ai.intS? P t = some 2) : Lr P .eql t (.st [.raw (.int k a), .raw (.int k b)]) (.st [.raw (.int k c), .raw (.int k d)]) = some (.raw (.bool (a == c && (b == d && true)))) := by
 simp [Lr, G0, Ai.binV, Ai.eqA, hT, Ai.eqIs, IC]
theorem cE {op : UnOp} {a : Value} : fQ op (.raw a) = IC (Ai.unV op a) := rfl
theorem eO {t : TypeId} {f : AQ} {z n c : Nat} {es : List (List T)} (hc : Ai.cls? P t = some .sl) : Lr P .eql t (.sl f z es) (.raw (.slice none n c)) = some (.raw (.bool (Pb (f [])))) := by simp [Lr, hc]
theorem Xt : (none : Option Addr).isNone = true := rfl
theorem Xr {a : Addr} : (some a).isNone = false := rfl
theorem dy {s f : Nat} {v : Value} : B7 P s (.raw v) f = IC (Ai.fieldAddrV P s v f) := rfl
theorem fT {s f : Nat} {a : Value} {k : AQ} {ts : List T} (hp : Vo (UL (Ai.fld? P s f)) = true) (hl : decide (QC (Ai.fld? P s f) ≤ ts.length) = true) :
  B7 P s (.pr a k ts) f = some (.pr (dI (QC (Ai.fld? P s f)) a) (fi k (QC (Ai.fld? P s f))) (ts.drop (QC (Ai.fld? P s f)))) := by
 simp only [B7]
 cases hf : Ai.fld? P s f with
 | none => rw [hf] at hp; cases hp
 | some q =>
  obtain ⟨o, n, b⟩ := q
  rw [hf] at hp hl
  cases n with
  | zero => cases hp
  | succ n => simp only [QC] at hl ⊢; rw [if_pos (of_decide_eq_true hl)]
theorem cL {t : TypeId} {a i : Value} : Cg P t (.raw a) (.raw i) = IC (Ai.indexAddrV P t a i) := rfl
def el (es : List (List T)) (i : Nat) : List T := es.getD i []
theorem gE {t z : Nat} {f : AQ} {es : List (List T)} {k : IntKind} {i : Int} (h1 : (eltZ (Ai.elt? P t) == z) = true) (he : (Ai.elt? P t).isSome = true) (h2 : 0 ≤ i) (h3 : i.toNat < es.length) :
  Cg P t (.sl f z es) (.raw (.int k i)) = some (.pr (cy i.toNat z (f [])) (under f i.toNat) (el es i.toNat)) := by
 simp only [Cg]
 cases hq : Ai.elt? P t with
 | none => rw [hq] at he; cases he
 | some q =>
  obtain ⟨u, s, b⟩ := q
  rw [hq] at h1
  simp only [eltZ, beq_iff_eq] at h1
  simp only
  rw [if_pos ⟨h1, h2, h3⟩]; rfl
theorem GY {α : Type} [Inhabited α] {xs : List α} {F : α → List T} {i : Nat} (hi : i < xs.length) : el (xs.map F) i = F (xs.getD i default) := by
 unfold el
 rw [List.getD_eq_getElem?_getD, List.getD_eq_getElem?_getD, List.getElem?_map, List.getElem?_eq_getElem hi]; rfl
theorem gp {v : X} {l : List X} : EA (.tp (v :: l)) 0 = some v := rfl
theorem gy {v : X} {l : List X} {n : Nat} : EA (.tp (v :: l)) (n + 1) = EA (.tp l) n := by simp [EA]
theorem Z6 {t : TypeId} {s : ByteArray} (hc : Ai.cls? P t = some .str) : EM P h .len [t] [.raw (.string s)] .mk = some (.raw (.int .i64 s.size), h) := by simp only [EM, B2, hc]
theorem OX {t : TypeId} {a : Option Addr} {n c : Nat} (hc : Ai.cls? P t = some .sl) : EM P h .len [t] [.raw (.slice a n c)] .mk = some (.raw (.int .i64 n), h) := by simp only [EM, B2, hc]
theorem SR {t : TypeId} {f : AQ} {z : Nat} {es : List (List T)} (hc : Ai.cls? P t = some .sl) : EM P h .len [t] [.sl f z es] .mk = some (.raw (.int .i64 es.length), h) := by simp only [EM, B2, hc]
theorem Su {ts : List TypeId} {k : IntKind} {x y : Int} : EM P h .max ts [.raw (.int k x), .raw (.int k y)] .mk = some (.raw (.int k (mxI x y)), h) := by simp [EM, B2, Bs, G0]
theorem cC {ts : List TypeId} {k : IntKind} {x y : Int} : EM P h .min ts [.raw (.int k x), .raw (.int k y)] .mk = some (.raw (.int k (mnI x y)), h) := by simp [EM, B2, Bs, G0]
theorem ZU {ts : List TypeId} {k : IntKind} {x y z : Int} : EM P h .max ts [.raw (.int k x), .raw (.int k y), .raw (.int k z)] .mk = some (.raw (.int k (mxI (mxI x y) z)), h) := by simp [EM, B2, Bs, G0]
theorem dS {s d : TypeId} {k : IntKind} {n : Int} (hs : bg (Ai.cls? P s) = true) (hd : bg (Ai.cls? P d) = true) : Nl P h s d (.raw (.int k n)) .mk = some (.raw (.int (ZJ (Ai.cls? P d)) ((ZJ (Ai.cls? P d)).wrap n)), h) := by
 simp only [Nl, NI]
 cases hs' : Ai.cls? P s with
 | none => rw [hs'] at hs; simp [bg] at hs
 | some c =>
  cases c <;> (try (rw [hs'] at hs; simp [bg] at hs; done))
  cases hd' : Ai.cls? P d with
  | none => rw [hd'] at hd; simp [bg] at hd
  | some c' => cases c' <;> first | rfl | (rw [hd'] at hd; simp [bg] at hd; done)
theorem R3 : (([] : List X).all E8) = true := rfl
theorem QL {v : X} {l : List X} : ((v :: l).all E8) = (E8 v && l.all E8) := rfl
theorem ok_int {k : IntKind} {n : Int} : E8 (.raw (.int k n)) = true := rfl
theorem dq {b : ByteArray} : E8 (.raw (.string b)) = true := rfl
theorem cJ {a : Option Addr} {l c : Nat} : E8 (.raw (.slice a l c)) = true := rfl
theorem dp {a : Option Addr} : E8 (.raw (.pointer a)) = true := rfl
theorem fW {f : AQ} {z : Nat} {es : List (List T)} : E8 (.sl f z es) = true := rfl
def G5 (v : X) (l : Option (List X)) : Option (List X) := match l with | some l => some (v :: l) | none => none
theorem IY {v : X} {l : List X} : G5 v (some l) = some (v :: l) := rfl
theorem eG {cs : List X} : Jw cs 0 0 = some [] := by simp [Jw]
theorem cQ {c : X} {cs : List X} {n : Nat} : Jw (c :: cs) 0 (n + 1) = G5 c (Jw cs 0 n) := by
 simp only [Jw, G5, List.length_cons, Nat.zero_add, List.drop_zero, List.take_succ_cons]
 by_cases hn : n ≤ cs.length
 ·rw [if_pos (by omega), if_pos hn]
 ·rw [if_neg (by omega), if_neg hn]
theorem Zj {c : X} {cs : List X} {o n : Nat} : Jw (c :: cs) (o + 1) n = Jw cs o n := by
 simp only [Jw, List.length_cons, List.drop_succ_cons]
 by_cases hn : o + n ≤ cs.length
 ·rw [if_pos (by omega), if_pos hn]
 ·rw [if_neg (by omega), if_neg hn]
theorem GR {cs : List X} {n : Nat} (hn : cs.length = n) : Jw cs 0 n = some cs := by subst hn; simp [Jw]
theorem OY {cs : List X} : Cq cs 0 [] = some cs := by simp [Cq]
theorem ON {c v : X} {cs vs : List X} : Cq (c :: cs) 0 (v :: vs) = G5 v (Cq cs 0 vs) := by
 simp only [Cq, G5, List.length_cons, Nat.zero_add, List.take_zero, List.nil_append, List.drop_succ_cons, List.cons_append]
 by_cases hn : vs.length ≤ cs.length
 ·rw [if_pos (by omega), if_pos hn]
 ·rw [if_neg (by omega), if_neg hn]
theorem XK {c : X} {cs vs : List X} {o : Nat} : Cq (c :: cs) (o + 1) vs = G5 c (Cq cs o vs) := by
 simp only [Cq, G5, List.length_cons, List.take_succ_cons, List.cons_append]
 by_cases hn : o + vs.length ≤ cs.length
 ·rw [if_pos (by omega), if_pos hn, show o + 1 + vs.length = (o + vs.length) + 1 by omega, List.drop_succ_cons]
 ·rw [if_neg (by omega), if_neg hn]
theorem J7 {off n : Nat} {vs cs : List X} (hn : (vs.length == n) = true) : I7 (some (off, n)) (some vs) cs = Cq cs off vs := by
 simp only [I7]; rw [if_pos (by simpa using hn)]
theorem Za {z : Nat} {l : List T} : chunk z 0 l = [] := rfl
theorem bF {z n : Nat} {l : List T} : chunk z (n + 1) l = l.take z :: chunk z n (l.drop z) := rfl
def Fk (P : Program) (W0 : World) (l : List Oper) (p : PT) (e : E2) (h : H2) (Q : Q2) (_ : Ar (l, p, e, h, Q)) : Prop := JL P W0 l p e h Q
def rK (P : Program) (W0 : World) (l : List Oper) (pd : List Nat) (r : PT) (d : Option Tmp) (e : E2) (Q : Q2) : KT :=
 fun v h' => (∀ q ∈ pd, Lf P l q (e.putO d v) h') ∧ JL P W0 l r (e.putO d v) h' Q
def TC (P : Program) (W0 : World) (l : List Oper) (o : Option Oper) (pd : List Nat) (r : PT) (e : E2) (h : H2) (Q : Q2) (_ : Ar (l, pd, r, e, h, Q)) : Prop := match o with
 | none => False
 | some o => guarded (Dq l e o.guard) (DK P W0 e h o.op (rK P W0 l pd r o.dst e Q)) (JL P W0 l r (e.putO o.dst (.raw undef)) h Q)
theorem PL {l : List Oper} : Fk P W0 l .nil e h Q .mk = qz Q .normal e h .mk := rfl
theorem LV {l : List Oper} {i : Nat} {pd : List Nat} {r : PT} : Fk P W0 l (.op i pd r) e h Q .mk = TC P W0 l (aK l i .mk) pd r e h Q .mk := rfl
theorem Mn {l : List Oper} {pd : List Nat} {r : PT} {d : Option Tmp} {o : Op} {t : TypeId} {p : String} {a : Array Edge} :
  TC P W0 l (some ⟨d, o, t, p, a, none⟩) pd r e h Q .mk = xz P W0 o e h (rK P W0 l pd r d e Q) .mk := by
 show gate true (DK P W0 e h o (rK P W0 l pd r d e Q)) _ = DK P W0 e h o (rK P W0 l pd r d e Q)
 simp only [gate]; exact propext ⟨fun hh => hh.1 trivial, fun hh => ⟨fun _ => hh, fun hf => absurd hf (by simp)⟩⟩
theorem WX {l : List Oper} {pd : List Nat} {r : PT} {d : Option Tmp} {o : Op} {t : TypeId} {p : String} {a : Array Edge} {j : Nat} {b : Bool} :
    TC P W0 l (some ⟨d, o, t, p, a, some (j, b)⟩) pd r e h Q .mk = gd (Dq l e (some (j, b))) (xz P W0 o e h (rK P W0 l pd r d e Q) .mk) (Fk P W0 l r (e.putO d (.raw undef)) h Q .mk) .mk := rfl
def Ss (P : Program) (l : List Oper) (pd : List Nat) (e : E2) (h : H2) (_ : Ar (l, e, h)) : Prop := ∀ q ∈ pd, Lf P l q e h
theorem kq {l : List Oper} {pd : List Nat} {r : PT} {d : Option Tmp} {v : X} : kz (rK P W0 l pd r d e Q) v h .mk = (Ss P l pd (e.putO d v) h .mk ∧ Fk P W0 l r (e.putO d v) h Q .mk) := rfl
theorem kr {l : List Oper} {r : PT} {d : Option Tmp} {v : X} : kz (rK P W0 l [] r d e Q) v h .mk = Fk P W0 l r (e.putO d v) h Q .mk := by
 simp [kz, rK, Fk]
theorem gA {l : List Oper} {q : Nat} {pd : List Nat} {r : PT} {d : Option Tmp} {v : X} : kz (rK P W0 l (q :: pd) r d e Q) v h .mk = (Ss P l (q :: pd) (e.putO d v) h .mk ∧ Fk P W0 l r (e.putO d v) h Q .mk) := rfl
def WL : List (Nat × List Nat) → PT
 | [] => .nil
 | (i, pd) :: r => .op i pd (WL r)
theorem Zd {l : List Oper} : Fk P W0 l (WL []) e h Q .mk = qz Q .normal e h .mk := rfl
theorem Zh {l : List Oper} {i : Nat} {pd : List Nat} {r : List (Nat × List Nat)} : Fk P W0 l (WL ((i, pd) :: r)) e h Q .mk = TC P W0 l (aK l i .mk) pd (WL r) e h Q .mk := rfl
theorem Of {l : List Oper} {a b : PT} : Fk P W0 l (.alt a b) e h Q .mk = (Fk P W0 l a e h Q .mk ∧ Fk P W0 l b e h Q .mk) := rfl
theorem TO : ∀ (p : List (Nat × List Nat)), (WL p).lin = p.map (·.1)
 | [] => rfl
 | (i, pd) :: r => by simp only [WL, Ai.PT.lin, List.map_cons, TO r]
theorem TX {l : List Oper} : ∀ (p : List (Nat × List Nat)) (D : List Nat), Ai.descOk l D p = true → Ai.descT l [] D (p.map (·.1)) = true
 | [], D, h => rfl
 | (k, pd) :: r, D, h => by
  simp only [Ai.descOk, Bool.and_eq_true] at h
  simp only [List.map_cons, Ai.descT, Bool.and_eq_true, Bool.or_eq_true]
  exact ⟨.inr h.1, TX r _ h.2⟩
theorem Xx {l : List Oper} : ∀ (p : List (Nat × List Nat)) (pre : List Nat), Ai.chk P l pre p = true → (∀ i, i < l.length → i ∈ pre ∨ i ∈ p.map (·.1)) → Ai.chkT P l pre [] (WL p) = true
 | [], pre, h, hf => by
  simp only [WL, Ai.chkT]
  rw [List.all_eq_true]
  intro i hi
  rcases hf i (by simpa using hi) with h | h
  ·simpa using h
  ·cases h
 | (i, pd) :: r, pre, h, hf => by
  simp only [Ai.chk, Bool.and_eq_true] at h
  obtain ⟨h1, h2, h3, h4, h5⟩ := h
  have h6 := Xx r (i :: pre) h5 fun k hk => by
   rcases hf k hk with h | h
   ·exact .inl (by simp [h])
   ·rcases List.mem_cons.1 h with rfl | h
    ·exact .inl (by simp)
    ·exact .inr h
  simp only [WL, Ai.chkT, Bool.and_eq_true]
  refine ⟨h1, h2, h3, ?_, h6⟩
  cases he : Ai.effO P l i with
  | false => rfl
  | true =>
   rw [he] at h4
   simp only [Bool.not_true, Bool.false_or, Bool.and_eq_true] at h4 ⊢
   exact ⟨by rw [TO]; exact TX r [i] h4.1, h4.2⟩
theorem UJ {l : List Oper} {p : List (Nat × List Nat)} (h : Im P l p = true) : HF P l (WL p) = true := by
 simp only [Im, Bool.and_eq_true] at h
 obtain ⟨h1, h2, h3⟩ := h
 simp only [HF, Bool.and_eq_true]
 exact ⟨h1, Xx p [] h3 fun i hi => .inr (by have := List.all_eq_true.1 h2 i (by simpa using hi); simpa using this)⟩
theorem QZ {l : List Oper} (p : PT) (hp : HF P l p = true) (hr : Fk P W0 l p e h Q .mk) : bf P W0 l e h Q .mk := ⟨p, hp, hr⟩
theorem AO {l : List Oper} (p : List (Nat × List Nat)) (hp : Im P l p = true) (hr : Fk P W0 l (WL p) e h Q .mk) : bf P W0 l e h Q .mk := ⟨WL p, UJ hp, hr⟩
def XF (P : Program) (o : Option Oper) (l : List Oper) (e : E2) (h : H2) (_ : Ar (l, e, h)) : Prop := match o with
 | none => True
 | some o => match Dq l e o.guard with
  | some true => (match o.dst with | some d => CD P o.op = true ∧ Ki P e h o.op = some (e d, h) | none => False)
  | some false => True
  | none => False
theorem all_nil {l : List Oper} : Ss P l [] e h .mk = True := by simp [Ss]
theorem all_cons {l : List Oper} {q : Nat} {pd : List Nat} : Ss P l (q :: pd) e h .mk = (XF P (aK l q .mk) l e h .mk ∧ Ss P l pd e h .mk) := by
 simp only [Ss, List.forall_mem_cons]; rfl
def XS (g : Option Bool) (A : Prop) (_ : Ar A) : Prop := match g with | some true => A | some false => True | none => False
theorem Yx {A : Prop} : XS (some true) A .mk = A := rfl
theorem Vh {l : List Oper} {d t : Nat} {ty : TypeId} {x : Operand} {p : String} {a : Array Edge} {q : Option (Nat × Bool)} : XF P (some ⟨some d, .load t x, ty, p, a, q⟩) l e h .mk = XS (Dq l e q) (FM P h t (C1 e x .mk) .mk = some (look e d .mk)) .mk := by
 simp only [XF, Ki, FM, C1, look, CD, XS]
 cases Dq l e q with
 | none => rfl
 | some b => cases b with
  | false => rfl
  | true => simp only [true_and]; cases G3 P h t (e.op x) <;> simp
theorem Sg {l : List Oper} : Dq l e none = some true := rfl
theorem EI {b : Bool} {A B : Prop} (ha : b = true → A) (hb : b = false → B) : gz b A B .mk := ⟨ha, hb⟩
theorem AN {p : Prop} [Decidable p] {A B : Prop} (ha : p → A) (hb : ¬ p → B) : gz (decide p) A B .mk := ⟨fun h => ha (of_decide_eq_true h), fun h => hb (of_decide_eq_false h)⟩
theorem DY {b : Code} (I : Nat → E2 → H2 → Prop) (n : Nat) (h0 : I n e h) (hr : ∀ n e h, I n e h → cz P W0 D b e h (IW I n Q) .mk) : lz P W0 D b e h Q .mk := ⟨I, n, h0, hr⟩
theorem AA {f : FuncId} {a : List X} {K0 : KT} (c : BC P W0 f a h K0) (hk : ∀ v h', K0 v h' → kz K v h' .mk) : wz P W0 f a h K .mk := c.mono hk
theorem start (cp : List (List Nat)) {f : FuncId} {fn : Func} {c : Code} (hm : P.follows .mixedOrders = true) (hf : P.funcs[f]? = some fn) (hb : fn.body = some c)
    (hname : (fn.name != "runtime.NumGoroutine") = true) (hok : Bd fn.ntmps (fun _ => true) c = true) {rs : List ResultVar} (hrs : fn.results.toList = rs) {args : List X} {nt : Nat} (hnt : fn.ntmps = nt) (hlen : args.length ≤ nt)
    (hv : (∀ b, hn h .mk ≤ b → hg h b .mk = none) → cz P W0 (Rl cp) c (HY args) h (Px P rs K) .mk) : BC P W0 f args h K := Qi (cp := Rl cp) hm hf hb hname hok (by rw [hnt]; exact hlen) (by rw [hrs]; exact hv)
attribute [go_sem] gZ gV and_self decide_true decide_false Bool.not_true Bool.not_false ne_eq not_false_eq_true Nat.zero_add Nat.add_zero Nat.mul_one
attribute [go_sem] bu cX YF FB Hb KI Uk XW Xd Sk Mg of_int of_bool eH fj de ai J6 IS Ap A7 FH Tg AB AG Bh AF Rn YJ Q7 Yk N6 CV Sl LG KC Wh X5 OA LM OF Lg eF eE R4 SW O3 Sv RO RN Lj Lv MY PR O6 Oe cq SY SP IT SX ZY iK gf iJ iL Z9 Wl aD dd eC SS RY cd Rk OO eT Yc WN Xv H4 H3 PQ Wf X6 SM Oa LL Lh PA Ml UK R1 LF Sm RC R6 Q6 ZF dO YG Q4 ZE gI Yo YV cZ bo UU UA al QX HK Vi dU KB IU Vf UR J0 ao Xc List.map_cons List.map_nil Ru Wc Wb J8 gi cM bx Xa RZ cA LI bJ ZL Yt Y2 XH fF fY WR Zx Uu Jf T9 Va WQ XT aq ZC cE eO Xt Xr dy fT cL gE gp gy Z6 OX SR Su cC ZU dS R3 QL ok_int dq cJ dp fW IY eG cQ Zj OY ON XK J7 Za bF PL LV Zd Zh Mn WX gA all_nil all_cons Yx Vh Sg List.take_succ_cons List.take_zero List.drop_succ_cons List.drop_zero
end Go.Bi
namespace Go.Bi
open Go.Ai (Ar Heap)
variable {P : Program} {W0 : World} {D : Nat → Option (List Nat)} {e : E2} {g h : H2} {Q : Q2} {K : KT}
def H2.le (g g' : H2) : Prop := hn g .mk ≤ hn g' .mk ∧ ∀ b, b < hn g .mk → hg g' b .mk = hg g b .mk
theorem H2.le.refl (g : H2) : g.le g := ⟨Nat.le_refl _, fun _ _ => rfl⟩
theorem H2.le.trans {a b c : H2} (x : a.le b) (y : b.le c) : a.le c := ⟨Nat.le_trans x.1 y.1, fun q hq => (y.2 q (Nat.lt_of_lt_of_le hq x.1)).trans (x.2 q hq)⟩
theorem H2.le.n {g g' : H2} (x : g.le g') : hn g .mk ≤ hn g' .mk := x.1
theorem le_push {g g' : H2} {k : OB} (l : g.le g') : g.le (g'.push k) :=
 ⟨by rw [AB]; have := l.1; omega, fun b hb => by
  rw [Ap]
  have : (b == hn g' .mk) = false := by have := l.1; simp; omega
  rw [this]; exact l.2 b hb⟩
theorem AK {g g' : H2} {n : Nat} (l : g.le g') (hn' : hn g' .mk ≤ n) : g.le (g'.up n) := ⟨Nat.le_trans l.1 hn', fun b hb => l.2 b hb⟩
theorem HE {g g' : H2} (l : g.le g') : g.le (g'.up (hn g' .mk + 1)) := AK l (Nat.le_succ _)
theorem CF {g g' : H2} {b : Nat} {k : OB} (l : g.le g') (hb : hn g .mk ≤ b) : g.le (g'.set b k) :=
 ⟨l.1, fun c hc => by
  rw [A7]
  have : (c == b) = false := by simp; omega
  rw [this]; exact l.2 c hc⟩
theorem I1 {g g' : H2} {b : Nat} (l : g.le g') (hb : hn g .mk ≤ b) : g.le (g'.kill b) :=
 ⟨l.1, fun c hc => by
  rw [FH]
  have : (c == b) = false := by simp; omega
  rw [this]; exact l.2 c hc⟩
def AP : X → Option Nat
 | .raw (.slice (some a) _ _) => some a.block
 | _ => none
def Own (N : Nat) (g : H2) (v : X) (z n : Nat) (cs : List X) : Prop :=
 cs.length = n * z ∧ ((v = .raw (.slice none 0 0) ∧ n = 0) ∨ ∃ b, v = .raw (.slice (some ⟨b, 0, none⟩) n n) ∧ N ≤ b ∧ b < hn g .mk ∧ hg g b .mk = some ⟨z, cs⟩)
theorem Own.keep {N : Nat} {g g' : H2} {v : X} {z n : Nat} {cs : List X} (o : Own N g v z n cs) (l : g.le g') : Own N g' v z n cs := by
 obtain ⟨h1, h3⟩ := o
 refine ⟨h1, h3.imp_right ?_⟩
 rintro ⟨b, e1, e2, e3, e4⟩
 exact ⟨b, e1, e2, Nat.lt_of_lt_of_le e3 l.n, by rw [l.2 b e3]; exact e4⟩
theorem Own.nil {N : Nat} {g : H2} {z : Nat} : Own N g (.raw (.slice none 0 0)) z 0 [] := ⟨by simp, .inl ⟨rfl, rfl⟩⟩
theorem Own.new {N z n : Nat} {cs : List X} (hN : N ≤ hn g .mk) (hl : cs.length = n * z) : Own N (g.push ⟨z, cs⟩) (.raw (.slice (some ⟨hn g .mk, 0, none⟩) n n)) z n cs :=
 ⟨hl, .inr ⟨_, rfl, hN, by rw [AB]; omega, by rw [Ap, show (hn g .mk == hn g .mk) = true by simp]; rfl⟩⟩
theorem Y0 {N z n : Nat} {v : X} {cs : List X} (o : Own N g v z n cs) : Eo g z v = some (n, cs) := by
 obtain ⟨h1, h2⟩ := o
 rcases h2 with ⟨rfl, rfl⟩ | ⟨b, rfl, h3, h4, h5⟩
 ·have : cs = [] := List.eq_nil_of_length_eq_zero (by omega)
  subst this; rfl
 ·have h5 : g.get b = some ⟨z, cs⟩ := h5
  simp only [Eo, h5, GR h1, Option.map_some]
theorem DH {t u U z y N n m : Nat} {zs : List Value} {cs news : List X} {x v : X} (he : Ai.elt? P t = some (U, z + 1, y)) (hz : Ai.zr? P U = some zs) (hl : zs.length = z + 1) (hu : Ai.cls? P u = some .sl)
    (hx : Own N g x (z + 1) n cs) (hN0 : N ≤ hn g .mk) (hs : Eo g (z + 1) v = some (m, news)) (hlen : news.length = m * (z + 1)) (hok : news.all E8 = true) (hn0 : (n + m) * (y + 1) ≤ Ai.most)
    (hk : ∀ v' g', Own N g' v' (z + 1) (n + m) (cs ++ news) → hn g .mk ≤ hn g' .mk → (∀ g0 : H2, hn g0 .mk ≤ N → g0.le g → g0.le g') → (∀ b, b < hn g .mk → AP x ≠ some b → hg g' b .mk = hg g b .mk) → kz K v' g' .mk) :
    az (EM P g .append [t, u] [x, v] .mk) K .mk := by
  obtain ⟨hlen0, hcase⟩ := hx
  have key : ∀ a, x = .raw (.slice a n n) → EM P g .append [t, u] [x, v] .mk = (if m = 0 then some (.raw (.slice a n n), g) else
        match a with
        | none => some (.raw (.slice (some ⟨g.n, 0, none⟩) m m), g.push ⟨z + 1, news⟩)
        | some a => match g.get a.block with
          | some k => if k.z = z + 1 ∧ a.off = 0 then (Jw k.cs 0 (n * (z + 1))).map fun olds => (.raw (.slice (some ⟨g.n, 0, none⟩) (n + m) (n + m)), (g.kill a.block).push ⟨z + 1, olds ++ news⟩) else none
          | none => none) := by
    intro a ha
    subst ha
    simp only [EM, B2, hu, GS, he, hs, hz]
    rw [if_pos ⟨hl, hn0, hok⟩]
    rfl
  have hmv : ∀ b : Nat, (b == b) = true := by simp
  rcases hcase with ⟨rfl, rfl⟩ | ⟨b, rfl, hNb, hbn, hb⟩
  · have hcs : cs = [] := List.eq_nil_of_length_eq_zero (by omega)
    subst hcs
    rw [key none rfl]
    by_cases hm : m = 0
    · subst hm
      have hnews : news = [] := List.eq_nil_of_length_eq_zero (by omega)
      subst hnews
      rw [if_pos rfl]
      exact hk _ _ ⟨by simp, .inl ⟨rfl, rfl⟩⟩ (Nat.le_refl _) (fun g0 _ l => l) fun _ _ _ => rfl
    · rw [if_neg hm]
      refine hk _ _ ⟨by simpa using hlen, .inr ⟨g.n, ?_, hN0, ?_, ?_⟩⟩ ?_ ?_ ?_
      · simp
      · rw [AB]; exact Nat.lt_succ_self _
      · rw [Ap]; show Go.Bi.hk (g.n == g.n) _ _ _ _ = _; rw [hmv]; rfl
      · rw [AB]; omega
      · intro g0 _ l0; exact le_push l0
      · intro b' hb' _
        rw [Ap, show (b' == hn g .mk) = false by simp; omega]; rfl
  · have hb' : g.get b = some ⟨z + 1, cs⟩ := hb
    rw [key _ rfl]
    by_cases hm : m = 0
    · subst hm
      have hnews : news = [] := List.eq_nil_of_length_eq_zero (by omega)
      subst hnews
      rw [if_pos rfl]
      exact hk _ _ ⟨by simpa using hlen0, .inr ⟨b, rfl, hNb, hbn, by simpa using hb⟩⟩ (Nat.le_refl _) (fun g0 _ l => l) fun _ _ _ => rfl
    · rw [if_neg hm]
      simp only [hb']
      rw [if_pos ⟨trivial, trivial⟩, GR hlen0]
      have hne : (b == hn g .mk) = false := by simp; omega
      refine hk _ _ ⟨by simp [hlen0, hlen, Nat.add_mul], .inr ⟨g.n, rfl, ?_, ?_, ?_⟩⟩ ?_ ?_ ?_
      · unfold hn at hbn; omega
      · rw [AB, Bh]; exact Nat.lt_succ_self _
      · rw [Ap, Bh]; show Go.Bi.hk (g.n == g.n) _ _ _ _ = _; rw [hmv]; rfl
      · rw [AB, Bh]; omega
      · intro g0 hN l0; exact le_push (I1 l0 (by omega))
      · intro b' hb2 hne'
        have hbb : (b' == b) = false := by
          have : ¬ b' = b := fun e => hne' (by rw [e]; rfl)
          simp [this]
        rw [Ap, Bh, show (b' == hn g .mk) = false by simp; omega, FB, FH, hbb]; rfl
inductive H9 (p : Nat → Prop) : AQ → T → Prop
 | v {f : AQ} {x : Value} : H9 p f (.v x)
 | l {f : AQ} {z : Nat} {es : List (List T)} : (∀ a n c, f [] = .slice (some a) n c → p a.block) → (∀ i j t, ((es[i]?).bind (·[j]?)) = some t → H9 p (below f i j) t) → H9 p f (.l z es)
inductive Bu (p : Nat → Prop) : X → Prop
 | raw {x : Value} : Bu p (.raw x)
 | sl {f : AQ} {z : Nat} {es : List (List T)} : H9 p f (.l z es) → Bu p (.sl f z es)
 | pr {a : Value} {f : AQ} {ts : List T} : (∀ q, a = .pointer (some q) → p q.block) → (∀ j t, ts[j]? = some t → H9 p (under f j) t) → Bu p (.pr a f ts)
 | st {xs : List X} : (∀ x ∈ xs, Bu p x) → Bu p (.st xs)
 | tp {xs : List X} : (∀ x ∈ xs, Bu p x) → Bu p (.tp xs)
theorem H9.imp {p q : Nat → Prop} (hpq : ∀ b, p b → q b) {f : AQ} {t : T} (a : H9 p f t) : H9 q f t := by
 induction a with
 | v => exact .v
 | l h1 _ ih => exact .l (fun a n c e => hpq _ (h1 a n c e)) ih
theorem Bu.imp {p q : Nat → Prop} (hpq : ∀ b, p b → q b) {x : X} (a : Bu p x) : Bu q x := by
 induction a with
 | raw => exact .raw
 | sl h1 => exact .sl (h1.imp hpq)
 | pr h1 h2 => exact .pr (fun q e => hpq _ (h1 q e)) fun j t ht => (h2 j t ht).imp hpq
 | st _ ih => exact .st ih
 | tp _ ih => exact .tp ih
theorem H9.true {f : AQ} {t : T} {h : Heap} {g : H2} (r : Ja h g f t) : H9 (fun _ => True) f t := by
 induction r with
 | v => exact .v
 | o h1 => exact .l (fun _ _ _ _ => trivial) (by simp)
 | l a c h1 h2 h3 h4 ih => exact .l (fun _ _ _ _ => trivial) ih
theorem Ja.weaken {h : Heap} {g g' : H2} {f : AQ} {t : T} {p : Nat → Prop} (r : Ja h g f t) (a : H9 p f t) (hw : ∀ b, p b → g.get b = none → g'.get b = none) : Ja h g' f t := by
 induction r with
 | v h1 => exact .v h1
 | o h1 => exact .o h1
 | l q c h1 h2 h3 h4 ih =>
  cases a with
  | l a1 a2 =>
   refine .l q c h1 h2 (h3.imp_right ?_) fun i j t ht => ih i j t ht (a2 i j t ht)
   rintro ⟨b, off, w, k, cs, rfl, e2, e3, e4⟩
   exact ⟨b, off, w, k, cs, rfl, e2, hw b (a1 _ _ _ h1) e3, e4⟩
theorem Ok.weaken {h : Heap} {g g' : H2} {x : X} {p : Nat → Prop} (r : Ok h g x) (a : Bu p x) (hw : ∀ b, p b → g.get b = none → g'.get b = none) : Ok h g' x := by
 induction r with
 | raw => exact .raw
 | sl h1 => cases a with | sl a1 => exact .sl (h1.weaken a1 hw)
 | pr h1 h2 h3 h0 h4 h5 => cases a with | pr a1 a2 => exact .pr h1 (hw _ (a1 _ rfl) h2) h3 h0 h4 fun j t ht => (h5 j t ht).weaken (a2 j t ht) hw
 | st _ ih => cases a with | st a1 => exact .st fun x hx => ih x hx (a1 x hx)
 | tp _ ih => cases a with | tp a1 => exact .tp fun x hx => ih x hx (a1 x hx)
theorem Ok.all {h : Heap} {g : H2} {x : X} (r : Ok h g x) : Bu (fun _ => True) x := by
 induction r with
 | raw => exact .raw
 | sl h1 => exact .sl (H9.true h1)
 | pr h1 h2 h3 h0 h4 h5 => exact .pr (fun _ _ => trivial) fun j t ht => H9.true (h5 j t ht)
 | st _ ih => exact .st ih
 | tp _ ih => exact .tp ih
inductive Fz (p q : Nat → Prop) (g : H2) : X → X → Prop
  | raw {v : Value} : Fz p q g (.raw v) (.raw v)
  | nil {z : Nat} : Fz p q g (.raw (.slice none 0 0)) (.sl (fun _ => .slice none 0 0) z [])
  | own {b n z : Nat} {cs cs' : List X} {ts : List T} : g.get b = some ⟨z, cs⟩ → p b → cs.length = n * z → cs'.length = cs.length → (∀ i (hi : i < cs.length) (hi' : i < cs'.length), Fz p q g cs[i] cs'[i]) → CN cs' = some ts →
      Fz p q g (.raw (.slice (some ⟨b, 0, none⟩) n n)) (.sl (FW b n z cs') z (chunk z n ts))
  | sl {f : AQ} {z : Nat} {es : List (List T)} : Bu q (.sl f z es) → Fz p q g (.sl f z es) (.sl f z es)
  | st {xs ys : List X} : ys.length = xs.length → (∀ i (hi : i < xs.length) (hi' : i < ys.length), Fz p q g xs[i] ys[i]) → Fz p q g (.st xs) (.st ys)
  | tp {xs ys : List X} : ys.length = xs.length → (∀ i (hi : i < xs.length) (hi' : i < ys.length), Fz p q g xs[i] ys[i]) → Fz p q g (.tp xs) (.tp ys)
theorem Q1 {xs ys : List X} (hl : ys.length = xs.length) (h : ∀ i (hi : i < xs.length) (hi' : i < ys.length), er xs[i] = er ys[i]) : ys.map er = xs.map er := by
 apply List.ext_getElem (by simp [hl])
 intro i h1 h2
 simp at h1 h2
 simp [h i h2 h1]
theorem Fz.er {p q : Nat → Prop} {g : H2} {x y : X} (z : Fz p q g x y) : Bi.er y = Bi.er x := by
 induction z with
 | raw => rfl
 | nil => rfl
 | own => rfl
 | sl => rfl
 | st hl _ ih => simp only [Bi.er, Cz]; rw [Q1 hl fun i hi hi' => (ih i hi hi').symm]
 | tp hl _ ih => simp only [Bi.er, Cz]; rw [Q1 hl fun i hi hi' => (ih i hi hi').symm]
theorem dN {g1 : H2} {h : Heap} {b n z : Nat} {cs cs' : List X} {ts : List T} (hb : b < h.n) (hg1 : g1.get b = none) (hh : h.get b = some ⟨true, z, cs.map er⟩) (hl : cs.length = n * z) (hl' : cs'.length = cs.length)
  (he : cs'.map er = cs.map er) (o : ∀ x ∈ cs', Ok h g1 x) (ht : CN cs' = some ts) : Ok h g1 (.sl (FW b n z cs') z (chunk z n ts)) := by
 obtain ⟨t1, t2⟩ := GM ht
 refine .sl (.l (some ⟨b, 0, none⟩) n (by simp only [FW, GN]) (Jy (by rw [t1, hl', hl])) (.inr ⟨b, 0, true, z, cs.map er, rfl, hb, hg1, hh, fun _ => rfl, Nat.zero_le _, fun i j hi hj => ?_⟩) fun i j t ht => ?_)
 ·rw [GN] at hi
  have hlt : i * z + j < cs'.length := by
   have : i * z + z ≤ n * z := by rw [← Nat.succ_mul]; exact Nat.mul_le_mul_right z hi
   omega
  rw [Nat.zero_add, ← he, List.getElem?_map, List.getElem?_eq_getElem hlt]
  simp only [Option.map_some, FW, List.getD_eq_getElem?_getD, List.getElem?_eq_getElem hlt, Option.getD_some]
  cases cs'[i * z + j] <;> rfl
 ·obtain ⟨c1, c2⟩ := Hy ht
  obtain ⟨x, x1, x2⟩ := t2 _ _ c2
  refine Nh (o x (List.mem_of_getElem? x1)) x2 fun p => ?_
  simp only [below, FW, List.getD_eq_getElem?_getD, x1, Option.getD_some]
theorem Fz.ok {p q : Nat → Prop} {g g1 : H2} {h : Heap} (s : S g h) (hw : ∀ b, q b → g.get b = none → g1.get b = none) (hp : ∀ b, p b → g1.get b = none) {x y : X} (fz : Fz p q g x y) : Ok h g x → Ok h g1 y := by
 induction fz with
 | raw => intro _; exact .raw
 | nil => intro _; exact .sl (.l none 0 rfl (by simp) (.inl ⟨rfl, rfl⟩) (by simp))
 | own h1 h2 h3 h4 h5 h6 ih =>
  intro _
  rename_i b n z cs cs' ts
  obtain ⟨s1, s2, s3⟩ := s.row _ _ h1
  refine dN s1 (hp _ h2) s2 h3 h4 (Q1 h4 fun i hi hi' => ((h5 i hi hi').er).symm) (fun x hx => ?_) h6
  obtain ⟨i, hi, rfl⟩ := List.getElem_of_mem hx
  exact ih i (by omega) hi (s3 _ (List.getElem_mem _))
 | sl a => intro o; exact o.weaken a hw
 | st hl _ ih =>
  intro o
  cases o with
  | st o =>
   refine .st fun x hx => ?_
   obtain ⟨i, hi, rfl⟩ := List.getElem_of_mem hx
   exact ih i (by omega) hi (o _ (List.getElem_mem _))
 | tp hl _ ih =>
  intro o
  cases o with
  | tp o =>
   refine .tp fun x hx => ?_
   obtain ⟨i, hi, rfl⟩ := List.getElem_of_mem hx
   exact ih i (by omega) hi (o _ (List.getElem_mem _))
theorem ah {r : Nat → Prop} {x : X} {t : T} (a : Bu r x) (ht : Jz x = some t) : H9 r (fun p => QN p x) t := by
 cases a with
 | raw => simp only [Jz] at ht; split at ht <;> cases ht; exact .v
 | sl a => simp only [Jz, Option.some.injEq] at ht; subst ht; exact a
 | _ => simp [Jz] at ht
theorem Fz.all {p q r : Nat → Prop} {g : H2} (hpr : ∀ b, p b → r b) (hqr : ∀ b, q b → r b) {x y : X} (fz : Fz p q g x y) : Bu r y := by
 induction fz with
 | raw => exact .raw
 | nil => exact .sl (.l (by simp) (by simp))
 | own h1 h2 h3 h4 h5 h6 ih =>
  rename_i b n z cs cs' ts
  obtain ⟨t1, t2⟩ := GM h6
  refine .sl (.l (fun a n c e => ?_) fun i j t ht => ?_)
  ·simp only [FW] at e; cases e; exact hpr _ h2
  ·obtain ⟨c1, c2⟩ := Hy ht
   obtain ⟨x, x1, x2⟩ := t2 _ _ c2
   obtain ⟨hi, hx⟩ := List.getElem?_eq_some_iff.1 x1
   have hh := ih (i * z + j) (by omega) hi
   rw [hx] at hh
   have e1 : Bi.below (FW b n z cs') i j = fun p => QN p x := by
    funext p; simp only [Bi.below, FW, List.getD_eq_getElem?_getD, x1, Option.getD_some]
   rw [e1]
   exact ah hh x2
 | sl a => exact a.imp hqr
 | st hl _ ih =>
  refine .st fun x hx => ?_
  obtain ⟨i, hi, rfl⟩ := List.getElem_of_mem hx
  exact ih i (by omega) hi
 | tp hl _ ih =>
  refine .tp fun x hx => ?_
  obtain ⟨i, hi, rfl⟩ := List.getElem_of_mem hx
  exact ih i (by omega) hi
end Go.Bi
namespace Go.Bi
open Go.Ai (Ar Heap WC)
variable {P : Program} {W0 : World} {g : H2} {K : KT}
theorem S.wf {h : Heap} (s : S g h) : ∀ b, hn g .mk ≤ b → g.get b = none := fun b hb => by
 cases hk : g.get b with
 | none => rfl
 | some k => have := (s.row _ _ hk).1; have h2 := s.n; unfold hn at hb; omega
def PW (P : Program) (W0 : World) (f : FuncId) (xs : List X) (g : H2) (Q : X → Prop) : Prop :=
 BC P W0 f xs g fun y g' => g' = g.up (hn g' .mk) ∧ hn g .mk ≤ hn g' .mk ∧ Q y
theorem PW.mono {f : FuncId} {xs : List X} {Q Q' : X → Prop} (c : PW P W0 f xs g Q) (hq : ∀ y, Q y → Q' y) : PW P W0 f xs g Q' := BC.mono c fun y g' ⟨h1, h2, h3⟩ => ⟨h1, h2, hq y h3⟩
theorem PW.of {q : Nat → Prop} {f : FuncId} {xs : List X} {Q : X → Prop} (c : BC P W0 f xs g fun x g' => g.le g' ∧ ∃ y, Fz (fun b => hn g .mk ≤ b) q g' x y ∧ Q y) :
  PW P W0 f xs g fun y => Q y ∧ Bu (fun b => hn g .mk ≤ b ∨ q b) y := by
 intro h s o
 refine (c h s o).mono ?_
 rintro v h' ⟨x, g', rfl, s', x', o', le, y, fz, hq⟩
 have hx : Ext g h (g.up (hn g' .mk)) h' := ⟨x'.n, x'.keep, fun _ _ h => h⟩
 refine ⟨y, g.up (hn g' .mk), fz.er.symm, ⟨s'.n, fun b k hk => ?_⟩, hx, ?_, rfl, le.1, hq, fz.all (fun _ h => .inl h) (fun _ h => .inr h)⟩
 ·obtain ⟨r1, r2, r3⟩ := s.row b k hk
  have hb : b < hn g .mk := by unfold hn; rw [s.n]; exact r1
  have hk' : g'.get b = some k := (le.2 b hb).trans hk
  obtain ⟨q1, q2, q3⟩ := s'.row b k hk'
  exact ⟨q1, q2, fun x hx2 => (r3 x hx2).mono hx⟩
 ·refine fz.ok (g1 := g.up (hn g' .mk)) s' (fun b _ hb => ?_) (fun b hb => s.wf b hb) o'
  by_cases hlt : b < hn g .mk
  ·exact (le.2 b hlt).symm.trans hb
  ·exact s.wf b (by omega)
theorem PW.scalar {f : FuncId} {xs : List X} {Q : X → Prop} (c : BC P W0 f xs g fun x g' => g.le g' ∧ (∃ v, x = .raw v) ∧ Q x) : PW P W0 f xs g Q :=
 (PW.of (q := fun _ => True) (Q := Q) (c.mono fun x g' ⟨h1, ⟨v, h2⟩, h3⟩ => ⟨h1, x, by subst h2; exact .raw, h3⟩)).mono fun y h => h.1
theorem AD {f : FuncId} {xs : List X} {Q : X → Prop} (c : PW P W0 f xs g Q) (hk : ∀ y n, hn g .mk ≤ n → Q y → kz K y (g.up n) .mk) : wz P W0 f xs g K .mk :=
 BC.mono c fun y g' ⟨h1, h2, h3⟩ => by have := hk y _ h2 h3; rw [← h1] at this; exact this
def H2.bare (g : H2) : H2 := ⟨g.n, fun _ => none⟩
abbrev Ye (g : H2) : X → X → Prop := Fz (fun _ => True) (fun _ => True) g
inductive GC (g : H2) : List X → List X → Prop
 | nil : GC g [] []
 | cons {x y : X} {xs ys : List X} : Ye g x y → GC g xs ys → GC g (x :: xs) (y :: ys)
theorem GC.er : ∀ {xs ys : List X}, GC g xs ys → ys.map Bi.er = xs.map Bi.er
 | _, _, .nil => rfl
 | _, _, .cons a b => by simp only [List.map_cons, Fz.er a, b.er]
theorem S.bare {h : Heap} (s : S g h) : S g.bare h := ⟨s.n, fun b k hk => by cases hk⟩
theorem GC.ok {h : Heap} (s : S g h) : ∀ {xs ys : List X}, GC g xs ys → (∀ x ∈ xs, Ok h g x) → ∀ y ∈ ys, Ok h g.bare y
 | _, _, .nil, _, y, hy => by cases hy
 | _, _, .cons a b, o, y, hy => by
  rcases List.mem_cons.1 hy with rfl | hy
  ·exact a.ok s (fun _ _ _ => rfl) (fun _ _ => rfl) (o _ (by simp))
  ·exact b.ok s (fun x hx => o x (by simp [hx])) y hy
theorem S.back {h h' : Heap} {n : Nat} (s : S g h) (x : Ext g.bare h (g.bare.up n) h') (hn' : n = h'.n) : S (g.up n) h' ∧ Ext g h (g.up n) h' := by
 have hx : Ext g h (g.up n) h' := ⟨x.n, fun b hb _ => x.keep b hb rfl, fun _ _ h => h⟩
 refine ⟨⟨hn', fun b k hk => ?_⟩, hx⟩
 obtain ⟨r1, r2, r3⟩ := s.row b k hk
 exact ⟨Nat.lt_of_lt_of_le r1 x.n, by rw [x.keep b r1 rfl]; exact r2, fun y hy => (r3 y hy).mono hx⟩
theorem PW.lend {f : FuncId} {xs ys : List X} {Q : X → Prop} (hl : GC g xs ys) (c : PW P W0 f ys g.bare Q) (hq : ∀ y, Q y → Bu (fun b => hn g .mk ≤ b) y) : PW P W0 f xs g Q := by
 intro h s o
 rw [← hl.er]
 refine (c h s.bare (hl.ok s o)).mono ?_
 rintro v h' ⟨y, g', rfl, s', x', o', h1, h2, h3⟩
 obtain ⟨n', rfl⟩ : ∃ n, g' = g.bare.up n := ⟨_, h1⟩
 obtain ⟨b1, b2⟩ := s.back x' s'.n
 exact ⟨y, g.up n', rfl, b1, b2, o'.weaken (hq y h3) fun b hb _ => s.wf b hb, rfl, h2, h3⟩
def gh (P : Program) (W0 : World) (f : FuncId) (xs : List X) (g : H2) (z : Nat) (cs : List X) : Prop :=
 BC P W0 f xs g fun x g' => g.le g' ∧ ∃ n, Own (hn g .mk) g' x z n cs
theorem BC.lendOwn {f : FuncId} {xs ys : List X} {z : Nat} {cs : List X} (hl : GC g xs ys) (c : gh P W0 f ys g.bare z cs) (hcs : ∀ x ∈ cs, ∃ v, x = .raw v) : gh P W0 f xs g z cs := by
 intro h s o
 rw [← hl.er]
 refine (c h s.bare (hl.ok s o)).mono ?_
 rintro v h' ⟨y, g', rfl, s', x', o', le, n, ow⟩
 have hx : Ext g.bare h (g.bare.up h'.n) h' := ⟨x'.n, x'.keep, fun _ _ h => h⟩
 obtain ⟨b1, b2⟩ := s.back hx rfl
 obtain ⟨hlen, hcase⟩ := ow
 rcases hcase with ⟨rfl, rfl⟩ | ⟨b, rfl, hb1, hb2, hb3⟩
 ·refine ⟨_, g.up h'.n, rfl, b1, b2, .raw, ⟨?_, fun _ _ => rfl⟩, 0, hlen, .inl ⟨rfl, rfl⟩⟩
  have := x'.n; have := s.n; simp only [AF]; unfold hn; omega
 ·obtain ⟨r1, r2, r3⟩ := s'.row b _ hb3
  have hn1 : hn g .mk = h.n := s.n
  have hb1' : h.n ≤ b := by have : hn g.bare .mk = hn g .mk := rfl; omega
  let g2 : H2 := (g.up h'.n).set b ⟨z, cs⟩
  have hx2 : Ext g h g2 h' := ⟨x'.n, fun c hc _ => x'.keep c hc rfl, fun c hc hg => by
   have : ¬ c = b := by omega
   simp [g2, H2.set, H2.up, this, hg]⟩
  refine ⟨_, g2, rfl, ⟨rfl, fun c k hk => ?_⟩, hx2, .raw, ⟨?_, fun c hc => ?_⟩, n, hlen, .inr ⟨b, rfl, hb1, r1, ?_⟩⟩
  ·simp only [g2, H2.set] at hk
   split at hk
   ·rename_i e; subst e; cases hk
    exact ⟨r1, r2, fun x hx => by obtain ⟨v, rfl⟩ := hcs x hx; exact .raw⟩
   ·obtain ⟨q1, q2, q3⟩ := s.row c k hk
    exact ⟨Nat.lt_of_lt_of_le q1 x'.n, by rw [x'.keep c q1 rfl]; exact q2, fun y hy => (q3 y hy).mono hx2⟩
  ·have := x'.n; show hn g .mk ≤ h'.n; omega
  ·show g2.get c = g.get c
   have : ¬ c = b := by omega
   simp [g2, H2.set, H2.up, this]
  ·show g2.get b = _
   simp [g2, H2.set]
theorem Own.fz {p q : Nat → Prop} {N z n : Nat} {x : X} {cs : List X} {ts : List T} (o : Own N g x z n cs) (hp : ∀ b, N ≤ b → p b) (hc : ∀ c ∈ cs, Fz p q g c c) (ht : CN cs = some ts) : ∃ f, Fz p q g x (.sl f z (chunk z n ts)) := by
 obtain ⟨hlen, hcase⟩ := o
 rcases hcase with ⟨rfl, rfl⟩ | ⟨b, rfl, hb1, hb2, hb3⟩
 ·exact ⟨_, .nil⟩
 ·exact ⟨_, .own (cs' := cs) hb3 (hp b hb1) hlen rfl (fun i hi hi' => hc _ (List.getElem_mem hi)) ht⟩
def eI (n : Int) : List T := [.v (.int .i64 n)]
theorem dF {n : Int} : eI n = [.v (.int .i64 n)] := rfl
def cI (n : Int) : X := .raw (.int .i64 n)
def ints (zs : List Int) : List (List T) := zs.map eI
theorem GL {zs : List Int} : (ints zs).length = zs.length := by simp [ints]
theorem aP {zs : List Int} {i : Nat} (hi : i < zs.length) : el (ints zs) i = eI (zs.getD i default) := GY hi
theorem KG : ∀ {zs : List Int}, CN (zs.map cI) = some (zs.map fun n => .v (.int .i64 n))
 | [] => rfl
 | z :: zs => by simp only [List.map_cons, H4, cI, PQ, KG, H3]
theorem Ia : ∀ {zs : List Int}, chunk 1 zs.length (zs.map fun n => T.v (.int .i64 n)) = ints zs
 | [] => rfl
 | z :: zs => by simp only [List.length_cons, List.map_cons, chunk, List.take_succ_cons, List.take_zero, List.drop_succ_cons, List.drop_zero, Ia, ints, eI]
def Al (N : Nat) (g : H2) (v : X) (zs : List Int) : Prop := Own N g v 1 zs.length (zs.map cI)
theorem Al.keep {N : Nat} {g g' : H2} {v : X} {zs : List Int} (o : Al N g v zs) (l : g.le g') : Al N g' v zs := Own.keep o l
theorem Al.fz {p q : Nat → Prop} {N : Nat} {x : X} {zs : List Int} (o : Al N g x zs) (hp : ∀ b, N ≤ b → p b) : ∃ f, Fz p q g x (.sl f 1 (ints zs)) := by
 have := Own.fz (p := p) (q := q) o hp (fun c hc => by obtain ⟨z, _, rfl⟩ := List.mem_map.1 hc; exact .raw) KG
 rwa [Ia] at this
theorem Al.lent {N : Nat} {x : X} {zs : List Int} (o : Al N g x zs) : ∃ f, Ye g x (.sl f 1 (ints zs)) := o.fz fun _ _ => trivial
theorem HI {v : Value} : Ye g (.raw v) (.raw v) := Fz.raw
abbrev PI (P : Program) (W0 : World) (f : FuncId) (xs : List X) (g : H2) (zs : List Int) : Prop := BC P W0 f xs g fun x g' => g.le g' ∧ Al (hn g .mk) g' x zs
theorem PI.pw {f : FuncId} {xs : List X} {zs : List Int} (c : PI P W0 f xs g zs) : PW P W0 f xs g fun y => (∃ f, y = .sl f 1 (ints zs)) ∧ Bu (fun b => hn g .mk ≤ b) y := by
 refine (PW.of (q := fun b => hn g .mk ≤ b) (Q := fun y => ∃ f, y = .sl f 1 (ints zs)) (c.mono ?_)).mono fun y ⟨h1, h2⟩ => ⟨h1, h2.imp fun b hb => hb.elim id id⟩
 rintro x g' ⟨le, ow⟩
 obtain ⟨f, hf⟩ := ow.fz (p := fun b => hn g .mk ≤ b) (q := fun b => hn g .mk ≤ b) fun _ h => h
 exact ⟨le, _, hf, f, rfl⟩
theorem PI.lend {f : FuncId} {xs ys : List X} {zs : List Int} (hl : GC g xs ys) (c : PI P W0 f ys g.bare zs) : PI P W0 f xs g zs := by
 have c' : gh P W0 f ys g.bare 1 (zs.map cI) := c.mono fun x g' ⟨h1, h2⟩ => ⟨h1, _, h2⟩
 refine (BC.lendOwn hl c' fun x hx => by obtain ⟨z, _, rfl⟩ := List.mem_map.1 hx; exact ⟨_, rfl⟩).mono ?_
 rintro x g' ⟨h1, n, h2⟩
 have : n = zs.length := by have := h2.1; simp at this; omega
 subst this
 exact ⟨h1, h2⟩
attribute [go_sem] dF GL aP
end Go.Bi
namespace Go.Bi
open Go.Ai (Ar Heap WC Bw)
variable {P : Program} {W0 : World} {D : Nat → Option (List Nat)} {e : E2} {g : H2} {Q : Q2} {K : KT}
def C7 (ks : List Nat) (e e' : E2) : Prop := ∀ t ∈ ks, look e' t .mk = look e t .mk
theorem Wi {e e' : E2} : C7 [] e e' = True := by simp [C7]
theorem UB {e e' : E2} {t : Nat} {ks : List Nat} : C7 (t :: ks) e e' = (look e' t .mk = look e t .mk ∧ C7 ks e e') := by simp [C7]
theorem AJ {b : Code} (ks : List Nat) (I : Nat → E2 → H2 → Prop) (n : Nat) (h0 : I n e g) (hr : ∀ n e' g, C7 ks e e' → I n e' g → cz P W0 D b e' g (IW (fun m e'' g => C7 ks e e'' ∧ I m e'' g) n Q) .mk) : lz P W0 D b e g Q .mk :=
 DY (fun m e'' g => C7 ks e e'' ∧ I m e'' g) n ⟨fun _ _ => rfl, h0⟩ fun n e' g ⟨h1, h2⟩ => hr n e' g h1 h2
theorem AI {ks : List Nat} {I : Nat → E2 → H2 → Prop} {n : Nat} {e0 : E2} (m : Nat) (hm : m < n) (hs : C7 ks e0 e) (hi : I m e g) : gN (fun m e'' g => C7 ks e0 e'' ∧ I m e'' g) n e g .mk := ⟨m, hm, hs, hi⟩
def Yq (f : AQ) : T → X
 | .v x => .raw x
 | .l z es => .sl f z es
def Mv (F : Nat → AQ) : Nat → List T → List X
 | _, [] => []
 | j, t :: r => Yq (F j) t :: Mv F (j + 1) r
theorem ZQ {f : AQ} : ∀ {ts : List T} {j : Nat}, Gx f j ts = Mv (under f) j ts
 | [], _ => rfl
 | t :: ts, j => by simp only [Gx, Mv, ZQ]; cases t <;> rfl
theorem Od {F : Nat → AQ} : ∀ {ts : List T} {j : Nat}, (Mv F j ts).length = ts.length
 | [], _ => rfl
 | t :: ts, j => by simp [Mv, Od]
mutual
/-- A cell of one's own, with all rows below it (the blocks are told), and what it holds. -/
inductive OT (g : H2) : List Nat → X → T → Prop
  | raw {v : Value} : Bw v = true → OT g [] (.raw v) (.v v)
  | nil {z : Nat} : OT g [] (.raw (.slice none 0 0)) (.l z [])
  | row {b n z : Nat} {bs : List Nat} {cs : List X} {es : List (List T)} : g.get b = some ⟨z, cs⟩ → cs.length = n * z → es.length = n → (∀ e ∈ es, e.length = z) → Ak g bs cs es.flatten →
      OT g (b :: bs) (.raw (.slice (some ⟨b, 0, none⟩) n n)) (.l z es)
inductive Ak (g : H2) : List Nat → List X → List T → Prop
  | nil : Ak g [] [] []
  | cons {bs bs' : List Nat} {x : X} {t : T} {xs : List X} {ts : List T} : OT g bs x t → Ak g bs' xs ts → Ak g (bs ++ bs') (x :: xs) (t :: ts)
end
mutual
theorem OT.frame {g g' : H2} : ∀ {bs : List Nat} {x : X} {t : T}, OT g bs x t → (∀ b ∈ bs, g'.get b = g.get b) → OT g' bs x t
 | _, _, _, .raw h, _ => .raw h
 | _, _, _, .nil, _ => .nil
 | _, _, _, .row h1 h2 h3 h4 h5, hb => .row (by rw [hb _ (by simp)]; exact h1) h2 h3 h4 (h5.frame fun b h => hb b (by simp [h]))
theorem Ak.frame {g g' : H2} : ∀ {bs : List Nat} {xs : List X} {ts : List T}, Ak g bs xs ts → (∀ b ∈ bs, g'.get b = g.get b) → Ak g' bs xs ts
 | _, _, _, .nil, _ => .nil
 | _, _, _, .cons h1 h2, hb => .cons (h1.frame fun b h => hb b (by simp [h])) (h2.frame fun b h => hb b (by simp [h]))
end
theorem Ak.len {g : H2} : ∀ {bs : List Nat} {xs : List X} {ts : List T}, Ak g bs xs ts → xs.length = ts.length
 | _, _, _, .nil => rfl
 | _, _, _, .cons _ h => by simp [h.len]
theorem MM {z : Nat} : ∀ {es : List (List T)}, (∀ e ∈ es, e.length = z) → chunk z es.length es.flatten = es
 | [], _ => rfl
 | e :: es, h => by
  have h1 : e.length = z := h e (by simp)
  simp only [List.length_cons, List.flatten_cons, chunk]
  rw [← h1, List.take_left, List.drop_left, h1, MM fun x hx => h x (by simp [hx])]
theorem Qa {F : Nat → AQ} : ∀ {ts : List T} {j : Nat}, (∀ t ∈ ts, ∀ v, t = .v v → Bw v = true) → CN (Mv F j ts) = some ts
 | [], _, _ => rfl
 | t :: ts, j, h => by
  have h1 := Qa (F := F) (j := j + 1) fun t ht => h t (List.mem_cons_of_mem _ ht)
  cases t with
  | v x => simp only [Mv, Yq, CN, h1, Jz, if_pos (h _ List.mem_cons_self x rfl)]
  | l z es => simp only [Mv, Yq, CN, h1, Jz]
mutual
theorem OT.plain {g : H2} : ∀ {bs : List Nat} {x : X} {t : T}, OT g bs x t → ∀ v, t = .v v → Bw v = true
 | _, _, _, .raw h, v, e => by cases e; exact h
 | _, _, _, .nil, v, e => by cases e
 | _, _, _, .row .., v, e => by cases e
theorem Ak.plain {g : H2} : ∀ {bs : List Nat} {xs : List X} {ts : List T}, Ak g bs xs ts → ∀ t ∈ ts, ∀ v, t = .v v → Bw v = true
 | _, _, _, .nil, t, ht, _, _ => by cases ht
 | _, _, _, .cons h1 h2, t, ht, v, e => by
  rcases List.mem_cons.1 ht with rfl | ht
  ·exact h1.plain v e
  ·exact h2.plain t ht v e
end
mutual
theorem OT.fz {p q : Nat → Prop} {g : H2} : ∀ {bs : List Nat} {x : X} {t : T}, OT g bs x t → (∀ b ∈ bs, p b) → ∃ f, Fz p q g x (Yq f t)
 | _, _, _, .raw h, _ => ⟨fun _ => undef, .raw⟩
 | _, _, _, .nil, _ => ⟨_, .nil⟩
 | _, _, _, .row (b := b) (n := n) (z := z) (cs := cs) (es := es) h1 h2 h3 h4 h5, hb => by
  obtain ⟨F, hF⟩ := h5.fz (p := p) (q := q) (j := 0) fun b h => hb b (by simp [h])
  have hl : (Mv F 0 es.flatten).length = cs.length := by rw [Od, h5.len]
  have := Fz.own (p := p) (q := q) h1 (hb _ (by simp)) h2 hl (fun i hi hi' => hF i hi hi') (Qa h5.plain)
  rw [← h3, MM h4] at this
  rw [h3] at this
  exact ⟨_, this⟩
theorem Ak.fz {p q : Nat → Prop} {g : H2} : ∀ {bs : List Nat} {xs : List X} {ts : List T} {j : Nat}, Ak g bs xs ts → (∀ b ∈ bs, p b) → ∃ F : Nat → AQ, ∀ i (hi : i < xs.length) (hi' : i < (Mv F j ts).length), Fz p q g xs[i] (Mv F j ts)[i]
 | _, _, _, _, .nil, _ => ⟨fun _ _ => undef, fun i hi => by simp at hi⟩
 | _, _, _, j, .cons (t := t) (ts := ts) h1 h2, hb => by
  obtain ⟨f, hf⟩ := h1.fz (p := p) (q := q) fun b h => hb b (by simp [h])
  obtain ⟨F, hF⟩ := h2.fz (p := p) (q := q) (j := j + 1) fun b h => hb b (by simp [h])
  have hc : ∀ (ts : List T) (k : Nat), j < k → Mv (fun i => if i = j then f else F i) k ts = Mv F k ts := by
   intro ts
   induction ts with
   | nil => intro k _; rfl
   | cons t ts ih => intro k hk; simp only [Mv]; rw [if_neg (by omega), ih (k + 1) (by omega)]
  have e1 : Mv (fun i => if i = j then f else F i) j (t :: ts) = Yq f t :: Mv F (j + 1) ts := by simp only [Mv, if_true, hc ts (j + 1) (by omega)]
  refine ⟨fun i => if i = j then f else F i, fun i hi hi' => ?_⟩
  simp only [e1]
  cases i with
  | zero => exact hf
  | succ i => simp only [List.getElem_cons_succ]; exact hF i (by simpa using hi) (by simpa [e1] using hi')
end
theorem OT.lent {bs : List Nat} {x : X} {t : T} (o : OT g bs x t) : ∃ f, Ye g x (Yq f t) := o.fz fun _ _ => trivial
theorem Ak.lent {bs : List Nat} {xs : List X} {ts : List T} (o : Ak g bs xs ts) : ∃ F : Nat → AQ, Ye g (.st xs) (.st (Mv F 0 ts)) := by
 obtain ⟨F, hF⟩ := o.fz (p := fun _ => True) (q := fun _ => True) (j := 0) fun _ _ => trivial
 exact ⟨F, .st (by rw [Od, o.len]) fun i hi hi' => hF i hi hi'⟩
def Bl (N M : Nat) (bs : List Nat) : Prop := bs.Nodup ∧ ∀ b ∈ bs, N ≤ b ∧ b < M
theorem Bl.nil {N M : Nat} : Bl N M [] := ⟨.nil, by simp⟩
theorem Bl.wide {N M N' M' : Nat} {bs : List Nat} (b : Bl N M bs) (hN : N' ≤ N) (hM : M ≤ M') : Bl N' M' bs := ⟨b.1, fun x hx => ⟨Nat.le_trans hN (b.2 x hx).1, Nat.lt_of_lt_of_le (b.2 x hx).2 hM⟩⟩
theorem Bl.append {N M M' : Nat} {bs bs' : List Nat} (b : Bl N M bs) (b' : Bl M M' bs') (hN : N ≤ M) (hM : M ≤ M') : Bl N M' (bs ++ bs') :=
 ⟨List.nodup_append.2 ⟨b.1, b'.1, fun x hx y hy e => by have := (b.2 x hx).2; have := (b'.2 y hy).1; omega⟩, fun x hx => by
  rcases List.mem_append.1 hx with hx | hx
  ·have := b.2 x hx; omega
  ·have := b'.2 x hx; omega⟩
theorem Bl.one {b M : Nat} (h : b < M) : Bl b M [b] := ⟨by simp, by simp [h]⟩
theorem OT.keep {g g' : H2} {bs : List Nat} {x : X} {t : T} (o : OT g bs x t) (l : g.le g') {N : Nat} (hb : Bl N (hn g .mk) bs) : OT g' bs x t := o.frame fun b h => l.2 b (hb.2 b h).2
theorem Ak.keep {g g' : H2} {bs : List Nat} {xs : List X} {ts : List T} (o : Ak g bs xs ts) (l : g.le g') {N : Nat} (hb : Bl N (hn g .mk) bs) : Ak g' bs xs ts := o.frame fun b h => l.2 b (hb.2 b h).2
def Wy (P : Program) (W0 : World) (f : FuncId) (xs : List X) (g : H2) (t : T) : Prop := BC P W0 f xs g fun x g' => g.le g' ∧ ∃ bs, OT g' bs x t ∧ Bl (hn g .mk) (hn g' .mk) bs
def WB (P : Program) (W0 : World) (f : FuncId) (xs : List X) (g : H2) (ts : List T) : Prop := BC P W0 f xs g fun x g' => g.le g' ∧ ∃ ys bs, x = .st ys ∧ Ak g' bs ys ts ∧ Bl (hn g .mk) (hn g' .mk) bs
theorem Ak.raws {g : H2} : ∀ {vs : List Value}, (∀ v ∈ vs, Bw v = true) → Ak g [] (vs.map .raw) (vs.map .v)
 | [], _ => .nil
 | v :: vs, h => by
  have := Ak.cons (OT.raw (g := g) (h v List.mem_cons_self)) (Ak.raws (g := g) fun v hv => h v (List.mem_cons_of_mem _ hv))
  simpa using this
theorem OT.flat {g : H2} {N b : Nat} {vs : List Value} (hb : hg g b .mk = some ⟨1, vs.map .raw⟩) (hp : ∀ v ∈ vs, Bw v = true) : OT g [b] (.raw (.slice (some ⟨b, 0, none⟩) vs.length vs.length)) (.l 1 (vs.map fun v => [.v v])) := by
 have hf : (vs.map fun v => [T.v v]).flatten = vs.map .v := by
  clear hb hp
  induction vs with
  | nil => rfl
  | cons v vs ih => simp [ih]
 refine .row hb (by simp) (by simp) (by simp) ?_
 rw [hf]
 exact Ak.raws hp
theorem Wq {zs : List Int} : ints zs = (zs.map (Value.int .i64)).map fun v => [T.v v] := by simp [ints, eI, Function.comp_def]
theorem Al.tree {N : Nat} {x : X} {zs : List Int} (o : Al N g x zs) : ∃ bs, OT g bs x (.l 1 (ints zs)) ∧ Bl N (hn g .mk) bs := by
 obtain ⟨hl, hc⟩ := o
 rcases hc with ⟨rfl, h0⟩ | ⟨b, rfl, h1, h2, h3⟩
 ·have : zs = [] := List.eq_nil_of_length_eq_zero h0
  subst this
  exact ⟨[], .nil, .nil⟩
 ·have e : zs.map cI = (zs.map (Value.int .i64)).map .raw := by simp [cI, Function.comp_def]
  rw [e] at h3
  have := OT.flat (N := N) h3 (fun v hv => by obtain ⟨z, _, rfl⟩ := List.mem_map.1 hv; rfl)
  rw [← Wq, List.length_map] at this
  exact ⟨[b], this, (Bl.one h2).wide h1 (Nat.le_refl _)⟩
theorem OT.own {bs : List Nat} {x : X} {zs : List Int} (o : OT g bs x (.l 1 (ints zs))) {N : Nat} (hb : Bl N (hn g .mk) bs) : Al N g x zs := by
 generalize ht : T.l 1 (ints zs) = t at o
 cases o with
 | raw => cases ht
 | nil =>
  simp only [T.l.injEq] at ht
  have : zs = [] := by cases zs <;> simp_all [ints]
  subst this
  exact .nil
 | row h1 h2 h3 h4 h5 =>
  simp only [T.l.injEq] at ht
  obtain ⟨rfl, rfl⟩ := ht
  rename_i b n bs' cs
  simp at h2
  have hn' : zs.length = n := by rw [← h3]; simp [ints]
  subst hn'
  refine ⟨by simp, .inr ⟨b, rfl, (hb.2 b (by simp)).1, (hb.2 b (by simp)).2, ?_⟩⟩
  have hcs : cs = zs.map cI := by
   clear h1 h2 h3 h4 hb
   induction zs generalizing cs bs' with
   | nil => simp [ints] at h5; cases h5; rfl
   | cons z zs ih =>
    simp only [ints, eI, List.map_cons, List.flatten_cons, List.cons_append, List.nil_append] at h5
    cases h5 with
    | cons a b =>
     cases a
     rw [List.map_cons, ih b]; rfl
  rw [← hcs]; exact h1
attribute [go_sem] Wi UB
end Go.Bi
namespace Go.Bi
open Go.Ai (Ar guarded gate)
variable {P : Program} {W0 : World} {D : Nat → Option (List Nat)} {e : E2} {g : H2} {Q : Q2} {K : KT}
theorem JI {o : Option Bool} {A B A' B' : Prop} (h : guarded o A B) (ha : A → A') (hb : B → B') : guarded o A' B' := by
 unfold guarded at *
 cases o with
 | none => exact h
 | some b => exact ⟨fun hb' => ha (h.1 hb'), fun hb' => hb (h.2 hb')⟩
theorem QJ {o : Op} {K K' : X → H2 → Prop} (h : DK P W0 e g o K) (hk : ∀ v g, K v g → K' v g) : DK P W0 e g o K' := by
 unfold DK at *
 split at h
 ·exact BC.mono h hk
 ·unfold Fv at *
  split at h
  ·exact hk _ _ h
  ·cases h
theorem MA {ops : List Oper} {Q Q' : Q2} (hQ : ∀ x e g, Q x e g → Q' x e g) : ∀ (l : List Oper) (e : E2) (g : H2), M3 P W0 ops l e g Q → M3 P W0 ops l e g Q'
 | [], e, g, h => hQ _ _ _ h
 | o :: l, e, g, h => JI h (fun h => QJ h fun v g h => MA hQ l _ g h) (fun h => MA hQ l _ g h)
theorem GG {ops : List Oper} {Q Q' : Q2} (hQ : ∀ x e g, Q x e g → Q' x e g) : ∀ (l : Ai.PT) (e : E2) (g : H2), JL P W0 ops l e g Q → JL P W0 ops l e g Q'
 | .nil, e, g, h => hQ _ _ _ h
 | .alt a b, e, g, h => ⟨GG hQ a _ _ h.1, GG hQ b _ _ h.2⟩
 | .op i pd l, e, g, h => by
  simp only [JL] at h ⊢
  split at h
  ·cases h
  ·exact JI h (fun h => QJ h fun v g h => ⟨h.1, GG hQ l _ g h.2⟩) (fun h => GG hQ l _ g h)
theorem EF : ∀ (c : Code) {Q Q' : Q2}, (∀ x e g, Q x e g → Q' x e g) → ∀ (e : E2) (g : H2), FD P W0 D c e g Q → FD P W0 D c e g Q'
  | .skip, _, _, hQ, e, g, h => hQ _ _ _ h
  | .region id ops false, _, _, hQ, e, g, h => MA hQ _ _ _ h
  | .region id ops true, _, _, hQ, e, g, ⟨p, h1, h2⟩ => ⟨p, h1, GG hQ _ _ _ h2⟩
  | .seq a b, _, _, hQ, e, g, h => EF a (fun x e g hx => by
      cases x with
      | normal => exact EF b hQ e g hx
      | ret => exact hQ _ _ _ hx
      | exit j => exact hQ _ _ _ hx) e g h
  | .cond c t f, _, _, hQ, e, g, h => by
    simp only [FD, Tj] at h ⊢
    split at h
    · exact ⟨fun hb => EF t hQ e g (h.1 hb), fun hb => EF f hQ e g (h.2 hb)⟩
    · cases h
  | .block id b, _, _, hQ, e, g, h => EF b (fun x e g hx => by
      cases x with
      | normal => exact hQ _ _ _ hx
      | ret => exact hQ _ _ _ hx
      | exit j =>
        simp only [FJ] at hx ⊢
        split at hx
        · rename_i hj; rw [if_pos hj]; exact hQ _ _ _ hx
        · rename_i hj; rw [if_neg hj]; exact hQ _ _ _ hx) e g h
  | .loop b, _, _, hQ, e, g, ⟨I, n, h1, h2⟩ => ⟨I, n, h1, fun n e g hI => EF b (fun x e g hx => by
      cases x with
      | normal => exact hx
      | ret => exact hQ _ _ _ hx
      | exit j => exact hQ _ _ _ hx) e g (h2 n e g hI)⟩
  | .exit id, _, _, hQ, e, g, h => hQ _ _ _ h
  | .ret, _, _, hQ, e, g, h => hQ _ _ _ h
  | .rangeFunc .., _, _, _, _, _, h => h
  | .scope .., _, _, _, _, _, h => h
  | .label .., _, _, _, _, _, h => h
  | .goto .., _, _, _, _, _, h => h
  | .refuse .., _, _, _, _, _, h => h
def Tk (J : E2 → H2 → Prop) (j : Nat) (Q : Q2) : Q2
 | .normal, e, g => Q .normal e g
 | .ret, e, g => Q .ret e g
 | .exit i, e, g => (i = j ∧ J e g) ∨ Q (.exit i) e g
theorem Zo {J : E2 → H2 → Prop} {j : Nat} : qz (Tk J j Q) .ret e g .mk = qz Q .ret e g .mk := rfl
theorem Vt {J : E2 → H2 → Prop} {j : Nat} (h : J e g) : qz (Tk J j Q) (.exit j) e g .mk := .inl ⟨rfl, h⟩
theorem Hj {b : Code} (j : Nat) (ks : List Nat) (I : Nat → E2 → H2 → Prop) (J : E2 → H2 → Prop) (n : Nat) (h0 : I n e g)
  (hr : ∀ n e' g, C7 ks e e' → I n e' g → cz P W0 D b e' g (IW (fun m e'' g => C7 ks e e'' ∧ I m e'' g) n (Tk (fun e'' g => C7 ks e e'' ∧ J e'' g) j Q)) .mk)
  (hj : ∀ e' g, C7 ks e e' → J e' g → qz Q (.exit j) e' g .mk) : lz P W0 D b e g Q .mk := by
 refine DY (fun m e'' g => C7 ks e e'' ∧ I m e'' g) n ⟨fun _ _ => rfl, h0⟩ fun n e' g ⟨h1, h2⟩ => ?_
 refine EF b (fun x e' g hx => ?_) e' g (hr n e' g h1 h2)
 cases x with
 | normal => exact hx
 | ret => exact hx
 | exit i =>
  rcases hx with ⟨rfl, h3, h4⟩ | hx
  ·exact hj e' g h3 h4
  ·exact hx
theorem Er {ks : List Nat} {J : E2 → H2 → Prop} {e0 : E2} {j : Nat} (hs : C7 ks e0 e) (hi : J e g) : qz (Tk (fun e'' g => C7 ks e0 e'' ∧ J e'' g) j Q) (.exit j) e g .mk := Vt ⟨hs, hi⟩
attribute [go_sem] Zo
def eW (J : E2 → H2 → Prop) (Q : Q2) : Q2
 | .normal, e, g => J e g
 | .ret, e, g => Q .ret e g
 | .exit i, e, g => Q (.exit i) e g
def jz (J : E2 → H2 → Prop) (e : E2) (g : H2) (_ : Ar (J, e, g)) : Prop := J e g
theorem dY {J : E2 → H2 → Prop} : qz (eW J Q) .normal e g .mk = jz J e g .mk := rfl
theorem N1 {c : Code} (ks : List Nat) (J : E2 → H2 → Prop) (h : cz P W0 D c e g (eW (fun e'' g => C7 ks e e'' ∧ J e'' g) Q) .mk)
  (hj : ∀ e' g, C7 ks e e' → J e' g → qz Q .normal e' g .mk) : cz P W0 D c e g Q .mk := by
 refine EF c (fun x e' g hx => ?_) e g h
 cases x with
 | normal => exact hj e' g hx.1 hx.2
 | ret => exact hx
 | exit i => exact hx
theorem Db {ks : List Nat} {J : E2 → H2 → Prop} {e0 : E2} (hs : C7 ks e0 e) (hi : J e g) : jz (fun e'' g => C7 ks e0 e'' ∧ J e'' g) e g .mk := ⟨hs, hi⟩
attribute [go_sem] dY
end Go.Bi
namespace Go.Bi
open Go.Ai (Ar Heap WC Kc Ren CS)
variable {P : Program} {W0 : World} {g : H2} {K : KT}
def O0 (h : Heap) (b n : Nat) : Heap := ⟨h.n, fun c => if c = b then (h.get c).map fun k => ⟨k.w, k.sz, k.cs.take n⟩ else h.get c⟩
def H2.cut (g : H2) (b n : Nat) : H2 := ⟨g.n, fun c => if c = b then (g.get c).map fun k => ⟨k.z, k.cs.take n⟩ else g.get c⟩
theorem Fj {h : Heap} {b n c : Nat} {k : Kc} (hk : (O0 h b n).get c = some k) : ∃ k', h.get c = some k' ∧ k.w = k'.w ∧ k.sz = k'.sz ∧ ∃ m, k.cs = k'.cs.take m := by
 simp only [O0] at hk
 split at hk
 ·cases hg : h.get c with
  | none => rw [hg] at hk; cases hk
  | some k' => rw [hg] at hk; simp only [Option.map_some, Option.some.injEq] at hk; subst hk; exact ⟨k', rfl, rfl, rfl, n, rfl⟩
 ·exact ⟨k, hk, rfl, rfl, k.cs.length, by simp⟩
theorem CS.cut {ι : Ren} {h : Heap} {w : World} {b n : Nat} (s : CS P W0 ι h w) : CS P W0 ι (O0 h b n) w := by
 refine ⟨s.base, s.size, s.dom, s.own, fun c k hk => ?_, fun c k hk hw => ?_, fun c k hk hw => ?_, s.nle, fun c c' d k k' hk hw hk' h1 h2 => ?_, fun c k d hk hd => ?_, s.env⟩
 ·obtain ⟨k', h1, _⟩ := Fj hk; exact s.live _ _ h1
 ·obtain ⟨k', h1, h2, _⟩ := Fj hk; exact s.wr _ _ h1 (h2 ▸ hw)
 ·obtain ⟨k', h1, h2, _⟩ := Fj hk; exact s.ro _ _ h1 (h2 ▸ hw)
 ·obtain ⟨k1, g1, g2, _⟩ := Fj hk
  obtain ⟨k2, f1, _⟩ := Fj hk'
  exact s.inj _ _ _ _ _ g1 (g2 ▸ hw) f1 h1 h2
 ·obtain ⟨k', h1, h2, h3, m, h4⟩ := Fj hk
  obtain ⟨cs', ty, fr, e1, e2, e3, e4⟩ := s.cell _ _ _ h1 hd
  refine ⟨cs', ty, fr, e1, by rw [h4, List.length_take]; omega, fun j x hx => ?_, fun hw => ?_⟩
  ·rw [h4, List.getElem?_take] at hx
   split at hx
   ·exact e3 j x hx
   ·cases hx
  ·rw [h3]; exact e4 (h2 ▸ hw)
theorem WC.cut {f : FuncId} {args : List Value} {h : Heap} {Q Q' : Value → Heap → Prop} (c : WC P W0 f args h Q) (hq : ∀ v h', Q v h' → Q' v h' ∨ ∃ b n, Q' v (O0 h' b n)) : WC P W0 f args h Q' :=
 ⟨c.1, fun ι w args' s ha => (c.2 ι w args' s ha).mono fun e w' ⟨v, v', h', ι', h1, h2, h3, h4, h5⟩ => by
  rcases hq _ _ h5 with h6 | ⟨b, n, h6⟩
  ·exact ⟨v, v', _, ι', h1, h2, h3, h4, h6⟩
  ·exact ⟨v, v', _, ι', h1, h2, CS.cut h3, h4, h6⟩⟩
theorem Hz {h : Heap} {b n c : Nat} (hc : c ≠ b) : (O0 h b n).get c = h.get c := by simp only [O0]; rw [if_neg hc]
theorem Ja.cut {h : Heap} {b n : Nat} {k : OB} (hb : g.get b = some k) {f : AQ} {t : T} (r : Ja h g f t) : Ja (O0 h b n) (g.cut b n) f t := by
 induction r with
 | v h1 => exact .v h1
 | o h1 => exact .o h1
 | l a c h1 h2 h3 h4 ih =>
  refine .l a c h1 h2 (h3.imp_right ?_) ih
  rintro ⟨b', off, w, k', cs, e1, e2, e3, e4, e5⟩
  have hne : b' ≠ b := fun e => by subst e; rw [e3] at hb; cases hb
  exact ⟨b', off, w, k', cs, e1, e2, by simp only [H2.cut]; rw [if_neg hne]; exact e3, by rw [Hz hne]; exact e4, e5⟩
theorem Ok.cut {h : Heap} {b n : Nat} {k : OB} (hb : g.get b = some k) {y : X} (r : Ok h g y) : Ok (O0 h b n) (g.cut b n) y := by
 induction r with
 | raw => exact .raw
 | sl h1 => exact .sl (h1.cut hb)
 | pr h1 h2 h3 h0 h4 h5 =>
  rename_i b' _ _ _ _ _ _
  have hne : b' ≠ b := fun e => by subst e; rw [h2] at hb; cases hb
  exact .pr h1 (by simp only [H2.cut]; rw [if_neg hne]; exact h2) (by rw [Hz hne]; exact h3) h0 h4 fun j t ht => (h5 j t ht).cut hb
 | st _ ih => exact .st ih
 | tp _ ih => exact .tp ih
theorem BC.cut {f : FuncId} {xs : List X} {K K' : X → H2 → Prop} (c : BC P W0 f xs g K) (hk : ∀ x g', K x g' → K' x g' ∨ ∃ b n k, hg g' b .mk = some k ∧ K' x (g'.cut b n)) : BC P W0 f xs g K' := by
 intro h s o
 refine WC.cut (c h s o) ?_
 rintro v h' ⟨x, g', rfl, s', x', o', hK⟩
 rcases hk x g' hK with hK' | ⟨b, n, k, hb, hK'⟩
 ·exact .inl ⟨x, g', rfl, s', x', o', hK'⟩
 replace hb : g'.get b = some k := hb
 refine .inr ⟨b, n, x, g'.cut b n, rfl, ⟨s'.n, fun c k1 hc => ?_⟩, ⟨x'.n, fun c hc hg => ?_, fun c hc hg => ?_⟩, o'.cut hb, hK'⟩
 ·simp only [H2.cut] at hc
  by_cases hcb : c = b
  ·subst hcb
   rw [if_pos rfl, hb] at hc
   simp only [Option.map_some, Option.some.injEq] at hc
   subst hc
   obtain ⟨r1, r2, r3⟩ := s'.row _ _ hb
   refine ⟨r1, ?_, fun y hy => (r3 y (List.mem_of_mem_take hy)).cut hb⟩
   simp only [O0, if_true, r2]; simp [List.map_take]
  ·rw [if_neg hcb] at hc
   obtain ⟨r1, r2, r3⟩ := s'.row _ _ hc
   exact ⟨r1, by rw [Hz hcb]; exact r2, fun y hy => (r3 y hy).cut hb⟩
 ·have hne : c ≠ b := fun e => by subst e; rw [x'.non c hc hg] at hb; cases hb
  rw [Hz hne]; exact x'.keep c hc hg
 ·have hne : c ≠ b := fun e => by subst e; rw [x'.non c hc hg] at hb; cases hb
  simp only [H2.cut]; rw [if_neg hne]; exact x'.non c hc hg
theorem bn {b n c : Nat} {k : OB} (hb : hg g b .mk = some k) : hg (g.cut b n) c .mk = if c = b then some ⟨k.z, k.cs.take n⟩ else hg g c .mk := by
 unfold hg at *
 simp only [H2.cut]
 split
 ·rename_i h; rw [h, hb]; rfl
 ·rfl
theorem cu {g' : H2} {b n : Nat} {k : OB} (l : g.le g') (hb : hn g .mk ≤ b) : g.le (g'.cut b n) :=
 ⟨l.1, fun c hc => by
  unfold hg; simp only [H2.cut]; rw [if_neg (by omega)]; exact l.2 c hc⟩
def gP (a : Addr) (z : Nat) (hh l : Option Nat) : Option X := match hh, l with
 | some hh, some l => some (.raw (.slice (some ⟨a.block, a.off + l * z, none⟩) (hh - l) (hh - l)))
 | _, _ => none
def dQ (hh : Option Nat) (lo : Option X) : Option Nat := match hh with | some hh => Be hh lo 0 | none => none
theorem YO {a : Addr} {z hh l : Nat} : gP a z (some hh) (some l) = some (.raw (.slice (some ⟨a.block, a.off + l * z, none⟩) (hh - l) (hh - l))) := rfl
theorem VS {hh : Nat} {lo : Option X} : dQ (some hh) lo = Be hh lo 0 := rfl
def fG (k : Option OB) (q : Nat) (a : Addr) (hh l : Option Nat) : Option X := match k with
 | some k => bif k.z == q then gP a q hh l else none
 | none => none
theorem YK {z q : Nat} {cs : List X} {a : Addr} {hh l : Option Nat} (h : (z == q) = true) : fG (some ⟨z, cs⟩) q a hh l = gP a q hh l := by simp only [fG, h, cond_true]
theorem Vs {t : TypeId} {h : H2} {b off n c : Nat} {lo hi : Option X} (he : (Go.Ai.elt? P t).isSome = true) :
  Jn P h t (.raw (.slice (some ⟨b, off, none⟩) n c)) lo hi none .mk = fG (hg h b .mk) (Go.Ai.eltZ (Go.Ai.elt? P t)) ⟨b, off, none⟩ (Be n hi n) (dQ (Be n hi n) lo) := by
 simp only [Jn, IL, hg]
 cases hq : Go.Ai.elt? P t with
 | none => rw [hq] at he; cases he
 | some q =>
  obtain ⟨u, s, y⟩ := q
  cases hk : h.get b with
  | none => simp [fG]
  | some k =>
   simp only [Option.isSome_none, Bool.false_eq_true, if_false, fG, Go.Ai.eltZ]
   cases hz : k.z == s with
   | false =>
    rw [cond_false, if_neg (by simpa using hz)]
   | true =>
    rw [cond_true, if_pos (by simpa using hz)]
    simp only [gP, dQ]
    cases Be n hi n with
    | none => rfl
    | some hh => dsimp only; cases Be hh lo 0 <;> rfl
attribute [go_sem] YO VS Vs YK
end Go.Bi
end
