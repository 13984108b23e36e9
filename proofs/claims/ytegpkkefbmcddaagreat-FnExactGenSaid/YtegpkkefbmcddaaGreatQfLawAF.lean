/- Own lemmas that the theorem of this claim needs: the abstract machine and walks of functions. -/
import Derived.Test.YtegpkkefbmcddaaGreatQfLawAE
set_option linter.unusedSimpArgs false
set_option linter.unusedVariables false
section
namespace Go.Bi
open Go.Ai (Ar U4 Ij G5 PT CE Ba guarded gate Bc ND hole mxI mnI shrI shlI Bo aR bc VK Pg VA eltT eltZ Yt bp NC U8 repL V4 fP fq Zo iD iF SV)
abbrev KT := X → H2 → Prop
def look (e : E2) (t : Nat) (_ : Ar e) : X := e t
def C2 (e : E2) (x : Operand) (_ : Ar e) : X := e.op x
def Co (e : E2) (l : List Operand) (_ : Ar e) : List X := l.map e.op
def hg (h : H2) (b : Nat) (_ : Ar h) : Option OB := h.get b
def hn (h : H2) (_ : Ar h) : Nat := h.n
section
variable (P : Program) (W0 : World) (D : Nat → Option (List Nat))
def cz (c : Code) (e : E2) (h : H2) (Q : Q2) (_ : Ar (c, e, h, Q, D)) : Prop := E8 P W0 D c e h Q
def qz (Q : Q2) (x : Ai.Ex) (e : E2) (h : H2) (_ : Ar (Q, e, h)) : Prop := Q x e h
def oz (ops l : List Oper) (e : E2) (h : H2) (Q : Q2) (_ : Ar (ops, l, e, h, Q)) : Prop := M5 P W0 ops l e h Q
def xz (o : Op) (e : E2) (h : H2) (K : KT) (_ : Ar (o, e, h, K)) : Prop := DJ P W0 e h o K
def wz (f : FuncId) (a : List X) (h : H2) (K : KT) (_ : Ar (h, K)) : Prop := A7 P W0 f a h K
def lz (b : Code) (e : E2) (h : H2) (Q : Q2) (_ : Ar (b, e, h, Q, D)) : Prop := E8 P W0 D (.loop b) e h Q
def bY (l : List Oper) (e : E2) (h : H2) (Q : Q2) (_ : Ar (l, e, h, Q)) : Prop := ∃ p, G5 P l p = true ∧ JG P W0 l p e h Q
def rz (e : E2) (h : H2) (rs : List ResultVar) (_ : Ar (e, h)) : Option (List X) := Ko P h e rs
def Om (b : Code) (Q : Q2) : Q2 := bZ (fun e h => E8 P W0 D b e h Q) Q
def oK (ops r : List Oper) (d : Option Tmp) (e : E2) (Q : Q2) : KT := fun v h' => M5 P W0 ops r (e.putO d v) h' Q
end
def kz (K : KT) (v : X) (h : H2) (_ : Ar (K, h)) : Prop := K v h
def bz (o : Option X) (h : H2) (K : KT) (_ : Ar (h, K)) : Prop := match o with | some v => K v h | none => False
def az (o : Option (X × H2)) (K : KT) (_ : Ar K) : Prop := Fm o K
def sz (o : Option H2) (K : KT) (_ : Ar K) : Prop := match o with | some h' => K (.raw undef) h' | none => False
def gz (b : Bool) (A B : Prop) (_ : Ar (A, B)) : Prop := gate b A B
def gd (b : Option Bool) (A B : Prop) (_ : Ar (A, B)) : Prop := guarded b A B
def dz (v : X) (A B : Prop) (_ : Ar (A, B)) : Prop := Tv v A B
def ez (r : Option (List X)) (h : H2) (K : KT) (_ : Ar (h, K)) : Prop := Pm r h K
def nz (cs : Option (List X)) (n : Option Nat) (h : H2) (K : KT) (_ : Ar (h, K)) : Prop := match cs, n with | some cs, some n => K (.raw (.pointer (some ⟨h.n, 0, none⟩))) (h.push ⟨n, cs⟩) | _, _ => False
def bm (r : Option (List X)) (z n : Nat) (h : H2) (K : KT) (_ : Ar (h, K)) : Prop := match r with | some l => K (UD h n z l).1 (UD h n z l).2 | none => False
def bQ (P : Program) (W0 : World) (v : X) (xs : List X) (h : H2) (K : KT) (_ : Ar (h, K)) : Prop := match v with | .raw (.func (.func g) first caps) => if first.size = 0 then A7 P W0 g (xs ++ caps.toList.map .raw) h K else False | _ => False
variable {P : Program} {W0 : World} {D : Nat → Option (List Nat)} {e : E2} {h : H2} {Q : Q2} {K : KT}
def pk (b : Bool) (v : X) (e : E2) (t : Nat) (_ : Ar (v, e)) : X := match b with | true => v | false => e t
theorem df {v : X} {t : Nat} : pk true v e t .mk = v := rfl
theorem dh {v : X} {t : Nat} : pk false v e t .mk = look e t .mk := rfl
theorem HI {d t : Nat} {v : X} : look (e.put d v) t .mk = pk (t == d) v e t .mk := by
 simp only [look, E2.put, pk]; by_cases ht : t = d
 ·simp [ht]
 ·have : (t == d) = false := by simp [ht]
  rw [if_neg ht, this]
theorem KF {d t : Nat} {v : X} : look (e.putO (some d) v) t .mk = pk (t == d) v e t .mk := HI
theorem T2 {t : Nat} {v : X} : look (e.putO none v) t .mk = look e t .mk := rfl
def hk (b : Bool) (o : Option OB) (h : H2) (c : Nat) (_ : Ar (o, h)) : Option OB := match b with | true => o | false => h.get c
theorem YJ {o : Option OB} {c : Nat} : hk true o h c .mk = o := rfl
theorem FB {o : Option OB} {c : Nat} : hk false o h c .mk = hg h c .mk := rfl
theorem XB {v : X} {l : List X} : look (HX (v :: l)) 0 .mk = v := rfl
theorem Xb {v : X} {l : List X} {n : Nat} : look (HX (v :: l)) (n + 1) .mk = look (HX l) n .mk := by simp [HX, look]
theorem Rl {t : Nat} : C2 e (.tmp t) .mk = look e t .mk := rfl
theorem MK {v : Value} : C2 e (.const v) .mk = Wm v := rfl
theorem of_int {k : IntKind} {n : Int} : Wm (.int k n) = .raw (.int k n) := rfl
theorem of_bool {b : Bool} : Wm (.bool b) = .raw (.bool b) := rfl
theorem cm {b : ByteArray} : Wm (.string b) = .raw (.string b) := rfl
theorem fS {a : Option Addr} {n c : Nat} : Wm (.slice a n c) = .raw (.slice a n c) := rfl
theorem cw {a : Option Addr} : Wm (.pointer a) = .raw (.pointer a) := rfl
theorem ZH {f : FuncId} : C2 e (.func f) .mk = .raw (.func (.func f) #[] #[]) := rfl
theorem Jo : Co e [] .mk = [] := rfl
theorem IM {x : Operand} {l : List Operand} : Co e (x :: l) .mk = C2 e x .mk :: Co e l .mk := rfl
theorem Lf {b c : Nat} {o : Option OB} : (if b = c then o else h.get b) = hk (b == c) o h b .mk := by
 unfold hk; by_cases hb : b = c
 ·simp [hb]
 ·have : (b == c) = false := by simp [hb]
  rw [if_neg hb, this]
theorem Ap {k : OB} {b : Nat} : hg (h.push k) b .mk = hk (b == hn h .mk) (some k) h b .mk := Lf
theorem BA {k : OB} {b b' : Nat} : hg (h.set b' k) b .mk = hk (b == b') (some k) h b .mk := Lf
theorem FO {b b' : Nat} : hg (h.kill b') b .mk = hk (b == b') none h b .mk := Lf
theorem Ti {n b : Nat} : hg (h.up n) b .mk = hg h b .mk := rfl
theorem AB {k : OB} : hn (h.push k) .mk = hn h .mk + 1 := rfl
theorem AG {k : OB} {b : Nat} : hn (h.set b k) .mk = hn h .mk := rfl
theorem Bh {b : Nat} : hn (h.kill b) .mk = hn h .mk := rfl
theorem AF {n : Nat} : hn (h.up n) .mk = n := rfl
theorem Q3 : cz P W0 D .skip e h Q .mk = qz Q .normal e h .mk := rfl
theorem YR : cz P W0 D .ret e h Q .mk = qz Q .ret e h .mk := rfl
theorem Sl {id : Nat} : cz P W0 D (.exit id) e h Q .mk = qz Q (.exit id) e h .mk := rfl
theorem W9 {a b : Code} : cz P W0 D (.seq a b) e h Q .mk = cz P W0 D a e h (Om P W0 D b Q) .mk := rfl
theorem Ow {id : Nat} {b : Code} : cz P W0 D (.block id b) e h Q .mk = cz P W0 D b e h (FP id Q) .mk := rfl
theorem CV {c : Operand} {a b : Code} : cz P W0 D (.cond c a b) e h Q .mk = dz (C2 e c .mk) (cz P W0 D a e h Q .mk) (cz P W0 D b e h Q .mk) .mk := rfl
theorem SP {b : Code} : cz P W0 D (.loop b) e h Q .mk = lz P W0 D b e h Q .mk := rfl
def ctz (F : E2 → Prop) (ks : List Nat) (e E : E2) (_ : Ar (F, e, E)) : Prop := F fun t => if ks.contains t then e t else E t
def dZ (F : E2 → Prop) (ks : List Nat) (e : E2) (k : Nat) (v : X) (E : E2) (_ : Ar (F, e, E)) : Prop := F fun t => if ks.contains t then e t else E.put k v t
def Xg (F : E2 → Prop) (o : Option (List Nat)) (e : E2) (_ : Ar (F, e)) : Prop := F (UE o e)
def gp : E2 := fun _ => .raw hole
def fz (F : E2 → Prop) (e : E2) (_ : Ar (F, e)) : Prop := F e
theorem Oc {F : E2 → Prop} {e E : E2} : ctz F [] e E .mk = fz F E .mk := by simp [ctz, fz]
theorem Mg {F : E2 → Prop} {e E : E2} {k : Nat} {ks : List Nat} : ctz F (k :: ks) e E .mk = dZ F ks e k (look e k .mk) E .mk := by
 simp only [ctz, dZ, look]
 congr 1
 funext t
 by_cases ht : t = k
 ·subst ht; simp [E2.put]
 ·simp [E2.put, ht]
theorem ON {F : E2 → Prop} {e E : E2} {k : Nat} {v : X} {ks : List Nat} : dZ F ks e k v E .mk = ctz F ks e (E.put k v) .mk := rfl
theorem Lt {F : E2 → Prop} {e : E2} {ks : List Nat} : Xg F (some ks) e .mk = ctz F ks e gp .mk := rfl
def P6 (D : Nat → Option (List Nat)) (id : Nat) (_ : Ar D) : Option (List Nat) := D id
theorem cQ {a : List Nat} {l : List (List Nat)} : P6 (SV (a :: l)) 0 .mk = some a := rfl
theorem da {a : List Nat} {l : List (List Nat)} {n : Nat} : P6 (SV (a :: l)) (n + 1) .mk = P6 (SV l) n .mk := by simp [P6, SV]
def eB (P : Program) (W0 : World) (l : List Oper) (h : H2) (Q : Q2) : E2 → Prop := fun e => M5 P W0 l l e h Q
def dB (P : Program) (W0 : World) (l : List Oper) (h : H2) (Q : Q2) : E2 → Prop := fun e => bY P W0 l e h Q .mk
theorem Me {id : Nat} {l : List Oper} : cz P W0 D (.region id l.toArray false) e h Q .mk = Xg (eB P W0 l h Q) (P6 D id .mk) e .mk := by simp [cz, E8, Xg, eB, P6]
theorem J6 {id : Nat} {l : List Oper} : cz P W0 D (.region id l.toArray true) e h Q .mk = Xg (dB P W0 l h Q) (P6 D id .mk) e .mk := by simp [cz, E8, Xg, dB, P6, bY]
theorem XC {l : List Oper} : fz (eB P W0 l h Q) e .mk = oz P W0 l l e h Q .mk := rfl
theorem YT {l : List Oper} : fz (dB P W0 l h Q) e .mk = bY P W0 l e h Q .mk := rfl
theorem RX {b : Bool} {A B : Prop} : dz (.raw (.bool b)) A B .mk = gz b A B .mk := rfl
theorem Rx {A B : Prop} : gz true A B .mk = A := by simp [gz, gate]
theorem O8 {A B : Prop} : gz false A B .mk = B := by simp [gz, gate]
theorem SR {b : Code} : qz (Om P W0 D b Q) .normal e h .mk = cz P W0 D b e h Q .mk := rfl
theorem S4 {b : Code} : qz (Om P W0 D b Q) .ret e h .mk = qz Q .ret e h .mk := rfl
theorem SH {b : Code} {j : Nat} : qz (Om P W0 D b Q) (.exit j) e h .mk = qz Q (.exit j) e h .mk := rfl
theorem LZ {id : Nat} : qz (FP id Q) .normal e h .mk = qz Q .normal e h .mk := rfl
theorem MF {id : Nat} : qz (FP id Q) .ret e h .mk = qz Q .ret e h .mk := rfl
def gS (b : Bool) (j : Nat) (Q : Q2) (e : E2) (h : H2) (_ : Ar (Q, e, h)) : Prop := match b with | true => Q .normal e h | false => Q (.exit j) e h
theorem iB {j : Nat} : gS true j Q e h .mk = qz Q .normal e h .mk := rfl
theorem gh {j : Nat} : gS false j Q e h .mk = qz Q (.exit j) e h .mk := rfl
theorem LV {id j : Nat} : qz (FP id Q) (.exit j) e h .mk = gS (j == id) j Q e h .mk := by
 simp only [qz, FP, gS]
 by_cases hj : j = id
 ·simp [hj]
 ·have : (j == id) = false := by simp [hj]
  rw [if_neg hj, this]
def gU (I : Nat → E2 → H2 → Prop) (n : Nat) (e : E2) (h : H2) (_ : Ar (I, n, e, h)) : Prop := ∃ m, m < n ∧ I m e h
theorem OV {I : Nat → E2 → H2 → Prop} {n : Nat} : qz (IQ I n Q) .normal e h .mk = gU I n e h .mk := rfl
theorem O9 {I : Nat → E2 → H2 → Prop} {n : Nat} : qz (IQ I n Q) .ret e h .mk = qz Q .ret e h .mk := rfl
theorem OZ {I : Nat → E2 → H2 → Prop} {n j : Nat} : qz (IQ I n Q) (.exit j) e h .mk = qz Q (.exit j) e h .mk := rfl
theorem dc {rs : List ResultVar} : qz (Qu P rs K) .normal e h .mk = ez (rz P e h rs .mk) h K .mk := rfl
theorem R3 {rs : List ResultVar} : qz (Qu P rs K) .ret e h .mk = ez (rz P e h rs .mk) h K .mk := rfl
theorem Ss : rz P e h [] .mk = some [] := rfl
def KQ (v : Option X) (l : Option (List X)) : Option (List X) := match v, l with | some v, some l => some (v :: l) | _, _ => none
theorem Ig {v : X} {l : List X} : KQ (some v) (some l) = some (v :: l) := rfl
theorem Rh {t : Nat} {r : List ResultVar} : rz P e h (.tmp t :: r) .mk = KQ (some (look e t .mk)) (rz P e h r .mk) := by simp only [rz, Ko, KQ, look]; cases Ko P h e r <;> rfl
def FF (P : Program) (h : H2) (t : TypeId) (v : X) (_ : Ar h) : Option X := HH P h t v
theorem ZR {a t : Nat} {r : List ResultVar} : rz P e h (.cell a t :: r) .mk = KQ (FF P h t (look e a .mk) .mk) (rz P e h r .mk) := rfl
theorem gx {v : X} : ez (some [v]) h K .mk = kz K v h .mk := rfl
theorem iK : ez (some []) h K .mk = kz K (.tp []) h .mk := by simp [ez, Pm, VH, kz]
theorem iP {v u : X} (hv : Bg v = false) (hu : Bg u = false) : ez (some [v, u]) h K .mk = kz K (.tp [v, u]) h .mk := by simp [ez, Pm, VH, hv, hu, kz]
theorem iN {v u x : X} (hv : Bg v = false) (hu : Bg u = false) (hx : Bg x = false) : ez (some [v, u, x]) h K .mk = kz K (.tp [v, u, x]) h .mk := by simp [ez, Pm, VH, hv, hu, hx, kz]
theorem aD {k : IntKind} {n : Int} : Bg (.raw (.int k n)) = false := rfl
theorem W7 {b : Bool} : Bg (.raw (.bool b)) = false := rfl
theorem Zh {a : Option Addr} {l c : Nat} : Bg (.raw (.slice a l c)) = false := rfl
theorem de {f : AQ} {z : Nat} {es : List (List T)} : Bg (.sl f z es) = false := rfl
theorem ca {a : List X} : Bg (.st a) = false := rfl
theorem ko {ops r : List Oper} {d : Option Tmp} {v : X} : kz (oK P W0 ops r d e Q) v h .mk = oz P W0 ops r (e.putO d v) h Q .mk := rfl
theorem Q4 {v : X} : bz (some v) h K .mk = kz K v h .mk := rfl
theorem Sm {v : X} {h' : H2} : az (some (v, h')) K .mk = kz K v h' .mk := rfl
theorem cN {h' : H2} : sz (some h') K .mk = kz K (.raw undef) h' .mk := rfl
theorem Rg {cs : List X} {n : Nat} : nz (some cs) (some n) h K .mk = kz K (.raw (.pointer (some ⟨hn h .mk, 0, none⟩))) (h.push ⟨n, cs⟩) .mk := rfl
def SS (n z : Nat) (cs : List X) (t : Option (List T)) (h : H2) (K : KT) (_ : Ar (h, K)) : Prop := match n, t with
 | m + 1, some ts => K (.sl (FY h.n (m + 1) z cs) z (chunk z (m + 1) ts)) (h.up (h.n + 1))
 | n, _ => K (.raw (.slice (some ⟨h.n, 0, none⟩) n n)) (h.push ⟨z, cs⟩)
theorem N6 {l : List X} {z n : Nat} : bm (some l) z n h K .mk = SS n z l (CR l) h K .mk := by
 simp only [bm, UD, SS]
 cases n <;> cases CR l <;> rfl
theorem fh {z : Nat} {cs : List X} {t : Option (List T)} : SS 0 z cs t h K .mk = kz K (.raw (.slice (some ⟨hn h .mk, 0, none⟩) 0 0)) (h.push ⟨z, cs⟩) .mk := by cases t <;> rfl
theorem Xi {z n : Nat} {cs : List X} {ts : List T} : SS (n + 1) z cs (some ts) h K .mk = kz K (.sl (FY (hn h .mk) (n + 1) z cs) z (chunk z (n + 1) ts)) (h.up (hn h .mk + 1)) .mk := rfl
theorem X3 {z n : Nat} {cs : List X} : SS n z cs none h K .mk = kz K (.raw (.slice (some ⟨hn h .mk, 0, none⟩) n n)) (h.push ⟨z, cs⟩) .mk := by cases n <;> rfl
def fO (t : Option T) (r : Option (List T)) : Option (List T) := match t, r with | some t, some r => some (t :: r) | _, _ => none
theorem Yp : CR [] = some [] := rfl
theorem Hm {x : X} {l : List X} : CR (x :: l) = fO (Jc x) (CR l) := rfl
theorem Hd {t : T} {r : List T} : fO (some t) (some r) = some (t :: r) := rfl
theorem PU {k : IntKind} {n : Int} : Jc (.raw (.int k n)) = some (.v (.int k n)) := rfl
theorem Xa {f : AQ} {z : Nat} {es : List (List T)} : Jc (.sl f z es) = some (.l z es) := rfl
theorem XP {ops : List Oper} : oz P W0 ops [] e h Q .mk = qz Q .normal e h .mk := rfl
theorem RZ {ops r : List Oper} {d : Option Tmp} {o : Op} {t : TypeId} {p : String} {a : Array Edge} :
  oz P W0 ops (⟨d, o, t, p, a, none⟩ :: r) e h Q .mk = xz P W0 o e h (oK P W0 ops r d e Q) .mk := by
 show gate true (DJ P W0 e h o (oK P W0 ops r d e Q)) _ = DJ P W0 e h o (oK P W0 ops r d e Q)
 simp only [gate]; exact propext ⟨fun hh => hh.1 trivial, fun hh => ⟨fun _ => hh, fun hf => absurd hf (by simp)⟩⟩
theorem N5 {ops r : List Oper} {d : Option Tmp} {o : Op} {t : TypeId} {p : String} {a : Array Edge} {j : Nat} {b : Bool} :
    oz P W0 ops (⟨d, o, t, p, a, some (j, b)⟩ :: r) e h Q .mk =
      gd (Dn ops e (some (j, b))) (xz P W0 o e h (oK P W0 ops r d e Q) .mk) (oz P W0 ops r (e.putO d (.raw undef)) h Q .mk) .mk := rfl
def fT (d : Option Nat) (b : Bool) (e : E2) (_ : Ar e) : Option Bool := match d with | none => some false | some t => V0 b (e t)
theorem LP {ops : List Oper} {j : Nat} {b : Bool} : Dn ops e (some (j, b)) = fT (V4 ops j .mk) b e .mk := rfl
theorem LY {t : Nat} {b : Bool} : fT (some t) b e .mk = V0 b (look e t .mk) := rfl
theorem O4 {b : Bool} {A B : Prop} : gd (some b) A B .mk = gz b A B .mk := rfl
theorem LU {w b : Bool} : V0 w (.raw (.bool b)) = some (b == w) := rfl
theorem Ud {w : Bool} : V0 w (.raw undef) = some false := rfl
theorem R5 {x : Operand} : xz P W0 (.move x) e h K .mk = kz K (C2 e x .mk) h .mk := rfl
theorem MR {x : Operand} : xz P W0 (.assign x) e h K .mk = kz K (C2 e x .mk) h .mk := rfl
def HS (c a b : X) : Option X := match c with | .raw (.bool true) => some a | .raw (.bool false) => some b | _ => none
theorem Sa {c x y : Operand} : xz P W0 (.pick c x y) e h K .mk = bz (HS (C2 e c .mk) (C2 e x .mk) (C2 e y .mk)) h K .mk := by
 simp only [xz, DJ, Cy, Kk, Fm, bz, HS, C2]
 split <;> rename_i heq <;> split at heq <;> simp_all
theorem S9 {a b : X} : HS (.raw (.bool true)) a b = some a := rfl
theorem Si {a b : X} : HS (.raw (.bool false)) a b = some b := rfl
theorem Su {c a b : Bool} : HS (.raw (.bool c)) (.raw (.bool a)) (.raw (.bool b)) = some (.raw (.bool (Ai.pkB c a b))) := by cases c <;> rfl
theorem ZI {t : TypeId} : xz P W0 (.alloc t) e h K .mk = nz ((Ai.zr? P t).map (·.map .raw)) (Ai.sz? P t) h K .mk := by
 simp only [xz, DJ, Cy, Kk, Fm, nz]; cases Ai.zr? P t <;> cases Ai.sz? P t <;> simp [ZP]
theorem cJ {l : List Value} : (some l).map (·.map X.raw) = some (l.map X.raw) := rfl
theorem X6 {t : TypeId} {x : Operand} : xz P W0 (.box t x) e h K .mk = nz (A3 (C2 e x .mk)) (Ai.sz? P t) h K .mk := by
 simp only [xz, DJ, Cy, Kk, Fm, nz, C2]; cases A3 (e.op x) <;> cases Ai.sz? P t <;> simp [ZP]
theorem Sb {t : TypeId} {x : Operand} : xz P W0 (.load t x) e h K .mk = bz (FF P h t (C2 e x .mk) .mk) h K .mk := by
 simp only [xz, DJ, Cy, Kk, bz, FF, C2]; cases HH P h t (e.op x) <;> rfl
def PF (P : Program) (h : H2) (t : TypeId) (x y : X) (_ : Ar h) : Option H2 := IT P h t x y
theorem aP {t : TypeId} {x y : Operand} : xz P W0 (.store t x y) e h K .mk = sz (PF P h t (C2 e x .mk) (C2 e y .mk) .mk) K .mk := by
 simp only [xz, DJ, Cy, Kk, Fm, sz, PF, C2]; cases IT P h t (e.op x) (e.op y) <;> simp
def dN (v : X) : Option X := if aV v then some v else none
theorem fj {x : Operand} : xz P W0 (.nilCheck x) e h K .mk = bz (dN (C2 e x .mk)) h K .mk := by
 simp only [xz, DJ, Cy, Kk, Fm, bz, dN, C2]; by_cases hp : aV (e.op x) = true <;> simp [hp]
theorem Xr {a : Addr} : dN (.raw (.pointer (some a))) = some (.raw (.pointer (some a))) := rfl
theorem Xh {op : BinOp} {t u : TypeId} {x y : Operand} : xz P W0 (.binOp op t x y u) e h K .mk = bz (MV P op t (C2 e x .mk) (C2 e y .mk)) h K .mk := by
 simp only [xz, DJ, Cy, Kk, bz, C2]; cases MV P op t (e.op x) (e.op y) <;> rfl
theorem eU {op : UnOp} {t : TypeId} {x : Operand} : xz P W0 (.unOp op t x) e h K .mk = bz (fe op (C2 e x .mk)) h K .mk := by
 simp only [xz, DJ, Cy, Kk, bz, C2]; cases fe op (e.op x) <;> rfl
def NZ (P : Program) (h : H2) (s d : TypeId) (x : X) (_ : Ar h) : Option (X × H2) := NH P h s d x
theorem dq {s d : TypeId} {x : Operand} : xz P W0 (.convert s d x) e h K .mk = az (NZ P h s d (C2 e x .mk) .mk) K .mk := rfl
def Uq (o : Option Operand) (e : E2) (_ : Ar e) : Option X := o.map e.op
theorem Vg : Uq none e .mk = none := rfl
theorem Uo {x : Operand} : Uq (some x) e .mk = some (C2 e x .mk) := rfl
def KA (P : Program) (h : H2) (t : TypeId) (x : X) (lo hi mx : Option X) (_ : Ar h) : Option X := If P h t x lo hi mx
theorem aQ {t : TypeId} {x : Operand} {lo hi mx : Option Operand} : xz P W0 (.slice t x lo hi mx) e h K .mk = bz (KA P h t (C2 e x .mk) (Uq lo e .mk) (Uq hi e .mk) (Uq mx e .mk) .mk) h K .mk := by
 simp only [xz, DJ, Cy, Kk, bz, C2, KA, Uq]; cases If P h t (e.op x) (lo.map e.op) (hi.map e.op) (mx.map e.op) <;> rfl
theorem QW {s : TypeId} {x : Operand} {f : Nat} : xz P W0 (.fieldAddr s x f) e h K .mk = bz (B8 P s (C2 e x .mk) f) h K .mk := by
 simp only [xz, DJ, Cy, Kk, bz, C2]; cases B8 P s (e.op x) f <;> rfl
theorem G2 {t : TypeId} {x y : Operand} : xz P W0 (.indexAddr t x y) e h K .mk = bz (Cl P t (C2 e x .mk) (C2 e y .mk)) h K .mk := by
 simp only [xz, DJ, Cy, Kk, bz, C2]; cases Cl P t (e.op x) (e.op y) <;> rfl
theorem Uc {x : Operand} {i : Nat} : xz P W0 (.extract x i) e h K .mk = bz (EG (C2 e x .mk) i) h K .mk := by
 simp only [xz, DJ, Cy, Kk, bz, C2]; cases EG (e.op x) i <;> rfl
def TO (P : Program) (h : H2) (t : TypeId) (x y : X) (_ : Ar h) : Option (X × H2) := El P h t x y
theorem dS {t : TypeId} {x y : Operand} : xz P W0 (.makeSlice t x y) e h K .mk = az (TO P h t (C2 e x .mk) (C2 e y .mk) .mk) K .mk := rfl
def JN (p : Option (Nat × Nat)) (vs : Option (List X)) (cs : List X) : Option (List X) := match p, vs with | some (off, n), some vs => if vs.length = n then Cv cs off vs else none | _, _ => none
def Eh (place : Nat → Option (Nat × Nat)) (e : E2) (l : List (Nat × Operand)) (cs : Option (List X)) (_ : Ar (place, e, l)) : Option (List X) := match cs with | some cs => Em place e l cs | none => none
theorem J5 {p : Nat → Option (Nat × Nat)} {cs : List X} : Eh p e [] (some cs) .mk = some cs := rfl
theorem Ir {p : Nat → Option (Nat × Nat)} {i : Nat} {x : Operand} {l : List (Nat × Operand)} {cs : List X} : Eh p e ((i, x) :: l) (some cs) .mk = Eh p e l (JN (p i) (A3 (C2 e x .mk)) cs) .mk := by
 simp only [Eh, Em, JN, C2]
 cases p i with
 | none => rfl
 | some q =>
  obtain ⟨off, n⟩ := q
  cases A3 (e.op x) with
  | none => rfl
  | some vs =>
   by_cases hv : vs.length = n
   ·simp only [if_pos hv]; cases Cv cs off vs <;> rfl
   ·simp only [if_neg hv]
def cF (l : Option (List X)) : Option X := l.map fun l => .st l
theorem U5 {l : List X} : cF (some l) = some (.st l) := rfl
def TF (P : Program) (t : TypeId) : Nat → Option (Nat × Nat) := fun i => (Ai.fld? P t i).map fun p => (p.1, p.2.1)
theorem VL {t i : Nat} : TF P t i = (Ai.fld? P t i).map fun p => (p.1, p.2.1) := rfl
theorem Zw {t : TypeId} {ps : List (Nat × Operand)} (hz : (Ai.zr? P t).isSome = true) (hb : Ai.bldOk P t = true) : xz P W0 (.build t ps.toArray) e h K .mk = bz (cF (Eh (TF P t) e ps ((Ai.zr? P t).map (·.map .raw)) .mk)) h K .mk := by
 cases hz' : Ai.zr? P t with
 | none => rw [hz'] at hz; cases hz
 | some z =>
  simp only [xz, DJ, Cy, Kk, bz, hz', if_pos hb, cF, Eh, Option.map_some, show TF P t = (fun i => (Ai.fld? P t i).map fun p => (p.1, p.2.1)) from rfl]
  generalize Em (fun i => (Ai.fld? P t i).map fun p => (p.1, p.2.1)) e ps (z.map .raw) = r
  cases r <;> rfl
def Is (z : Nat) : Nat → Option (Nat × Nat) := fun i => some (i * z, z)
theorem Jk {z i : Nat} : Is z i = some (i * z, z) := rfl
theorem YQ {t n : Nat} {ps : List (Nat × Operand)} (hn : NC (Ai.elt? P t) (Ai.zr? P (Yt (Ai.elt? P t))) n = true) :
  xz P W0 (.buildSlice t n ps.toArray) e h K .mk = bm (Eh (Is (bp (Ai.elt? P t))) e ps ((U8 n (Ai.zr? P (Yt (Ai.elt? P t)))).map (·.map .raw)) .mk) (bp (Ai.elt? P t)) n h K .mk := by
 cases he : Ai.elt? P t with
 | none => rw [he] at hn; cases hn
 | some q =>
  obtain ⟨u, z, y⟩ := q
  rw [he] at hn
  simp only [Yt] at hn
  cases hz : Ai.zr? P u with
  | none => rw [hz] at hn; cases hn
  | some zs =>
   rw [hz] at hn
   simp only [NC, Bool.and_eq_true, decide_eq_true_eq] at hn
   simp only [xz, DJ, Cy, Kk, bm, he, hz, if_pos hn, Eh, bp, Yt, U8, Option.map_some, show Is z = (fun i => some (i * z, z)) from rfl]
   generalize Em (fun i => some (i * z, z)) e ps ((repL n zs).map .raw) = r
   cases r <;> rfl
theorem RU {f : FuncId} {xs : List Operand} {ts : Array TypeId} : xz P W0 (.call ⟨.value (.func f), xs.toArray, ts⟩) e h K .mk = wz P W0 f (Co e xs .mk) h K .mk := by
 simp [xz, DJ, Cy, E2.op, wz, Co]
theorem YB {g : FuncId} {xs : List X} {caps : List Value} : bQ P W0 (.raw (.func (.func g) #[] caps.toArray)) xs h K .mk = wz P W0 g (xs ++ caps.map .raw) h K .mk := by simp [bQ, wz]
theorem XL {t : Tmp} {xs : List Operand} {ts : Array TypeId} : xz P W0 (.call ⟨.value (.tmp t), xs.toArray, ts⟩) e h K .mk = bQ P W0 (look e t .mk) (Co e xs .mk) h K .mk := by
 have hno : Kk P e h (.call ⟨.value (.tmp t), xs.toArray, ts⟩) = none := rfl
 simp only [xz, DJ, Cy, bQ, hno, Fm, look, Co, E2.op]
 generalize e t = v
 cases v <;> try rfl
 rename_i v
 cases v <;> try rfl
 rename_i fn first caps
 cases fn <;> try rfl
 by_cases h3 : first.size = 0 <;> simp [h3]
def EN (P : Program) (h : H2) (b : Builtin) (ts : List TypeId) (xs : List X) (_ : Ar h) : Option (X × H2) := B1 P h b ts xs
theorem J2 {b : Builtin} {xs : List Operand} {ts : List TypeId} : xz P W0 (.call ⟨.builtin b, xs.toArray, ts.toArray⟩) e h K .mk = az (EN P h b ts (Co e xs .mk) .mk) K .mk := by
 simp [xz, DJ, Cy, Kk, EN, Co, az]
def gT (f : FuncId) (l : Option (List Value)) : Option X := match l with | some l => (match l.all Ai.ptrV with | true => some (.raw (.func (.func f) #[] l.toArray)) | false => none) | none => none
theorem iA {f : FuncId} {a : Addr} : gT f (Gy [.raw (.pointer (some a))]) = some (.raw (.func (.func f) #[] [.pointer (some a)].toArray)) := rfl
theorem eM {f : FuncId} {a b : Addr} : gT f (Gy [.raw (.pointer (some a)), .raw (.pointer (some b))]) = some (.raw (.func (.func f) #[] [.pointer (some a), .pointer (some b)].toArray)) := rfl
theorem eJ {f : FuncId} {xs : List Operand} : xz P W0 (.makeFunc (.func f) #[] xs.toArray) e h K .mk = bz (gT f (Gy (Co e xs .mk))) h K .mk := by
 simp only [xz, DJ, Cy, Kk, bz, gT, Co]
 cases hr : Gy (xs.map e.op) with
 | none => simp [Fm]
 | some l =>
  cases ha : l.all Ai.ptrV
  ·simp only [ha, Fm]
   rw [if_neg (by simp)]
  ·simp only [ha, Fm]
   rw [if_pos (by simp)]
def gY (o : Option (List X)) : Option X := match o with | some l => some (.st l) | none => none
theorem X1 {l : List X} : gY (some l) = some (.st l) := rfl
def bk (g : Option Bool) (n : Option Nat) (k : Option OB) (off : Nat) : Option X := match k with
 | some k => (match g with | some true => (match n with | some n => gY (Jl k.cs off n) | none => none) | some false => k.cs[off]? | none => none)
 | none => none
theorem R4 {n : Option Nat} {z off : Nat} {cs : List X} : bk (some false) n (some ⟨z, cs⟩) off = cs[off]? := rfl
theorem eK {n : Nat} {z off : Nat} {cs : List X} : bk (some true) (some n) (some ⟨z, cs⟩) off = gY (Jl cs off n) := rfl
theorem MQ {t : TypeId} {b off : Nat} {p : Option Nat} : FF P h t (.raw (.pointer (some ⟨b, off, p⟩))) .mk = bk (Ai.agg? P t) (Ai.sz? P t) (hg h b .mk) off := by
 simp only [FF, HH, hg, bk, gY]
 cases h.get b with
 | none => rfl
 | some k =>
  simp only
  cases Ai.agg? P t with
  | none => rfl
  | some g =>
   cases g with
   | false => rfl
   | true =>
    simp only
    cases Ai.sz? P t with
    | none => rfl
    | some n => simp only; cases Jl k.cs off n <;> rfl
def fw (g : Option Bool) (n : Option Nat) (f : AQ) (cs : List T) : Option X := match g, n with
 | some true, some n => if n ≤ cs.length then some (.st (Gv f 0 (cs.take n))) else none
 | some false, _ => (match cs with | t :: _ => some (Qz f 0 t) | [] => none)
 | _, _ => none
theorem Zk {t : TypeId} {a : Value} {f : AQ} {cs : List T} : FF P h t (.pr a f cs) .mk = fw (Ai.agg? P t) (Ai.sz? P t) f cs := by
 simp only [FF, HH, fw]
 cases Ai.agg? P t with
 | none => rfl
 | some g => cases g <;> cases Ai.sz? P t <;> rfl
theorem av {n : Option Nat} {f : AQ} {t : T} {cs : List T} : fw (some false) n f (t :: cs) = some (Qz f 0 t) := rfl
theorem Za {n : Nat} {f : AQ} {cs : List T} (hn : (decide (n ≤ cs.length)) = true) : fw (some true) (some n) f cs = some (.st (Gv f 0 (cs.take n))) := by simp only [fw]; rw [if_pos (of_decide_eq_true hn)]
theorem ZZ {f : AQ} {j : Nat} : Gv f j [] = [] := rfl
theorem XH {f : AQ} {j : Nat} {t : T} {r : List T} : Gv f j (t :: r) = Qz f j t :: Gv f (j + 1) r := rfl
theorem fQ {f : AQ} {j : Nat} {x : Value} : Qz f j (.v x) = .raw x := rfl
theorem fN {f : AQ} {j z : Nat} {es : List (List T)} : Qz f j (.l z es) = .sl (under f j) z es := rfl
def gR (vs : Option (List X)) (n : Option Nat) (k : Option OB) (h : H2) (b off : Nat) (_ : Ar h) : Option H2 := match vs, n, k with
 | some vs, some n, some k => if vs.length = n ∧ vs.all FC = true then (Cv k.cs off vs).map fun cs => h.set b ⟨k.z, cs⟩ else none
 | _, _, _ => none
def hC (b : Bool) (cs : Option (List X)) (h : H2) (c z : Nat) (_ : Ar h) : Option H2 := match b, cs with
 | true, some cs => some (h.set c ⟨z, cs⟩)
 | _, _ => none
theorem WT {cs : List X} {c z : Nat} : hC true (some cs) h c z .mk = some (h.set c ⟨z, cs⟩) := rfl
theorem Zm {vs : List X} {n z b off : Nat} {cs : List X} : gR (some vs) (some n) (some ⟨z, cs⟩) h b off .mk = hC (vs.length == n && vs.all FC) (Cv cs off vs) h b z .mk := by
 simp only [gR, hC]
 by_cases hv : vs.length = n
 ·by_cases hq : vs.all FC = true
  ·simp only [hv, hq, and_self, if_true, beq_self_eq_true, Bool.and_self]; cases Cv cs off vs <;> rfl
  ·simp [hv, hq]
 ·simp [hv]
theorem Ux {t : TypeId} {b off : Nat} {p : Option Nat} {y : X} : PF P h t (.raw (.pointer (some ⟨b, off, p⟩))) y .mk = gR (A3 y) (Ai.sz? P t) (hg h b .mk) h b off .mk := by
 simp only [PF, IT, hg, gR]
 cases A3 y <;> cases Ai.sz? P t <;> first | rfl | (dsimp only; cases h.get b <;> rfl)
theorem KE {k : IntKind} {n : Int} : A3 (.raw (.int k n)) = some [.raw (.int k n)] := rfl
theorem WH {b : ByteArray} : A3 (.raw (.string b)) = some [.raw (.string b)] := rfl
theorem UA {a : Option Addr} {l c : Nat} : A3 (.raw (.slice a l c)) = some [.raw (.slice a l c)] := rfl
theorem Xx {f : AQ} {z : Nat} {es : List (List T)} : A3 (.sl f z es) = some [.sl f z es] := rfl
theorem Wa {l : List X} : A3 (.st l) = some l := rfl
theorem aT {v : Value} : IC (some v) = some (.raw v) := rfl
theorem ax {op : BinOp} {t : TypeId} {a b : Value} : MV P op t (.raw a) (.raw b) = IC (Ai.binV P op t a b) := rfl
theorem dQ {t : TypeId} {k : IntKind} {a b c d : Int} (hT : Ai.intS? P t = some 2) : MV P .eql t (.st [.raw (.int k a), .raw (.int k b)]) (.st [.raw (.int k c), .raw (.int k d)]) = some (.raw (.bool (a == c && (b == d && true)))) := by
 simp [MV, Gy, Ai.binV, Ai.eqA, hT, Ai.eqIs, IC]
theorem dJ {op : UnOp} {a : Value} : fe op (.raw a) = IC (Ai.unV op a) := rfl
theorem cH {t : TypeId} {f : AQ} {z n c : Nat} {es : List (List T)} (hc : Ai.cls? P t = some .sl) : MV P .eql t (.sl f z es) (.raw (.slice none n c)) = some (.raw (.bool (Qt (f [])))) := by simp [MV, hc]
theorem Wg : (none : Option Addr).isNone = true := rfl
theorem XU {a : Addr} : (some a).isNone = false := rfl
theorem cM {s f : Nat} {v : Value} : B8 P s (.raw v) f = IC (Ai.fieldAddrV P s v f) := rfl
theorem eX {s f : Nat} {a : Value} {k : AQ} {ts : List T} (hp : VK (VA (Ai.fld? P s f)) = true) (hl : decide (Pg (Ai.fld? P s f) ≤ ts.length) = true) :
  B8 P s (.pr a k ts) f = some (.pr (cA (Pg (Ai.fld? P s f)) a) (fI k (Pg (Ai.fld? P s f))) (ts.drop (Pg (Ai.fld? P s f)))) := by
 simp only [B8]
 cases hf : Ai.fld? P s f with
 | none => rw [hf] at hp; cases hp
 | some q =>
  obtain ⟨o, n, b⟩ := q
  rw [hf] at hp hl
  cases n with
  | zero => cases hp
  | succ n => simp only [Pg] at hl ⊢; rw [if_pos (of_decide_eq_true hl)]
theorem ct {t : TypeId} {a i : Value} : Cl P t (.raw a) (.raw i) = IC (Ai.indexAddrV P t a i) := rfl
def el (es : List (List T)) (i : Nat) : List T := es.getD i []
theorem gN {t z : Nat} {f : AQ} {es : List (List T)} {k : IntKind} {i : Int} (h1 : (eltZ (Ai.elt? P t) == z) = true) (he : (Ai.elt? P t).isSome = true) (h2 : 0 ≤ i) (h3 : i.toNat < es.length) :
  Cl P t (.sl f z es) (.raw (.int k i)) = some (.pr (dI i.toNat z (f [])) (under f i.toNat) (el es i.toNat)) := by
 simp only [Cl]
 cases hq : Ai.elt? P t with
 | none => rw [hq] at he; cases he
 | some q =>
  obtain ⟨u, s, b⟩ := q
  rw [hq] at h1
  simp only [eltZ, beq_iff_eq] at h1
  simp only
  rw [if_pos ⟨h1, h2, h3⟩]; rfl
theorem Gg {α : Type} [Inhabited α] {xs : List α} {F : α → List T} {i : Nat} (hi : i < xs.length) : el (xs.map F) i = F (xs.getD i default) := by
 unfold el
 rw [List.getD_eq_getElem?_getD, List.getD_eq_getElem?_getD, List.getElem?_map, List.getElem?_eq_getElem hi]; rfl
theorem gv {v : X} {l : List X} : EG (.tp (v :: l)) 0 = some v := rfl
theorem hJ {v : X} {l : List X} {n : Nat} : EG (.tp (v :: l)) (n + 1) = EG (.tp l) n := by simp [EG]
theorem Y8 {t : TypeId} {s : ByteArray} (hc : Ai.cls? P t = some .str) : EN P h .len [t] [.raw (.string s)] .mk = some (.raw (.int .i64 s.size), h) := by simp only [EN, B1, hc]
theorem N9 {t : TypeId} {a : Option Addr} {n c : Nat} (hc : Ai.cls? P t = some .sl) : EN P h .len [t] [.raw (.slice a n c)] .mk = some (.raw (.int .i64 n), h) := by simp only [EN, B1, hc]
theorem RN {t : TypeId} {f : AQ} {z : Nat} {es : List (List T)} (hc : Ai.cls? P t = some .sl) : EN P h .len [t] [.sl f z es] .mk = some (.raw (.int .i64 es.length), h) := by simp only [EN, B1, hc]
theorem Sd {ts : List TypeId} {k : IntKind} {x y : Int} : EN P h .max ts [.raw (.int k x), .raw (.int k y)] .mk = some (.raw (.int k (mxI x y)), h) := by simp [EN, B1, Bo, Gy]
theorem bx {ts : List TypeId} {k : IntKind} {x y : Int} : EN P h .min ts [.raw (.int k x), .raw (.int k y)] .mk = some (.raw (.int k (mnI x y)), h) := by simp [EN, B1, Bo, Gy]
theorem ai {ts : List TypeId} {k : IntKind} {x y z : Int} : EN P h .max ts [.raw (.int k x), .raw (.int k y), .raw (.int k z)] .mk = some (.raw (.int k (mxI (mxI x y) z)), h) := by simp [EN, B1, Bo, Gy]
theorem dP {s d : TypeId} {k : IntKind} {n : Int} (hs : bc (Ai.cls? P s) = true) (hd : bc (Ai.cls? P d) = true) : NZ P h s d (.raw (.int k n)) .mk = some (.raw (.int (aR (Ai.cls? P d)) ((aR (Ai.cls? P d)).wrap n)), h) := by
 simp only [NZ, NH]
 cases hs' : Ai.cls? P s with
 | none => rw [hs'] at hs; simp [bc] at hs
 | some c =>
  cases c <;> (try (rw [hs'] at hs; simp [bc] at hs; done))
  cases hd' : Ai.cls? P d with
  | none => rw [hd'] at hd; simp [bc] at hd
  | some c' => cases c' <;> first | rfl | (rw [hd'] at hd; simp [bc] at hd; done)
theorem SD : (([] : List X).all FC) = true := rfl
theorem Qj {v : X} {l : List X} : ((v :: l).all FC) = (FC v && l.all FC) := rfl
theorem ok_int {k : IntKind} {n : Int} : FC (.raw (.int k n)) = true := rfl
theorem cn {b : ByteArray} : FC (.raw (.string b)) = true := rfl
theorem dH {a : Option Addr} {l c : Nat} : FC (.raw (.slice a l c)) = true := rfl
theorem dV {a : Option Addr} : FC (.raw (.pointer a)) = true := rfl
theorem gK {f : AQ} {z : Nat} {es : List (List T)} : FC (.sl f z es) = true := rfl
def G9 (v : X) (l : Option (List X)) : Option (List X) := match l with | some l => some (v :: l) | none => none
theorem IU {v : X} {l : List X} : G9 v (some l) = some (v :: l) := rfl
theorem eL {cs : List X} : Jl cs 0 0 = some [] := by simp [Jl]
theorem cu {c : X} {cs : List X} {n : Nat} : Jl (c :: cs) 0 (n + 1) = G9 c (Jl cs 0 n) := by
 simp only [Jl, G9, List.length_cons, Nat.zero_add, List.drop_zero, List.take_succ_cons]
 by_cases hn : n ≤ cs.length
 ·rw [if_pos (by omega), if_pos hn]
 ·rw [if_neg (by omega), if_neg hn]
theorem Zc {c : X} {cs : List X} {o n : Nat} : Jl (c :: cs) (o + 1) n = Jl cs o n := by
 simp only [Jl, List.length_cons, List.drop_succ_cons]
 by_cases hn : o + n ≤ cs.length
 ·rw [if_pos (by omega), if_pos hn]
 ·rw [if_neg (by omega), if_neg hn]
theorem Gi {cs : List X} {n : Nat} (hn : cs.length = n) : Jl cs 0 n = some cs := by subst hn; simp [Jl]
theorem Ot {cs : List X} : Cv cs 0 [] = some cs := by simp [Cv]
theorem Ou {c v : X} {cs vs : List X} : Cv (c :: cs) 0 (v :: vs) = G9 v (Cv cs 0 vs) := by
 simp only [Cv, G9, List.length_cons, Nat.zero_add, List.take_zero, List.nil_append, List.drop_succ_cons, List.cons_append]
 by_cases hn : vs.length ≤ cs.length
 ·rw [if_pos (by omega), if_pos hn]
 ·rw [if_neg (by omega), if_neg hn]
theorem WR {c : X} {cs vs : List X} {o : Nat} : Cv (c :: cs) (o + 1) vs = G9 c (Cv cs o vs) := by
 simp only [Cv, G9, List.length_cons, List.take_succ_cons, List.cons_append]
 by_cases hn : o + vs.length ≤ cs.length
 ·rw [if_pos (by omega), if_pos hn, show o + 1 + vs.length = (o + vs.length) + 1 by omega, List.drop_succ_cons]
 ·rw [if_neg (by omega), if_neg hn]
theorem Jt {off n : Nat} {vs cs : List X} (hn : (vs.length == n) = true) : JN (some (off, n)) (some vs) cs = Cv cs off vs := by
 simp only [JN]; rw [if_pos (by simpa using hn)]
theorem aH {z : Nat} {l : List T} : chunk z 0 l = [] := rfl
theorem Y3 {z n : Nat} {l : List T} : chunk z (n + 1) l = l.take z :: chunk z n (l.drop z) := rfl
def GD (P : Program) (W0 : World) (l : List Oper) (p : PT) (e : E2) (h : H2) (Q : Q2) (_ : Ar (l, p, e, h, Q)) : Prop := JG P W0 l p e h Q
def rK (P : Program) (W0 : World) (l : List Oper) (pd : List Nat) (r : PT) (d : Option Tmp) (e : E2) (Q : Q2) : KT :=
 fun v h' => (∀ q ∈ pd, MT P l q (e.putO d v) h') ∧ JG P W0 l r (e.putO d v) h' Q
def R0 (P : Program) (W0 : World) (l : List Oper) (o : Option Oper) (pd : List Nat) (r : PT) (e : E2) (h : H2) (Q : Q2) (_ : Ar (l, pd, r, e, h, Q)) : Prop := match o with
 | none => False
 | some o => guarded (Dn l e o.guard) (DJ P W0 e h o.op (rK P W0 l pd r o.dst e Q)) (JG P W0 l r (e.putO o.dst (.raw undef)) h Q)
theorem On {l : List Oper} : GD P W0 l .nil e h Q .mk = qz Q .normal e h .mk := rfl
theorem LW {l : List Oper} {i : Nat} {pd : List Nat} {r : PT} : GD P W0 l (.op i pd r) e h Q .mk = R0 P W0 l (Zo l i .mk) pd r e h Q .mk := rfl
theorem Ma {l : List Oper} {pd : List Nat} {r : PT} {d : Option Tmp} {o : Op} {t : TypeId} {p : String} {a : Array Edge} :
  R0 P W0 l (some ⟨d, o, t, p, a, none⟩) pd r e h Q .mk = xz P W0 o e h (rK P W0 l pd r d e Q) .mk := by
 show gate true (DJ P W0 e h o (rK P W0 l pd r d e Q)) _ = DJ P W0 e h o (rK P W0 l pd r d e Q)
 simp only [gate]; exact propext ⟨fun hh => hh.1 trivial, fun hh => ⟨fun _ => hh, fun hf => absurd hf (by simp)⟩⟩
theorem XF {l : List Oper} {pd : List Nat} {r : PT} {d : Option Tmp} {o : Op} {t : TypeId} {p : String} {a : Array Edge} {j : Nat} {b : Bool} :
    R0 P W0 l (some ⟨d, o, t, p, a, some (j, b)⟩) pd r e h Q .mk = gd (Dn l e (some (j, b))) (xz P W0 o e h (rK P W0 l pd r d e Q) .mk) (GD P W0 l r (e.putO d (.raw undef)) h Q .mk) .mk := rfl
def TD (P : Program) (l : List Oper) (pd : List Nat) (e : E2) (h : H2) (_ : Ar (l, e, h)) : Prop := ∀ q ∈ pd, MT P l q e h
theorem kq {l : List Oper} {pd : List Nat} {r : PT} {d : Option Tmp} {v : X} : kz (rK P W0 l pd r d e Q) v h .mk = (TD P l pd (e.putO d v) h .mk ∧ GD P W0 l r (e.putO d v) h Q .mk) := rfl
theorem kr {l : List Oper} {r : PT} {d : Option Tmp} {v : X} : kz (rK P W0 l [] r d e Q) v h .mk = GD P W0 l r (e.putO d v) h Q .mk := by
 simp [kz, rK, GD]
theorem gA {l : List Oper} {q : Nat} {pd : List Nat} {r : PT} {d : Option Tmp} {v : X} : kz (rK P W0 l (q :: pd) r d e Q) v h .mk = (TD P l (q :: pd) (e.putO d v) h .mk ∧ GD P W0 l r (e.putO d v) h Q .mk) := rfl
def WQ : List (Nat × List Nat) → PT
 | [] => .nil
 | (i, pd) :: r => .op i pd (WQ r)
theorem aX {l : List Oper} : GD P W0 l (WQ []) e h Q .mk = qz Q .normal e h .mk := rfl
theorem aN {l : List Oper} {i : Nat} {pd : List Nat} {r : List (Nat × List Nat)} : GD P W0 l (WQ ((i, pd) :: r)) e h Q .mk = R0 P W0 l (Zo l i .mk) pd (WQ r) e h Q .mk := rfl
theorem Oh {l : List Oper} {a b : PT} : GD P W0 l (.alt a b) e h Q .mk = (GD P W0 l a e h Q .mk ∧ GD P W0 l b e h Q .mk) := rfl
theorem Tx : ∀ (p : List (Nat × List Nat)), (WQ p).lin = p.map (·.1)
 | [] => rfl
 | (i, pd) :: r => by simp only [WQ, Ai.PT.lin, List.map_cons, Tx r]
theorem Tm {l : List Oper} : ∀ (p : List (Nat × List Nat)) (D : List Nat), Ai.descOk l D p = true → Ai.descT l [] D (p.map (·.1)) = true
 | [], D, h => rfl
 | (k, pd) :: r, D, h => by
  simp only [Ai.descOk, Bool.and_eq_true] at h
  simp only [List.map_cons, Ai.descT, Bool.and_eq_true, Bool.or_eq_true]
  exact ⟨.inr h.1, Tm r _ h.2⟩
theorem XW {l : List Oper} : ∀ (p : List (Nat × List Nat)) (pre : List Nat), Ai.chk P l pre p = true → (∀ i, i < l.length → i ∈ pre ∨ i ∈ p.map (·.1)) → Ai.chkT P l pre [] (WQ p) = true
 | [], pre, h, hf => by
  simp only [WQ, Ai.chkT]
  rw [List.all_eq_true]
  intro i hi
  rcases hf i (by simpa using hi) with h | h
  ·simpa using h
  ·cases h
 | (i, pd) :: r, pre, h, hf => by
  simp only [Ai.chk, Bool.and_eq_true] at h
  obtain ⟨h1, h2, h3, h4, h5⟩ := h
  have h6 := XW r (i :: pre) h5 fun k hk => by
   rcases hf k hk with h | h
   ·exact .inl (by simp [h])
   ·rcases List.mem_cons.1 h with rfl | h
    ·exact .inl (by simp)
    ·exact .inr h
  simp only [WQ, Ai.chkT, Bool.and_eq_true]
  refine ⟨h1, h2, h3, ?_, h6⟩
  cases he : Ai.effO P l i with
  | false => rfl
  | true =>
   rw [he] at h4
   simp only [Bool.not_true, Bool.false_or, Bool.and_eq_true] at h4 ⊢
   exact ⟨by rw [Tx]; exact Tm r [i] h4.1, h4.2⟩
theorem UJ {l : List Oper} {p : List (Nat × List Nat)} (h : Ij P l p = true) : G5 P l (WQ p) = true := by
 simp only [Ij, Bool.and_eq_true] at h
 obtain ⟨h1, h2, h3⟩ := h
 simp only [G5, Bool.and_eq_true]
 exact ⟨h1, XW p [] h3 fun i hi => .inr (by have := List.all_eq_true.1 h2 i (by simpa using hi); simpa using this)⟩
theorem Py {l : List Oper} (p : PT) (hp : G5 P l p = true) (hr : GD P W0 l p e h Q .mk) : bY P W0 l e h Q .mk := ⟨p, hp, hr⟩
theorem AO {l : List Oper} (p : List (Nat × List Nat)) (hp : Ij P l p = true) (hr : GD P W0 l (WQ p) e h Q .mk) : bY P W0 l e h Q .mk := ⟨WQ p, UJ hp, hr⟩
def Wl (P : Program) (o : Option Oper) (l : List Oper) (e : E2) (h : H2) (_ : Ar (l, e, h)) : Prop := match o with
 | none => True
 | some o => match Dn l e o.guard with
  | some true => (match o.dst with | some d => CE P o.op = true ∧ Kk P e h o.op = some (e d, h) | none => False)
  | some false => True
  | none => False
theorem all_nil {l : List Oper} : TD P l [] e h .mk = True := by simp [TD]
theorem all_cons {l : List Oper} {q : Nat} {pd : List Nat} : TD P l (q :: pd) e h .mk = (Wl P (Zo l q .mk) l e h .mk ∧ TD P l pd e h .mk) := by
 simp only [TD, List.forall_mem_cons]; rfl
def Xs (g : Option Bool) (A : Prop) (_ : Ar A) : Prop := match g with | some true => A | some false => True | none => False
theorem aE {A : Prop} : Xs (some true) A .mk = A := rfl
theorem VD {l : List Oper} {d t : Nat} {ty : TypeId} {x : Operand} {p : String} {a : Array Edge} {q : Option (Nat × Bool)} : Wl P (some ⟨some d, .load t x, ty, p, a, q⟩) l e h .mk = Xs (Dn l e q) (FF P h t (C2 e x .mk) .mk = some (look e d .mk)) .mk := by
 simp only [Wl, Kk, FF, C2, look, CE, Xs]
 cases Dn l e q with
 | none => rfl
 | some b => cases b with
  | false => rfl
  | true => simp only [true_and]; cases HH P h t (e.op x) <;> simp
theorem Q1 {l : List Oper} : Dn l e none = some true := rfl
theorem EA {b : Bool} {A B : Prop} (ha : b = true → A) (hb : b = false → B) : gz b A B .mk := ⟨ha, hb⟩
theorem AN {p : Prop} [Decidable p] {A B : Prop} (ha : p → A) (hb : ¬ p → B) : gz (decide p) A B .mk := ⟨fun h => ha (of_decide_eq_true h), fun h => hb (of_decide_eq_false h)⟩
theorem DZ {b : Code} (I : Nat → E2 → H2 → Prop) (n : Nat) (h0 : I n e h) (hr : ∀ n e h, I n e h → cz P W0 D b e h (IQ I n Q) .mk) : lz P W0 D b e h Q .mk := ⟨I, n, h0, hr⟩
theorem AA {f : FuncId} {a : List X} {K0 : KT} (c : A7 P W0 f a h K0) (hk : ∀ v h', K0 v h' → kz K v h' .mk) : wz P W0 f a h K .mk := c.mono hk
theorem start (cp : List (List Nat)) {f : FuncId} {fn : Func} {c : Code} (hm : P.follows .mixedOrders = true) (hf : P.funcs[f]? = some fn) (hb : fn.body = some c)
    (hname : (fn.name != "runtime.NumGoroutine") = true) (hok : Bc fn.ntmps (fun _ => true) c = true) {rs : List ResultVar} (hrs : fn.results.toList = rs) {args : List X} {nt : Nat} (hnt : fn.ntmps = nt) (hlen : args.length ≤ nt)
    (hv : (∀ b, hn h .mk ≤ b → hg h b .mk = none) → cz P W0 (SV cp) c (HX args) h (Qu P rs K) .mk) : A7 P W0 f args h K := Pv (cp := SV cp) hm hf hb hname hok (by rw [hnt]; exact hlen) (by rw [hrs]; exact hv)
attribute [go_sem] iB gh and_self decide_true decide_false Bool.not_true Bool.not_false ne_eq not_false_eq_true Nat.zero_add Nat.add_zero Nat.mul_one
attribute [go_sem] df dh YJ FB HI KF T2 XB Xb Rl MK of_int of_bool cm fS cw ZH Jo IM Ap BA FO Ti AB AG Bh AF Q3 YR Sl W9 Ow CV SP Me J6 XC YT Oc Mg ON Lt cQ da RX Rx O8 SR S4 SH LZ MF LV OV O9 OZ dc R3 Ss Ig Rh ZR iK gx iP iN aD W7 Zh de ca Q4 Sm cN Rg N6 fh Xi X3 Yp Hm Hd PU Xa XP RZ N5 LP LY O4 LU Ud R5 MR Sa S9 Si Su ZI cJ X6 Sb aP fj Xr Xh eU dq Vg Uo aQ QW G2 Uc dS J5 Ir U5 VL Jk Zw YQ List.map_cons List.map_nil RU YB XL J2 iA eM eJ X1 R4 eK MQ Zk av Za ZZ XH fQ fN WT Zm Ux KE WH UA Xx Wa aT ax dJ cH Wg XU cM eX ct gN gv hJ Y8 N9 RN Sd bx ai dP SD Qj ok_int cn dH dV gK IU eL cu Zc Ot Ou WR Jt aH Y3 On LW aX aN Ma XF gA all_nil all_cons aE VD Q1 List.take_succ_cons List.take_zero List.drop_succ_cons List.drop_zero
end Go.Bi
namespace Go.Bi
open Go.Ai (Ar Heap)
variable {P : Program} {W0 : World} {D : Nat → Option (List Nat)} {e : E2} {g h : H2} {Q : Q2} {K : KT}
def H2.le (g g' : H2) : Prop := hn g .mk ≤ hn g' .mk ∧ ∀ b, b < hn g .mk → hg g' b .mk = hg g b .mk
theorem H2.le.refl (g : H2) : g.le g := ⟨Nat.le_refl _, fun _ _ => rfl⟩
theorem H2.le.trans {a b c : H2} (x : a.le b) (y : b.le c) : a.le c := ⟨Nat.le_trans x.1 y.1, fun q hq => (y.2 q (Nat.lt_of_lt_of_le hq x.1)).trans (x.2 q hq)⟩
theorem H2.le.n {g g' : H2} (x : g.le g') : hn g .mk ≤ hn g' .mk := x.1
theorem le_push {g g' : H2} {k : OB} (l : g.le g') : g.le (g'.push k) :=
 ⟨by rw [AB]; have := l.1; omega, fun b hb => by
  rw [Ap]
  have : (b == hn g' .mk) = false := by have := l.1; simp; omega
  rw [this]; exact l.2 b hb⟩
theorem AK {g g' : H2} {n : Nat} (l : g.le g') (hn' : hn g' .mk ≤ n) : g.le (g'.up n) := ⟨Nat.le_trans l.1 hn', fun b hb => l.2 b hb⟩
theorem HO {g g' : H2} (l : g.le g') : g.le (g'.up (hn g' .mk + 1)) := AK l (Nat.le_succ _)
theorem CF {g g' : H2} {b : Nat} {k : OB} (l : g.le g') (hb : hn g .mk ≤ b) : g.le (g'.set b k) :=
 ⟨l.1, fun c hc => by
  rw [BA]
  have : (c == b) = false := by simp; omega
  rw [this]; exact l.2 c hc⟩
theorem JF {g g' : H2} {b : Nat} (l : g.le g') (hb : hn g .mk ≤ b) : g.le (g'.kill b) :=
 ⟨l.1, fun c hc => by
  rw [FO]
  have : (c == b) = false := by simp; omega
  rw [this]; exact l.2 c hc⟩
def AP : X → Option Nat
 | .raw (.slice (some a) _ _) => some a.block
 | _ => none
def Own (N : Nat) (g : H2) (v : X) (z n : Nat) (cs : List X) : Prop :=
 cs.length = n * z ∧ ((v = .raw (.slice none 0 0) ∧ n = 0) ∨ ∃ b, v = .raw (.slice (some ⟨b, 0, none⟩) n n) ∧ N ≤ b ∧ b < hn g .mk ∧ hg g b .mk = some ⟨z, cs⟩)
theorem Own.keep {N : Nat} {g g' : H2} {v : X} {z n : Nat} {cs : List X} (o : Own N g v z n cs) (l : g.le g') : Own N g' v z n cs := by
 obtain ⟨h1, h3⟩ := o
 refine ⟨h1, h3.imp_right ?_⟩
 rintro ⟨b, e1, e2, e3, e4⟩
 exact ⟨b, e1, e2, Nat.lt_of_lt_of_le e3 l.n, by rw [l.2 b e3]; exact e4⟩
theorem Own.nil {N : Nat} {g : H2} {z : Nat} : Own N g (.raw (.slice none 0 0)) z 0 [] := ⟨by simp, .inl ⟨rfl, rfl⟩⟩
theorem Own.new {N z n : Nat} {cs : List X} (hN : N ≤ hn g .mk) (hl : cs.length = n * z) : Own N (g.push ⟨z, cs⟩) (.raw (.slice (some ⟨hn g .mk, 0, none⟩) n n)) z n cs :=
 ⟨hl, .inr ⟨_, rfl, hN, by rw [AB]; omega, by rw [Ap, show (hn g .mk == hn g .mk) = true by simp]; rfl⟩⟩
theorem aU {N z n : Nat} {v : X} {cs : List X} (o : Own N g v z n cs) : E0 g z v = some (n, cs) := by
 obtain ⟨h1, h2⟩ := o
 rcases h2 with ⟨rfl, rfl⟩ | ⟨b, rfl, h3, h4, h5⟩
 ·have : cs = [] := List.eq_nil_of_length_eq_zero (by omega)
  subst this; rfl
 ·have h5 : g.get b = some ⟨z, cs⟩ := h5
  simp only [E0, h5, Gi h1, Option.map_some]
theorem DO {t u U z y N n m : Nat} {zs : List Value} {cs news : List X} {x v : X} (he : Ai.elt? P t = some (U, z + 1, y)) (hz : Ai.zr? P U = some zs) (hl : zs.length = z + 1) (hu : Ai.cls? P u = some .sl)
    (hx : Own N g x (z + 1) n cs) (hN0 : N ≤ hn g .mk) (hs : E0 g (z + 1) v = some (m, news)) (hlen : news.length = m * (z + 1)) (hok : news.all FC = true) (hn0 : (n + m) * (y + 1) ≤ Ai.most)
    (hk : ∀ v' g', Own N g' v' (z + 1) (n + m) (cs ++ news) → hn g .mk ≤ hn g' .mk → (∀ g0 : H2, hn g0 .mk ≤ N → g0.le g → g0.le g') → (∀ b, b < hn g .mk → AP x ≠ some b → hg g' b .mk = hg g b .mk) → kz K v' g' .mk) :
    az (EN P g .append [t, u] [x, v] .mk) K .mk := by
  obtain ⟨hlen0, hcase⟩ := hx
  have key : ∀ a, x = .raw (.slice a n n) → EN P g .append [t, u] [x, v] .mk = (if m = 0 then some (.raw (.slice a n n), g) else
        match a with
        | none => some (.raw (.slice (some ⟨g.n, 0, none⟩) m m), g.push ⟨z + 1, news⟩)
        | some a => match g.get a.block with
          | some k => if k.z = z + 1 ∧ a.off = 0 then (Jl k.cs 0 (n * (z + 1))).map fun olds => (.raw (.slice (some ⟨g.n, 0, none⟩) (n + m) (n + m)), (g.kill a.block).push ⟨z + 1, olds ++ news⟩) else none
          | none => none) := by
    intro a ha
    subst ha
    simp only [EN, B1, hu, Gb, he, hs, hz]
    rw [if_pos ⟨hl, hn0, hok⟩]
    rfl
  have hmv : ∀ b : Nat, (b == b) = true := by simp
  rcases hcase with ⟨rfl, rfl⟩ | ⟨b, rfl, hNb, hbn, hb⟩
  · have hcs : cs = [] := List.eq_nil_of_length_eq_zero (by omega)
    subst hcs
    rw [key none rfl]
    by_cases hm : m = 0
    · subst hm
      have hnews : news = [] := List.eq_nil_of_length_eq_zero (by omega)
      subst hnews
      rw [if_pos rfl]
      exact hk _ _ ⟨by simp, .inl ⟨rfl, rfl⟩⟩ (Nat.le_refl _) (fun g0 _ l => l) fun _ _ _ => rfl
    · rw [if_neg hm]
      refine hk _ _ ⟨by simpa using hlen, .inr ⟨g.n, ?_, hN0, ?_, ?_⟩⟩ ?_ ?_ ?_
      · simp
      · rw [AB]; exact Nat.lt_succ_self _
      · rw [Ap]; show Go.Bi.hk (g.n == g.n) _ _ _ _ = _; rw [hmv]; rfl
      · rw [AB]; omega
      · intro g0 _ l0; exact le_push l0
      · intro b' hb' _
        rw [Ap, show (b' == hn g .mk) = false by simp; omega]; rfl
  · have hb' : g.get b = some ⟨z + 1, cs⟩ := hb
    rw [key _ rfl]
    by_cases hm : m = 0
    · subst hm
      have hnews : news = [] := List.eq_nil_of_length_eq_zero (by omega)
      subst hnews
      rw [if_pos rfl]
      exact hk _ _ ⟨by simpa using hlen0, .inr ⟨b, rfl, hNb, hbn, by simpa using hb⟩⟩ (Nat.le_refl _) (fun g0 _ l => l) fun _ _ _ => rfl
    · rw [if_neg hm]
      simp only [hb']
      rw [if_pos ⟨trivial, trivial⟩, Gi hlen0]
      have hne : (b == hn g .mk) = false := by simp; omega
      refine hk _ _ ⟨by simp [hlen0, hlen, Nat.add_mul], .inr ⟨g.n, rfl, ?_, ?_, ?_⟩⟩ ?_ ?_ ?_
      · unfold hn at hbn; omega
      · rw [AB, Bh]; exact Nat.lt_succ_self _
      · rw [Ap, Bh]; show Go.Bi.hk (g.n == g.n) _ _ _ _ = _; rw [hmv]; rfl
      · rw [AB, Bh]; omega
      · intro g0 hN l0; exact le_push (JF l0 (by omega))
      · intro b' hb2 hne'
        have hbb : (b' == b) = false := by
          have : ¬ b' = b := fun e => hne' (by rw [e]; rfl)
          simp [this]
        rw [Ap, Bh, show (b' == hn g .mk) = false by simp; omega, FB, FO, hbb]; rfl
inductive H9 (p : Nat → Prop) : AQ → T → Prop
 | v {f : AQ} {x : Value} : H9 p f (.v x)
 | l {f : AQ} {z : Nat} {es : List (List T)} : (∀ a n c, f [] = .slice (some a) n c → p a.block) → (∀ i j t, ((es[i]?).bind (·[j]?)) = some t → H9 p (below f i j) t) → H9 p f (.l z es)
inductive Bu (p : Nat → Prop) : X → Prop
 | raw {x : Value} : Bu p (.raw x)
 | sl {f : AQ} {z : Nat} {es : List (List T)} : H9 p f (.l z es) → Bu p (.sl f z es)
 | pr {a : Value} {f : AQ} {ts : List T} : (∀ q, a = .pointer (some q) → p q.block) → (∀ j t, ts[j]? = some t → H9 p (under f j) t) → Bu p (.pr a f ts)
 | st {xs : List X} : (∀ x ∈ xs, Bu p x) → Bu p (.st xs)
 | tp {xs : List X} : (∀ x ∈ xs, Bu p x) → Bu p (.tp xs)
theorem H9.imp {p q : Nat → Prop} (hpq : ∀ b, p b → q b) {f : AQ} {t : T} (a : H9 p f t) : H9 q f t := by
 induction a with
 | v => exact .v
 | l h1 _ ih => exact .l (fun a n c e => hpq _ (h1 a n c e)) ih
theorem Bu.imp {p q : Nat → Prop} (hpq : ∀ b, p b → q b) {x : X} (a : Bu p x) : Bu q x := by
 induction a with
 | raw => exact .raw
 | sl h1 => exact .sl (h1.imp hpq)
 | pr h1 h2 => exact .pr (fun q e => hpq _ (h1 q e)) fun j t ht => (h2 j t ht).imp hpq
 | st _ ih => exact .st ih
 | tp _ ih => exact .tp ih
theorem H9.true {f : AQ} {t : T} {h : Heap} {g : H2} (r : Ja h g f t) : H9 (fun _ => True) f t := by
 induction r with
 | v => exact .v
 | o h1 => exact .l (fun _ _ _ _ => trivial) (by simp)
 | l a c h1 h2 h3 h4 ih => exact .l (fun _ _ _ _ => trivial) ih
theorem Ja.weaken {h : Heap} {g g' : H2} {f : AQ} {t : T} {p : Nat → Prop} (r : Ja h g f t) (a : H9 p f t) (hw : ∀ b, p b → g.get b = none → g'.get b = none) : Ja h g' f t := by
 induction r with
 | v h1 => exact .v h1
 | o h1 => exact .o h1
 | l q c h1 h2 h3 h4 ih =>
  cases a with
  | l a1 a2 =>
   refine .l q c h1 h2 (h3.imp_right ?_) fun i j t ht => ih i j t ht (a2 i j t ht)
   rintro ⟨b, off, w, k, cs, rfl, e2, e3, e4⟩
   exact ⟨b, off, w, k, cs, rfl, e2, hw b (a1 _ _ _ h1) e3, e4⟩
theorem Ok.weaken {h : Heap} {g g' : H2} {x : X} {p : Nat → Prop} (r : Ok h g x) (a : Bu p x) (hw : ∀ b, p b → g.get b = none → g'.get b = none) : Ok h g' x := by
 induction r with
 | raw => exact .raw
 | sl h1 => cases a with | sl a1 => exact .sl (h1.weaken a1 hw)
 | pr h1 h2 h3 h0 h4 h5 => cases a with | pr a1 a2 => exact .pr h1 (hw _ (a1 _ rfl) h2) h3 h0 h4 fun j t ht => (h5 j t ht).weaken (a2 j t ht) hw
 | st _ ih => cases a with | st a1 => exact .st fun x hx => ih x hx (a1 x hx)
 | tp _ ih => cases a with | tp a1 => exact .tp fun x hx => ih x hx (a1 x hx)
theorem Ok.all {h : Heap} {g : H2} {x : X} (r : Ok h g x) : Bu (fun _ => True) x := by
 induction r with
 | raw => exact .raw
 | sl h1 => exact .sl (H9.true h1)
 | pr h1 h2 h3 h0 h4 h5 => exact .pr (fun _ _ => trivial) fun j t ht => H9.true (h5 j t ht)
 | st _ ih => exact .st ih
 | tp _ ih => exact .tp ih
inductive Fz (p q : Nat → Prop) (g : H2) : X → X → Prop
  | raw {v : Value} : Fz p q g (.raw v) (.raw v)
  | nil {z : Nat} : Fz p q g (.raw (.slice none 0 0)) (.sl (fun _ => .slice none 0 0) z [])
  | own {b n z : Nat} {cs cs' : List X} {ts : List T} : g.get b = some ⟨z, cs⟩ → p b → cs.length = n * z → cs'.length = cs.length → (∀ i (hi : i < cs.length) (hi' : i < cs'.length), Fz p q g cs[i] cs'[i]) → CR cs' = some ts →
      Fz p q g (.raw (.slice (some ⟨b, 0, none⟩) n n)) (.sl (FY b n z cs') z (chunk z n ts))
  | sl {f : AQ} {z : Nat} {es : List (List T)} : Bu q (.sl f z es) → Fz p q g (.sl f z es) (.sl f z es)
  | st {xs ys : List X} : ys.length = xs.length → (∀ i (hi : i < xs.length) (hi' : i < ys.length), Fz p q g xs[i] ys[i]) → Fz p q g (.st xs) (.st ys)
  | tp {xs ys : List X} : ys.length = xs.length → (∀ i (hi : i < xs.length) (hi' : i < ys.length), Fz p q g xs[i] ys[i]) → Fz p q g (.tp xs) (.tp ys)
theorem RA {xs ys : List X} (hl : ys.length = xs.length) (h : ∀ i (hi : i < xs.length) (hi' : i < ys.length), er xs[i] = er ys[i]) : ys.map er = xs.map er := by
 apply List.ext_getElem (by simp [hl])
 intro i h1 h2
 simp at h1 h2
 simp [h i h2 h1]
theorem Fz.er {p q : Nat → Prop} {g : H2} {x y : X} (z : Fz p q g x y) : Bi.er y = Bi.er x := by
 induction z with
 | raw => rfl
 | nil => rfl
 | own => rfl
 | sl => rfl
 | st hl _ ih => simp only [Bi.er, C0]; rw [RA hl fun i hi hi' => (ih i hi hi').symm]
 | tp hl _ ih => simp only [Bi.er, C0]; rw [RA hl fun i hi hi' => (ih i hi hi').symm]
theorem eA {g1 : H2} {h : Heap} {b n z : Nat} {cs cs' : List X} {ts : List T} (hb : b < h.n) (hg1 : g1.get b = none) (hh : h.get b = some ⟨true, z, cs.map er⟩) (hl : cs.length = n * z) (hl' : cs'.length = cs.length)
  (he : cs'.map er = cs.map er) (o : ∀ x ∈ cs', Ok h g1 x) (ht : CR cs' = some ts) : Ok h g1 (.sl (FY b n z cs') z (chunk z n ts)) := by
 obtain ⟨t1, t2⟩ := GC ht
 refine .sl (.l (some ⟨b, 0, none⟩) n (by simp only [FY, GJ]) (J3 (by rw [t1, hl', hl])) (.inr ⟨b, 0, true, z, cs.map er, rfl, hb, hg1, hh, fun _ => rfl, Nat.zero_le _, fun i j hi hj => ?_⟩) fun i j t ht => ?_)
 ·rw [GJ] at hi
  have hlt : i * z + j < cs'.length := by
   have : i * z + z ≤ n * z := by rw [← Nat.succ_mul]; exact Nat.mul_le_mul_right z hi
   omega
  rw [Nat.zero_add, ← he, List.getElem?_map, List.getElem?_eq_getElem hlt]
  simp only [Option.map_some, FY, List.getD_eq_getElem?_getD, List.getElem?_eq_getElem hlt, Option.getD_some]
  cases cs'[i * z + j] <;> rfl
 ·obtain ⟨c1, c2⟩ := Hr ht
  obtain ⟨x, x1, x2⟩ := t2 _ _ c2
  refine NX (o x (List.mem_of_getElem? x1)) x2 fun p => ?_
  simp only [below, FY, List.getD_eq_getElem?_getD, x1, Option.getD_some]
theorem Fz.ok {p q : Nat → Prop} {g g1 : H2} {h : Heap} (s : S g h) (hw : ∀ b, q b → g.get b = none → g1.get b = none) (hp : ∀ b, p b → g1.get b = none) {x y : X} (fz : Fz p q g x y) : Ok h g x → Ok h g1 y := by
 induction fz with
 | raw => intro _; exact .raw
 | nil => intro _; exact .sl (.l none 0 rfl (by simp) (.inl ⟨rfl, rfl⟩) (by simp))
 | own h1 h2 h3 h4 h5 h6 ih =>
  intro _
  rename_i b n z cs cs' ts
  obtain ⟨s1, s2, s3⟩ := s.row _ _ h1
  refine eA s1 (hp _ h2) s2 h3 h4 (RA h4 fun i hi hi' => ((h5 i hi hi').er).symm) (fun x hx => ?_) h6
  obtain ⟨i, hi, rfl⟩ := List.getElem_of_mem hx
  exact ih i (by omega) hi (s3 _ (List.getElem_mem _))
 | sl a => intro o; exact o.weaken a hw
 | st hl _ ih =>
  intro o
  cases o with
  | st o =>
   refine .st fun x hx => ?_
   obtain ⟨i, hi, rfl⟩ := List.getElem_of_mem hx
   exact ih i (by omega) hi (o _ (List.getElem_mem _))
 | tp hl _ ih =>
  intro o
  cases o with
  | tp o =>
   refine .tp fun x hx => ?_
   obtain ⟨i, hi, rfl⟩ := List.getElem_of_mem hx
   exact ih i (by omega) hi (o _ (List.getElem_mem _))
theorem ZE {r : Nat → Prop} {x : X} {t : T} (a : Bu r x) (ht : Jc x = some t) : H9 r (fun p => Qe p x) t := by
 cases a with
 | raw => simp only [Jc] at ht; split at ht <;> cases ht; exact .v
 | sl a => simp only [Jc, Option.some.injEq] at ht; subst ht; exact a
 | _ => simp [Jc] at ht
theorem Fz.all {p q r : Nat → Prop} {g : H2} (hpr : ∀ b, p b → r b) (hqr : ∀ b, q b → r b) {x y : X} (fz : Fz p q g x y) : Bu r y := by
 induction fz with
 | raw => exact .raw
 | nil => exact .sl (.l (by simp) (by simp))
 | own h1 h2 h3 h4 h5 h6 ih =>
  rename_i b n z cs cs' ts
  obtain ⟨t1, t2⟩ := GC h6
  refine .sl (.l (fun a n c e => ?_) fun i j t ht => ?_)
  ·simp only [FY] at e; cases e; exact hpr _ h2
  ·obtain ⟨c1, c2⟩ := Hr ht
   obtain ⟨x, x1, x2⟩ := t2 _ _ c2
   obtain ⟨hi, hx⟩ := List.getElem?_eq_some_iff.1 x1
   have hh := ih (i * z + j) (by omega) hi
   rw [hx] at hh
   have e1 : Bi.below (FY b n z cs') i j = fun p => Qe p x := by
    funext p; simp only [Bi.below, FY, List.getD_eq_getElem?_getD, x1, Option.getD_some]
   rw [e1]
   exact ZE hh x2
 | sl a => exact a.imp hqr
 | st hl _ ih =>
  refine .st fun x hx => ?_
  obtain ⟨i, hi, rfl⟩ := List.getElem_of_mem hx
  exact ih i (by omega) hi
 | tp hl _ ih =>
  refine .tp fun x hx => ?_
  obtain ⟨i, hi, rfl⟩ := List.getElem_of_mem hx
  exact ih i (by omega) hi
end Go.Bi
namespace Go.Bi
open Go.Ai (Ar Heap WC)
variable {P : Program} {W0 : World} {g : H2} {K : KT}
theorem S.wf {h : Heap} (s : S g h) : ∀ b, hn g .mk ≤ b → g.get b = none := fun b hb => by
 cases hk : g.get b with
 | none => rfl
 | some k => have := (s.row _ _ hk).1; have h2 := s.n; unfold hn at hb; omega
def PW (P : Program) (W0 : World) (f : FuncId) (xs : List X) (g : H2) (Q : X → Prop) : Prop :=
 A7 P W0 f xs g fun y g' => g' = g.up (hn g' .mk) ∧ hn g .mk ≤ hn g' .mk ∧ Q y
theorem PW.mono {f : FuncId} {xs : List X} {Q Q' : X → Prop} (c : PW P W0 f xs g Q) (hq : ∀ y, Q y → Q' y) : PW P W0 f xs g Q' := A7.mono c fun y g' ⟨h1, h2, h3⟩ => ⟨h1, h2, hq y h3⟩
theorem PW.of {q : Nat → Prop} {f : FuncId} {xs : List X} {Q : X → Prop} (c : A7 P W0 f xs g fun x g' => g.le g' ∧ ∃ y, Fz (fun b => hn g .mk ≤ b) q g' x y ∧ Q y) :
  PW P W0 f xs g fun y => Q y ∧ Bu (fun b => hn g .mk ≤ b ∨ q b) y := by
 intro h s o
 refine (c h s o).mono ?_
 rintro v h' ⟨x, g', rfl, s', x', o', le, y, fz, hq⟩
 have hx : Ext g h (g.up (hn g' .mk)) h' := ⟨x'.n, x'.keep, fun _ _ h => h⟩
 refine ⟨y, g.up (hn g' .mk), fz.er.symm, ⟨s'.n, fun b k hk => ?_⟩, hx, ?_, rfl, le.1, hq, fz.all (fun _ h => .inl h) (fun _ h => .inr h)⟩
 ·obtain ⟨r1, r2, r3⟩ := s.row b k hk
  have hb : b < hn g .mk := by unfold hn; rw [s.n]; exact r1
  have hk' : g'.get b = some k := (le.2 b hb).trans hk
  obtain ⟨q1, q2, q3⟩ := s'.row b k hk'
  exact ⟨q1, q2, fun x hx2 => (r3 x hx2).mono hx⟩
 ·refine fz.ok (g1 := g.up (hn g' .mk)) s' (fun b _ hb => ?_) (fun b hb => s.wf b hb) o'
  by_cases hlt : b < hn g .mk
  ·exact (le.2 b hlt).symm.trans hb
  ·exact s.wf b (by omega)
theorem PW.scalar {f : FuncId} {xs : List X} {Q : X → Prop} (c : A7 P W0 f xs g fun x g' => g.le g' ∧ (∃ v, x = .raw v) ∧ Q x) : PW P W0 f xs g Q :=
 (PW.of (q := fun _ => True) (Q := Q) (c.mono fun x g' ⟨h1, ⟨v, h2⟩, h3⟩ => ⟨h1, x, by subst h2; exact .raw, h3⟩)).mono fun y h => h.1
theorem AD {f : FuncId} {xs : List X} {Q : X → Prop} (c : PW P W0 f xs g Q) (hk : ∀ y n, hn g .mk ≤ n → Q y → kz K y (g.up n) .mk) : wz P W0 f xs g K .mk :=
 A7.mono c fun y g' ⟨h1, h2, h3⟩ => by have := hk y _ h2 h3; rw [← h1] at this; exact this
def H2.bare (g : H2) : H2 := ⟨g.n, fun _ => none⟩
abbrev Wh (g : H2) : X → X → Prop := Fz (fun _ => True) (fun _ => True) g
inductive Fu (g : H2) : List X → List X → Prop
 | nil : Fu g [] []
 | cons {x y : X} {xs ys : List X} : Wh g x y → Fu g xs ys → Fu g (x :: xs) (y :: ys)
theorem Fu.er : ∀ {xs ys : List X}, Fu g xs ys → ys.map Bi.er = xs.map Bi.er
 | _, _, .nil => rfl
 | _, _, .cons a b => by simp only [List.map_cons, Fz.er a, b.er]
theorem S.bare {h : Heap} (s : S g h) : S g.bare h := ⟨s.n, fun b k hk => by cases hk⟩
theorem Fu.ok {h : Heap} (s : S g h) : ∀ {xs ys : List X}, Fu g xs ys → (∀ x ∈ xs, Ok h g x) → ∀ y ∈ ys, Ok h g.bare y
 | _, _, .nil, _, y, hy => by cases hy
 | _, _, .cons a b, o, y, hy => by
  rcases List.mem_cons.1 hy with rfl | hy
  ·exact a.ok s (fun _ _ _ => rfl) (fun _ _ => rfl) (o _ (by simp))
  ·exact b.ok s (fun x hx => o x (by simp [hx])) y hy
theorem S.back {h h' : Heap} {n : Nat} (s : S g h) (x : Ext g.bare h (g.bare.up n) h') (hn' : n = h'.n) : S (g.up n) h' ∧ Ext g h (g.up n) h' := by
 have hx : Ext g h (g.up n) h' := ⟨x.n, fun b hb _ => x.keep b hb rfl, fun _ _ h => h⟩
 refine ⟨⟨hn', fun b k hk => ?_⟩, hx⟩
 obtain ⟨r1, r2, r3⟩ := s.row b k hk
 exact ⟨Nat.lt_of_lt_of_le r1 x.n, by rw [x.keep b r1 rfl]; exact r2, fun y hy => (r3 y hy).mono hx⟩
theorem PW.lend {f : FuncId} {xs ys : List X} {Q : X → Prop} (hl : Fu g xs ys) (c : PW P W0 f ys g.bare Q) (hq : ∀ y, Q y → Bu (fun b => hn g .mk ≤ b) y) : PW P W0 f xs g Q := by
 intro h s o
 rw [← hl.er]
 refine (c h s.bare (hl.ok s o)).mono ?_
 rintro v h' ⟨y, g', rfl, s', x', o', h1, h2, h3⟩
 obtain ⟨n', rfl⟩ : ∃ n, g' = g.bare.up n := ⟨_, h1⟩
 obtain ⟨b1, b2⟩ := s.back x' s'.n
 exact ⟨y, g.up n', rfl, b1, b2, o'.weaken (hq y h3) fun b hb _ => s.wf b hb, rfl, h2, h3⟩
def gk (P : Program) (W0 : World) (f : FuncId) (xs : List X) (g : H2) (z : Nat) (cs : List X) : Prop :=
 A7 P W0 f xs g fun x g' => g.le g' ∧ ∃ n, Own (hn g .mk) g' x z n cs
theorem A7.lendOwn {f : FuncId} {xs ys : List X} {z : Nat} {cs : List X} (hl : Fu g xs ys) (c : gk P W0 f ys g.bare z cs) (hcs : ∀ x ∈ cs, ∃ v, x = .raw v) : gk P W0 f xs g z cs := by
 intro h s o
 rw [← hl.er]
 refine (c h s.bare (hl.ok s o)).mono ?_
 rintro v h' ⟨y, g', rfl, s', x', o', le, n, ow⟩
 have hx : Ext g.bare h (g.bare.up h'.n) h' := ⟨x'.n, x'.keep, fun _ _ h => h⟩
 obtain ⟨b1, b2⟩ := s.back hx rfl
 obtain ⟨hlen, hcase⟩ := ow
 rcases hcase with ⟨rfl, rfl⟩ | ⟨b, rfl, hb1, hb2, hb3⟩
 ·refine ⟨_, g.up h'.n, rfl, b1, b2, .raw, ⟨?_, fun _ _ => rfl⟩, 0, hlen, .inl ⟨rfl, rfl⟩⟩
  have := x'.n; have := s.n; simp only [AF]; unfold hn; omega
 ·obtain ⟨r1, r2, r3⟩ := s'.row b _ hb3
  have hn1 : hn g .mk = h.n := s.n
  have hb1' : h.n ≤ b := by have : hn g.bare .mk = hn g .mk := rfl; omega
  let g2 : H2 := (g.up h'.n).set b ⟨z, cs⟩
  have hx2 : Ext g h g2 h' := ⟨x'.n, fun c hc _ => x'.keep c hc rfl, fun c hc hg => by
   have : ¬ c = b := by omega
   simp [g2, H2.set, H2.up, this, hg]⟩
  refine ⟨_, g2, rfl, ⟨rfl, fun c k hk => ?_⟩, hx2, .raw, ⟨?_, fun c hc => ?_⟩, n, hlen, .inr ⟨b, rfl, hb1, r1, ?_⟩⟩
  ·simp only [g2, H2.set] at hk
   split at hk
   ·rename_i e; subst e; cases hk
    exact ⟨r1, r2, fun x hx => by obtain ⟨v, rfl⟩ := hcs x hx; exact .raw⟩
   ·obtain ⟨q1, q2, q3⟩ := s.row c k hk
    exact ⟨Nat.lt_of_lt_of_le q1 x'.n, by rw [x'.keep c q1 rfl]; exact q2, fun y hy => (q3 y hy).mono hx2⟩
  ·have := x'.n; show hn g .mk ≤ h'.n; omega
  ·show g2.get c = g.get c
   have : ¬ c = b := by omega
   simp [g2, H2.set, H2.up, this]
  ·show g2.get b = _
   simp [g2, H2.set]
theorem Own.fz {p q : Nat → Prop} {N z n : Nat} {x : X} {cs : List X} {ts : List T} (o : Own N g x z n cs) (hp : ∀ b, N ≤ b → p b) (hc : ∀ c ∈ cs, Fz p q g c c) (ht : CR cs = some ts) : ∃ f, Fz p q g x (.sl f z (chunk z n ts)) := by
 obtain ⟨hlen, hcase⟩ := o
 rcases hcase with ⟨rfl, rfl⟩ | ⟨b, rfl, hb1, hb2, hb3⟩
 ·exact ⟨_, .nil⟩
 ·exact ⟨_, .own (cs' := cs) hb3 (hp b hb1) hlen rfl (fun i hi hi' => hc _ (List.getElem_mem hi)) ht⟩
def eI (n : Int) : List T := [.v (.int .i64 n)]
theorem eE {n : Int} : eI n = [.v (.int .i64 n)] := rfl
def cI (n : Int) : X := .raw (.int .i64 n)
def ints (zs : List Int) : List (List T) := zs.map eI
theorem Ff {zs : List Int} : (ints zs).length = zs.length := by simp [ints]
theorem Z0 {zs : List Int} {i : Nat} (hi : i < zs.length) : el (ints zs) i = eI (zs.getD i default) := Gg hi
theorem Jv : ∀ {zs : List Int}, CR (zs.map cI) = some (zs.map fun n => .v (.int .i64 n))
 | [] => rfl
 | z :: zs => by simp only [List.map_cons, Hm, cI, PU, Jv, Hd]
theorem IY : ∀ {zs : List Int}, chunk 1 zs.length (zs.map fun n => T.v (.int .i64 n)) = ints zs
 | [] => rfl
 | z :: zs => by simp only [List.length_cons, List.map_cons, chunk, List.take_succ_cons, List.take_zero, List.drop_succ_cons, List.drop_zero, IY, ints, eI]
def Al (N : Nat) (g : H2) (v : X) (zs : List Int) : Prop := Own N g v 1 zs.length (zs.map cI)
theorem Al.keep {N : Nat} {g g' : H2} {v : X} {zs : List Int} (o : Al N g v zs) (l : g.le g') : Al N g' v zs := Own.keep o l
theorem Al.fz {p q : Nat → Prop} {N : Nat} {x : X} {zs : List Int} (o : Al N g x zs) (hp : ∀ b, N ≤ b → p b) : ∃ f, Fz p q g x (.sl f 1 (ints zs)) := by
 have := Own.fz (p := p) (q := q) o hp (fun c hc => by obtain ⟨z, _, rfl⟩ := List.mem_map.1 hc; exact .raw) Jv
 rwa [IY] at this
theorem Al.lent {N : Nat} {x : X} {zs : List Int} (o : Al N g x zs) : ∃ f, Wh g x (.sl f 1 (ints zs)) := o.fz fun _ _ => trivial
theorem Mq {v : Value} : Wh g (.raw v) (.raw v) := Fz.raw
abbrev PI (P : Program) (W0 : World) (f : FuncId) (xs : List X) (g : H2) (zs : List Int) : Prop := A7 P W0 f xs g fun x g' => g.le g' ∧ Al (hn g .mk) g' x zs
theorem PI.pw {f : FuncId} {xs : List X} {zs : List Int} (c : PI P W0 f xs g zs) : PW P W0 f xs g fun y => (∃ f, y = .sl f 1 (ints zs)) ∧ Bu (fun b => hn g .mk ≤ b) y := by
 refine (PW.of (q := fun b => hn g .mk ≤ b) (Q := fun y => ∃ f, y = .sl f 1 (ints zs)) (c.mono ?_)).mono fun y ⟨h1, h2⟩ => ⟨h1, h2.imp fun b hb => hb.elim id id⟩
 rintro x g' ⟨le, ow⟩
 obtain ⟨f, hf⟩ := ow.fz (p := fun b => hn g .mk ≤ b) (q := fun b => hn g .mk ≤ b) fun _ h => h
 exact ⟨le, _, hf, f, rfl⟩
theorem PI.lend {f : FuncId} {xs ys : List X} {zs : List Int} (hl : Fu g xs ys) (c : PI P W0 f ys g.bare zs) : PI P W0 f xs g zs := by
 have c' : gk P W0 f ys g.bare 1 (zs.map cI) := c.mono fun x g' ⟨h1, h2⟩ => ⟨h1, _, h2⟩
 refine (A7.lendOwn hl c' fun x hx => by obtain ⟨z, _, rfl⟩ := List.mem_map.1 hx; exact ⟨_, rfl⟩).mono ?_
 rintro x g' ⟨h1, n, h2⟩
 have : n = zs.length := by have := h2.1; simp at this; omega
 subst this
 exact ⟨h1, h2⟩
attribute [go_sem] eE Ff Z0
end Go.Bi
namespace Go.Bi
open Go.Ai (Ar Heap WC Bx)
variable {P : Program} {W0 : World} {D : Nat → Option (List Nat)} {e : E2} {g : H2} {Q : Q2} {K : KT}
def C7 (ks : List Nat) (e e' : E2) : Prop := ∀ t ∈ ks, look e' t .mk = look e t .mk
theorem XT {e e' : E2} : C7 [] e e' = True := by simp [C7]
theorem V8 {e e' : E2} {t : Nat} {ks : List Nat} : C7 (t :: ks) e e' = (look e' t .mk = look e t .mk ∧ C7 ks e e') := by simp [C7]
theorem AJ {b : Code} (ks : List Nat) (I : Nat → E2 → H2 → Prop) (n : Nat) (h0 : I n e g) (hr : ∀ n e' g, C7 ks e e' → I n e' g → cz P W0 D b e' g (IQ (fun m e'' g => C7 ks e e'' ∧ I m e'' g) n Q) .mk) : lz P W0 D b e g Q .mk :=
 DZ (fun m e'' g => C7 ks e e'' ∧ I m e'' g) n ⟨fun _ _ => rfl, h0⟩ fun n e' g ⟨h1, h2⟩ => hr n e' g h1 h2
theorem AI {ks : List Nat} {I : Nat → E2 → H2 → Prop} {n : Nat} {e0 : E2} (m : Nat) (hm : m < n) (hs : C7 ks e0 e) (hi : I m e g) : gU (fun m e'' g => C7 ks e0 e'' ∧ I m e'' g) n e g .mk := ⟨m, hm, hs, hi⟩
def Yu (f : AQ) : T → X
 | .v x => .raw x
 | .l z es => .sl f z es
def Mu (F : Nat → AQ) : Nat → List T → List X
 | _, [] => []
 | j, t :: r => Yu (F j) t :: Mu F (j + 1) r
theorem ZG {f : AQ} : ∀ {ts : List T} {j : Nat}, Gv f j ts = Mu (under f) j ts
 | [], _ => rfl
 | t :: ts, j => by simp only [Gv, Mu, ZG]; cases t <;> rfl
theorem OF {F : Nat → AQ} : ∀ {ts : List T} {j : Nat}, (Mu F j ts).length = ts.length
 | [], _ => rfl
 | t :: ts, j => by simp [Mu, OF]
mutual
/-- A cell of one's own, with all rows below it (the blocks are told), and what it holds. -/
inductive OT (g : H2) : List Nat → X → T → Prop
  | raw {v : Value} : Bx v = true → OT g [] (.raw v) (.v v)
  | nil {z : Nat} : OT g [] (.raw (.slice none 0 0)) (.l z [])
  | row {b n z : Nat} {bs : List Nat} {cs : List X} {es : List (List T)} : g.get b = some ⟨z, cs⟩ → cs.length = n * z → es.length = n → (∀ e ∈ es, e.length = z) → Ak g bs cs es.flatten →
      OT g (b :: bs) (.raw (.slice (some ⟨b, 0, none⟩) n n)) (.l z es)
inductive Ak (g : H2) : List Nat → List X → List T → Prop
  | nil : Ak g [] [] []
  | cons {bs bs' : List Nat} {x : X} {t : T} {xs : List X} {ts : List T} : OT g bs x t → Ak g bs' xs ts → Ak g (bs ++ bs') (x :: xs) (t :: ts)
end
mutual
theorem OT.frame {g g' : H2} : ∀ {bs : List Nat} {x : X} {t : T}, OT g bs x t → (∀ b ∈ bs, g'.get b = g.get b) → OT g' bs x t
 | _, _, _, .raw h, _ => .raw h
 | _, _, _, .nil, _ => .nil
 | _, _, _, .row h1 h2 h3 h4 h5, hb => .row (by rw [hb _ (by simp)]; exact h1) h2 h3 h4 (h5.frame fun b h => hb b (by simp [h]))
theorem Ak.frame {g g' : H2} : ∀ {bs : List Nat} {xs : List X} {ts : List T}, Ak g bs xs ts → (∀ b ∈ bs, g'.get b = g.get b) → Ak g' bs xs ts
 | _, _, _, .nil, _ => .nil
 | _, _, _, .cons h1 h2, hb => .cons (h1.frame fun b h => hb b (by simp [h])) (h2.frame fun b h => hb b (by simp [h]))
end
theorem Ak.len {g : H2} : ∀ {bs : List Nat} {xs : List X} {ts : List T}, Ak g bs xs ts → xs.length = ts.length
 | _, _, _, .nil => rfl
 | _, _, _, .cons _ h => by simp [h.len]
theorem MA {z : Nat} : ∀ {es : List (List T)}, (∀ e ∈ es, e.length = z) → chunk z es.length es.flatten = es
 | [], _ => rfl
 | e :: es, h => by
  have h1 : e.length = z := h e (by simp)
  simp only [List.length_cons, List.flatten_cons, chunk]
  rw [← h1, List.take_left, List.drop_left, h1, MA fun x hx => h x (by simp [hx])]
theorem QN {F : Nat → AQ} : ∀ {ts : List T} {j : Nat}, (∀ t ∈ ts, ∀ v, t = .v v → Bx v = true) → CR (Mu F j ts) = some ts
 | [], _, _ => rfl
 | t :: ts, j, h => by
  have h1 := QN (F := F) (j := j + 1) fun t ht => h t (List.mem_cons_of_mem _ ht)
  cases t with
  | v x => simp only [Mu, Yu, CR, h1, Jc, if_pos (h _ List.mem_cons_self x rfl)]
  | l z es => simp only [Mu, Yu, CR, h1, Jc]
mutual
theorem OT.plain {g : H2} : ∀ {bs : List Nat} {x : X} {t : T}, OT g bs x t → ∀ v, t = .v v → Bx v = true
 | _, _, _, .raw h, v, e => by cases e; exact h
 | _, _, _, .nil, v, e => by cases e
 | _, _, _, .row .., v, e => by cases e
theorem Ak.plain {g : H2} : ∀ {bs : List Nat} {xs : List X} {ts : List T}, Ak g bs xs ts → ∀ t ∈ ts, ∀ v, t = .v v → Bx v = true
 | _, _, _, .nil, t, ht, _, _ => by cases ht
 | _, _, _, .cons h1 h2, t, ht, v, e => by
  rcases List.mem_cons.1 ht with rfl | ht
  ·exact h1.plain v e
  ·exact h2.plain t ht v e
end
mutual
theorem OT.fz {p q : Nat → Prop} {g : H2} : ∀ {bs : List Nat} {x : X} {t : T}, OT g bs x t → (∀ b ∈ bs, p b) → ∃ f, Fz p q g x (Yu f t)
 | _, _, _, .raw h, _ => ⟨fun _ => undef, .raw⟩
 | _, _, _, .nil, _ => ⟨_, .nil⟩
 | _, _, _, .row (b := b) (n := n) (z := z) (cs := cs) (es := es) h1 h2 h3 h4 h5, hb => by
  obtain ⟨F, hF⟩ := h5.fz (p := p) (q := q) (j := 0) fun b h => hb b (by simp [h])
  have hl : (Mu F 0 es.flatten).length = cs.length := by rw [OF, h5.len]
  have := Fz.own (p := p) (q := q) h1 (hb _ (by simp)) h2 hl (fun i hi hi' => hF i hi hi') (QN h5.plain)
  rw [← h3, MA h4] at this
  rw [h3] at this
  exact ⟨_, this⟩
theorem Ak.fz {p q : Nat → Prop} {g : H2} : ∀ {bs : List Nat} {xs : List X} {ts : List T} {j : Nat}, Ak g bs xs ts → (∀ b ∈ bs, p b) → ∃ F : Nat → AQ, ∀ i (hi : i < xs.length) (hi' : i < (Mu F j ts).length), Fz p q g xs[i] (Mu F j ts)[i]
 | _, _, _, _, .nil, _ => ⟨fun _ _ => undef, fun i hi => by simp at hi⟩
 | _, _, _, j, .cons (t := t) (ts := ts) h1 h2, hb => by
  obtain ⟨f, hf⟩ := h1.fz (p := p) (q := q) fun b h => hb b (by simp [h])
  obtain ⟨F, hF⟩ := h2.fz (p := p) (q := q) (j := j + 1) fun b h => hb b (by simp [h])
  have hc : ∀ (ts : List T) (k : Nat), j < k → Mu (fun i => if i = j then f else F i) k ts = Mu F k ts := by
   intro ts
   induction ts with
   | nil => intro k _; rfl
   | cons t ts ih => intro k hk; simp only [Mu]; rw [if_neg (by omega), ih (k + 1) (by omega)]
  have e1 : Mu (fun i => if i = j then f else F i) j (t :: ts) = Yu f t :: Mu F (j + 1) ts := by simp only [Mu, if_true, hc ts (j + 1) (by omega)]
  refine ⟨fun i => if i = j then f else F i, fun i hi hi' => ?_⟩
  simp only [e1]
  cases i with
  | zero => exact hf
  | succ i => simp only [List.getElem_cons_succ]; exact hF i (by simpa using hi) (by simpa [e1] using hi')
end
theorem OT.lent {bs : List Nat} {x : X} {t : T} (o : OT g bs x t) : ∃ f, Wh g x (Yu f t) := o.fz fun _ _ => trivial
theorem Ak.lent {bs : List Nat} {xs : List X} {ts : List T} (o : Ak g bs xs ts) : ∃ F : Nat → AQ, Wh g (.st xs) (.st (Mu F 0 ts)) := by
 obtain ⟨F, hF⟩ := o.fz (p := fun _ => True) (q := fun _ => True) (j := 0) fun _ _ => trivial
 exact ⟨F, .st (by rw [OF, o.len]) fun i hi hi' => hF i hi hi'⟩
def Bl (N M : Nat) (bs : List Nat) : Prop := bs.Nodup ∧ ∀ b ∈ bs, N ≤ b ∧ b < M
theorem Bl.nil {N M : Nat} : Bl N M [] := ⟨.nil, by simp⟩
theorem Bl.wide {N M N' M' : Nat} {bs : List Nat} (b : Bl N M bs) (hN : N' ≤ N) (hM : M ≤ M') : Bl N' M' bs := ⟨b.1, fun x hx => ⟨Nat.le_trans hN (b.2 x hx).1, Nat.lt_of_lt_of_le (b.2 x hx).2 hM⟩⟩
theorem Bl.append {N M M' : Nat} {bs bs' : List Nat} (b : Bl N M bs) (b' : Bl M M' bs') (hN : N ≤ M) (hM : M ≤ M') : Bl N M' (bs ++ bs') :=
 ⟨List.nodup_append.2 ⟨b.1, b'.1, fun x hx y hy e => by have := (b.2 x hx).2; have := (b'.2 y hy).1; omega⟩, fun x hx => by
  rcases List.mem_append.1 hx with hx | hx
  ·have := b.2 x hx; omega
  ·have := b'.2 x hx; omega⟩
theorem Bl.one {b M : Nat} (h : b < M) : Bl b M [b] := ⟨by simp, by simp [h]⟩
theorem OT.keep {g g' : H2} {bs : List Nat} {x : X} {t : T} (o : OT g bs x t) (l : g.le g') {N : Nat} (hb : Bl N (hn g .mk) bs) : OT g' bs x t := o.frame fun b h => l.2 b (hb.2 b h).2
theorem Ak.keep {g g' : H2} {bs : List Nat} {xs : List X} {ts : List T} (o : Ak g bs xs ts) (l : g.le g') {N : Nat} (hb : Bl N (hn g .mk) bs) : Ak g' bs xs ts := o.frame fun b h => l.2 b (hb.2 b h).2
def Wf (P : Program) (W0 : World) (f : FuncId) (xs : List X) (g : H2) (t : T) : Prop := A7 P W0 f xs g fun x g' => g.le g' ∧ ∃ bs, OT g' bs x t ∧ Bl (hn g .mk) (hn g' .mk) bs
def Tz (P : Program) (W0 : World) (f : FuncId) (xs : List X) (g : H2) (ts : List T) : Prop := A7 P W0 f xs g fun x g' => g.le g' ∧ ∃ ys bs, x = .st ys ∧ Ak g' bs ys ts ∧ Bl (hn g .mk) (hn g' .mk) bs
theorem Ak.raws {g : H2} : ∀ {vs : List Value}, (∀ v ∈ vs, Bx v = true) → Ak g [] (vs.map .raw) (vs.map .v)
 | [], _ => .nil
 | v :: vs, h => by
  have := Ak.cons (OT.raw (g := g) (h v List.mem_cons_self)) (Ak.raws (g := g) fun v hv => h v (List.mem_cons_of_mem _ hv))
  simpa using this
theorem OT.flat {g : H2} {N b : Nat} {vs : List Value} (hb : hg g b .mk = some ⟨1, vs.map .raw⟩) (hp : ∀ v ∈ vs, Bx v = true) : OT g [b] (.raw (.slice (some ⟨b, 0, none⟩) vs.length vs.length)) (.l 1 (vs.map fun v => [.v v])) := by
 have hf : (vs.map fun v => [T.v v]).flatten = vs.map .v := by
  clear hb hp
  induction vs with
  | nil => rfl
  | cons v vs ih => simp [ih]
 refine .row hb (by simp) (by simp) (by simp) ?_
 rw [hf]
 exact Ak.raws hp
theorem XX {zs : List Int} : ints zs = (zs.map (Value.int .i64)).map fun v => [T.v v] := by simp [ints, eI, Function.comp_def]
theorem Al.tree {N : Nat} {x : X} {zs : List Int} (o : Al N g x zs) : ∃ bs, OT g bs x (.l 1 (ints zs)) ∧ Bl N (hn g .mk) bs := by
 obtain ⟨hl, hc⟩ := o
 rcases hc with ⟨rfl, h0⟩ | ⟨b, rfl, h1, h2, h3⟩
 ·have : zs = [] := List.eq_nil_of_length_eq_zero h0
  subst this
  exact ⟨[], .nil, .nil⟩
 ·have e : zs.map cI = (zs.map (Value.int .i64)).map .raw := by simp [cI, Function.comp_def]
  rw [e] at h3
  have := OT.flat (N := N) h3 (fun v hv => by obtain ⟨z, _, rfl⟩ := List.mem_map.1 hv; rfl)
  rw [← XX, List.length_map] at this
  exact ⟨[b], this, (Bl.one h2).wide h1 (Nat.le_refl _)⟩
theorem OT.own {bs : List Nat} {x : X} {zs : List Int} (o : OT g bs x (.l 1 (ints zs))) {N : Nat} (hb : Bl N (hn g .mk) bs) : Al N g x zs := by
 generalize ht : T.l 1 (ints zs) = t at o
 cases o with
 | raw => cases ht
 | nil =>
  simp only [T.l.injEq] at ht
  have : zs = [] := by cases zs <;> simp_all [ints]
  subst this
  exact .nil
 | row h1 h2 h3 h4 h5 =>
  simp only [T.l.injEq] at ht
  obtain ⟨rfl, rfl⟩ := ht
  rename_i b n bs' cs
  simp at h2
  have hn' : zs.length = n := by rw [← h3]; simp [ints]
  subst hn'
  refine ⟨by simp, .inr ⟨b, rfl, (hb.2 b (by simp)).1, (hb.2 b (by simp)).2, ?_⟩⟩
  have hcs : cs = zs.map cI := by
   clear h1 h2 h3 h4 hb
   induction zs generalizing cs bs' with
   | nil => simp [ints] at h5; cases h5; rfl
   | cons z zs ih =>
    simp only [ints, eI, List.map_cons, List.flatten_cons, List.cons_append, List.nil_append] at h5
    cases h5 with
    | cons a b =>
     cases a
     rw [List.map_cons, ih b]; rfl
  rw [← hcs]; exact h1
attribute [go_sem] XT V8
end Go.Bi
namespace Go.Bi
open Go.Ai (Ar guarded gate)
variable {P : Program} {W0 : World} {D : Nat → Option (List Nat)} {e : E2} {g : H2} {Q : Q2} {K : KT}
theorem JR {o : Option Bool} {A B A' B' : Prop} (h : guarded o A B) (ha : A → A') (hb : B → B') : guarded o A' B' := by
 unfold guarded at *
 cases o with
 | none => exact h
 | some b => exact ⟨fun hb' => ha (h.1 hb'), fun hb' => hb (h.2 hb')⟩
theorem Pc {o : Op} {K K' : X → H2 → Prop} (h : DJ P W0 e g o K) (hk : ∀ v g, K v g → K' v g) : DJ P W0 e g o K' := by
 unfold DJ at *
 split at h
 ·exact A7.mono h hk
 ·unfold Fm at *
  split at h
  ·exact hk _ _ h
  ·cases h
theorem LC {ops : List Oper} {Q Q' : Q2} (hQ : ∀ x e g, Q x e g → Q' x e g) : ∀ (l : List Oper) (e : E2) (g : H2), M5 P W0 ops l e g Q → M5 P W0 ops l e g Q'
 | [], e, g, h => hQ _ _ _ h
 | o :: l, e, g, h => JR h (fun h => Pc h fun v g h => LC hQ l _ g h) (fun h => LC hQ l _ g h)
theorem Fl {ops : List Oper} {Q Q' : Q2} (hQ : ∀ x e g, Q x e g → Q' x e g) : ∀ (l : Ai.PT) (e : E2) (g : H2), JG P W0 ops l e g Q → JG P W0 ops l e g Q'
 | .nil, e, g, h => hQ _ _ _ h
 | .alt a b, e, g, h => ⟨Fl hQ a _ _ h.1, Fl hQ b _ _ h.2⟩
 | .op i pd l, e, g, h => by
  simp only [JG] at h ⊢
  split at h
  ·cases h
  ·exact JR h (fun h => Pc h fun v g h => ⟨h.1, Fl hQ l _ g h.2⟩) (fun h => Fl hQ l _ g h)
theorem D9 : ∀ (c : Code) {Q Q' : Q2}, (∀ x e g, Q x e g → Q' x e g) → ∀ (e : E2) (g : H2), E8 P W0 D c e g Q → E8 P W0 D c e g Q'
  | .skip, _, _, hQ, e, g, h => hQ _ _ _ h
  | .region id ops false, _, _, hQ, e, g, h => LC hQ _ _ _ h
  | .region id ops true, _, _, hQ, e, g, ⟨p, h1, h2⟩ => ⟨p, h1, Fl hQ _ _ _ h2⟩
  | .seq a b, _, _, hQ, e, g, h => D9 a (fun x e g hx => by
      cases x with
      | normal => exact D9 b hQ e g hx
      | ret => exact hQ _ _ _ hx
      | exit j => exact hQ _ _ _ hx) e g h
  | .cond c t f, _, _, hQ, e, g, h => by
    simp only [E8, Tv] at h ⊢
    split at h
    · exact ⟨fun hb => D9 t hQ e g (h.1 hb), fun hb => D9 f hQ e g (h.2 hb)⟩
    · cases h
  | .block id b, _, _, hQ, e, g, h => D9 b (fun x e g hx => by
      cases x with
      | normal => exact hQ _ _ _ hx
      | ret => exact hQ _ _ _ hx
      | exit j =>
        simp only [FP] at hx ⊢
        split at hx
        · rename_i hj; rw [if_pos hj]; exact hQ _ _ _ hx
        · rename_i hj; rw [if_neg hj]; exact hQ _ _ _ hx) e g h
  | .loop b, _, _, hQ, e, g, ⟨I, n, h1, h2⟩ => ⟨I, n, h1, fun n e g hI => D9 b (fun x e g hx => by
      cases x with
      | normal => exact hx
      | ret => exact hQ _ _ _ hx
      | exit j => exact hQ _ _ _ hx) e g (h2 n e g hI)⟩
  | .exit id, _, _, hQ, e, g, h => hQ _ _ _ h
  | .ret, _, _, hQ, e, g, h => hQ _ _ _ h
  | .rangeFunc .., _, _, _, _, _, h => h
  | .scope .., _, _, _, _, _, h => h
  | .label .., _, _, _, _, _, h => h
  | .goto .., _, _, _, _, _, h => h
  | .refuse .., _, _, _, _, _, h => h
def Te (J : E2 → H2 → Prop) (j : Nat) (Q : Q2) : Q2
 | .normal, e, g => Q .normal e g
 | .ret, e, g => Q .ret e g
 | .exit i, e, g => (i = j ∧ J e g) ∨ Q (.exit i) e g
theorem aW {J : E2 → H2 → Prop} {j : Nat} : qz (Te J j Q) .ret e g .mk = qz Q .ret e g .mk := rfl
theorem Vc {J : E2 → H2 → Prop} {j : Nat} (h : J e g) : qz (Te J j Q) (.exit j) e g .mk := .inl ⟨rfl, h⟩
theorem H4 {b : Code} (j : Nat) (ks : List Nat) (I : Nat → E2 → H2 → Prop) (J : E2 → H2 → Prop) (n : Nat) (h0 : I n e g)
  (hr : ∀ n e' g, C7 ks e e' → I n e' g → cz P W0 D b e' g (IQ (fun m e'' g => C7 ks e e'' ∧ I m e'' g) n (Te (fun e'' g => C7 ks e e'' ∧ J e'' g) j Q)) .mk)
  (hj : ∀ e' g, C7 ks e e' → J e' g → qz Q (.exit j) e' g .mk) : lz P W0 D b e g Q .mk := by
 refine DZ (fun m e'' g => C7 ks e e'' ∧ I m e'' g) n ⟨fun _ _ => rfl, h0⟩ fun n e' g ⟨h1, h2⟩ => ?_
 refine D9 b (fun x e' g hx => ?_) e' g (hr n e' g h1 h2)
 cases x with
 | normal => exact hx
 | ret => exact hx
 | exit i =>
  rcases hx with ⟨rfl, h3, h4⟩ | hx
  ·exact hj e' g h3 h4
  ·exact hx
theorem Er {ks : List Nat} {J : E2 → H2 → Prop} {e0 : E2} {j : Nat} (hs : C7 ks e0 e) (hi : J e g) : qz (Te (fun e'' g => C7 ks e0 e'' ∧ J e'' g) j Q) (.exit j) e g .mk := Vc ⟨hs, hi⟩
attribute [go_sem] aW
def fJ (J : E2 → H2 → Prop) (Q : Q2) : Q2
 | .normal, e, g => J e g
 | .ret, e, g => Q .ret e g
 | .exit i, e, g => Q (.exit i) e g
def jz (J : E2 → H2 → Prop) (e : E2) (g : H2) (_ : Ar (J, e, g)) : Prop := J e g
theorem c8 {J : E2 → H2 → Prop} : qz (fJ J Q) .normal e g .mk = jz J e g .mk := rfl
theorem OH {c : Code} (ks : List Nat) (J : E2 → H2 → Prop) (h : cz P W0 D c e g (fJ (fun e'' g => C7 ks e e'' ∧ J e'' g) Q) .mk)
  (hj : ∀ e' g, C7 ks e e' → J e' g → qz Q .normal e' g .mk) : cz P W0 D c e g Q .mk := by
 refine D9 c (fun x e' g hx => ?_) e g h
 cases x with
 | normal => exact hj e' g hx.1 hx.2
 | ret => exact hx
 | exit i => exact hx
theorem Da {ks : List Nat} {J : E2 → H2 → Prop} {e0 : E2} (hs : C7 ks e0 e) (hi : J e g) : jz (fun e'' g => C7 ks e0 e'' ∧ J e'' g) e g .mk := ⟨hs, hi⟩
attribute [go_sem] c8
end Go.Bi
namespace Go.Bi
open Go.Ai (Ar Heap WC KP Ren CU)
variable {P : Program} {W0 : World} {g : H2} {K : KT}
def Ov (h : Heap) (b n : Nat) : Heap := ⟨h.n, fun c => if c = b then (h.get c).map fun k => ⟨k.w, k.sz, k.cs.take n⟩ else h.get c⟩
def H2.cut (g : H2) (b n : Nat) : H2 := ⟨g.n, fun c => if c = b then (g.get c).map fun k => ⟨k.z, k.cs.take n⟩ else g.get c⟩
theorem GF {h : Heap} {b n c : Nat} {k : KP} (hk : (Ov h b n).get c = some k) : ∃ k', h.get c = some k' ∧ k.w = k'.w ∧ k.sz = k'.sz ∧ ∃ m, k.cs = k'.cs.take m := by
 simp only [Ov] at hk
 split at hk
 ·cases hg : h.get c with
  | none => rw [hg] at hk; cases hk
  | some k' => rw [hg] at hk; simp only [Option.map_some, Option.some.injEq] at hk; subst hk; exact ⟨k', rfl, rfl, rfl, n, rfl⟩
 ·exact ⟨k, hk, rfl, rfl, k.cs.length, by simp⟩
theorem CU.cut {ι : Ren} {h : Heap} {w : World} {b n : Nat} (s : CU P W0 ι h w) : CU P W0 ι (Ov h b n) w := by
 refine ⟨s.base, s.size, s.dom, s.own, fun c k hk => ?_, fun c k hk hw => ?_, fun c k hk hw => ?_, s.nle, fun c c' d k k' hk hw hk' h1 h2 => ?_, fun c k d hk hd => ?_, s.env⟩
 ·obtain ⟨k', h1, _⟩ := GF hk; exact s.live _ _ h1
 ·obtain ⟨k', h1, h2, _⟩ := GF hk; exact s.wr _ _ h1 (h2 ▸ hw)
 ·obtain ⟨k', h1, h2, _⟩ := GF hk; exact s.ro _ _ h1 (h2 ▸ hw)
 ·obtain ⟨k1, g1, g2, _⟩ := GF hk
  obtain ⟨k2, f1, _⟩ := GF hk'
  exact s.inj _ _ _ _ _ g1 (g2 ▸ hw) f1 h1 h2
 ·obtain ⟨k', h1, h2, h3, m, h4⟩ := GF hk
  obtain ⟨cs', ty, fr, e1, e2, e3, e4⟩ := s.cell _ _ _ h1 hd
  refine ⟨cs', ty, fr, e1, by rw [h4, List.length_take]; omega, fun j x hx => ?_, fun hw => ?_⟩
  ·rw [h4, List.getElem?_take] at hx
   split at hx
   ·exact e3 j x hx
   ·cases hx
  ·rw [h3]; exact e4 (h2 ▸ hw)
theorem WC.cut {f : FuncId} {args : List Value} {h : Heap} {Q Q' : Value → Heap → Prop} (c : WC P W0 f args h Q) (hq : ∀ v h', Q v h' → Q' v h' ∨ ∃ b n, Q' v (Ov h' b n)) : WC P W0 f args h Q' :=
 ⟨c.1, fun ι w args' s ha => (c.2 ι w args' s ha).mono fun e w' ⟨v, v', h', ι', h1, h2, h3, h4, h5⟩ => by
  rcases hq _ _ h5 with h6 | ⟨b, n, h6⟩
  ·exact ⟨v, v', _, ι', h1, h2, h3, h4, h6⟩
  ·exact ⟨v, v', _, ι', h1, h2, CU.cut h3, h4, h6⟩⟩
theorem Hx {h : Heap} {b n c : Nat} (hc : c ≠ b) : (Ov h b n).get c = h.get c := by simp only [Ov]; rw [if_neg hc]
theorem Ja.cut {h : Heap} {b n : Nat} {k : OB} (hb : g.get b = some k) {f : AQ} {t : T} (r : Ja h g f t) : Ja (Ov h b n) (g.cut b n) f t := by
 induction r with
 | v h1 => exact .v h1
 | o h1 => exact .o h1
 | l a c h1 h2 h3 h4 ih =>
  refine .l a c h1 h2 (h3.imp_right ?_) ih
  rintro ⟨b', off, w, k', cs, e1, e2, e3, e4, e5⟩
  have hne : b' ≠ b := fun e => by subst e; rw [e3] at hb; cases hb
  exact ⟨b', off, w, k', cs, e1, e2, by simp only [H2.cut]; rw [if_neg hne]; exact e3, by rw [Hx hne]; exact e4, e5⟩
theorem Ok.cut {h : Heap} {b n : Nat} {k : OB} (hb : g.get b = some k) {y : X} (r : Ok h g y) : Ok (Ov h b n) (g.cut b n) y := by
 induction r with
 | raw => exact .raw
 | sl h1 => exact .sl (h1.cut hb)
 | pr h1 h2 h3 h0 h4 h5 =>
  rename_i b' _ _ _ _ _ _
  have hne : b' ≠ b := fun e => by subst e; rw [h2] at hb; cases hb
  exact .pr h1 (by simp only [H2.cut]; rw [if_neg hne]; exact h2) (by rw [Hx hne]; exact h3) h0 h4 fun j t ht => (h5 j t ht).cut hb
 | st _ ih => exact .st ih
 | tp _ ih => exact .tp ih
theorem A7.cut {f : FuncId} {xs : List X} {K K' : X → H2 → Prop} (c : A7 P W0 f xs g K) (hk : ∀ x g', K x g' → K' x g' ∨ ∃ b n k, hg g' b .mk = some k ∧ K' x (g'.cut b n)) : A7 P W0 f xs g K' := by
 intro h s o
 refine WC.cut (c h s o) ?_
 rintro v h' ⟨x, g', rfl, s', x', o', hK⟩
 rcases hk x g' hK with hK' | ⟨b, n, k, hb, hK'⟩
 ·exact .inl ⟨x, g', rfl, s', x', o', hK'⟩
 replace hb : g'.get b = some k := hb
 refine .inr ⟨b, n, x, g'.cut b n, rfl, ⟨s'.n, fun c k1 hc => ?_⟩, ⟨x'.n, fun c hc hg => ?_, fun c hc hg => ?_⟩, o'.cut hb, hK'⟩
 ·simp only [H2.cut] at hc
  by_cases hcb : c = b
  ·subst hcb
   rw [if_pos rfl, hb] at hc
   simp only [Option.map_some, Option.some.injEq] at hc
   subst hc
   obtain ⟨r1, r2, r3⟩ := s'.row _ _ hb
   refine ⟨r1, ?_, fun y hy => (r3 y (List.mem_of_mem_take hy)).cut hb⟩
   simp only [Ov, if_true, r2]; simp [List.map_take]
  ·rw [if_neg hcb] at hc
   obtain ⟨r1, r2, r3⟩ := s'.row _ _ hc
   exact ⟨r1, by rw [Hx hcb]; exact r2, fun y hy => (r3 y hy).cut hb⟩
 ·have hne : c ≠ b := fun e => by subst e; rw [x'.non c hc hg] at hb; cases hb
  rw [Hx hne]; exact x'.keep c hc hg
 ·have hne : c ≠ b := fun e => by subst e; rw [x'.non c hc hg] at hb; cases hb
  simp only [H2.cut]; rw [if_neg hne]; exact x'.non c hc hg
theorem eF {b n c : Nat} {k : OB} (hb : hg g b .mk = some k) : hg (g.cut b n) c .mk = if c = b then some ⟨k.z, k.cs.take n⟩ else hg g c .mk := by
 unfold hg at *
 simp only [H2.cut]
 split
 ·rename_i h; rw [h, hb]; rfl
 ·rfl
theorem cd {g' : H2} {b n : Nat} {k : OB} (l : g.le g') (hb : hn g .mk ≤ b) : g.le (g'.cut b n) :=
 ⟨l.1, fun c hc => by
  unfold hg; simp only [H2.cut]; rw [if_neg (by omega)]; exact l.2 c hc⟩
def gV (a : Addr) (z : Nat) (hh l : Option Nat) : Option X := match hh, l with
 | some hh, some l => some (.raw (.slice (some ⟨a.block, a.off + l * z, none⟩) (hh - l) (hh - l)))
 | _, _ => none
def cq (hh : Option Nat) (lo : Option X) : Option Nat := match hh with | some hh => Be hh lo 0 | none => none
theorem X8 {a : Addr} {z hh l : Nat} : gV a z (some hh) (some l) = some (.raw (.slice (some ⟨a.block, a.off + l * z, none⟩) (hh - l) (hh - l))) := rfl
theorem U2 {hh : Nat} {lo : Option X} : cq (some hh) lo = Be hh lo 0 := rfl
def gP (k : Option OB) (q : Nat) (a : Addr) (hh l : Option Nat) : Option X := match k with
 | some k => bif k.z == q then gV a q hh l else none
 | none => none
theorem YK {z q : Nat} {cs : List X} {a : Addr} {hh l : Option Nat} (h : (z == q) = true) : gP (some ⟨z, cs⟩) q a hh l = gV a q hh l := by simp only [gP, h, cond_true]
theorem Vw {t : TypeId} {h : H2} {b off n c : Nat} {lo hi : Option X} (he : (Go.Ai.elt? P t).isSome = true) :
  KA P h t (.raw (.slice (some ⟨b, off, none⟩) n c)) lo hi none .mk = gP (hg h b .mk) (Go.Ai.eltZ (Go.Ai.elt? P t)) ⟨b, off, none⟩ (Be n hi n) (cq (Be n hi n) lo) := by
 simp only [KA, If, hg]
 cases hq : Go.Ai.elt? P t with
 | none => rw [hq] at he; cases he
 | some q =>
  obtain ⟨u, s, y⟩ := q
  cases hk : h.get b with
  | none => simp [gP]
  | some k =>
   simp only [Option.isSome_none, Bool.false_eq_true, if_false, gP, Go.Ai.eltZ]
   cases hz : k.z == s with
   | false =>
    rw [cond_false, if_neg (by simpa using hz)]
   | true =>
    rw [cond_true, if_pos (by simpa using hz)]
    simp only [gV, cq]
    cases Be n hi n with
    | none => rfl
    | some hh => dsimp only; cases Be hh lo 0 <;> rfl
attribute [go_sem] X8 U2 Vw YK
end Go.Bi
end
