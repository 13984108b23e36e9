/- The abstract machine, part 17: rules for rewriting a plan's run, and the start of a walk. Nothing about the program stands here. -/
import Derived.Test.YtdakdjpndomdpaaAi13
import Derived.Test.YtdakdjpndomdpaaAi16
set_option linter.unusedVariables false
set_option linter.unusedSimpArgs false
namespace Go.Ai
variable {P : Program} {W0 : World} {e : Env} {h : Heap} {Q : QT} {K : KT}

def runz (P : Program) (W0 : World) (l : List Oper) (p : List (Nat × List Nat)) (e : Env) (h : Heap) (Q : QT) (_ : Hold (l, p, e, h, Q)) : Prop := runP P W0 l p e h Q
def atz (l : List Oper) (i : Nat) (_ : Hold l) : Option Oper := l[i]?
theorem at0 {o : Oper} {l : List Oper} : atz (o :: l) 0 .mk = some o := rfl
theorem atS {o : Oper} {l : List Oper} {i : Nat} : atz (o :: l) (i + 1) .mk = atz l i .mk := by simp [atz]
def rK (P : Program) (W0 : World) (l : List Oper) (pd : List Nat) (r : List (Nat × List Nat)) (d : Option Tmp) (e : Env) (Q : QT) : KT :=
  fun v h' => (∀ q ∈ pd, stays P l q (e.putO d v) h') ∧ runP P W0 l r (e.putO d v) h' Q
def opzz (P : Program) (W0 : World) (l : List Oper) (o : Option Oper) (pd : List Nat) (r : List (Nat × List Nat)) (e : Env) (h : Heap) (Q : QT) (_ : Hold (l, pd, r, e, h, Q)) : Prop := match o with
  | none => False
  | some o => guarded (guardOf l e o.guard) (opO P W0 e h o.op (rK P W0 l pd r o.dst e Q)) (runP P W0 l r (e.putO o.dst undef) h Q)
theorem run_nil {l : List Oper} : runz P W0 l [] e h Q .mk = qz Q .normal e h .mk := rfl
theorem run_cons {l : List Oper} {i : Nat} {pd : List Nat} {r : List (Nat × List Nat)} : runz P W0 l ((i, pd) :: r) e h Q .mk = opzz P W0 l (atz l i .mk) pd r e h Q .mk := rfl
theorem op_plain {l : List Oper} {pd : List Nat} {r : List (Nat × List Nat)} {d : Option Tmp} {o : Op} {t : TypeId} {p : String} {a : Array Edge} :
    opzz P W0 l (some ⟨d, o, t, p, a, none⟩) pd r e h Q .mk = xz P W0 o e h (rK P W0 l pd r d e Q) .mk := by
  show gate true (opO P W0 e h o (rK P W0 l pd r d e Q)) _ = opO P W0 e h o (rK P W0 l pd r d e Q)
  simp only [gate]; exact propext ⟨fun hh => hh.1 trivial, fun hh => ⟨fun _ => hh, fun hf => absurd hf (by simp)⟩⟩
theorem op_guard {l : List Oper} {pd : List Nat} {r : List (Nat × List Nat)} {d : Option Tmp} {o : Op} {t : TypeId} {p : String} {a : Array Edge} {j : Nat} {b : Bool} :
    opzz P W0 l (some ⟨d, o, t, p, a, some (j, b)⟩) pd r e h Q .mk = gd (guardOf l e (some (j, b))) (xz P W0 o e h (rK P W0 l pd r d e Q) .mk) (runz P W0 l r (e.putO d undef) h Q .mk) .mk := rfl
def andz (A B : Prop) (_ : Hold (A, B)) : Prop := A ∧ B
theorem kz_r0 {l : List Oper} {r : List (Nat × List Nat)} {d : Option Tmp} {v : Value} : kz (rK P W0 l [] r d e Q) v h .mk = runz P W0 l r (e.putO d v) h Q .mk := by
  simp [kz, rK, runz]
theorem kz_r1 {l : List Oper} {q : Nat} {pd : List Nat} {r : List (Nat × List Nat)} {d : Option Tmp} {v : Value} : kz (rK P W0 l (q :: pd) r d e Q) v h .mk = andz (∀ x ∈ q :: pd, stays P l x (e.putO d v) h) (runz P W0 l r (e.putO d v) h Q .mk) .mk := rfl
theorem dq_intro {cp : Nat → Option (List Nat)} {l : List Oper} (p : List (Nat × List Nat)) (hp : okPlan P l p = true) (hr : runz P W0 l p e h Q .mk) : drz ⟨DQ P W0, cp⟩ l e h Q .mk := ⟨p, hp, hr⟩

/-- What an operation that looks at rows must show to stay as it was. -/
def stayz (P : Program) (o : Option Oper) (l : List Oper) (e : Env) (h : Heap) (_ : Hold (l, e, h)) : Prop := match o with
  | none => True
  | some o => match guardOf l e o.guard with
    | some true => (match o.dst with | some d => opv P e h o.op = some (e d, h) | none => False)
    | some false => True
    | none => False
theorem stay_at {l : List Oper} {q : Nat} : stays P l q e h = stayz P (atz l q .mk) l e h .mk := rfl
theorem stay_load {l : List Oper} {d t : Nat} {ty : TypeId} {x : Operand} {p : String} {a : Array Edge} : stayz P (some ⟨some d, .load t x, ty, p, a, none⟩) l e h .mk = (loadz P h t (opz e x .mk) .mk = some (look e d .mk)) := by
  simp only [stayz, guardOf, opv, loadz, opz, look]
  cases loadV P h t (e.op x) <;> simp

theorem start (cp : List (List Nat)) {f : FuncId} {fn : Func} {c : Code} (hm : P.follows .mixedOrders = true) (hf : P.funcs[f]? = some fn) (hb : fn.body = some c)
    (hn : (fn.name != "runtime.NumGoroutine") = true) (hok : okCode fn.ntmps (fun _ => true) c = true) {rs : List ResultVar} (hrs : fn.results.toList = rs) {args : List Value} {nt : Nat} (hnt : fn.ntmps = nt) (hlen : args.length ≤ nt)
    (hv : cz P W0 ⟨DQ P W0, cpL cp⟩ c (rootEnv args) h (ends P rs K) .mk) : WC P W0 f args h K := WC_start (D := ⟨DQ P W0, cpL cp⟩) (sound_DQ hm) hf hb hn hok hrs hnt hlen hv

attribute [go_sem] at0 atS run_nil run_cons op_plain op_guard kz_r1 stay_at stay_load
end Go.Ai
