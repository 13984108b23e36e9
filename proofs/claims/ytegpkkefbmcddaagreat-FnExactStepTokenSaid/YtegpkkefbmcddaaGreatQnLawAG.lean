/- Own lemmas that the theorem of this claim needs: the abstract machine and walks of functions. -/
import Derived.Test.YtegpkkefbmcddaaGreatQnLawAF
set_option linter.unusedSimpArgs false
set_option linter.unusedVariables false
open Nat renaming reduceBEq → sQ1, reduceAdd → sQ2, reduceLeDiff → sQ3, reduceMul → sQ4
open Int renaming reduceLE → sQ5, reduceLT → sQ6, reduceBEq → sQ7
section
set_option linter.unusedVariables false
namespace Go.Bi
open Go.Proofs
open Go.Ai (Hold fnOk okCode cpL)
theorem zau {p : Prop} (h : p := by first | omega | (simp only [hn_push, hn_set, hn_up]; omega) | (simp only [hn_push, hn_set, hn_up] at *; omega)) : p := h
theorem zfz {p : Prop} (h : p := by first | rfl | (simp only [hg, H2.set, H2.push, H2.up]; repeat (first | rfl | rw [if_neg (by first | omega | (unfold hn at *; omega))]))) : p := h
theorem zale {g g' : H2} (h : g.le g' := by repeat (first | assumption | exact H2.le.refl _ | apply le_push | refine le_set ?_ (by first | omega | (simp only [hn_push, hn_set, hn_up]; omega) | (simp only [hn_push, hn_set, hn_up] at *; omega)) | refine le_up ?_ (by first | assumption | omega | (simp only [hn_push, hn_set, hn_up]; omega) | (simp only [hn_push, hn_set, hn_up] at *; omega)))) : g.le g' := h
theorem zwrs (i : Nat) (h : (i : Int) < 9223372036854775807) : IntKind.i64.wrap ((i : Int) + 1) = ((i + 1 : Nat) : Int) := by rw [Go.Ai.wrap_i64] <;> omega
theorem zne {p : Prop} (h : p := by first | (simp; done) | (simp; omega)) : p := h
theorem zsm {p : Prop} (h : p := by simp -dsimp -implicitDefEqProofs only [go_sem, sQ1]) : p := h
theorem begins {P : Program} {W0 : World} {h : H2} {K : X → H2 → Prop} (cp : List (List Nat)) {f : FuncId} {fn : Func} {c : Code} (hf : P.funcs[f]? = some fn) (hb : fn.body = some c)
  {rs : List ResultVar} (hrs : fn.results.toList = rs) {args : List X} {nt : Nat} (hnt : fn.ntmps = nt)
  (hv : (∀ b, hn h .mk ≤ b → hg h b .mk = none) → cz P W0 (cpL cp) c (rootX args) h (endsX P rs K) .mk)
  (hm : P.follows .mixedOrders = true := by kernel_rfl) (hname : (fn.name != "runtime.NumGoroutine") = true := by decide) (hok : okCode fn.ntmps (fun _ => true) c = true := by decide +kernel) (hlen : args.length ≤ nt := by exact Nat.le_of_ble_eq_true rfl) : WC2 P W0 f args h K :=
  start cp hm hf hb hname hok hrs hnt hlen hv
end Go.Bi
end
