/- A row of bytes that was handed in, as a deep value. -/
import Derived.Test.YtjofbadmkigkjaaBm
import Derived.Test.YtjofbadmkigkjaaDr
set_option linter.unusedVariables false
namespace Go.Bi
open Go.Ai (h0 ι0 R)
theorem arg_u8s {P : Program} {W : World} {H : Type} {enc : TypeId × Value → H} {t e : TypeId} {v : Value} {d : DataW H} {ps : List MemPlace} {base : Nat} (ht : P.underlying t = some (.slice e)) (he : P.underlying e = some (.int .u8)) (hce : P.cellsOf e = 1) (hct : P.cellsOf t = 1)
    (hok : Value.okWide P W .any base t v) (htr : DataW.Trod enc P W 0 (fun _ => true) true t v d ps) : ∃ f bs, Ok (h0 W) (g0 W) (.sl f 1 (u8s bs)) ∧ R (ι0 W) (er (.sl f 1 (u8s bs))) v := by
  obtain ⟨es, f, h1, h2, h3⟩ := arg_slice (n := 2) ht (by simp [flt, ht, he, hce, hct]) hok htr
  simp only [typ, ht, he, hce] at h1
  obtain ⟨es', h4, _, h5⟩ := h1
  simp only [List.cons.injEq, T.l.injEq, and_true, true_and] at h4
  subst h4
  obtain ⟨bs, rfl, _⟩ := of_each (E := fun z => [T.v (.int .u8 z)]) (Fit := fun _ => True) (es := es) fun x hx => by
    obtain ⟨z, hz, _⟩ := h5 x hx
    exact ⟨z, hz, trivial⟩
  rw [hce] at h2 h3
  exact ⟨f, bs, h2, h3⟩
end Go.Bi
