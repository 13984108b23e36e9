/- Own lemmas that the theorem of this claim needs: the abstract machine and walks of functions. -/
import Derived.Test.YtjofbadmkigkjaaGreatNnLawAA
import Derived.Test.YtjofbadmkigkjaaGreatNnLawAB
import Derived.Test.YtjofbadmkigkjaaGreatNnLawAC
import Derived.Test.YtjofbadmkigkjaaGreatNnLawAD
import Derived.Test.YtjofbadmkigkjaaGreatNnLawAE
import Derived.Test.YtjofbadmkigkjaaGreatNnLawAF
import Derived.Test.YtjofbadmkigkjaaGreatNnLawAG
import Derived.Test.YtjofbadmkigkjaaGreatNnLawAH
import Derived.Test.YtjofbadmkigkjaaGreatNnLawAI
import Derived.Test.YtjofbadmkigkjaaGreatNnLawAJ
import Derived.Test.YtjofbadmkigkjaaGreatNnLawAK
import Derived.Test.YtjofbadmkigkjaaGreatNnLawAL
import Derived.Test.YtjofbadmkigkjaaGreatNnLawAM
import Derived.Test.YtjofbadmkigkjaaGreatNnLawAN
import Derived.Test.YtjofbadmkigkjaaGreatNnLawAO
import Derived.Test.YtjofbadmkigkjaaGreatNnLawAP
section
set_option linter.unusedSimpArgs false
set_option linter.unusedVariables false
set_option maxRecDepth 20000
namespace Go.Bi
open Go.Proofs
open Go.Ai (wrap_i64 wrap_u8 Heap)
theorem getD_memR {α : Type} [Inhabited α] {l : List α} {i : Nat} (h : i < l.length) : l.getD i default ∈ l := by
  rw [List.getD_eq_getElem?_getD, List.getElem?_eq_getElem h]; exact List.getElem_mem h
theorem sum_at {α : Type} [Inhabited α] {f : α → Nat} {l : List α} {i : Nat} (hi : i < l.length) : f (l.getD i default) ≤ sumN f l := sumN_mem (getD_memR hi)
theorem smallL_of {l : List (List Int)} (h : szIntSS l ≤ 1048576) : smallL l := ⟨by unfold szIntSS at h; omega, fun r hr => by
  have h1 : r.length ≤ sumN szIntS l := sumN_mem (f := szIntS) hr
  unfold szIntSS at h
  omega⟩
theorem smallM_of {m : LMatrix} (h : szMatrix m ≤ 1048576) : smallM m := by
  unfold szMatrix at h
  exact ⟨smallL_of (by omega), smallL_of (by omega)⟩
theorem smallY_of {l : LLayer} (h : szLayer l ≤ 1048576) : smallY l := by
  unfold szLayer at h
  exact ⟨by omega, by omega, smallM_of (by omega), smallM_of (by omega), smallM_of (by omega), smallM_of (by omega), smallM_of (by omega), smallM_of (by omega)⟩
theorem smallMod_of {m : LModel} (h : szModel m ≤ 1048576) : smallMod m := by
  unfold szModel szMergeS szLayerS szTurns at h
  refine ⟨by omega, smallL_of (by omega), by omega, fun i hi => smallY_of ?_, by omega, smallM_of (by omega), smallL_of (by omega), smallL_of (by omega)⟩
  have := sum_at (f := szLayer) hi
  omega
end Go.Bi
end
