/- What the best ones are, plain: each is before all that come behind it and all that are left. -/
import Derived.Test.YtdakdjpndomdpaaGb
set_option linter.unusedSimpArgs false
set_option linter.unusedVariables false
namespace Go.Bi
open Go.Proofs
variable {K : Int → Int} {n : Nat}
theorem topP_new {m : Nat} (hm : m < n) : bestP K (topP K n m) n n ∉ topP K n m ∧ 0 ≤ bestP K (topP K n m) n n ∧ bestP K (topP K n m) n n < n ∧ ∀ i : Int, 0 ≤ i → i < n → i ∉ topP K n m → i ≠ bestP K (topP K n m) n n → ltK K (bestP K (topP K n m) n n) i := by
  rcases bestP_ok (K := K) (out := topP K n m) (n := n) (d := n) (Nat.le_refl _) with ⟨h1, h2⟩ | ⟨h1, h2, h3, h4⟩
  · exfalso
    have hsub : upto n ⊆ topP K n m := fun y hy => by
      obtain ⟨i, hi, rfl⟩ := List.mem_map.1 hy
      have := List.mem_range.1 hi
      exact h2 _ (by show _ ≤ ((i : Nat) : Int); omega) (by show ((i : Nat) : Int) < _; omega)
    have hnd : (upto n).Nodup := by
      unfold upto
      exact List.Pairwise.map _ (fun a b h e => h (Int.ofNat.inj e)) List.nodup_range
    have := List.Nodup.length_le_of_subset hnd hsub
    rw [upto_len, topP_len] at this
    omega
  · exact ⟨h3, by omega, h2, fun i a b c d => h4 i (by omega) b c d⟩
theorem topP_lat {j : Nat} : ∀ {k : Nat}, j < k → lat (topP K n k) j = bestP K (topP K n j) n n
  | 0, h => by omega
  | k + 1, h => by
    rw [topP]
    unfold lat
    by_cases hj : j < k
    · rw [List.getD_eq_getElem?_getD, List.getElem?_append_left (by rw [topP_len]; exact hj), ← List.getD_eq_getElem?_getD]
      exact topP_lat hj
    · obtain rfl : j = k := by omega
      rw [List.getD_eq_getElem?_getD, List.getElem?_append_right (by rw [topP_len]; exact Nat.le_refl _), topP_len, Nat.sub_self]; rfl
theorem topP_sub {j : Nat} {x : Int} : ∀ {k : Nat}, j ≤ k → x ∈ topP K n j → x ∈ topP K n k
  | 0, h, hx => by
    obtain rfl : j = 0 := by omega
    exact hx
  | k + 1, h, hx => by
    by_cases hj : j ≤ k
    · rw [topP]; exact List.mem_append_left _ (topP_sub hj hx)
    · obtain rfl : j = k + 1 := by omega
      exact hx
theorem lat_memT {l : List Int} {k : Nat} (h : k < l.length) : lat l k ∈ l := by
  rw [lat, List.getD_eq_getElem?_getD, List.getElem?_eq_getElem h]; exact List.getElem_mem h
theorem topP_in {j k : Nat} (h : j < k) : lat (topP K n k) j ∈ topP K n k := lat_memT (by rw [topP_len]; exact h)
theorem topP_order {j k : Nat} (h : j + 1 < k) (hk : k ≤ n) : ltK K (lat (topP K n k) j) (lat (topP K n k) (j + 1)) := by
  have hj : lat (topP K n k) j ∈ topP K n (j + 1) := by
    rw [topP_lat (show j < k by omega), ← topP_lat (K := K) (n := n) (show j < j + 1 by omega)]
    exact topP_in (by omega)
  have h1 := topP_new (K := K) (n := n) (m := j) (by omega)
  have h2 := topP_new (K := K) (n := n) (m := j + 1) (by omega)
  rw [topP_lat (show j < k by omega)] at hj ⊢
  rw [topP_lat (show j + 1 < k by omega)]
  exact h1.2.2.2 _ h2.2.1 h2.2.2.1 (fun hx => h2.1 (topP_sub (Nat.le_succ j) hx)) (fun e => h2.1 (by rw [e]; exact hj))
theorem topP_rest {k : Nat} {i : Int} (h0 : 0 < k) (hk : k ≤ n) (hi : 0 ≤ i ∧ i < n) (hn : i ∉ topP K n k) : ltK K (lat (topP K n k) (k - 1)) i := by
  have h1 := topP_new (K := K) (n := n) (m := k - 1) (by omega)
  rw [topP_lat (show k - 1 < k by omega)]
  refine h1.2.2.2 i hi.1 hi.2 (fun hx => hn (topP_sub (by omega) hx)) (fun e => hn ?_)
  rw [e, ← topP_lat (K := K) (n := n) (show k - 1 < k by omega)]
  exact topP_in (by omega)
theorem topP_first {k : Nat} (h0 : 0 < k) : lat (topP K n k) 0 = lat (topP K n 1) 0 := by rw [topP_lat h0, topP_lat (by omega)]
theorem next_ne {s : Int} (h : 0 ≤ s ∧ s < 18446744073709551616) : nextU s ≠ s := by unfold nextU; rw [Go.Ai.wrap_u64]; omega
end Go.Bi
