/- NextState on both sides; what Choose comes to, plain. -/
import Derived.Test.YtdakdjpndomdpaaGa
import Derived.Test.YtdakdjpndomdpaaFj
set_option linter.unusedSimpArgs false
set_option linter.unusedVariables false
set_option maxRecDepth 20000
namespace Go.Bi
open Go.Proofs
open Go.Ai (wrap_i64 wrap_u64 wrap_u8 Heap chanceI chance1 expI floorI mxI shrI)
variable {W0 : World} {P : Program}
/-! ### States -/
def stpU (z k c : Int) : Int := IntKind.u64.wrap (Go.bits .xor .u64 z (shrI .u64 z k) * c)
def mixU (z : Int) : Int := Go.bits .xor .u64 (stpU (stpU z 30 13787848793156543929) 27 10723151780598845931) (shrI .u64 (stpU (stpU z 30 13787848793156543929) 27 10723151780598845931) 31)
def nextU (s : Int) : Int := IntKind.u64.wrap (s + 11400714819323198485)
theorem u64_rng (x : Int) : 0 ≤ IntKind.u64.wrap x ∧ IntKind.u64.wrap x < 18446744073709551616 := by rw [wrap_u64]; omega
theorem quo_shr {z : Int} {k : Nat} (hz : 0 ≤ z ∧ z < 18446744073709551616) (hk : k ≤ 64) : IntKind.u64.wrap (z.tdiv (2 ^ k)) = shrI .u64 z (k : Int) := by
  obtain ⟨n, rfl⟩ := Int.eq_ofNat_of_zero_le hz.1
  have hm : min ((k : Int).toNat) IntKind.u64.bits = k := by simp only [IntKind.bits, Int.toNat_natCast]; omega
  unfold shrI
  have hp : (0 : Int) ≤ 2 ^ k := by exact_mod_cast Nat.zero_le _
  have hp2 : (0 : Int) < 2 ^ k := by exact_mod_cast Nat.pow_pos (by decide)
  rw [hm, Int.fdiv_eq_ediv_of_nonneg _ hp, Int.tdiv_eq_ediv_of_nonneg (by omega), wrap_u64]
  have h1 := Int.ediv_nonneg (show (0 : Int) ≤ (n : Int) by omega) hp
  have h2 := Int.ediv_le_self (2 ^ k) (show (0 : Int) ≤ (n : Int) by omega)
  omega
theorem implNextState_ok {s : Int} {h : H2} : WC2 Try.prog W0 18 [.raw (.int .u64 s)] h (fun v h' => v = .tp [.raw (.int .u64 (nextU s)), .raw (.int .u64 (mixU (nextU s)))] ∧ h' = h) := by
  refine start (P := Try.prog) [[0], [0], [0], [0, 4], [0, 4], [0, 4]] (by kernel_rfl) Try.func18 rfl (by decide) (by decide +kernel) (rs := [.tmp 2, .tmp 3]) rfl rfl (Nat.le_of_ble_eq_true rfl) ?_
  intro wf
  repeat (first | rw [kz_o] | rw [kz_r0] | simp -dsimp -implicitDefEqProofs only [go_sem, Nat.reduceBEq, Nat.reduceAdd, Nat.reduceLeDiff, Nat.reduceMul, Int.reduceLE, Int.reduceLT, Int.reduceBEq])
  exact ⟨rfl, rfl⟩
theorem specNextState_ok {s : Int} {h : H2} : WC2 Try.prog W0 17 [.raw (.int .u64 s)] h (fun v h' => v = .tp [.raw (.int .u64 (nextU s)), .raw (.int .u64 (mixU (nextU s)))] ∧ h' = h) := by
  refine start (P := Try.prog) [[0], [0], [0], [0, 4], [0, 4], [0, 4]] (by kernel_rfl) Try.func17 rfl (by decide) (by decide +kernel) (rs := [.tmp 2, .tmp 3]) rfl rfl (Nat.le_of_ble_eq_true rfl) ?_
  intro wf
  repeat (first | rw [kz_o] | rw [kz_r0] | simp -dsimp -implicitDefEqProofs only [go_sem, Nat.reduceBEq, Nat.reduceAdd, Nat.reduceLeDiff, Nat.reduceMul, Int.reduceLE, Int.reduceLT, Int.reduceBEq])
  have q1 : IntKind.u64.wrap ((nextU s).tdiv 1073741824) = shrI .u64 (nextU s) 30 := quo_shr (k := 30) (u64_rng _) (by omega)
  have q2 : IntKind.u64.wrap ((stpU (nextU s) 30 13787848793156543929).tdiv 134217728) = shrI .u64 (stpU (nextU s) 30 13787848793156543929) 27 := quo_shr (k := 27) (u64_rng _) (by omega)
  have q3 : IntKind.u64.wrap ((stpU (stpU (nextU s) 30 13787848793156543929) 27 10723151780598845931).tdiv 2147483648) = shrI .u64 (stpU (stpU (nextU s) 30 13787848793156543929) 27 10723151780598845931) 31 := quo_shr (k := 31) (u64_rng _) (by omega)
  rw [mixU]
  rw [← q3]
  unfold stpU at q2 q3 ⊢
  rw [← q2]
  rw [← q1]
  exact ⟨rfl, rfl⟩
/-! ### What is chosen, plain -/
theorem exp_rng {x : Int} : 0 ≤ expI x ∧ expI x ≤ 256 := by
  unfold expI
  split
  · omega
  · split
    · omega
    · have hr := Int.emod_nonneg (-x) (show (177 : Int) ≠ 0 by decide)
      have hr2 := Int.emod_lt_of_pos (-x) (show (0 : Int) < 177 by decide)
      generalize (-x) % 177 = r at *
      have hm : 0 ≤ r * r := Int.mul_nonneg hr hr
      have hm2 : r * r ≤ 176 * r := Int.mul_le_mul_of_nonneg_right (by omega) hr
      have hp : (0 : Int) < 2 ^ ((-x) / 177).toNat := by exact_mod_cast Nat.pow_pos (by decide)
      have hn : (0 : Int) ≤ 256 - r + r * r / 512 := by omega
      have hu : 256 - r + r * r / 512 ≤ 256 := by omega
      exact ⟨Int.ediv_nonneg hn (Int.le_of_lt hp), Int.le_trans (Int.ediv_le_self _ hn) hu⟩
def sumZ : List Int → Int
  | [] => 0
  | x :: l => x + sumZ l
theorem sumZ_rng {l : List Int} (h : ∀ x ∈ l, 0 ≤ x ∧ x ≤ 256) : 0 ≤ sumZ l ∧ sumZ l ≤ 256 * l.length := by
  induction l with
  | nil => simp [sumZ]
  | cons x l ih =>
    have h1 := h x (by simp)
    have h2 := ih fun y hy => h y (by simp [hy])
    simp only [sumZ, List.length_cons]
    omega
def pickI : List Int → Int → Nat
  | [], _ => 0
  | c :: cs, d => if d < c then 0 else pickI cs (d - c) + 1
theorem pickI_lt {l : List Int} {d : Int} (h : d < sumZ l) (hd : 0 ≤ d) : pickI l d < l.length := by
  induction l generalizing d with
  | nil => simp only [sumZ] at h; omega
  | cons c cs ih =>
    simp only [pickI, List.length_cons]
    split
    · omega
    · have := ih (d := d - c) (by simp only [sumZ] at h; omega) (by omega)
      omega
theorem chance_rng {zs top : List Int} {x : Int} (h : x ∈ chanceI zs top) : 0 ≤ x ∧ x ≤ 256 := by
  unfold chanceI at h
  split at h
  · obtain ⟨i, _, rfl⟩ := List.mem_map.1 h
    unfold chance1; exact exp_rng
  · cases h
theorem floor0 : floorI 0 64 = 0 := by decide
theorem exp0 : expI 0 = 256 := by decide
theorem chance_len {zs top : List Int} (h : ∀ x ∈ top, 0 ≤ x ∧ x < zs.length) : (chanceI zs top).length = top.length ∧ ∀ (h0 : 0 < top.length), lat (chanceI zs top) 0 = 256 := by
  have h1 : (top.all fun s => Go.Ai.inI s 0 ((zs.length : Int) - 1)) = true := by
    rw [List.all_eq_true]
    intro x hx
    have := h x hx
    simp only [Go.Ai.inI, Bool.and_eq_true, decide_eq_true_eq]; omega
  unfold chanceI
  rw [if_pos h1]
  refine ⟨by simp, fun h0 => ?_⟩
  cases top with
  | nil => simp at h0
  | cons t ts =>
    show (chance1 zs t t) = 256
    unfold chance1
    rw [Int.sub_self, show IntKind.i64.wrap 0 = 0 by decide, floor0, show mxI (-1400) 0 = 0 by decide, exp0]
theorem topP_mem {K : Int → Int} {n : Nat} {x : Int} : ∀ {m : Nat}, m ≤ n → x ∈ topP K n m → 0 ≤ x ∧ x < n
  | 0, _, h => by cases h
  | m + 1, hk, h => by
    rw [topP] at h
    rcases List.mem_append.1 h with h | h
    · exact topP_mem (by omega) h
    · simp only [List.mem_singleton] at h
      rcases bestP_ok (K := K) (out := topP K n m) (n := n) (d := n) (Nat.le_refl _) with ⟨h1, h2⟩ | ⟨h1, h2, _⟩
      · exfalso
        have hsub : upto n ⊆ topP K n m := fun y hy => by
          obtain ⟨i, hi, rfl⟩ := List.mem_map.1 hy
          have := List.mem_range.1 hi
          exact h2 _ (by show _ ≤ ((i : Nat) : Int); omega) (by show ((i : Nat) : Int) < _; omega)
        have hnd : (upto n).Nodup := by
          unfold upto
          exact List.Pairwise.map _ (fun a b h e => h (Int.ofNat.inj e)) List.nodup_range
        have := List.Nodup.length_le_of_subset hnd hsub
        rw [upto_len, topP_len] at this
        omega
      · rw [h]; omega
theorem topI_mem {zs : List Int} {k x : Int} (h : x ∈ topI zs k) : 0 ≤ x ∧ x < zs.length := by
  unfold topI at h
  split at h
  · exact topP_mem (Nat.min_le_right _ _) h
  · cases h
theorem topI_len1 {zs : List Int} {k : Int} (hk : inI k 1 8 = true) (h1 : 1 ≤ zs.length) (h2 : zs.length ≤ 400) : 1 ≤ (topI zs k).length ∧ (topI zs k).length ≤ 8 := by
  unfold topI
  rw [if_pos ⟨hk, h2⟩, topP_len]
  have := inI_t hk
  omega
def drawnI (s : Int) (zs top : List Int) : Int := IntKind.i64.wrap ((mixU (nextU s)).tmod (IntKind.u64.wrap (sumZ (chanceI zs top))))
def chooseI (c : LConfig) (s : Int) (zs : List Int) : Int × Int × Bool :=
  if cfgOk c = true ∧ inI zs.length 1 400 = true ∧ allI zs (-1000000) 1000000 = true then
    (if c.top = 1 then (lat (topI zs c.top) 0, s, true) else (lat (topI zs c.top) (pickI (chanceI zs (topI zs c.top)) (drawnI s zs (topI zs c.top))), nextU s, true))
  else (0, 0, false)
theorem mix_rng (z : Int) : 0 ≤ mixU z ∧ mixU z < 18446744073709551616 := u64_rng _
theorem drawn_rng {s : Int} {zs top : List Int} (h : 0 < sumZ (chanceI zs top) ∧ sumZ (chanceI zs top) ≤ 1048576) : drawnI s zs top = (mixU (nextU s)).tmod (sumZ (chanceI zs top)) ∧ 0 ≤ drawnI s zs top ∧ drawnI s zs top < sumZ (chanceI zs top) := by
  have h1 := mix_rng (nextU s)
  have hw : IntKind.u64.wrap (sumZ (chanceI zs top)) = sumZ (chanceI zs top) := by rw [wrap_u64]; omega
  have h2 := Int.tmod_nonneg (sumZ (chanceI zs top)) h1.1
  have h3 := Int.tmod_lt_of_pos (mixU (nextU s)) h.1
  have hw2 : IntKind.i64.wrap ((mixU (nextU s)).tmod (sumZ (chanceI zs top))) = (mixU (nextU s)).tmod (sumZ (chanceI zs top)) := by rw [wrap_i64] <;> omega
  rw [drawnI, hw, hw2]
  exact ⟨rfl, h2, h3⟩
theorem sum_rng {zs top : List Int} (h : ∀ x ∈ top, 0 ≤ x ∧ x < zs.length) (h0 : 1 ≤ top.length) (h8 : top.length ≤ 8) : 0 < sumZ (chanceI zs top) ∧ sumZ (chanceI zs top) ≤ 1048576 := by
  obtain ⟨h1, h2⟩ := chance_len h
  have h3 := h2 (by omega)
  have h4 : ∀ x ∈ chanceI zs top, 0 ≤ x ∧ x ≤ 256 := fun x hx => chance_rng hx
  generalize chanceI zs top = l at *
  have h6 := sumZ_rng h4
  cases l with
  | nil => simp at h1; omega
  | cons x l =>
    have h5 := sumZ_rng (l := l) fun y hy => h4 y (by simp [hy])
    have h7 : x = 256 := h3
    simp only [sumZ] at *
    omega
def choX (r : Int × Int × Bool) : X := .tp [.raw (.int .i64 r.1), .raw (.int .u64 r.2.1), .raw (.bool r.2.2)]
theorem choX_plain {r : Int × Int × Bool} : PlainX (choX r) := .inr ⟨[.int .i64 r.1, .int .u64 r.2.1, .bool r.2.2], rfl⟩
end Go.Bi
