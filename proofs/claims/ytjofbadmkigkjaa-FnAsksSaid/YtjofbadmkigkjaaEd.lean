/- The walks of both ReadShorts, and of what reads asks step by step. -/
import Derived.Test.YtjofbadmkigkjaaEc
set_option linter.unusedSimpArgs false
set_option linter.unusedVariables false
set_option maxRecDepth 20000
namespace Go.Bi
open Go.Proofs
open Go.Ai (wrap_i64 wrap_u64 wrap_u8 Heap)
variable {W0 : World} {P : Program}
theorem rdV_le {s : ByteArray} {p : Int} {n q : Nat} (h : rdV s p = some (n, q)) : 0 ≤ p ∧ p ≤ s.size ∧ q ≤ s.size ∧ n ≤ 1000000000 := by
  rw [rdV] at h
  split at h
  · rename_i hi
    have := inI_t hi
    split at h
    · rename_i n' j' h'
      split at h
      · rename_i hh
        cases h
        have h2 := (rv_last h').2.1
        rw [List.length_drop, lst_len] at h2
        exact ⟨this.1, this.2, by omega, hh.1⟩
      · cases h
    · cases h
  · cases h
/-- The text behind its length at a place of a text, and the place behind it. -/
def rdS (s : ByteArray) (p : Int) : Option (ByteArray × Nat) := match rdV s p with
  | some (n, q) => if n ≤ 12000 ∧ n ≤ s.size - q then some (s.extract q (q + n), q + n) else none
  | none => none
def rdSR (o : Option (ByteArray × Nat)) : X := match o with
  | some (t, j) => .tp [.raw (.string t), .raw (.int .i64 j), .raw (.bool true)]
  | none => .tp [.raw (.string ⟨#[]⟩), .raw (.int .i64 0), .raw (.bool false)]
theorem rdS_le {s t : ByteArray} {p : Int} {q : Nat} (h : rdS s p = some (t, q)) : q ≤ s.size ∧ t.size ≤ 12000 := by
  rw [rdS] at h
  split at h
  · rename_i n j hv
    have := rdV_le hv
    split at h
    · cases h; refine ⟨by omega, ?_⟩
      rw [ByteArray.size_extract]; omega
    · cases h
  · cases h
theorem implReadShort_ok {s : ByteArray} {p : Int} {h : H2} (hs : s.size ≤ 4611686018427387904) : PW Try.prog W0 123 [.raw (.string s), .raw (.int .i64 p)] h (fun r => r = rdSR (rdS s p)) := by
  refine PW.plain ?_
  refine start (P := Try.prog) [[0, 1], [0, 1], [0, 7, 8, 9], [], [0, 7, 8]] (by kernel_rfl) Try.func123 rfl (by decide) (by decide +kernel) (rs := [.tmp 4, .tmp 5, .tmp 6]) rfl rfl (Nat.le_of_ble_eq_true rfl) ?_
  intro wf
  repeat (first | rw [kz_o] | rw [kz_r0] | simp -dsimp -implicitDefEqProofs only [go_sem, Nat.reduceBEq, Nat.reduceAdd, Nat.reduceLeDiff, Nat.reduceMul, Int.reduceLE, Int.reduceLT, Int.reduceBEq])
  refine pw_intro (implReadVar_ok hs) ?_
  rintro _ n hn rfl
  cases hv : rdV s p with
  | none =>
    rw [rdR]
    repeat (first | rw [kz_o] | rw [kz_r0] | simp -dsimp -implicitDefEqProofs only [go_sem, Nat.reduceBEq, Nat.reduceAdd, Nat.reduceLeDiff, Nat.reduceMul, Int.reduceLE, Int.reduceLT, Int.reduceBEq])
    exact ⟨le_up (H2.le.refl _) hn, plain3, by rw [rdS, hv]; rfl⟩
  | some q =>
    obtain ⟨k, q⟩ := q
    have hb := rdV_le hv
    rw [rdR]
    repeat (first | rw [kz_o] | rw [kz_r0] | simp -dsimp -implicitDefEqProofs only [go_sem, Nat.reduceBEq, Nat.reduceAdd, Nat.reduceLeDiff, Nat.reduceMul, Int.reduceLE, Int.reduceLT, Int.reduceBEq])
    refine gz_ndec (fun h1 => ?_) (fun h1 => ?_)
    rotate_left
    · repeat (first | rw [kz_o] | rw [kz_r0] | simp -dsimp -implicitDefEqProofs only [go_sem, Nat.reduceBEq, Nat.reduceAdd, Nat.reduceLeDiff, Nat.reduceMul, Int.reduceLE, Int.reduceLT, Int.reduceBEq, h1])
      exact ⟨le_up (H2.le.refl _) hn, plain3, by rw [rdS, hv]; simp only; rw [if_neg (by omega)]; rfl⟩
    have w1 : IntKind.i64.wrap ((s.size : Int) - q) = ((s.size - q : Nat) : Int) := by rw [wrap_i64] <;> omega
    repeat (first | rw [kz_o] | rw [kz_r0] | simp -dsimp -implicitDefEqProofs only [go_sem, Nat.reduceBEq, Nat.reduceAdd, Nat.reduceLeDiff, Nat.reduceMul, Int.reduceLE, Int.reduceLT, Int.reduceBEq, h1, w1])
    refine gz_dec (fun h2 => ?_) (fun h2 => ?_)
    · repeat (first | rw [kz_o] | rw [kz_r0] | simp -dsimp -implicitDefEqProofs only [go_sem, Nat.reduceBEq, Nat.reduceAdd, Nat.reduceLeDiff, Nat.reduceMul, Int.reduceLE, Int.reduceLT, Int.reduceBEq, h1, h2])
      exact ⟨le_up (H2.le.refl _) hn, plain3, by rw [rdS, hv]; simp only; rw [if_neg (by omega)]; rfl⟩
    · have w2 : IntKind.i64.wrap ((q : Int) + k) = ((q + k : Nat) : Int) := by rw [wrap_i64] <;> omega
      have b1 : ((q + k : Nat) : Int) ≤ (s.size : Int) := by omega
      have b2 : (q : Int) ≤ ((q + k : Nat) : Int) := by omega
      repeat (first | rw [kz_o] | rw [kz_r0] | simp -dsimp -implicitDefEqProofs only [go_sem, Nat.reduceBEq, Nat.reduceAdd, Nat.reduceLeDiff, Nat.reduceMul, Int.reduceLE, Int.reduceLT, Int.reduceBEq, h1, h2, w2, b1, b2])
      exact ⟨le_up (H2.le.refl _) hn, plain3, by rw [rdS, hv]; simp only; rw [if_pos (by omega)]; rfl⟩
theorem specReadShort_ok {s : ByteArray} {p : Int} {h : H2} (hs : s.size ≤ 4611686018427387904) : PW Try.prog W0 94 [.raw (.string s), .raw (.int .i64 p)] h (fun r => r = rdSR (rdS s p)) := by
  refine PW.plain ?_
  refine start (P := Try.prog) [[0, 1], [0, 1], [0, 7, 8, 9], [], [0, 7, 8]] (by kernel_rfl) Try.func94 rfl (by decide) (by decide +kernel) (rs := [.tmp 4, .tmp 5, .tmp 6]) rfl rfl (Nat.le_of_ble_eq_true rfl) ?_
  intro wf
  repeat (first | rw [kz_o] | rw [kz_r0] | simp -dsimp -implicitDefEqProofs only [go_sem, Nat.reduceBEq, Nat.reduceAdd, Nat.reduceLeDiff, Nat.reduceMul, Int.reduceLE, Int.reduceLT, Int.reduceBEq])
  refine pw_intro (specReadVar_ok hs) ?_
  rintro _ n hn rfl
  cases hv : rdV s p with
  | none =>
    rw [rdR]
    repeat (first | rw [kz_o] | rw [kz_r0] | simp -dsimp -implicitDefEqProofs only [go_sem, Nat.reduceBEq, Nat.reduceAdd, Nat.reduceLeDiff, Nat.reduceMul, Int.reduceLE, Int.reduceLT, Int.reduceBEq])
    exact ⟨le_up (H2.le.refl _) hn, plain3, by rw [rdS, hv]; rfl⟩
  | some q =>
    obtain ⟨k, q⟩ := q
    have hb := rdV_le hv
    rw [rdR]
    repeat (first | rw [kz_o] | rw [kz_r0] | simp -dsimp -implicitDefEqProofs only [go_sem, Nat.reduceBEq, Nat.reduceAdd, Nat.reduceLeDiff, Nat.reduceMul, Int.reduceLE, Int.reduceLT, Int.reduceBEq])
    refine gz_ndec (fun h1 => ?_) (fun h1 => ?_)
    rotate_left
    · repeat (first | rw [kz_o] | rw [kz_r0] | simp -dsimp -implicitDefEqProofs only [go_sem, Nat.reduceBEq, Nat.reduceAdd, Nat.reduceLeDiff, Nat.reduceMul, Int.reduceLE, Int.reduceLT, Int.reduceBEq, h1])
      exact ⟨le_up (H2.le.refl _) hn, plain3, by rw [rdS, hv]; simp only; rw [if_neg (by omega)]; rfl⟩
    have w1 : IntKind.i64.wrap ((s.size : Int) - q) = ((s.size - q : Nat) : Int) := by rw [wrap_i64] <;> omega
    repeat (first | rw [kz_o] | rw [kz_r0] | simp -dsimp -implicitDefEqProofs only [go_sem, Nat.reduceBEq, Nat.reduceAdd, Nat.reduceLeDiff, Nat.reduceMul, Int.reduceLE, Int.reduceLT, Int.reduceBEq, h1, w1])
    refine gz_dec (fun h2 => ?_) (fun h2 => ?_)
    · repeat (first | rw [kz_o] | rw [kz_r0] | simp -dsimp -implicitDefEqProofs only [go_sem, Nat.reduceBEq, Nat.reduceAdd, Nat.reduceLeDiff, Nat.reduceMul, Int.reduceLE, Int.reduceLT, Int.reduceBEq, h1, h2])
      exact ⟨le_up (H2.le.refl _) hn, plain3, by rw [rdS, hv]; simp only; rw [if_neg (by omega)]; rfl⟩
    · have w2 : IntKind.i64.wrap ((q : Int) + k) = ((q + k : Nat) : Int) := by rw [wrap_i64] <;> omega
      have b1 : ((q + k : Nat) : Int) ≤ (s.size : Int) := by omega
      have b2 : (q : Int) ≤ ((q + k : Nat) : Int) := by omega
      repeat (first | rw [kz_o] | rw [kz_r0] | simp -dsimp -implicitDefEqProofs only [go_sem, Nat.reduceBEq, Nat.reduceAdd, Nat.reduceLeDiff, Nat.reduceMul, Int.reduceLE, Int.reduceLT, Int.reduceBEq, h1, h2, w2, b1, b2])
      exact ⟨le_up (H2.le.refl _) hn, plain3, by rw [rdS, hv]; simp only; rw [if_pos (by omega)]; rfl⟩
/-- Where a reader of a text is. -/
structure Rd where
  p : Nat
  bad : Bool
def rdCells (s : ByteArray) (r : Rd) : List X := [.raw (.string s), .raw (.int .i64 r.p), .raw (.bool r.bad)]
theorem rdCells_def {s : ByteArray} {r : Rd} : rdCells s r = [.raw (.string s), .raw (.int .i64 r.p), .raw (.bool r.bad)] := rfl
def RdAt (g : H2) (b : Nat) (s : ByteArray) (r : Rd) : Prop := hg g b .mk = some ⟨3, rdCells s r⟩ ∧ r.p ≤ s.size
/-- Only a row, and new ones, have changed. -/
def Only (g g' : H2) (b : Nat) : Prop := hn g .mk ≤ hn g' .mk ∧ ∀ c, c < hn g .mk → c ≠ b → hg g' c .mk = hg g c .mk
theorem Only.refl {g : H2} {b : Nat} : Only g g b := ⟨Nat.le_refl _, fun _ _ _ => rfl⟩
theorem Only.set {g : H2} {b : Nat} {k : OB} : Only g (g.set b k) b := ⟨Nat.le_refl _, fun c _ hc => by rw [hg_set, show (c == b) = false by simp [hc]]; rfl⟩
theorem Only.up {g g' : H2} {b n : Nat} (o : Only g g' b) (hn' : hn g' .mk ≤ n) : Only g (g'.up n) b := ⟨Nat.le_trans o.1 hn', o.2⟩
theorem Only.trans {g g' g'' : H2} {b : Nat} (o : Only g g' b) (o' : Only g' g'' b) : Only g g'' b := ⟨Nat.le_trans o.1 o'.1, fun c hc hb => (o'.2 c (Nat.lt_of_lt_of_le hc o.1) hb).trans (o.2 c hc hb)⟩
theorem Only.set' {g g' : H2} {b : Nat} {k : OB} (o : Only g g' b) : Only g (g'.set b k) b := o.trans Only.set
def oneP (s : ByteArray) (r : Rd) : Int × Rd := if (r.bad || decide (s.size ≤ r.p)) = true then (0, ⟨r.p, true⟩) else (((lst s).getD r.p 0).toNat, ⟨r.p + 1, false⟩)
def numP (s : ByteArray) (r : Rd) : Int × Rd := match rdV s r.p, r.bad with
  | some (n, q), false => (n, ⟨q, false⟩)
  | _, _ => (0, ⟨r.p, true⟩)
def shortP (s : ByteArray) (r : Rd) : ByteArray × Rd := match rdS s r.p, r.bad with
  | some (t, q), false => (t, ⟨q, false⟩)
  | _, _ => (⟨#[]⟩, ⟨r.p, true⟩)
attribute [go_sem] rdCells_def
theorem implOne_ok {s : ByteArray} {r : Rd} {b : Nat} {g : H2} (hs : s.size ≤ 4611686018427387904) (hr : RdAt g b s r) : WC2 Try.prog W0 43 [.raw (.pointer (some ⟨b, 0, none⟩))] g (fun v g' => v = .raw (.int .i64 (oneP s r).1) ∧ RdAt g' b s (oneP s r).2 ∧ Only g g' b) := by
  obtain ⟨hrow, hp⟩ := hr
  obtain ⟨p, bad⟩ := r
  simp only at hp
  refine start (P := Try.prog) [[0], [0], [0], [], [0], [0, 3], [3]] (by kernel_rfl) Try.func43 rfl (by decide) (by decide +kernel) (rs := [.tmp 2]) rfl rfl (Nat.le_of_ble_eq_true rfl) ?_
  intro wf
  repeat (first | rw [kz_o] | rw [kz_r0] | simp -dsimp -implicitDefEqProofs only [go_sem, Nat.reduceBEq, Nat.reduceAdd, Nat.reduceLeDiff, Nat.reduceMul, Int.reduceLE, Int.reduceLT, Int.reduceBEq])
  refine dq_intro [(0, []), (1, []), (2, []), (3, []), (4, []), (5, []), (6, []), (7, []), (8, []), (9, []), (10, []), (11, []), (12, []), (13, []), (14, []), (15, [])] (by kernel_rfl) ?_
  cases bad
  · repeat (first | rw [kz_o] | rw [kz_r0] | simp -dsimp -implicitDefEqProofs only [go_sem, Nat.reduceBEq, Nat.reduceAdd, Nat.reduceLeDiff, Nat.reduceMul, Int.reduceLE, Int.reduceLT, Int.reduceBEq, hrow])
    refine gz_dec (fun h1 => ?_) (fun h1 => ?_)
    · repeat (first | rw [kz_o] | rw [kz_r0] | simp -dsimp -implicitDefEqProofs only [go_sem, Nat.reduceBEq, Nat.reduceAdd, Nat.reduceLeDiff, Nat.reduceMul, Int.reduceLE, Int.reduceLT, Int.reduceBEq, hrow, h1])
      refine ⟨by rw [oneP, if_pos (by simp; omega)], ⟨by rw [oneP, if_pos (by simp; omega)]; simp -dsimp -implicitDefEqProofs only [go_sem, Nat.reduceBEq, Nat.reduceAdd, Nat.reduceLeDiff, Nat.reduceMul, Int.reduceLE, Int.reduceLT, Int.reduceBEq], by rw [oneP, if_pos (by simp; omega)]; exact hp⟩, Only.set⟩
    · have h2 : p < s.size := by omega
      have hl : ((lst s).getD p 0) = s[p] := by rw [List.getD_eq_getElem?_getD, List.getElem?_eq_getElem (show p < (lst s).length from h2)]; rfl
      have w1 : IntKind.i64.wrap ((p : Int) + 1) = ((p + 1 : Nat) : Int) := by rw [wrap_i64] <;> omega
      have w2 : IntKind.i64.wrap (s[p].toNat : Int) = s[p].toNat := by have := s[p].toNat_lt; rw [wrap_i64] <;> omega
      have w3 : IntKind.i64.wrap (((p + 1 : Nat) : Int) - 1) = (p : Int) := by rw [wrap_i64] <;> omega
      repeat (first | rw [kz_o] | rw [kz_r0] | simp -dsimp -implicitDefEqProofs only [go_sem, Nat.reduceBEq, Nat.reduceAdd, Nat.reduceLeDiff, Nat.reduceMul, Int.reduceLE, Int.reduceLT, Int.reduceBEq, hrow, h1, w1, w2, w3, h2])
      refine dq_intro [(0, []), (1, []), (2, []), (3, []), (4, []), (5, []), (6, []), (7, []), (8, []), (9, []), (10, [])] (by kernel_rfl) ?_
      repeat (first | rw [kz_o] | rw [kz_r0] | simp -dsimp -implicitDefEqProofs only [go_sem, Nat.reduceBEq, Nat.reduceAdd, Nat.reduceLeDiff, Nat.reduceMul, Int.reduceLE, Int.reduceLT, Int.reduceBEq, hrow, h1, w1, w2, w3, h2])
      refine ⟨by rw [oneP, if_neg (by simp; omega), hl], ⟨by rw [oneP, if_neg (by simp; omega)]; simp -dsimp -implicitDefEqProofs only [go_sem, Nat.reduceBEq, Nat.reduceAdd, Nat.reduceLeDiff, Nat.reduceMul, Int.reduceLE, Int.reduceLT, Int.reduceBEq], by rw [oneP, if_neg (by simp; omega)]; exact h2⟩, Only.set⟩
  · repeat (first | rw [kz_o] | rw [kz_r0] | simp -dsimp -implicitDefEqProofs only [go_sem, Nat.reduceBEq, Nat.reduceAdd, Nat.reduceLeDiff, Nat.reduceMul, Int.reduceLE, Int.reduceLT, Int.reduceBEq, hrow])
    have e1 : oneP s ⟨p, true⟩ = (0, ⟨p, true⟩) := rfl
    rw [e1]
    exact ⟨rfl, ⟨by simp -dsimp -implicitDefEqProofs only [go_sem, Nat.reduceBEq, Nat.reduceAdd, Nat.reduceLeDiff, Nat.reduceMul, Int.reduceLE, Int.reduceLT, Int.reduceBEq], hp⟩, Only.set⟩
theorem implNum_ok {s : ByteArray} {r : Rd} {b : Nat} {g : H2} (hs : s.size ≤ 4611686018427387904) (hr : RdAt g b s r) : WC2 Try.prog W0 93 [.raw (.pointer (some ⟨b, 0, none⟩))] g (fun v g' => v = .raw (.int .i64 (numP s r).1) ∧ RdAt g' b s (numP s r).2 ∧ Only g g' b) := by
  obtain ⟨hrow, hp⟩ := hr
  obtain ⟨p, bad⟩ := r
  simp only at hp
  refine start (P := Try.prog) [[0], [0], [0, 3, 4, 5], [0], [], [0, 3, 4], [3]] (by kernel_rfl) Try.func93 rfl (by decide) (by decide +kernel) (rs := [.tmp 2]) rfl rfl (Nat.le_of_ble_eq_true rfl) ?_
  intro wf
  repeat (first | rw [kz_o] | rw [kz_r0] | simp -dsimp -implicitDefEqProofs only [go_sem, Nat.reduceBEq, Nat.reduceAdd, Nat.reduceLeDiff, Nat.reduceMul, Int.reduceLE, Int.reduceLT, Int.reduceBEq])
  refine dq_intro [(0, []), (1, []), (2, []), (3, []), (4, []), (5, []), (6, []), (7, []), (8, []), (9, []), (10, []), (11, []), (12, []), (13, []), (14, []), (15, [])] (by kernel_rfl) ?_
  repeat (first | rw [kz_o] | rw [kz_r0] | simp -dsimp -implicitDefEqProofs only [go_sem, Nat.reduceBEq, Nat.reduceAdd, Nat.reduceLeDiff, Nat.reduceMul, Int.reduceLE, Int.reduceLT, Int.reduceBEq, hrow])
  refine pw_intro (implReadVar_ok hs) ?_
  rintro _ n hn rfl
  rw [kz_r]
  refine ⟨by simp -dsimp -implicitDefEqProofs only [go_sem, Nat.reduceBEq, Nat.reduceAdd, Nat.reduceLeDiff, Nat.reduceMul, Int.reduceLE, Int.reduceLT, Int.reduceBEq, hrow], ?_⟩
  cases hv : rdV s p with
  | none =>
    have e1 : numP s ⟨p, bad⟩ = (0, ⟨p, true⟩) := by simp only [numP, hv]
    rw [rdR, e1]
    cases bad
    · repeat (first | rw [kz_o] | rw [kz_r0] | simp -dsimp -implicitDefEqProofs only [go_sem, Nat.reduceBEq, Nat.reduceAdd, Nat.reduceLeDiff, Nat.reduceMul, Int.reduceLE, Int.reduceLT, Int.reduceBEq, hrow])
      exact ⟨rfl, ⟨by simp -dsimp -implicitDefEqProofs only [go_sem, Nat.reduceBEq, Nat.reduceAdd, Nat.reduceLeDiff, Nat.reduceMul, Int.reduceLE, Int.reduceLT, Int.reduceBEq], hp⟩, (Only.refl.up hn).set'⟩
    · repeat (first | rw [kz_o] | rw [kz_r0] | simp -dsimp -implicitDefEqProofs only [go_sem, Nat.reduceBEq, Nat.reduceAdd, Nat.reduceLeDiff, Nat.reduceMul, Int.reduceLE, Int.reduceLT, Int.reduceBEq, hrow])
      exact ⟨rfl, ⟨by simp -dsimp -implicitDefEqProofs only [go_sem, Nat.reduceBEq, Nat.reduceAdd, Nat.reduceLeDiff, Nat.reduceMul, Int.reduceLE, Int.reduceLT, Int.reduceBEq], hp⟩, (Only.refl.up hn).set'⟩
  | some q =>
    obtain ⟨k, q⟩ := q
    rw [rdR]
    cases bad
    · have e1 : numP s ⟨p, false⟩ = ((k : Int), ⟨q, false⟩) := by simp only [numP, hv]
      rw [e1]
      repeat (first | rw [kz_o] | rw [kz_r0] | simp -dsimp -implicitDefEqProofs only [go_sem, Nat.reduceBEq, Nat.reduceAdd, Nat.reduceLeDiff, Nat.reduceMul, Int.reduceLE, Int.reduceLT, Int.reduceBEq, hrow])
      exact ⟨rfl, ⟨by simp -dsimp -implicitDefEqProofs only [go_sem, Nat.reduceBEq, Nat.reduceAdd, Nat.reduceLeDiff, Nat.reduceMul, Int.reduceLE, Int.reduceLT, Int.reduceBEq], (rdV_le hv).2.2.1⟩, (Only.refl.up hn).set'⟩
    · have e1 : numP s ⟨p, true⟩ = (0, ⟨p, true⟩) := by simp only [numP, hv]
      rw [e1]
      repeat (first | rw [kz_o] | rw [kz_r0] | simp -dsimp -implicitDefEqProofs only [go_sem, Nat.reduceBEq, Nat.reduceAdd, Nat.reduceLeDiff, Nat.reduceMul, Int.reduceLE, Int.reduceLT, Int.reduceBEq, hrow])
      exact ⟨rfl, ⟨by simp -dsimp -implicitDefEqProofs only [go_sem, Nat.reduceBEq, Nat.reduceAdd, Nat.reduceLeDiff, Nat.reduceMul, Int.reduceLE, Int.reduceLT, Int.reduceBEq], hp⟩, (Only.refl.up hn).set'⟩
theorem implShort_ok {s : ByteArray} {r : Rd} {b : Nat} {g : H2} (hs : s.size ≤ 4611686018427387904) (hr : RdAt g b s r) : WC2 Try.prog W0 92 [.raw (.pointer (some ⟨b, 0, none⟩))] g (fun v g' => v = .raw (.string (shortP s r).1) ∧ RdAt g' b s (shortP s r).2 ∧ Only g g' b) := by
  obtain ⟨hrow, hp⟩ := hr
  obtain ⟨p, bad⟩ := r
  simp only at hp
  refine start (P := Try.prog) [[0], [0], [0, 3, 4, 5], [0], [], [0, 3, 4], [3]] (by kernel_rfl) Try.func92 rfl (by decide) (by decide +kernel) (rs := [.tmp 2]) rfl rfl (Nat.le_of_ble_eq_true rfl) ?_
  intro wf
  repeat (first | rw [kz_o] | rw [kz_r0] | simp -dsimp -implicitDefEqProofs only [go_sem, Nat.reduceBEq, Nat.reduceAdd, Nat.reduceLeDiff, Nat.reduceMul, Int.reduceLE, Int.reduceLT, Int.reduceBEq])
  refine dq_intro [(0, []), (1, []), (2, []), (3, []), (4, []), (5, []), (6, []), (7, []), (8, []), (9, []), (10, []), (11, []), (12, []), (13, []), (14, []), (15, [])] (by kernel_rfl) ?_
  repeat (first | rw [kz_o] | rw [kz_r0] | simp -dsimp -implicitDefEqProofs only [go_sem, Nat.reduceBEq, Nat.reduceAdd, Nat.reduceLeDiff, Nat.reduceMul, Int.reduceLE, Int.reduceLT, Int.reduceBEq, hrow])
  refine pw_intro (implReadShort_ok hs) ?_
  rintro _ n hn rfl
  rw [kz_r]
  refine ⟨by simp -dsimp -implicitDefEqProofs only [go_sem, Nat.reduceBEq, Nat.reduceAdd, Nat.reduceLeDiff, Nat.reduceMul, Int.reduceLE, Int.reduceLT, Int.reduceBEq, hrow], ?_⟩
  cases hv : rdS s p with
  | none =>
    have e1 : shortP s ⟨p, bad⟩ = (⟨#[]⟩, ⟨p, true⟩) := by simp only [shortP, hv]
    rw [rdSR, e1]
    cases bad
    · repeat (first | rw [kz_o] | rw [kz_r0] | simp -dsimp -implicitDefEqProofs only [go_sem, Nat.reduceBEq, Nat.reduceAdd, Nat.reduceLeDiff, Nat.reduceMul, Int.reduceLE, Int.reduceLT, Int.reduceBEq, hrow])
      exact ⟨rfl, ⟨by simp -dsimp -implicitDefEqProofs only [go_sem, Nat.reduceBEq, Nat.reduceAdd, Nat.reduceLeDiff, Nat.reduceMul, Int.reduceLE, Int.reduceLT, Int.reduceBEq], hp⟩, (Only.refl.up hn).set'⟩
    · repeat (first | rw [kz_o] | rw [kz_r0] | simp -dsimp -implicitDefEqProofs only [go_sem, Nat.reduceBEq, Nat.reduceAdd, Nat.reduceLeDiff, Nat.reduceMul, Int.reduceLE, Int.reduceLT, Int.reduceBEq, hrow])
      exact ⟨rfl, ⟨by simp -dsimp -implicitDefEqProofs only [go_sem, Nat.reduceBEq, Nat.reduceAdd, Nat.reduceLeDiff, Nat.reduceMul, Int.reduceLE, Int.reduceLT, Int.reduceBEq], hp⟩, (Only.refl.up hn).set'⟩
  | some q =>
    obtain ⟨k, q⟩ := q
    rw [rdSR]
    cases bad
    · have e1 : shortP s ⟨p, false⟩ = (k, ⟨q, false⟩) := by simp only [shortP, hv]
      rw [e1]
      repeat (first | rw [kz_o] | rw [kz_r0] | simp -dsimp -implicitDefEqProofs only [go_sem, Nat.reduceBEq, Nat.reduceAdd, Nat.reduceLeDiff, Nat.reduceMul, Int.reduceLE, Int.reduceLT, Int.reduceBEq, hrow])
      exact ⟨rfl, ⟨by simp -dsimp -implicitDefEqProofs only [go_sem, Nat.reduceBEq, Nat.reduceAdd, Nat.reduceLeDiff, Nat.reduceMul, Int.reduceLE, Int.reduceLT, Int.reduceBEq], (rdS_le hv).1⟩, (Only.refl.up hn).set'⟩
    · have e1 : shortP s ⟨p, true⟩ = (⟨#[]⟩, ⟨p, true⟩) := by simp only [shortP, hv]
      rw [e1]
      repeat (first | rw [kz_o] | rw [kz_r0] | simp -dsimp -implicitDefEqProofs only [go_sem, Nat.reduceBEq, Nat.reduceAdd, Nat.reduceLeDiff, Nat.reduceMul, Int.reduceLE, Int.reduceLT, Int.reduceBEq, hrow])
      exact ⟨rfl, ⟨by simp -dsimp -implicitDefEqProofs only [go_sem, Nat.reduceBEq, Nat.reduceAdd, Nat.reduceLeDiff, Nat.reduceMul, Int.reduceLE, Int.reduceLT, Int.reduceBEq], hp⟩, (Only.refl.up hn).set'⟩
theorem specOne_ok {s : ByteArray} {r : Rd} {b : Nat} {g : H2} (hs : s.size ≤ 4611686018427387904) (hr : RdAt g b s r) : WC2 Try.prog W0 46 [.raw (.pointer (some ⟨b, 0, none⟩))] g (fun v g' => v = .raw (.int .i64 (oneP s r).1) ∧ RdAt g' b s (oneP s r).2 ∧ Only g g' b) := by
  obtain ⟨hrow, hp⟩ := hr
  obtain ⟨p, bad⟩ := r
  simp only at hp
  refine start (P := Try.prog) [[0], [0], [0], [], [0], [0]] (by kernel_rfl) Try.func46 rfl (by decide) (by decide +kernel) (rs := [.tmp 2]) rfl rfl (Nat.le_of_ble_eq_true rfl) ?_
  intro wf
  repeat (first | rw [kz_o] | rw [kz_r0] | simp -dsimp -implicitDefEqProofs only [go_sem, Nat.reduceBEq, Nat.reduceAdd, Nat.reduceLeDiff, Nat.reduceMul, Int.reduceLE, Int.reduceLT, Int.reduceBEq])
  refine dq_intro [(0, []), (1, []), (2, []), (3, []), (4, []), (5, []), (6, []), (7, []), (8, []), (9, []), (10, []), (11, []), (12, []), (13, []), (14, []), (15, [])] (by kernel_rfl) ?_
  cases bad
  · repeat (first | rw [kz_o] | rw [kz_r0] | simp -dsimp -implicitDefEqProofs only [go_sem, Nat.reduceBEq, Nat.reduceAdd, Nat.reduceLeDiff, Nat.reduceMul, Int.reduceLE, Int.reduceLT, Int.reduceBEq, hrow])
    refine gz_dec (fun h1 => ?_) (fun h1 => ?_)
    · repeat (first | rw [kz_o] | rw [kz_r0] | simp -dsimp -implicitDefEqProofs only [go_sem, Nat.reduceBEq, Nat.reduceAdd, Nat.reduceLeDiff, Nat.reduceMul, Int.reduceLE, Int.reduceLT, Int.reduceBEq, hrow, h1])
      refine ⟨by rw [oneP, if_pos (by simp; omega)], ⟨by rw [oneP, if_pos (by simp; omega)]; simp -dsimp -implicitDefEqProofs only [go_sem, Nat.reduceBEq, Nat.reduceAdd, Nat.reduceLeDiff, Nat.reduceMul, Int.reduceLE, Int.reduceLT, Int.reduceBEq], by rw [oneP, if_pos (by simp; omega)]; exact hp⟩, Only.set⟩
    · have h2 : p < s.size := by omega
      have hl : ((lst s).getD p 0) = s[p] := by rw [List.getD_eq_getElem?_getD, List.getElem?_eq_getElem (show p < (lst s).length from h2)]; rfl
      have w1 : IntKind.i64.wrap ((p : Int) + 1) = ((p + 1 : Nat) : Int) := by rw [wrap_i64] <;> omega
      have w2 : IntKind.i64.wrap (s[p].toNat : Int) = s[p].toNat := by have := s[p].toNat_lt; rw [wrap_i64] <;> omega
      have w3 : IntKind.i64.wrap (((p + 1 : Nat) : Int) - 1) = (p : Int) := by rw [wrap_i64] <;> omega
      repeat (first | rw [kz_o] | rw [kz_r0] | simp -dsimp -implicitDefEqProofs only [go_sem, Nat.reduceBEq, Nat.reduceAdd, Nat.reduceLeDiff, Nat.reduceMul, Int.reduceLE, Int.reduceLT, Int.reduceBEq, hrow, h1, w1, w2, w3, h2])
      refine dq_intro [(0, []), (1, []), (2, []), (3, []), (4, []), (5, []), (6, []), (7, []), (8, []), (9, []), (10, []), (11, [])] (by kernel_rfl) ?_
      repeat (first | rw [kz_o] | rw [kz_r0] | simp -dsimp -implicitDefEqProofs only [go_sem, Nat.reduceBEq, Nat.reduceAdd, Nat.reduceLeDiff, Nat.reduceMul, Int.reduceLE, Int.reduceLT, Int.reduceBEq, hrow, h1, w1, w2, w3, h2])
      refine ⟨by rw [oneP, if_neg (by simp; omega), hl], ⟨by rw [oneP, if_neg (by simp; omega)]; simp -dsimp -implicitDefEqProofs only [go_sem, Nat.reduceBEq, Nat.reduceAdd, Nat.reduceLeDiff, Nat.reduceMul, Int.reduceLE, Int.reduceLT, Int.reduceBEq], by rw [oneP, if_neg (by simp; omega)]; exact h2⟩, Only.set⟩
  · repeat (first | rw [kz_o] | rw [kz_r0] | simp -dsimp -implicitDefEqProofs only [go_sem, Nat.reduceBEq, Nat.reduceAdd, Nat.reduceLeDiff, Nat.reduceMul, Int.reduceLE, Int.reduceLT, Int.reduceBEq, hrow])
    have e1 : oneP s ⟨p, true⟩ = (0, ⟨p, true⟩) := rfl
    rw [e1]
    exact ⟨rfl, ⟨by simp -dsimp -implicitDefEqProofs only [go_sem, Nat.reduceBEq, Nat.reduceAdd, Nat.reduceLeDiff, Nat.reduceMul, Int.reduceLE, Int.reduceLT, Int.reduceBEq], hp⟩, Only.set⟩
theorem specNum_ok {s : ByteArray} {r : Rd} {b : Nat} {g : H2} (hs : s.size ≤ 4611686018427387904) (hr : RdAt g b s r) : WC2 Try.prog W0 48 [.raw (.pointer (some ⟨b, 0, none⟩))] g (fun v g' => v = .raw (.int .i64 (numP s r).1) ∧ RdAt g' b s (numP s r).2 ∧ Only g g' b) := by
  obtain ⟨hrow, hp⟩ := hr
  obtain ⟨p, bad⟩ := r
  simp only at hp
  refine start (P := Try.prog) [[0], [0], [0, 3, 4, 5], [0], [], [0, 3, 4], [3]] (by kernel_rfl) Try.func48 rfl (by decide) (by decide +kernel) (rs := [.tmp 2]) rfl rfl (Nat.le_of_ble_eq_true rfl) ?_
  intro wf
  repeat (first | rw [kz_o] | rw [kz_r0] | simp -dsimp -implicitDefEqProofs only [go_sem, Nat.reduceBEq, Nat.reduceAdd, Nat.reduceLeDiff, Nat.reduceMul, Int.reduceLE, Int.reduceLT, Int.reduceBEq])
  refine dq_intro [(0, []), (1, []), (2, []), (3, []), (4, []), (5, []), (6, []), (7, []), (8, []), (9, []), (10, []), (11, []), (12, []), (13, []), (14, []), (15, [])] (by kernel_rfl) ?_
  repeat (first | rw [kz_o] | rw [kz_r0] | simp -dsimp -implicitDefEqProofs only [go_sem, Nat.reduceBEq, Nat.reduceAdd, Nat.reduceLeDiff, Nat.reduceMul, Int.reduceLE, Int.reduceLT, Int.reduceBEq, hrow])
  refine pw_intro (specReadVar_ok hs) ?_
  rintro _ n hn rfl
  rw [kz_r]
  refine ⟨by simp -dsimp -implicitDefEqProofs only [go_sem, Nat.reduceBEq, Nat.reduceAdd, Nat.reduceLeDiff, Nat.reduceMul, Int.reduceLE, Int.reduceLT, Int.reduceBEq, hrow], ?_⟩
  cases hv : rdV s p with
  | none =>
    have e1 : numP s ⟨p, bad⟩ = (0, ⟨p, true⟩) := by simp only [numP, hv]
    rw [rdR, e1]
    cases bad
    · repeat (first | rw [kz_o] | rw [kz_r0] | simp -dsimp -implicitDefEqProofs only [go_sem, Nat.reduceBEq, Nat.reduceAdd, Nat.reduceLeDiff, Nat.reduceMul, Int.reduceLE, Int.reduceLT, Int.reduceBEq, hrow])
      exact ⟨rfl, ⟨by simp -dsimp -implicitDefEqProofs only [go_sem, Nat.reduceBEq, Nat.reduceAdd, Nat.reduceLeDiff, Nat.reduceMul, Int.reduceLE, Int.reduceLT, Int.reduceBEq], hp⟩, (Only.refl.up hn).set'⟩
    · repeat (first | rw [kz_o] | rw [kz_r0] | simp -dsimp -implicitDefEqProofs only [go_sem, Nat.reduceBEq, Nat.reduceAdd, Nat.reduceLeDiff, Nat.reduceMul, Int.reduceLE, Int.reduceLT, Int.reduceBEq, hrow])
      exact ⟨rfl, ⟨by simp -dsimp -implicitDefEqProofs only [go_sem, Nat.reduceBEq, Nat.reduceAdd, Nat.reduceLeDiff, Nat.reduceMul, Int.reduceLE, Int.reduceLT, Int.reduceBEq], hp⟩, (Only.refl.up hn).set'⟩
  | some q =>
    obtain ⟨k, q⟩ := q
    rw [rdR]
    cases bad
    · have e1 : numP s ⟨p, false⟩ = ((k : Int), ⟨q, false⟩) := by simp only [numP, hv]
      rw [e1]
      repeat (first | rw [kz_o] | rw [kz_r0] | simp -dsimp -implicitDefEqProofs only [go_sem, Nat.reduceBEq, Nat.reduceAdd, Nat.reduceLeDiff, Nat.reduceMul, Int.reduceLE, Int.reduceLT, Int.reduceBEq, hrow])
      exact ⟨rfl, ⟨by simp -dsimp -implicitDefEqProofs only [go_sem, Nat.reduceBEq, Nat.reduceAdd, Nat.reduceLeDiff, Nat.reduceMul, Int.reduceLE, Int.reduceLT, Int.reduceBEq], (rdV_le hv).2.2.1⟩, (Only.refl.up hn).set'⟩
    · have e1 : numP s ⟨p, true⟩ = (0, ⟨p, true⟩) := by simp only [numP, hv]
      rw [e1]
      repeat (first | rw [kz_o] | rw [kz_r0] | simp -dsimp -implicitDefEqProofs only [go_sem, Nat.reduceBEq, Nat.reduceAdd, Nat.reduceLeDiff, Nat.reduceMul, Int.reduceLE, Int.reduceLT, Int.reduceBEq, hrow])
      exact ⟨rfl, ⟨by simp -dsimp -implicitDefEqProofs only [go_sem, Nat.reduceBEq, Nat.reduceAdd, Nat.reduceLeDiff, Nat.reduceMul, Int.reduceLE, Int.reduceLT, Int.reduceBEq], hp⟩, (Only.refl.up hn).set'⟩
theorem specShort_ok {s : ByteArray} {r : Rd} {b : Nat} {g : H2} (hs : s.size ≤ 4611686018427387904) (hr : RdAt g b s r) : WC2 Try.prog W0 47 [.raw (.pointer (some ⟨b, 0, none⟩))] g (fun v g' => v = .raw (.string (shortP s r).1) ∧ RdAt g' b s (shortP s r).2 ∧ Only g g' b) := by
  obtain ⟨hrow, hp⟩ := hr
  obtain ⟨p, bad⟩ := r
  simp only at hp
  refine start (P := Try.prog) [[0], [0], [0, 3, 4, 5], [0], [], [0, 3, 4], [3]] (by kernel_rfl) Try.func47 rfl (by decide) (by decide +kernel) (rs := [.tmp 2]) rfl rfl (Nat.le_of_ble_eq_true rfl) ?_
  intro wf
  repeat (first | rw [kz_o] | rw [kz_r0] | simp -dsimp -implicitDefEqProofs only [go_sem, Nat.reduceBEq, Nat.reduceAdd, Nat.reduceLeDiff, Nat.reduceMul, Int.reduceLE, Int.reduceLT, Int.reduceBEq])
  refine dq_intro [(0, []), (1, []), (2, []), (3, []), (4, []), (5, []), (6, []), (7, []), (8, []), (9, []), (10, []), (11, []), (12, []), (13, []), (14, []), (15, [])] (by kernel_rfl) ?_
  repeat (first | rw [kz_o] | rw [kz_r0] | simp -dsimp -implicitDefEqProofs only [go_sem, Nat.reduceBEq, Nat.reduceAdd, Nat.reduceLeDiff, Nat.reduceMul, Int.reduceLE, Int.reduceLT, Int.reduceBEq, hrow])
  refine pw_intro (specReadShort_ok hs) ?_
  rintro _ n hn rfl
  rw [kz_r]
  refine ⟨by simp -dsimp -implicitDefEqProofs only [go_sem, Nat.reduceBEq, Nat.reduceAdd, Nat.reduceLeDiff, Nat.reduceMul, Int.reduceLE, Int.reduceLT, Int.reduceBEq, hrow], ?_⟩
  cases hv : rdS s p with
  | none =>
    have e1 : shortP s ⟨p, bad⟩ = (⟨#[]⟩, ⟨p, true⟩) := by simp only [shortP, hv]
    rw [rdSR, e1]
    cases bad
    · repeat (first | rw [kz_o] | rw [kz_r0] | simp -dsimp -implicitDefEqProofs only [go_sem, Nat.reduceBEq, Nat.reduceAdd, Nat.reduceLeDiff, Nat.reduceMul, Int.reduceLE, Int.reduceLT, Int.reduceBEq, hrow])
      exact ⟨rfl, ⟨by simp -dsimp -implicitDefEqProofs only [go_sem, Nat.reduceBEq, Nat.reduceAdd, Nat.reduceLeDiff, Nat.reduceMul, Int.reduceLE, Int.reduceLT, Int.reduceBEq], hp⟩, (Only.refl.up hn).set'⟩
    · repeat (first | rw [kz_o] | rw [kz_r0] | simp -dsimp -implicitDefEqProofs only [go_sem, Nat.reduceBEq, Nat.reduceAdd, Nat.reduceLeDiff, Nat.reduceMul, Int.reduceLE, Int.reduceLT, Int.reduceBEq, hrow])
      exact ⟨rfl, ⟨by simp -dsimp -implicitDefEqProofs only [go_sem, Nat.reduceBEq, Nat.reduceAdd, Nat.reduceLeDiff, Nat.reduceMul, Int.reduceLE, Int.reduceLT, Int.reduceBEq], hp⟩, (Only.refl.up hn).set'⟩
  | some q =>
    obtain ⟨k, q⟩ := q
    rw [rdSR]
    cases bad
    · have e1 : shortP s ⟨p, false⟩ = (k, ⟨q, false⟩) := by simp only [shortP, hv]
      rw [e1]
      repeat (first | rw [kz_o] | rw [kz_r0] | simp -dsimp -implicitDefEqProofs only [go_sem, Nat.reduceBEq, Nat.reduceAdd, Nat.reduceLeDiff, Nat.reduceMul, Int.reduceLE, Int.reduceLT, Int.reduceBEq, hrow])
      exact ⟨rfl, ⟨by simp -dsimp -implicitDefEqProofs only [go_sem, Nat.reduceBEq, Nat.reduceAdd, Nat.reduceLeDiff, Nat.reduceMul, Int.reduceLE, Int.reduceLT, Int.reduceBEq], (rdS_le hv).1⟩, (Only.refl.up hn).set'⟩
    · have e1 : shortP s ⟨p, true⟩ = (⟨#[]⟩, ⟨p, true⟩) := by simp only [shortP, hv]
      rw [e1]
      repeat (first | rw [kz_o] | rw [kz_r0] | simp -dsimp -implicitDefEqProofs only [go_sem, Nat.reduceBEq, Nat.reduceAdd, Nat.reduceLeDiff, Nat.reduceMul, Int.reduceLE, Int.reduceLT, Int.reduceBEq, hrow])
      exact ⟨rfl, ⟨by simp -dsimp -implicitDefEqProofs only [go_sem, Nat.reduceBEq, Nat.reduceAdd, Nat.reduceLeDiff, Nat.reduceMul, Int.reduceLE, Int.reduceLT, Int.reduceBEq], hp⟩, (Only.refl.up hn).set'⟩
end Go.Bi
