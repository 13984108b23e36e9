/- The walks of both ReadVars. -/
import Derived.Test.YtjofbadmkigkjaaEa
import Derived.Laws.Strings
import Derived.Laws.Bits128
set_option linter.unusedSimpArgs false
set_option linter.unusedVariables false
set_option maxRecDepth 20000
namespace Go.Bi
open Go.Proofs
open Go.Ai (wrap_i64 wrap_u64 wrap_u8 Heap)
variable {W0 : World} {P : Program}
/-- Plain values, and tuples of them. -/
def PlainX (x : X) : Prop := (∃ v, x = .raw v) ∨ ∃ vs : List Value, x = .tp (vs.map .raw)
theorem PlainX.fz {p q : Nat → Prop} {g : H2} {x : X} (h : PlainX x) : Fz p q g x x := by
  rcases h with ⟨v, rfl⟩ | ⟨vs, rfl⟩
  · exact .raw
  · refine .tp rfl fun i hi hi' => ?_
    simp only [List.getElem_map]; exact .raw
theorem PlainX.all {p : Nat → Prop} {x : X} (h : PlainX x) : AllB p x := by
  rcases h with ⟨v, rfl⟩ | ⟨vs, rfl⟩
  · exact .raw
  · refine .tp fun x hx => ?_
    obtain ⟨v, _, rfl⟩ := List.mem_map.1 hx; exact .raw
theorem PW.plain {f : FuncId} {xs : List X} {g : H2} {Q : X → Prop} (c : WC2 P W0 f xs g fun x g' => g.le g' ∧ PlainX x ∧ Q x) : PW P W0 f xs g Q :=
  (PW.of (q := fun _ => True) (Q := Q) (c.mono fun x g' ⟨h1, h2, h3⟩ => ⟨h1, x, h2.fz, h3⟩)).mono fun y h => h.1
def cmb (k n : Nat) : Option (Nat × Nat) → Option (Nat × Nat)
  | some (n', j') => some (n + 128 ^ k * n', k + j')
  | none => none
theorem rv_big {f : Nat} {b : UInt8} {r : List UInt8} {k n : Nat} (hb : ¬ b.toNat < 128) : cmb k n (rv (f + 1) (b :: r)) = cmb (k + 1) (n + b.toNat % 128 * 128 ^ k) (rv f r) := by
  rw [rv, if_neg hb]
  cases rv f r with
  | none => rfl
  | some q =>
    obtain ⟨n', j'⟩ := q
    simp only [cmb, Option.some.injEq, Prod.mk.injEq]
    refine ⟨?_, by omega⟩
    rw [Nat.pow_succ, Nat.mul_add, Nat.mul_comm (b.toNat % 128), Nat.mul_assoc, Nat.add_assoc]
theorem rv_small {f : Nat} {b : UInt8} {r : List UInt8} {k n : Nat} (hb : b.toNat < 128) : cmb k n (rv (f + 1) (b :: r)) = some (n + b.toNat % 128 * 128 ^ k, k + 1) := by
  rw [rv, if_pos hb]
  simp only [cmb, Nat.mod_eq_of_lt hb, Nat.mul_comm]
theorem pow_step {k n x : Nat} (hn : n < 128 ^ k) (hx : x < 128) : n + x * 128 ^ k < 128 ^ (k + 1) := by
  rw [Nat.pow_succ]
  have : (x + 1) * 128 ^ k ≤ 128 * 128 ^ k := Nat.mul_le_mul_right _ (by omega)
  rw [Nat.add_mul] at this
  omega
theorem pow_le {k : Nat} (hk : k ≤ 5) : 128 ^ k ≤ 34359738368 := by
  have := Nat.pow_le_pow_right (n := 128) (by omega) hk
  simpa using this
theorem rdV_none {s : ByteArray} {a : Nat} (h : rv 5 ((lst s).drop a) = none) : rdV s a = none := by
  rw [rdV]; split
  · simp only [Int.toNat_natCast, h]
  · rfl
theorem rdV_some {s : ByteArray} {a n j : Nat} (ha : a ≤ s.size) (h : rv 5 ((lst s).drop a) = some (n, j)) : rdV s a = if n ≤ 1000000000 ∧ varN n = ((lst s).drop a).take j then some (n, a + j) else none := by
  rw [rdV, if_pos (by rw [inI]; simp; omega)]
  simp only [Int.toNat_natCast, h]
theorem plain3 {a b c : Value} : PlainX (.tp [.raw a, .raw b, .raw c]) := .inr ⟨[a, b, c], rfl⟩
set_option maxHeartbeats 1000000 in
theorem implReadVar_ok {s : ByteArray} {p : Int} {h : H2} (hs : s.size ≤ 4611686018427387904) : PW Try.prog W0 124 [.raw (.string s), .raw (.int .i64 p)] h (fun r => r = rdR (rdV s p)) := by
  refine PW.plain ?_
  refine start (P := Try.prog) [[0, 1], [0, 1], [], [0, 1], [0, 1, 7], [0, 1, 7, 8], [0, 1, 7, 8], [0, 1, 7, 8], [0, 1, 7, 8, 9], [0, 1, 7, 8, 9], [1, 7, 8, 9], [], [1, 7, 8], []] (by kernel_rfl) Try.func124 rfl (by decide) (by decide +kernel) (rs := [.tmp 4, .tmp 5, .tmp 6]) rfl rfl (Nat.le_of_ble_eq_true rfl) ?_
  intro wf
  repeat (first | rw [kz_o] | rw [kz_r0] | simp -dsimp -implicitDefEqProofs only [go_sem, Nat.reduceBEq, Nat.reduceAdd, Nat.reduceLeDiff, Nat.reduceMul, Int.reduceLE, Int.reduceLT, Int.reduceBEq])
  refine wz_intro in_ok ?_
  rintro _ h ⟨rfl, rfl⟩
  cases hi : inI p 0 s.size
  · repeat (first | rw [kz_o] | rw [kz_r0] | simp -dsimp -implicitDefEqProofs only [go_sem, Nat.reduceBEq, Nat.reduceAdd, Nat.reduceLeDiff, Nat.reduceMul, Int.reduceLE, Int.reduceLT, Int.reduceBEq])
    exact ⟨H2.le.refl _, plain3, by rw [rdV, hi]; rfl⟩
  have hi1 := inI_t hi
  obtain ⟨a, rfl⟩ := Int.eq_ofNat_of_zero_le hi1.1
  have ha : a ≤ s.size := by omega
  repeat (first | rw [kz_o] | rw [kz_r0] | simp -dsimp -implicitDefEqProofs only [go_sem, Nat.reduceBEq, Nat.reduceAdd, Nat.reduceLeDiff, Nat.reduceMul, Int.reduceLE, Int.reduceLT, Int.reduceBEq])
  refine lz_keep [0, 1] (fun m e h' => h' = h ∧ ∃ k n : Nat, look e 8 .mk = .raw (.int .i64 k) ∧ look e 7 .mk = .raw (.int .i64 n) ∧ m + k = 5 ∧ n < 128 ^ k ∧ rv 5 ((lst s).drop a) = cmb k n (rv (5 - k) ((lst s).drop (a + k)))) 5 ?_ ?_
  · refine ⟨rfl, 0, 0, by simp -dsimp -implicitDefEqProofs only [go_sem, Nat.reduceBEq, Nat.reduceAdd, Nat.reduceLeDiff, Nat.reduceMul, Int.reduceLE, Int.reduceLT, Int.reduceBEq], by simp -dsimp -implicitDefEqProofs only [go_sem, Nat.reduceBEq, Nat.reduceAdd, Nat.reduceLeDiff, Nat.reduceMul, Int.reduceLE, Int.reduceLT, Int.reduceBEq], rfl, by omega, ?_⟩
    cases rv 5 ((lst s).drop a) with
    | none => simp [cmb]
    | some q => simp [cmb]
  · rintro m e h hks ⟨rfl, k, n, e8, e7, hk, hn, hrv⟩
    simp -dsimp -implicitDefEqProofs only [go_sem, Nat.reduceBEq, Nat.reduceAdd, Nat.reduceLeDiff, Nat.reduceMul, Int.reduceLE, Int.reduceLT, Int.reduceBEq] at hks
    repeat (first | rw [kz_o] | rw [kz_r0] | simp -dsimp -implicitDefEqProofs only [go_sem, Nat.reduceBEq, Nat.reduceAdd, Nat.reduceLeDiff, Nat.reduceMul, Int.reduceLE, Int.reduceLT, Int.reduceBEq, hks, e8, e7])
    have hpw := pow_le (show k ≤ 5 by omega)
    have hw : IntKind.i64.wrap ((a : Int) + k) = ((a + k : Nat) : Int) := by rw [wrap_i64] <;> omega
    refine gz_dec (fun h2 => ?_) (fun h2 => ?_)
    · repeat (first | rw [kz_o] | rw [kz_r0] | simp -dsimp -implicitDefEqProofs only [go_sem, Nat.reduceBEq, Nat.reduceAdd, Nat.reduceLeDiff, Nat.reduceMul, Int.reduceLE, Int.reduceLT, Int.reduceBEq, hks, e8, e7, h2, hw])
      refine gz_dec (fun h3 => ?_) (fun h3 => ?_)
      · have h3' : a + k < s.size := by omega
        obtain ⟨f, hf⟩ : ∃ f, 5 - k = f + 1 := ⟨4 - k, by omega⟩
        rw [hf, lst_drop h3'] at hrv
        generalize hb : s[a + k] = b at hrv
        have hb2 : b.toNat < 256 := b.toNat_lt
        have w1 : IntKind.i64.wrap (b.toNat : Int) = b.toNat := by rw [wrap_i64] <;> omega
        have w2 : bits .and .i64 (b.toNat : Int) 127 = ((b.toNat % 128 : Nat) : Int) := by rw [i64_and127]; omega
        have w3 : IntKind.i64.wrap (7 * (k : Int)) = ((7 * k : Nat) : Int) := by rw [wrap_i64] <;> omega
        have hn2 := pow_step (x := b.toNat % 128) hn (by omega)
        have hpw2 := pow_le (show k + 1 ≤ 5 by omega)
        have w4 : Go.Ai.shlI .i64 ((b.toNat % 128 : Nat) : Int) ((7 * k : Nat) : Int) = ((b.toNat % 128 * 128 ^ k : Nat) : Int) := by
          have e1 : min (7 * k) 64 = 7 * k := by omega
          simp only [Go.Ai.shlI, Int.toNat_natCast, show IntKind.i64.bits = 64 from rfl, e1]
          have e2 : ((2 : Int) ^ (7 * k)) = ((128 ^ k : Nat) : Int) := by rw [Int.pow_mul]; simp
          rw [e2, ← Int.natCast_mul, wrap_i64] <;> omega
        have w5 : bits .or .i64 (n : Int) ((b.toNat % 128 * 128 ^ k : Nat) : Int) = ((n + b.toNat % 128 * 128 ^ k : Nat) : Int) := by
          have hc : bits .or .i64 (n : Int) ((b.toNat % 128 * 128 ^ k : Nat) : Int) = bits .or .i64 ((b.toNat % 128 * 128 ^ k : Nat) : Int) (n : Int) := by simp only [bits, BitVec.or_comm]
          rw [hc, bits_join .i64 63 (by decide) (fun n h0 h1 => by rw [wrap_i64] <;> omega) (7 * k) _ _ (by omega) ?_ (by omega) (by omega) ?_ (by omega)]
          · omega
          · have e2 : ((2 : Int) ^ (7 * k)) = ((128 ^ k : Nat) : Int) := by rw [Int.pow_mul]; simp
            rw [e2, ← Int.natCast_emod, Nat.mul_mod_left]; rfl
          · have e2 : ((2 : Int) ^ (7 * k)) = ((128 ^ k : Nat) : Int) := by rw [Int.pow_mul]; simp
            rw [e2]; omega
        repeat (first | rw [kz_o] | rw [kz_r0] | simp -dsimp -implicitDefEqProofs only [go_sem, Nat.reduceBEq, Nat.reduceAdd, Nat.reduceLeDiff, Nat.reduceMul, Int.reduceLE, Int.reduceLT, Int.reduceBEq, hks, e8, e7, h2, hw, h3', hb, w1, w2, w3, w4, w5])
        refine gz_dec (fun h4 => ?_) (fun h4 => ?_)
        · rw [rv_big (by omega)] at hrv
          have w6 : IntKind.i64.wrap ((k : Int) + 1) = ((k + 1 : Nat) : Int) := by rw [wrap_i64] <;> omega
          repeat (first | rw [kz_o] | rw [kz_r0] | simp -dsimp -implicitDefEqProofs only [go_sem, Nat.reduceBEq, Nat.reduceAdd, Nat.reduceLeDiff, Nat.reduceMul, Int.reduceLE, Int.reduceLT, Int.reduceBEq, hks, e8, w6])
          exact nx_keep (m - 1) (by omega) (by simp -dsimp -implicitDefEqProofs only [go_sem, Nat.reduceBEq, Nat.reduceAdd, Nat.reduceLeDiff, Nat.reduceMul, Int.reduceLE, Int.reduceLT, Int.reduceBEq, hks]) ⟨rfl, k + 1, _, by simp -dsimp -implicitDefEqProofs only [go_sem, Nat.reduceBEq, Nat.reduceAdd, Nat.reduceLeDiff, Nat.reduceMul, Int.reduceLE, Int.reduceLT, Int.reduceBEq], by simp -dsimp -implicitDefEqProofs only [go_sem, Nat.reduceBEq, Nat.reduceAdd, Nat.reduceLeDiff, Nat.reduceMul, Int.reduceLE, Int.reduceLT, Int.reduceBEq], by omega, hn2, by rw [hrv, show 5 - (k + 1) = f by omega]; rfl⟩
        · rw [rv_small (by omega)] at hrv
          have hR := rdV_some ha hrv
          have hv := rv_var hrv
          have hl : (((lst s).drop a).getD (k + 1 - 1) 0).toNat = b.toNat := by
            rw [Nat.add_sub_cancel, List.getD_eq_getElem?_getD, List.getElem?_drop, ← hb]
            rw [List.getElem?_eq_getElem (show a + k < (lst s).length from h3')]; rfl
          rw [hl] at hv
          generalize n + b.toNat % 128 * 128 ^ k = N at *
          repeat (first | rw [kz_o] | rw [kz_r0] | simp -dsimp -implicitDefEqProofs only [go_sem, Nat.reduceBEq, Nat.reduceAdd, Nat.reduceLeDiff, Nat.reduceMul, Int.reduceLE, Int.reduceLT, Int.reduceBEq, hks, e8])
          have w6 : IntKind.i64.wrap (((a + k : Nat) : Int) + 1) = ((a + (k + 1) : Nat) : Int) := by rw [wrap_i64] <;> omega
          have fail : (1 < k + 1 ∧ b.toNat = 0) ∨ 1000000000 < N → rdR (rdV s a) = .tp [.raw (.int .i64 0), .raw (.int .i64 0), .raw (.bool false)] := by
            intro hh
            rw [hR, if_neg]
            · rfl
            · rintro ⟨g1, g2⟩
              rcases hh with hh | hh
              · exact hv.1 g2 hh
              · omega
          have good : ¬ (1 < k + 1 ∧ b.toNat = 0) → N ≤ 1000000000 → rdR (rdV s a) = .tp [.raw (.int .i64 N), .raw (.int .i64 ((a + (k + 1) : Nat) : Int)), .raw (.bool true)] := by
            intro g1 g2
            rw [hR, if_pos ⟨g2, hv.2 g1⟩]; rfl
          refine gz_dec (fun h5 => ?_) (fun h5 => ?_)
          · repeat (first | rw [kz_o] | rw [kz_r0] | simp -dsimp -implicitDefEqProofs only [go_sem, Nat.reduceBEq, Nat.reduceAdd, Nat.reduceLeDiff, Nat.reduceMul, Int.reduceLE, Int.reduceLT, Int.reduceBEq, hks, e8, h5])
            refine gz_ndec (fun h6 => ?_) (fun h6 => ?_)
            rotate_left
            · repeat (first | rw [kz_o] | rw [kz_r0] | simp -dsimp -implicitDefEqProofs only [go_sem, Nat.reduceBEq, Nat.reduceAdd, Nat.reduceLeDiff, Nat.reduceMul, Int.reduceLE, Int.reduceLT, Int.reduceBEq, hks, e8, h5, h6])
              exact ⟨H2.le.refl _, plain3, (fail (.inl ⟨by omega, by omega⟩)).symm⟩
            · repeat (first | rw [kz_o] | rw [kz_r0] | simp -dsimp -implicitDefEqProofs only [go_sem, Nat.reduceBEq, Nat.reduceAdd, Nat.reduceLeDiff, Nat.reduceMul, Int.reduceLE, Int.reduceLT, Int.reduceBEq, hks, e8, h5, h6])
              refine gz_dec (fun h7 => ?_) (fun h7 => ?_)
              · repeat (first | rw [kz_o] | rw [kz_r0] | simp -dsimp -implicitDefEqProofs only [go_sem, Nat.reduceBEq, Nat.reduceAdd, Nat.reduceLeDiff, Nat.reduceMul, Int.reduceLE, Int.reduceLT, Int.reduceBEq, hks, e8, h5, h6, h7])
                exact ⟨H2.le.refl _, plain3, (fail (.inr (by omega))).symm⟩
              · repeat (first | rw [kz_o] | rw [kz_r0] | simp -dsimp -implicitDefEqProofs only [go_sem, Nat.reduceBEq, Nat.reduceAdd, Nat.reduceLeDiff, Nat.reduceMul, Int.reduceLE, Int.reduceLT, Int.reduceBEq, hks, e8, h5, h6, h7, hw, w6])
                exact ⟨H2.le.refl _, plain3, (good (by omega) (by omega)).symm⟩
          · repeat (first | rw [kz_o] | rw [kz_r0] | simp -dsimp -implicitDefEqProofs only [go_sem, Nat.reduceBEq, Nat.reduceAdd, Nat.reduceLeDiff, Nat.reduceMul, Int.reduceLE, Int.reduceLT, Int.reduceBEq, hks, e8, h5])
            refine gz_dec (fun h7 => ?_) (fun h7 => ?_)
            · repeat (first | rw [kz_o] | rw [kz_r0] | simp -dsimp -implicitDefEqProofs only [go_sem, Nat.reduceBEq, Nat.reduceAdd, Nat.reduceLeDiff, Nat.reduceMul, Int.reduceLE, Int.reduceLT, Int.reduceBEq, hks, e8, h5, h7])
              exact ⟨H2.le.refl _, plain3, (fail (.inr (by omega))).symm⟩
            · repeat (first | rw [kz_o] | rw [kz_r0] | simp -dsimp -implicitDefEqProofs only [go_sem, Nat.reduceBEq, Nat.reduceAdd, Nat.reduceLeDiff, Nat.reduceMul, Int.reduceLE, Int.reduceLT, Int.reduceBEq, hks, e8, h5, h7, hw, w6])
              exact ⟨H2.le.refl _, plain3, (good (by omega) (by omega)).symm⟩
      · repeat (first | rw [kz_o] | rw [kz_r0] | simp -dsimp -implicitDefEqProofs only [go_sem, Nat.reduceBEq, Nat.reduceAdd, Nat.reduceLeDiff, Nat.reduceMul, Int.reduceLE, Int.reduceLT, Int.reduceBEq, hks, e8, h2, h3])
        refine ⟨H2.le.refl _, plain3, ?_⟩
        rw [List.drop_of_length_le (show (lst s).length ≤ a + k from by rw [lst_len]; omega)] at hrv
        obtain ⟨f, hf⟩ : ∃ f, 5 - k = f + 1 := ⟨4 - k, by omega⟩
        rw [hf] at hrv
        rw [rdV_none (by rw [hrv]; rfl)]; rfl
    · repeat (first | rw [kz_o] | rw [kz_r0] | simp -dsimp -implicitDefEqProofs only [go_sem, Nat.reduceBEq, Nat.reduceAdd, Nat.reduceLeDiff, Nat.reduceMul, Int.reduceLE, Int.reduceLT, Int.reduceBEq, hks, e8, h2])
      refine ⟨H2.le.refl _, plain3, ?_⟩
      rw [show 5 - k = 0 by omega] at hrv
      rw [rdV_none (by rw [hrv]; rfl)]; rfl
end Go.Bi
