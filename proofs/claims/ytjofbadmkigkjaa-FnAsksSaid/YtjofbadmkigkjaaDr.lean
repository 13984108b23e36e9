/- What the drawing cursor does: it hands back numbers within bounds, and writes nothing but itself. -/
import Derived.Test.YtjofbadmkigkjaaBa
set_option linter.unusedSimpArgs false
set_option linter.unusedVariables false
set_option maxRecDepth 20000
namespace Go.Bi
open Go.Proofs
open Go.Ai (wrap_i64 wrap_u64 wrap_u8)
variable {W0 : World} {P : Program}
set_option maxHeartbeats 1000000
theorem and255 (x : Int) : 0 ≤ Go.bits .and .i64 x 255 ∧ Go.bits .and .i64 x 255 ≤ 255 := by
  show 0 ≤ IntKind.i64.wrap (((BitVec.ofInt 64 x) &&& (BitVec.ofInt 64 255)).toNat : Int) ∧ IntKind.i64.wrap (((BitVec.ofInt 64 x) &&& (BitVec.ofInt 64 255)).toNat : Int) ≤ 255
  have h : ((BitVec.ofInt 64 x) &&& (BitVec.ofInt 64 255)).toNat ≤ 255 := by
    rw [BitVec.toNat_and]
    exact Nat.and_le_right
  generalize ((BitVec.ofInt 64 x) &&& (BitVec.ofInt 64 255)).toNat = n at *
  rw [wrap_i64] <;> omega
/-- A row of bytes. -/
def u8s (bs : List Int) : List (List T) := bs.map fun z => [.v (.int .u8 z)]
theorem u8s_len {bs : List Int} : (u8s bs).length = bs.length := by simp [u8s]
theorem u8s_el {bs : List Int} {i : Nat} (hi : i < bs.length) : el (u8s bs) i = [.v (.int .u8 (bs.getD i default))] := el_map hi
attribute [go_sem] u8s_len u8s_el
/-- Only a row, and new ones, have changed. -/
def OnlyR (g g' : H2) (b : Nat) : Prop := hn g .mk ≤ hn g' .mk ∧ ∀ c, c < hn g .mk → c ≠ b → hg g' c .mk = hg g c .mk
theorem OnlyR.refl {g : H2} {b : Nat} : OnlyR g g b := ⟨Nat.le_refl _, fun _ _ _ => rfl⟩
theorem OnlyR.set {g g' : H2} {b : Nat} {k : OB} (o : OnlyR g g' b) : OnlyR g (g'.set b k) b := ⟨o.1, fun c h1 h2 => by rw [hg_set, show (c == b) = false by simp [h2]]; exact o.2 c h1 h2⟩
theorem OnlyR.up {g g' : H2} {b n : Nat} (o : OnlyR g g' b) (hn' : hn g' .mk ≤ n) : OnlyR g (g'.up n) b := ⟨Nat.le_trans o.1 hn', o.2⟩
theorem OnlyR.push {g g' : H2} {b : Nat} {k : OB} (o : OnlyR g g' b) : OnlyR g (g'.push k) b := ⟨by rw [hn_push]; have := o.1; omega, fun c h1 h2 => by rw [hg_push, show (c == hn g' .mk) = false by have := o.1; simp; omega]; exact o.2 c h1 h2⟩
theorem OnlyR.trans {g g' g'' : H2} {b : Nat} (o : OnlyR g g' b) (o' : OnlyR g' g'' b) : OnlyR g g'' b := ⟨Nat.le_trans o.1 o'.1, fun c hc hb => (o'.2 c (Nat.lt_of_lt_of_le hc o.1) hb).trans (o.2 c hc hb)⟩
/-- The cursor. -/
def Cur (g : H2) (b : Nat) (f : Adr) (bs : List Int) : Prop := b < hn g .mk ∧ bs.length ≤ 9223372036854775806 ∧ ∃ i x, hg g b .mk = some ⟨3, [.sl f 1 (u8s bs), .raw (.int .i64 i), .raw (.int .i64 x)]⟩ ∧ 0 ≤ i
theorem Cur.set {g : H2} {b : Nat} {f : Adr} {bs : List Int} (c : Cur g b f bs) (i x : Int) (hi : 0 ≤ i) : Cur (g.set b ⟨3, [.sl f 1 (u8s bs), .raw (.int .i64 i), .raw (.int .i64 x)]⟩) b f bs :=
  ⟨c.1, c.2.1, i, x, by rw [hg_set, show (b == b) = true by simp]; rfl, hi⟩
theorem Cur.le {g g' : H2} {b : Nat} {f : Adr} {bs : List Int} (c : Cur g b f bs) (l : g.le g') : Cur g' b f bs :=
  ⟨Nat.lt_of_lt_of_le c.1 l.1, c.2.1, by obtain ⟨i, x, h1, h2⟩ := c.2.2; exact ⟨i, x, (l.2 b c.1).trans h1, h2⟩⟩
theorem Cur.only {g g' : H2} {b b' : Nat} {f : Adr} {bs : List Int} (c : Cur g b f bs) (l : OnlyR g g' b') (hb : b ≠ b') : Cur g' b f bs :=
  ⟨Nat.lt_of_lt_of_le c.1 l.1, c.2.1, by obtain ⟨i, x, h1, h2⟩ := c.2.2; exact ⟨i, x, (l.2 b c.1 hb).trans h1, h2⟩⟩
theorem set_set2 {h : H2} {b : Nat} {k k' : OB} : (h.set b k).set b k' = h.set b k' := by
  unfold H2.set; congr 1; funext x; by_cases hx : x = b <;> simp [hx]
/-- A draw: what comes back is as told; the cursor stands. -/
def DrawC (P : Program) (W0 : World) (n : FuncId) (xs : List X) (g : H2) (b : Nat) (f : Adr) (bs : List Int) (Q : X → Prop) : Prop :=
  WC2 P W0 n xs g fun v g' => Q v ∧ Cur g' b f bs ∧ OnlyR g g' b
theorem byte_ok {b : Nat} {f : Adr} {bs : List Int} {g : H2} (co : Cur g b f bs) : DrawC Try.prog W0 121 [.raw (.pointer (some ⟨b, 0, none⟩))] g b f bs fun v => ∃ r, v = .raw (.int .i64 r) ∧ 0 ≤ r ∧ r ≤ 255 := by
  obtain ⟨hb, hlen, i, x, hrow, hi⟩ := id co
  refine start (P := Try.prog) [[0], [0], [0], [0, 3], [0, 3], [0, 3], [3]] (by kernel_rfl) Try.func121 rfl (by decide) (by decide +kernel) (rs := [.tmp 2]) rfl rfl (Nat.le_of_ble_eq_true rfl) ?_
  intro wf
  repeat (first | rw [kz_o] | rw [kz_r0] | simp -dsimp -implicitDefEqProofs only [go_sem, Nat.reduceBEq, Nat.reduceAdd, Nat.reduceLeDiff, Nat.reduceMul, Int.reduceLE, Int.reduceLT, Int.reduceBEq, hrow, hoo])
  refine dq_intro [(0, []), (1, []), (2, []), (3, []), (4, []), (5, []), (6, []), (7, []), (8, []), (9, []), (10, []), (11, []), (12, [])] (by kernel_rfl) ?_
  repeat (first | rw [kz_o] | rw [kz_r0] | simp -dsimp -implicitDefEqProofs only [go_sem, Nat.reduceBEq, Nat.reduceAdd, Nat.reduceLeDiff, Nat.reduceMul, Int.reduceLE, Int.reduceLT, Int.reduceBEq, hrow, hoo])
  refine dq_intro [(0, []), (1, []), (2, []), (3, []), (4, []), (5, []), (6, []), (7, []), (8, []), (9, [])] (by kernel_rfl) ?_
  repeat (first | rw [kz_o] | rw [kz_r0] | simp -dsimp -implicitDefEqProofs only [go_sem, Nat.reduceBEq, Nat.reduceAdd, Nat.reduceLeDiff, Nat.reduceMul, Int.reduceLE, Int.reduceLT, Int.reduceBEq, hrow, hoo])
  refine gz_dec (fun h1 => ?_) (fun h1 => ?_)
  · obtain ⟨k, rfl⟩ := Int.eq_ofNat_of_zero_le hi
    have h3 : k < bs.length := by omega
    repeat (first | rw [kz_o] | rw [kz_r0] | simp -dsimp -implicitDefEqProofs only [go_sem, Nat.reduceBEq, Nat.reduceAdd, Nat.reduceLeDiff, Nat.reduceMul, Int.reduceLE, Int.reduceLT, Int.reduceBEq, hrow, hoo])
    refine dq_intro [(0, []), (1, []), (2, []), (3, []), (4, []), (5, []), (6, []), (7, []), (8, []), (9, []), (10, []), (11, []), (12, []), (13, []), (14, [])] (by kernel_rfl) ?_
    repeat (first | rw [kz_o] | rw [kz_r0] | simp -dsimp -implicitDefEqProofs only [go_sem, Nat.reduceBEq, Nat.reduceAdd, Nat.reduceLeDiff, Nat.reduceMul, Int.reduceLE, Int.reduceLT, Int.reduceBEq, hrow, hoo, h3, hi])
    refine ⟨⟨_, rfl, and255 _⟩, ?_, ?_⟩
    · rw [set_set2]; exact co.set _ _ (by rw [wrap_i64] <;> omega)
    · exact OnlyR.refl.set.set
  · repeat (first | rw [kz_o] | rw [kz_r0] | simp -dsimp -implicitDefEqProofs only [go_sem, Nat.reduceBEq, Nat.reduceAdd, Nat.reduceLeDiff, Nat.reduceMul, Int.reduceLE, Int.reduceLT, Int.reduceBEq, hrow, hoo])
    exact ⟨⟨_, rfl, and255 _⟩, co.set _ _ hi, OnlyR.refl.set⟩
theorem below_ok {b : Nat} {f : Adr} {bs : List Int} {g : H2} {m : Int} (co : Cur g b f bs) (hm : m ≤ 9223372036854775807) : DrawC Try.prog W0 85 [.raw (.pointer (some ⟨b, 0, none⟩)), .raw (.int .i64 m)] g b f bs fun v => ∃ r, v = .raw (.int .i64 r) ∧ 0 ≤ r ∧ (0 < m → r < m) ∧ (m ≤ 0 → r = 0) := by
  refine start (P := Try.prog) [[0, 1], [0, 1], [], [0, 1], [0, 1], [0, 1], [0, 1, 5], [0, 1, 5, 6], [0, 1, 5, 6, 7], [1, 5, 6, 7, 8]] (by kernel_rfl) Try.func85 rfl (by decide) (by decide +kernel) (rs := [.tmp 4]) rfl rfl (Nat.le_of_ble_eq_true rfl) ?_
  intro wf
  repeat (first | rw [kz_o] | rw [kz_r0] | simp -dsimp -implicitDefEqProofs only [go_sem, Nat.reduceBEq, Nat.reduceAdd, Nat.reduceLeDiff, Nat.reduceMul, Int.reduceLE, Int.reduceLT, Int.reduceBEq])
  refine gz_dec (fun h1 => ?_) (fun h1 => ?_)
  · repeat (first | rw [kz_o] | rw [kz_r0] | simp -dsimp -implicitDefEqProofs only [go_sem, Nat.reduceBEq, Nat.reduceAdd, Nat.reduceLeDiff, Nat.reduceMul, Int.reduceLE, Int.reduceLT, Int.reduceBEq])
    exact ⟨⟨0, rfl, by omega, by omega, fun _ => rfl⟩, co, OnlyR.refl⟩
  · repeat (first | rw [kz_o] | rw [kz_r0] | simp -dsimp -implicitDefEqProofs only [go_sem, Nat.reduceBEq, Nat.reduceAdd, Nat.reduceLeDiff, Nat.reduceMul, Int.reduceLE, Int.reduceLT, Int.reduceBEq])
    have hm0 : (m == 0) = false := by simp; omega
    refine gz_dec (fun h2 => ?_) (fun h2 => ?_)
    · repeat (first | rw [kz_o] | rw [kz_r0] | simp -dsimp -implicitDefEqProofs only [go_sem, Nat.reduceBEq, Nat.reduceAdd, Nat.reduceLeDiff, Nat.reduceMul, Int.reduceLE, Int.reduceLT, Int.reduceBEq])
      refine wz_intro (byte_ok co) ?_
      rintro _ g1 ⟨⟨r, rfl, r1, r2⟩, co1, on1⟩
      repeat (first | rw [kz_o] | rw [kz_r0] | simp -dsimp -implicitDefEqProofs only [go_sem, Nat.reduceBEq, Nat.reduceAdd, Nat.reduceLeDiff, Nat.reduceMul, Int.reduceLE, Int.reduceLT, Int.reduceBEq, hm0])
      exact ⟨⟨_, rfl, Int.tmod_nonneg _ r1, fun _ => Int.tmod_lt_of_pos _ (by omega), fun h => by omega⟩, co1, on1⟩
    · repeat (first | rw [kz_o] | rw [kz_r0] | simp -dsimp -implicitDefEqProofs only [go_sem, Nat.reduceBEq, Nat.reduceAdd, Nat.reduceLeDiff, Nat.reduceMul, Int.reduceLE, Int.reduceLT, Int.reduceBEq])
      refine wz_intro (byte_ok co) ?_
      rintro _ g1 ⟨⟨r, rfl, r1, r2⟩, co1, on1⟩
      repeat (first | rw [kz_o] | rw [kz_r0] | simp -dsimp -implicitDefEqProofs only [go_sem, Nat.reduceBEq, Nat.reduceAdd, Nat.reduceLeDiff, Nat.reduceMul, Int.reduceLE, Int.reduceLT, Int.reduceBEq])
      refine wz_intro (byte_ok co1) ?_
      rintro _ g2 ⟨⟨s, rfl, s1, s2⟩, co2, on2⟩
      repeat (first | rw [kz_o] | rw [kz_r0] | simp -dsimp -implicitDefEqProofs only [go_sem, Nat.reduceBEq, Nat.reduceAdd, Nat.reduceLeDiff, Nat.reduceMul, Int.reduceLE, Int.reduceLT, Int.reduceBEq])
      refine wz_intro (byte_ok co2) ?_
      rintro _ g3 ⟨⟨t, rfl, t1, t2⟩, co3, on3⟩
      repeat (first | rw [kz_o] | rw [kz_r0] | simp -dsimp -implicitDefEqProofs only [go_sem, Nat.reduceBEq, Nat.reduceAdd, Nat.reduceLeDiff, Nat.reduceMul, Int.reduceLE, Int.reduceLT, Int.reduceBEq])
      refine wz_intro (byte_ok co3) ?_
      rintro _ g4 ⟨⟨u, rfl, u1, u2⟩, co4, on4⟩
      have e1 : IntKind.i64.wrap (r * 16777216) = r * 16777216 := by rw [wrap_i64] <;> omega
      have e2 : IntKind.i64.wrap (s * 65536) = s * 65536 := by rw [wrap_i64] <;> omega
      have e3 : IntKind.i64.wrap (t * 256) = t * 256 := by rw [wrap_i64] <;> omega
      have e4 : IntKind.i64.wrap (r * 16777216 + s * 65536) = r * 16777216 + s * 65536 := by rw [wrap_i64] <;> omega
      have e5 : IntKind.i64.wrap (r * 16777216 + s * 65536 + t * 256) = r * 16777216 + s * 65536 + t * 256 := by rw [wrap_i64] <;> omega
      have e6 : IntKind.i64.wrap (r * 16777216 + s * 65536 + t * 256 + u) = r * 16777216 + s * 65536 + t * 256 + u := by rw [wrap_i64] <;> omega
      repeat (first | rw [kz_o] | rw [kz_r0] | simp -dsimp -implicitDefEqProofs only [go_sem, Nat.reduceBEq, Nat.reduceAdd, Nat.reduceLeDiff, Nat.reduceMul, Int.reduceLE, Int.reduceLT, Int.reduceBEq, hm0, e1, e2, e3, e4, e5, e6])
      exact ⟨⟨_, rfl, Int.tmod_nonneg _ (by omega), fun _ => Int.tmod_lt_of_pos _ (by omega), fun h => by omega⟩, co4, on1.trans (on2.trans (on3.trans on4))⟩
theorem once_ok {b : Nat} {f : Adr} {bs : List Int} {g : H2} {m : Int} (co : Cur g b f bs) (hm : m ≤ 9223372036854775807) : DrawC Try.prog W0 117 [.raw (.pointer (some ⟨b, 0, none⟩)), .raw (.int .i64 m)] g b f bs fun v => ∃ r, v = .raw (.bool r) := by
  refine start (P := Try.prog) [[0, 1], [0, 1]] (by kernel_rfl) Try.func117 rfl (by decide) (by decide +kernel) (rs := [.tmp 4]) rfl rfl (Nat.le_of_ble_eq_true rfl) ?_
  intro wf
  repeat (first | rw [kz_o] | rw [kz_r0] | simp -dsimp -implicitDefEqProofs only [go_sem, Nat.reduceBEq, Nat.reduceAdd, Nat.reduceLeDiff, Nat.reduceMul, Int.reduceLE, Int.reduceLT, Int.reduceBEq])
  refine wz_intro (below_ok co hm) ?_
  rintro _ g1 ⟨⟨r, rfl, r1, r2, r3⟩, co1, on1⟩
  repeat (first | rw [kz_o] | rw [kz_r0] | simp -dsimp -implicitDefEqProofs only [go_sem, Nat.reduceBEq, Nat.reduceAdd, Nat.reduceLeDiff, Nat.reduceMul, Int.reduceLE, Int.reduceLT, Int.reduceBEq])
  exact ⟨⟨_, rfl⟩, co1, on1⟩
theorem pickInt_ok {b : Nat} {f f' : Adr} {bs zs : List Int} {g : H2} (co : Cur g b f bs) (h0 : 0 < zs.length) (hm : zs.length ≤ 9223372036854775807) : DrawC Try.prog W0 86 [.raw (.pointer (some ⟨b, 0, none⟩)), .sl f' 1 (ints zs)] g b f bs fun v => ∃ r, v = .raw (.int .i64 r) ∧ r ∈ zs := by
  refine start (P := Try.prog) [[0, 1], [0, 1]] (by kernel_rfl) Try.func86 rfl (by decide) (by decide +kernel) (rs := [.tmp 4]) rfl rfl (Nat.le_of_ble_eq_true rfl) ?_
  intro wf
  repeat (first | rw [kz_o] | rw [kz_r0] | simp -dsimp -implicitDefEqProofs only [go_sem, Nat.reduceBEq, Nat.reduceAdd, Nat.reduceLeDiff, Nat.reduceMul, Int.reduceLE, Int.reduceLT, Int.reduceBEq])
  refine wz_intro (below_ok co (by omega)) ?_
  rintro _ g1 ⟨⟨r, rfl, r1, r2, r3⟩, co1, on1⟩
  obtain ⟨k, rfl⟩ := Int.eq_ofNat_of_zero_le r1
  have h3 : k < zs.length := by have := r2 (by omega); omega
  repeat (first | rw [kz_o] | rw [kz_r0] | simp -dsimp -implicitDefEqProofs only [go_sem, Nat.reduceBEq, Nat.reduceAdd, Nat.reduceLeDiff, Nat.reduceMul, Int.reduceLE, Int.reduceLT, Int.reduceBEq, h3])
  refine ⟨⟨_, rfl, ?_⟩, co1, on1⟩
  rw [List.getD_eq_getElem?_getD, List.getElem?_eq_getElem h3]; exact List.getElem_mem h3
theorem big_ok {f : Adr} {bs : List Int} {g : H2} : WC2 Try.prog W0 6 [.sl f 1 (u8s bs)] g (fun v g' => v = .raw (.bool (decide ((1048576 : Int) < bs.length))) ∧ g' = g) := by
  refine start (P := Try.prog) [[0], [0]] (by kernel_rfl) Try.func6 rfl (by decide) (by decide +kernel) (rs := [.tmp 2]) rfl rfl (Nat.le_of_ble_eq_true rfl) ?_
  intro wf
  repeat (first | rw [kz_o] | rw [kz_r0] | simp -dsimp -implicitDefEqProofs only [go_sem, Nat.reduceBEq, Nat.reduceAdd, Nat.reduceLeDiff, Nat.reduceMul, Int.reduceLE, Int.reduceLT, Int.reduceBEq])
  exact ⟨rfl, rfl⟩
theorem new_ok {f : Adr} {bs : List Int} {g : H2} (hl : bs.length ≤ 1048576) : WC2 Try.prog W0 31 [.sl f 1 (u8s bs)] g (fun v g' => ∃ b, v = .raw (.pointer (some ⟨b, 0, none⟩)) ∧ Cur g' b f bs ∧ hn g .mk ≤ b ∧ g.le g') := by
  refine start (P := Try.prog) [[0], [0], [0, 3], [0, 3, 4], [0, 3, 4], [0, 3, 4], [0, 3]] (by kernel_rfl) Try.func31 rfl (by decide) (by decide +kernel) (rs := [.tmp 2]) rfl rfl (Nat.le_of_ble_eq_true rfl) ?_
  intro wf
  repeat (first | rw [kz_o] | rw [kz_r0] | simp -dsimp -implicitDefEqProofs only [go_sem, Nat.reduceBEq, Nat.reduceAdd, Nat.reduceLeDiff, Nat.reduceMul, Int.reduceLE, Int.reduceLT, Int.reduceBEq])
  have fin : ∀ x, Cur (g.push ⟨3, [.sl f 1 (u8s bs), .raw (.int .i64 0), .raw (.int .i64 x)]⟩) (hn g .mk) f bs := fun x => ⟨by rw [hn_push]; omega, by omega, 0, x, by rw [hg_push, hoo]; rfl, by omega⟩
  refine lz_keep [0] (fun m e h' => ∃ (i : Nat) (x : Int), h' = g ∧ look e 4 .mk = .raw (.int .i64 (i : Nat)) ∧ look e 3 .mk = .raw (.int .i64 x) ∧ m + i = bs.length) bs.length ?_ ?_
  · exact ⟨0, _, rfl, by simp -dsimp -implicitDefEqProofs only [go_sem, Nat.reduceBEq, Nat.reduceAdd, Nat.reduceLeDiff, Nat.reduceMul, Int.reduceLE, Int.reduceLT, Int.reduceBEq], by simp -dsimp -implicitDefEqProofs only [go_sem, Nat.reduceBEq, Nat.reduceAdd, Nat.reduceLeDiff, Nat.reduceMul, Int.reduceLE, Int.reduceLT, Int.reduceBEq] <;> rfl, by omega⟩
  · rintro m e h' hks ⟨i, x, rfl, e4, e3, hm⟩
    simp -dsimp -implicitDefEqProofs only [go_sem, Nat.reduceBEq, Nat.reduceAdd, Nat.reduceLeDiff, Nat.reduceMul, Int.reduceLE, Int.reduceLT, Int.reduceBEq] at hks
    by_cases h1 : (i : Int) < bs.length
    · have h3 : i < bs.length := by omega
      by_cases h2 : (i : Int) < 4000
      · repeat (first | rw [kz_o] | rw [kz_r0] | simp -dsimp -implicitDefEqProofs only [go_sem, Nat.reduceBEq, Nat.reduceAdd, Nat.reduceLeDiff, Nat.reduceMul, Int.reduceLE, Int.reduceLT, Int.reduceBEq, hks, e4, e3, h1, h2, h3, wrap_succ h3 (by omega)])
        exact nx_keep (m - 1) (by omega) (by simp -dsimp -implicitDefEqProofs only [go_sem, Nat.reduceBEq, Nat.reduceAdd, Nat.reduceLeDiff, Nat.reduceMul, Int.reduceLE, Int.reduceLT, Int.reduceBEq, hks]) ⟨i + 1, _, rfl, by simp -dsimp -implicitDefEqProofs only [go_sem, Nat.reduceBEq, Nat.reduceAdd, Nat.reduceLeDiff, Nat.reduceMul, Int.reduceLE, Int.reduceLT, Int.reduceBEq], by simp -dsimp -implicitDefEqProofs only [go_sem, Nat.reduceBEq, Nat.reduceAdd, Nat.reduceLeDiff, Nat.reduceMul, Int.reduceLE, Int.reduceLT, Int.reduceBEq] <;> rfl, by omega⟩
      · repeat (first | rw [kz_o] | rw [kz_r0] | simp -dsimp -implicitDefEqProofs only [go_sem, Nat.reduceBEq, Nat.reduceAdd, Nat.reduceLeDiff, Nat.reduceMul, Int.reduceLE, Int.reduceLT, Int.reduceBEq, hks, e4, e3, h1, h2, h3])
        exact ⟨_, rfl, fin _, Nat.le_refl _, le_push (H2.le.refl _)⟩
    · repeat (first | rw [kz_o] | rw [kz_r0] | simp -dsimp -implicitDefEqProofs only [go_sem, Nat.reduceBEq, Nat.reduceAdd, Nat.reduceLeDiff, Nat.reduceMul, Int.reduceLE, Int.reduceLT, Int.reduceBEq, hks, e4, e3, h1])
      exact ⟨_, rfl, fin _, Nat.le_refl _, le_push (H2.le.refl _)⟩
end Go.Bi
