/- Walks of what the laws use to measure, copy, compare, mark and look again at structs (IntSS:d,sz,eq,to, Merge:d,eq,to, MergeS:d,sz,eq,to, Matrix:d,sz,eq,to, Turns:d,sz,eq,to). -/
import Derived.Test.YtjofbadmkigkjaaBo
set_option linter.unusedSimpArgs false
set_option linter.unusedVariables false
set_option maxRecDepth 20000
namespace Go.Bi
open Go.Proofs
open Go.Ai (wrap_i64 wrap_u64 wrap_u8)
variable {W0 : World}
def eIntS (zs : List Int) : List T := [.l 1 (ints zs)]
theorem eIntS_def {zs : List Int} : eIntS zs = [.l 1 (ints zs)] := rfl
attribute [go_sem] eIntS_def
def cntIntS (zs : List Int) : Nat := zs.length
def szIntS (zs : List Int) : Nat := zs.length
def fitIntS (zs : List Int) : Prop := zs.length ≤ 9223372036854775807
def rIntSS (zs : List (List Int)) : List (List T) := zs.map eIntS
theorem rIntSS_len {zs : List (List Int)} : (rIntSS zs).length = zs.length := by simp [rIntSS]
theorem rIntSS_el {zs : List (List Int)} {i : Nat} (hi : i < zs.length) : el (rIntSS zs) i = eIntS (zs.getD i default) := el_map hi
attribute [go_sem] rIntSS_len rIntSS_el
def szIntSS (zs : List (List Int)) : Nat := zs.length + sumN szIntS zs
def cntIntSS (zs : List (List Int)) : Nat := sumN cntIntS zs
def fitIntSS (zs : List (List Int)) : Prop := zs.length ≤ 9223372036854775807 ∧ ∀ x ∈ zs, fitIntS x

theorem szIntSS_pw {f : Adr} {zs : List (List Int)} {left : Int} {h : H2} (hf : fitIntSS zs) (hl : 0 ≤ left ∧ left ≤ 1048576) : PW Try.prog W0 50 [.sl f 1 (rIntSS zs), .raw (.int .i64 left)] h (fun y => ∃ k : Int, y = .raw (.int .i64 k) ∧ (0 ≤ k → (szIntSS zs : Int) + k ≤ left)) := by
  obtain ⟨hf1, hf2⟩ := hf
  unfold szIntSS
  have hw : IntKind.i64.wrap (left - zs.length) = left - zs.length := by rw [wrap_i64] <;> omega
  refine PW.scalar ?_
  refine start (P := Try.prog) [[0, 1], [0, 1], [0, 1], [], [0, 1], [0, 1, 5], [0, 1, 5], [0, 1, 5], [0, 1, 5], [], [1]] (by kernel_rfl) Try.func50 rfl (by decide) (by decide +kernel) (rs := [.tmp 4]) rfl rfl (Nat.le_of_ble_eq_true rfl) ?_
  intro wf
  repeat (first | rw [kz_o] | rw [kz_r0] | simp -dsimp -implicitDefEqProofs only [go_sem, Nat.reduceBEq, Nat.reduceAdd, Nat.reduceLeDiff, Nat.reduceMul, Int.reduceLE, Int.reduceLT, Int.reduceBEq, hw])
  refine gz_dec (fun h1 => ?_) (fun h1 => ?_)
  · repeat (first | rw [kz_o] | rw [kz_r0] | simp -dsimp -implicitDefEqProofs only [go_sem, Nat.reduceBEq, Nat.reduceAdd, Nat.reduceLeDiff, Nat.reduceMul, Int.reduceLE, Int.reduceLT, Int.reduceBEq])
    exact ⟨H2.le.refl _, ⟨_, rfl⟩, _, rfl, fun hh => by omega⟩
  · repeat (first | rw [kz_o] | rw [kz_r0] | simp -dsimp -implicitDefEqProofs only [go_sem, Nat.reduceBEq, Nat.reduceAdd, Nat.reduceLeDiff, Nat.reduceMul, Int.reduceLE, Int.reduceLT, Int.reduceBEq])
    refine lz_keep [0] (fun m e h' => ∃ (k n : Nat) (x : Int), h' = h.up n ∧ hn h .mk ≤ n ∧ look e 5 .mk = .raw (.int .i64 k) ∧ look e 1 .mk = .raw (.int .i64 x) ∧ 0 ≤ x ∧ (zs.length : Int) + sumN szIntS (zs.take k) + x ≤ left ∧ m + k = zs.length) zs.length ?_ ?_
    · exact ⟨0, hn h .mk, left - zs.length, up_self, Nat.le_refl _, by simp -dsimp -implicitDefEqProofs only [go_sem, Nat.reduceBEq, Nat.reduceAdd, Nat.reduceLeDiff, Nat.reduceMul, Int.reduceLE, Int.reduceLT, Int.reduceBEq], by simp -dsimp -implicitDefEqProofs only [go_sem, Nat.reduceBEq, Nat.reduceAdd, Nat.reduceLeDiff, Nat.reduceMul, Int.reduceLE, Int.reduceLT, Int.reduceBEq], by omega, by simp [sumN]; omega, by omega⟩
    · rintro m e h' hks ⟨k, n, x, rfl, hnn, e5, e1, hx, hsum, hk⟩
      simp -dsimp -implicitDefEqProofs only [go_sem, Nat.reduceBEq, Nat.reduceAdd, Nat.reduceLeDiff, Nat.reduceMul, Int.reduceLE, Int.reduceLT, Int.reduceBEq] at hks
      by_cases h2 : (k : Int) < (zs.length : Int)
      · have h3 : k < zs.length := by omega
        have hst : sumN szIntS (zs.take (k + 1)) = sumN szIntS (zs.take k) + (zs.getD k default).length := sumN_take (f := szIntS) h3
        repeat (first | rw [kz_o] | rw [kz_r0] | simp -dsimp -implicitDefEqProofs only [go_sem, Nat.reduceBEq, Nat.reduceAdd, Nat.reduceLeDiff, Nat.reduceMul, Int.reduceLE, Int.reduceLT, Int.reduceBEq, hks, e5, e1, h2, h3])
        refine pw_intro (szIntS_pw (hf2 _ (getD_mem h3)) ⟨by omega, by omega⟩) ?_
        rintro _ n2 hn2 ⟨x2, rfl, hx2⟩
        simp only [hn_up] at hn2
        repeat (first | rw [kz_o] | rw [kz_r0] | simp -dsimp -implicitDefEqProofs only [go_sem, Nat.reduceBEq, Nat.reduceAdd, Nat.reduceLeDiff, Nat.reduceMul, Int.reduceLE, Int.reduceLT, Int.reduceBEq])
        refine gz_dec (fun h4 => ?_) (fun h4 => ?_)
        · repeat (first | rw [kz_o] | rw [kz_r0] | simp -dsimp -implicitDefEqProofs only [go_sem, Nat.reduceBEq, Nat.reduceAdd, Nat.reduceLeDiff, Nat.reduceMul, Int.reduceLE, Int.reduceLT, Int.reduceBEq])
          exact ⟨(by first | exact le_up (H2.le.refl _) (by omega) | exact le_up (le_up (H2.le.refl _) hnn) (by rw [hn_up]; omega)), ⟨_, rfl⟩, _, rfl, fun hh => by omega⟩
        · repeat (first | rw [kz_o] | rw [kz_r0] | simp -dsimp -implicitDefEqProofs only [go_sem, Nat.reduceBEq, Nat.reduceAdd, Nat.reduceLeDiff, Nat.reduceMul, Int.reduceLE, Int.reduceLT, Int.reduceBEq, hks, e5, wrap_succ h3 hf1])
          exact nx_keep (m - 1) (by omega) (by simp -dsimp -implicitDefEqProofs only [go_sem, Nat.reduceBEq, Nat.reduceAdd, Nat.reduceLeDiff, Nat.reduceMul, Int.reduceLE, Int.reduceLT, Int.reduceBEq, hks]) ⟨k + 1, n2, x2, up_up, by omega, by simp -dsimp -implicitDefEqProofs only [go_sem, Nat.reduceBEq, Nat.reduceAdd, Nat.reduceLeDiff, Nat.reduceMul, Int.reduceLE, Int.reduceLT, Int.reduceBEq], by simp -dsimp -implicitDefEqProofs only [go_sem, Nat.reduceBEq, Nat.reduceAdd, Nat.reduceLeDiff, Nat.reduceMul, Int.reduceLE, Int.reduceLT, Int.reduceBEq], by omega, by have := hx2 (by omega); omega, by omega⟩
      · repeat (first | rw [kz_o] | rw [kz_r0] | simp -dsimp -implicitDefEqProofs only [go_sem, Nat.reduceBEq, Nat.reduceAdd, Nat.reduceLeDiff, Nat.reduceMul, Int.reduceLE, Int.reduceLT, Int.reduceBEq, hks, e5, e1, h2])
        refine ⟨le_up (H2.le.refl _) hnn, ⟨_, rfl⟩, x, rfl, fun _ => ?_⟩
        rw [List.take_of_length_le (by omega)] at hsum
        omega

theorem eqIntSS_pw {f f' : Adr} {zs : List (List Int)} {h : H2} (hf : fitIntSS zs) : PW Try.prog W0 67 [.sl f 1 (rIntSS zs), .sl f' 1 (rIntSS zs)] h (fun y => y = .raw (.bool true)) := by
  obtain ⟨hf1, hf2⟩ := hf
  refine PW.scalar ?_
  refine start (P := Try.prog) [[0, 1], [0, 1], [], [0, 1], [0, 1, 5], [0, 1, 5], [0, 1, 5], [], []] (by kernel_rfl) Try.func67 rfl (by decide) (by decide +kernel) (rs := [.tmp 4]) rfl rfl (Nat.le_of_ble_eq_true rfl) ?_
  intro wf
  repeat (first | rw [kz_o] | rw [kz_r0] | simp -dsimp -implicitDefEqProofs only [go_sem, Nat.reduceBEq, Nat.reduceAdd, Nat.reduceLeDiff, Nat.reduceMul, Int.reduceLE, Int.reduceLT, Int.reduceBEq])
  refine lz_keep [0, 1] (fun m e h' => ∃ (k n : Nat), h' = h.up n ∧ hn h .mk ≤ n ∧ look e 5 .mk = .raw (.int .i64 k) ∧ m + k = zs.length) zs.length ?_ ?_
  · exact ⟨0, hn h .mk, up_self, Nat.le_refl _, by simp -dsimp -implicitDefEqProofs only [go_sem, Nat.reduceBEq, Nat.reduceAdd, Nat.reduceLeDiff, Nat.reduceMul, Int.reduceLE, Int.reduceLT, Int.reduceBEq], by omega⟩
  · rintro m e h' hks ⟨k, n, rfl, hnn, e5, hk⟩
    simp -dsimp -implicitDefEqProofs only [go_sem, Nat.reduceBEq, Nat.reduceAdd, Nat.reduceLeDiff, Nat.reduceMul, Int.reduceLE, Int.reduceLT, Int.reduceBEq] at hks
    by_cases h2 : (k : Int) < (zs.length : Int)
    · have h3 : k < zs.length := by omega
      repeat (first | rw [kz_o] | rw [kz_r0] | simp -dsimp -implicitDefEqProofs only [go_sem, Nat.reduceBEq, Nat.reduceAdd, Nat.reduceLeDiff, Nat.reduceMul, Int.reduceLE, Int.reduceLT, Int.reduceBEq, hks, e5, h2])
      refine dq_intro [(0, []), (1, []), (2, []), (3, []), (4, []), (5, []), (6, []), (7, []), (8, []), (9, [])] (by kernel_rfl) ?_
      repeat (first | rw [kz_o] | rw [kz_r0] | simp -dsimp -implicitDefEqProofs only [go_sem, Nat.reduceBEq, Nat.reduceAdd, Nat.reduceLeDiff, Nat.reduceMul, Int.reduceLE, Int.reduceLT, Int.reduceBEq, hks, e5, h3])
      refine pw_intro (eqIntS_pw (hf2 _ (getD_mem h3))) ?_
      rintro _ n2 hn2 rfl
      simp only [hn_up] at hn2
      repeat (first | rw [kz_o] | rw [kz_r0] | simp -dsimp -implicitDefEqProofs only [go_sem, Nat.reduceBEq, Nat.reduceAdd, Nat.reduceLeDiff, Nat.reduceMul, Int.reduceLE, Int.reduceLT, Int.reduceBEq, hks, e5, wrap_succ h3 hf1])
      exact nx_keep (m - 1) (by omega) (by simp -dsimp -implicitDefEqProofs only [go_sem, Nat.reduceBEq, Nat.reduceAdd, Nat.reduceLeDiff, Nat.reduceMul, Int.reduceLE, Int.reduceLT, Int.reduceBEq, hks]) ⟨k + 1, n2, up_up, by omega, by simp -dsimp -implicitDefEqProofs only [go_sem, Nat.reduceBEq, Nat.reduceAdd, Nat.reduceLeDiff, Nat.reduceMul, Int.reduceLE, Int.reduceLT, Int.reduceBEq], by omega⟩
    · repeat (first | rw [kz_o] | rw [kz_r0] | simp -dsimp -implicitDefEqProofs only [go_sem, Nat.reduceBEq, Nat.reduceAdd, Nat.reduceLeDiff, Nat.reduceMul, Int.reduceLE, Int.reduceLT, Int.reduceBEq, hks, e5, h2])
      exact ⟨le_up (H2.le.refl _) hnn, ⟨_, rfl⟩, rfl⟩

theorem toIntSS_new {f : Adr} {zs : List (List Int)} {h : H2} (hs : szIntSS zs ≤ 1048576) : NewT Try.prog W0 59 [.sl f 1 (rIntSS zs)] h (.l 1 (rIntSS zs)) := by
  unfold szIntSS at hs
  have hE : ∀ a, (eIntS a).length = 1 := fun a => rfl
  refine start (P := Try.prog) [[0], [0], [0, 3], [0, 3, 4], [0, 3, 4], [0, 3, 4], [3]] (by kernel_rfl) Try.func59 rfl (by decide) (by decide +kernel) (rs := [.tmp 2]) rfl rfl (Nat.le_of_ble_eq_true rfl) ?_
  intro wf
  repeat (first | rw [kz_o] | rw [kz_r0] | simp -dsimp -implicitDefEqProofs only [go_sem, Nat.reduceBEq, Nat.reduceAdd, Nat.reduceLeDiff, Nat.reduceMul, Int.reduceLE, Int.reduceLT, Int.reduceBEq])
  refine make_intro Ai.ty_el39 Ai.ty_zr27 (by decide) ⟨by omega, by simp only [Int.toNat_natCast]; have : Ai.most = 1099511627776 := rfl; omega⟩ ?_
  repeat (first | rw [kz_o] | rw [kz_r0] | simp -dsimp -implicitDefEqProofs only [go_sem, Nat.reduceBEq, Nat.reduceAdd, Nat.reduceLeDiff, Nat.reduceMul, Int.reduceLE, Int.reduceLT, Int.reduceBEq])
  refine lz_keep [0, 3] (fun m e h' => ∃ (k : Nat) (cs : List X) (bs : List Nat), look e 4 .mk = .raw (.int .i64 k) ∧ m + k = zs.length ∧ hg h' (hn h .mk) .mk = some ⟨1, cs⟩ ∧ cs.length = zs.length * 1 ∧ OTs h' bs (cs.take (k * 1)) (((zs.take k).map eIntS).flatten) ∧ Bl (hn h .mk + 1) (hn h' .mk) bs ∧ h.le h' ∧ hn h .mk < hn h' .mk) zs.length ?_ ?_
  · exact ⟨0, _, [], by simp -dsimp -implicitDefEqProofs only [go_sem, Nat.reduceBEq, Nat.reduceAdd, Nat.reduceLeDiff, Nat.reduceMul, Int.reduceLE, Int.reduceLT, Int.reduceBEq], by omega, (by rw [hg_push, hoo]; rfl), by simp [rep_len], by simpa using OTs.nil, Bl.nil, le_push (H2.le.refl _), by rw [hn_push]; omega⟩
  · rintro m e h' hks ⟨k, cs, bs, e4, hk, hrow, hcs, ho, hbl, hle, hlt⟩
    simp -dsimp -implicitDefEqProofs only [go_sem, Nat.reduceBEq, Nat.reduceAdd, Nat.reduceLeDiff, Nat.reduceMul, Int.reduceLE, Int.reduceLT, Int.reduceBEq, Int.toNat_natCast] at hks
    by_cases h2 : (k : Int) < (zs.length : Int)
    · have h3 : k < zs.length := by omega
      have hsm : (zs.getD k default).length ≤ sumN szIntS zs := sumN_mem (f := szIntS) (getD_mem h3)
      repeat (first | rw [kz_o] | rw [kz_r0] | simp -dsimp -implicitDefEqProofs only [go_sem, Nat.reduceBEq, Nat.reduceAdd, Nat.reduceLeDiff, Nat.reduceMul, Int.reduceLE, Int.reduceLT, Int.reduceBEq, hks, e4, h2, h3])
      refine wz_intro (toIntS_new (by omega)) ?_
      rintro y g2 ⟨l2, b2, o1, bl2⟩
      have hy1 := OT.okx o1
      have o2 := OTs.one o1
      have nn2 := l2.1
      have hyl : ([y]).length = 1 := (OTs.len o2).trans (hE _)
      have hyo := OTs.okx o2
      obtain ⟨w1, w2, w3⟩ := wrt_next hcs h3 hyl
      have row2 := (l2.2 (hn h .mk) hlt).trans hrow
      have hi2 : (0 : Int) ≤ (k : Int) ∧ (k : Int) < (zs.length : Int) := by omega
      rw [Nat.mul_one] at w1
      repeat (first | rw [kz_o] | rw [kz_r0] | simp -dsimp -implicitDefEqProofs only [go_sem, Nat.reduceBEq, Nat.reduceAdd, Nat.reduceLeDiff, Nat.reduceMul, Int.reduceLE, Int.reduceLT, Int.reduceBEq, hks, e4, row2, hi2, hyl, hyo, w1, hy1, wrap_succ h3 (by omega)])
      have hset : ∀ {b : Nat} {kk : OB}, b ≠ hn h .mk → (g2.set (hn h .mk) kk).get b = g2.get b := fun hb => by simp only [H2.set]; rw [if_neg hb]
      refine nx_keep (m - 1) (by omega) (by simp -dsimp -implicitDefEqProofs only [go_sem, Nat.reduceBEq, Nat.reduceAdd, Nat.reduceLeDiff, Nat.reduceMul, Int.reduceLE, Int.reduceLT, Int.reduceBEq, hks]) ⟨k + 1, _, bs ++ b2, by simp -dsimp -implicitDefEqProofs only [go_sem, Nat.reduceBEq, Nat.reduceAdd, Nat.reduceLeDiff, Nat.reduceMul, Int.reduceLE, Int.reduceLT, Int.reduceBEq], by omega, (by rw [hg_set, hoo]; rfl), (by rw [← Nat.mul_one k]; exact w2), ?_, ?_, le_set (hle.trans l2) (Nat.le_refl _), by simp -dsimp -implicitDefEqProofs only [go_sem, Nat.reduceBEq, Nat.reduceAdd, Nat.reduceLeDiff, Nat.reduceMul, Int.reduceLE, Int.reduceLT, Int.reduceBEq] <;> omega⟩
      · rw [show cs.take k = cs.take (k * 1) by rw [Nat.mul_one], show cs.drop (k + 1) = cs.drop (k * 1 + 1) by rw [Nat.mul_one]]; rw [w3, flat_next h3]
        refine OTs.append ((OTs.keep ho l2 hbl).frame fun b hb => hset (by have := (hbl.2 b hb).1; omega)) (o2.frame fun b hb => hset (by have := (bl2.2 b hb).1; omega))
      · rw [hn_set]
        exact hbl.append bl2 (by omega) nn2
    · repeat (first | rw [kz_o] | rw [kz_r0] | simp -dsimp -implicitDefEqProofs only [go_sem, Nat.reduceBEq, Nat.reduceAdd, Nat.reduceLeDiff, Nat.reduceMul, Int.reduceLE, Int.reduceLT, Int.reduceBEq, hks, e4, h2])
      have : k = zs.length := by omega
      subst this
      obtain ⟨q1, q2⟩ := OT.full hE hrow hcs ho hbl hlt
      exact ⟨hle, _, q1, q2⟩

structure LMerge where
  a : Int
  b : Int
instance : Inhabited LMerge := ⟨⟨default, default⟩⟩
def eMerge (c : LMerge) : List T := [.v (.int .i64 c.a), .v (.int .i64 c.b)]
def xMerge (F : Nat → Adr) (c : LMerge) : List X := [.raw (.int .i64 c.a), .raw (.int .i64 c.b)]
theorem mkMerge {F : Nat → Adr} {c : LMerge} : mkF F 0 (eMerge c) = xMerge F c := rfl
theorem eMerge_def {c : LMerge} : eMerge c = [.v (.int .i64 c.a), .v (.int .i64 c.b)] := rfl
theorem xMerge_def {F : Nat → Adr} {c : LMerge} : xMerge F c = [.raw (.int .i64 c.a), .raw (.int .i64 c.b)] := rfl
def szMerge (c : LMerge) : Nat := 0
def cntMerge (c : LMerge) : Nat := 0
def fitMerge (c : LMerge) : Prop := True
attribute [go_sem] eMerge_def xMerge_def
theorem invMerge {g : H2} {bs : List Nat} {ys : List X} {c : LMerge} (o : OTs g bs ys (eMerge c)) : ys = [.raw (.int .i64 c.a), .raw (.int .i64 c.b)] ∧ bs = [] := by
  unfold eMerge at o
  obtain ⟨ys0, rfl, o0⟩ := OTs.headv o
  obtain ⟨ys1, rfl, o1⟩ := OTs.headv o0
  obtain ⟨rfl, rfl⟩ := OTs.tail0 o1
  exact ⟨rfl, rfl⟩
theorem outMerge {g : H2} {c : LMerge} : OTs g [] [.raw (.int .i64 c.a), .raw (.int .i64 c.b)] (eMerge c) := by
  have := (OTs.cons (OT.raw (v := .int .i64 c.a) rfl) (OTs.cons (OT.raw (v := .int .i64 c.b) rfl) (OTs.nil)) : OTs g _ _ _)
  simpa only [eMerge, List.append_nil, List.nil_append] using this

theorem eqMerge_ok {F F' : Nat → Adr} {c : LMerge} {h : H2} (hf : fitMerge c) : PW Try.prog W0 104 [.st (xMerge F c), .st (xMerge F' c)] h (fun y => y = .raw (.bool true)) := by
  unfold fitMerge at hf
  refine PW.scalar ?_
  refine start (P := Try.prog) [[0, 1], [2, 3], [], [2, 3], [], []] (by kernel_rfl) Try.func104 rfl (by decide) (by decide +kernel) (rs := [.tmp 4]) rfl rfl (Nat.le_of_ble_eq_true rfl) ?_
  intro wf
  repeat (first | rw [kz_o] | rw [kz_r0] | simp -dsimp -implicitDefEqProofs only [go_sem, Nat.reduceBEq, Nat.reduceAdd, Nat.reduceLeDiff, Nat.reduceMul, Int.reduceLE, Int.reduceLT, Int.reduceBEq])
  exact ⟨by repeat (first | exact H2.le.refl _ | apply le_push | refine le_up ?_ (by assumption)), ⟨_, rfl⟩, rfl⟩

theorem toMerge_ok {F : Nat → Adr} {c : LMerge} {h : H2} (hs : szMerge c ≤ 1048576) : NewS Try.prog W0 99 [.st (xMerge F c)] h (eMerge c) := by
  refine start (P := Try.prog) [[0], [1, 2], [1, 2, 3], [1, 2, 3], [2, 3]] (by kernel_rfl) Try.func99 rfl (by decide) (by decide +kernel) (rs := [.cell 2 150]) rfl rfl (Nat.le_of_ble_eq_true rfl) ?_
  intro wf
  repeat (first | rw [kz_o] | rw [kz_r0] | simp -dsimp -implicitDefEqProofs only [go_sem, Nat.reduceBEq, Nat.reduceAdd, Nat.reduceLeDiff, Nat.reduceMul, Int.reduceLE, Int.reduceLT, Int.reduceBEq, hoo])
  exact ⟨by repeat (first | exact H2.le.refl _ | apply le_push | refine le_set ?_ (by first | omega | (simp only [hn_push, hn_set]; omega))), _, [], rfl, outMerge (c := c), Bl.nil⟩

def rMergeS (zs : List LMerge) : List (List T) := zs.map eMerge
theorem rMergeS_len {zs : List LMerge} : (rMergeS zs).length = zs.length := by simp [rMergeS]
theorem rMergeS_el {zs : List LMerge} {i : Nat} (hi : i < zs.length) : el (rMergeS zs) i = eMerge (zs.getD i default) := el_map hi
attribute [go_sem] rMergeS_len rMergeS_el
def szMergeS (zs : List LMerge) : Nat := zs.length + sumN szMerge zs
def cntMergeS (zs : List LMerge) : Nat := 2 * zs.length + sumN cntMerge zs
def fitMergeS (zs : List LMerge) : Prop := zs.length ≤ 9223372036854775807 ∧ ∀ x ∈ zs, fitMerge x

theorem szMergeS_pw {f : Adr} {zs : List LMerge} {left : Int} {h : H2} (hf : fitMergeS zs) (hl : 0 ≤ left ∧ left ≤ 1048576) : PW Try.prog W0 49 [.sl f 2 (rMergeS zs), .raw (.int .i64 left)] h (fun y => ∃ k : Int, y = .raw (.int .i64 k) ∧ (0 ≤ k → (szMergeS zs : Int) + k ≤ left)) := by
  obtain ⟨hf1, hf2⟩ := hf
  unfold szMergeS
  have hw : IntKind.i64.wrap (left - zs.length) = left - zs.length := by rw [wrap_i64] <;> omega
  refine PW.scalar ?_
  refine start (P := Try.prog) [[0, 1], [0, 1], [1], [], [1]] (by kernel_rfl) Try.func49 rfl (by decide) (by decide +kernel) (rs := [.tmp 4]) rfl rfl (Nat.le_of_ble_eq_true rfl) ?_
  intro wf
  repeat (first | rw [kz_o] | rw [kz_r0] | simp -dsimp -implicitDefEqProofs only [go_sem, Nat.reduceBEq, Nat.reduceAdd, Nat.reduceLeDiff, Nat.reduceMul, Int.reduceLE, Int.reduceLT, Int.reduceBEq, hw])
  refine gz_dec (fun h1 => ?_) (fun h1 => ?_)
  · repeat (first | rw [kz_o] | rw [kz_r0] | simp -dsimp -implicitDefEqProofs only [go_sem, Nat.reduceBEq, Nat.reduceAdd, Nat.reduceLeDiff, Nat.reduceMul, Int.reduceLE, Int.reduceLT, Int.reduceBEq])
    exact ⟨H2.le.refl _, ⟨_, rfl⟩, _, rfl, fun hh => by omega⟩
  · repeat (first | rw [kz_o] | rw [kz_r0] | simp -dsimp -implicitDefEqProofs only [go_sem, Nat.reduceBEq, Nat.reduceAdd, Nat.reduceLeDiff, Nat.reduceMul, Int.reduceLE, Int.reduceLT, Int.reduceBEq])
    have h0 : ∀ l : List LMerge, sumN szMerge l = 0 := fun l => by
      induction l with
      | nil => rfl
      | cons a l ih => simp only [sumN, szMerge, ih]
    exact ⟨H2.le.refl _, ⟨_, rfl⟩, _, rfl, fun hh => by rw [h0]; omega⟩

theorem eqMergeS_pw {f f' : Adr} {zs : List LMerge} {h : H2} (hf : fitMergeS zs) : PW Try.prog W0 66 [.sl f 2 (rMergeS zs), .sl f' 2 (rMergeS zs)] h (fun y => y = .raw (.bool true)) := by
  obtain ⟨hf1, hf2⟩ := hf
  refine PW.scalar ?_
  refine start (P := Try.prog) [[0, 1], [0, 1], [], [0, 1], [0, 1, 5], [0, 1, 5], [0, 1, 5], [], []] (by kernel_rfl) Try.func66 rfl (by decide) (by decide +kernel) (rs := [.tmp 4]) rfl rfl (Nat.le_of_ble_eq_true rfl) ?_
  intro wf
  repeat (first | rw [kz_o] | rw [kz_r0] | simp -dsimp -implicitDefEqProofs only [go_sem, Nat.reduceBEq, Nat.reduceAdd, Nat.reduceLeDiff, Nat.reduceMul, Int.reduceLE, Int.reduceLT, Int.reduceBEq])
  refine lz_keep [0, 1] (fun m e h' => ∃ (k n : Nat), h' = h.up n ∧ hn h .mk ≤ n ∧ look e 5 .mk = .raw (.int .i64 k) ∧ m + k = zs.length) zs.length ?_ ?_
  · exact ⟨0, hn h .mk, up_self, Nat.le_refl _, by simp -dsimp -implicitDefEqProofs only [go_sem, Nat.reduceBEq, Nat.reduceAdd, Nat.reduceLeDiff, Nat.reduceMul, Int.reduceLE, Int.reduceLT, Int.reduceBEq], by omega⟩
  · rintro m e h' hks ⟨k, n, rfl, hnn, e5, hk⟩
    simp -dsimp -implicitDefEqProofs only [go_sem, Nat.reduceBEq, Nat.reduceAdd, Nat.reduceLeDiff, Nat.reduceMul, Int.reduceLE, Int.reduceLT, Int.reduceBEq] at hks
    by_cases h2 : (k : Int) < (zs.length : Int)
    · have h3 : k < zs.length := by omega
      repeat (first | rw [kz_o] | rw [kz_r0] | simp -dsimp -implicitDefEqProofs only [go_sem, Nat.reduceBEq, Nat.reduceAdd, Nat.reduceLeDiff, Nat.reduceMul, Int.reduceLE, Int.reduceLT, Int.reduceBEq, hks, e5, h2])
      refine dq_intro [(0, []), (1, []), (2, []), (3, []), (4, []), (5, []), (6, []), (7, []), (8, []), (9, [])] (by kernel_rfl) ?_
      repeat (first | rw [kz_o] | rw [kz_r0] | simp -dsimp -implicitDefEqProofs only [go_sem, Nat.reduceBEq, Nat.reduceAdd, Nat.reduceLeDiff, Nat.reduceMul, Int.reduceLE, Int.reduceLT, Int.reduceBEq, hks, e5, h3])
      refine pw_intro (eqMerge_ok (F := under (under f k)) (F' := under (under f' k)) (c := zs.getD k default) (hf2 _ (getD_mem h3))) ?_
      rintro _ n2 hn2 rfl
      simp only [hn_up] at hn2
      repeat (first | rw [kz_o] | rw [kz_r0] | simp -dsimp -implicitDefEqProofs only [go_sem, Nat.reduceBEq, Nat.reduceAdd, Nat.reduceLeDiff, Nat.reduceMul, Int.reduceLE, Int.reduceLT, Int.reduceBEq, hks, e5, wrap_succ h3 hf1])
      exact nx_keep (m - 1) (by omega) (by simp -dsimp -implicitDefEqProofs only [go_sem, Nat.reduceBEq, Nat.reduceAdd, Nat.reduceLeDiff, Nat.reduceMul, Int.reduceLE, Int.reduceLT, Int.reduceBEq, hks]) ⟨k + 1, n2, up_up, by omega, by simp -dsimp -implicitDefEqProofs only [go_sem, Nat.reduceBEq, Nat.reduceAdd, Nat.reduceLeDiff, Nat.reduceMul, Int.reduceLE, Int.reduceLT, Int.reduceBEq], by omega⟩
    · repeat (first | rw [kz_o] | rw [kz_r0] | simp -dsimp -implicitDefEqProofs only [go_sem, Nat.reduceBEq, Nat.reduceAdd, Nat.reduceLeDiff, Nat.reduceMul, Int.reduceLE, Int.reduceLT, Int.reduceBEq, hks, e5, h2])
      exact ⟨le_up (H2.le.refl _) hnn, ⟨_, rfl⟩, rfl⟩

theorem toMergeS_new {f : Adr} {zs : List LMerge} {h : H2} (hs : szMergeS zs ≤ 1048576) : NewT Try.prog W0 58 [.sl f 2 (rMergeS zs)] h (.l 2 (rMergeS zs)) := by
  unfold szMergeS at hs
  have hE : ∀ a, (eMerge a).length = 2 := fun a => rfl
  refine start (P := Try.prog) [[0], [0], [0, 3], [0, 3, 4], [0, 3, 4], [0, 3, 4], [3]] (by kernel_rfl) Try.func58 rfl (by decide) (by decide +kernel) (rs := [.tmp 2]) rfl rfl (Nat.le_of_ble_eq_true rfl) ?_
  intro wf
  repeat (first | rw [kz_o] | rw [kz_r0] | simp -dsimp -implicitDefEqProofs only [go_sem, Nat.reduceBEq, Nat.reduceAdd, Nat.reduceLeDiff, Nat.reduceMul, Int.reduceLE, Int.reduceLT, Int.reduceBEq])
  refine make_intro Ai.ty_el51 Ai.ty_zr150 (by decide) ⟨by omega, by simp only [Int.toNat_natCast]; have : Ai.most = 1099511627776 := rfl; omega⟩ ?_
  repeat (first | rw [kz_o] | rw [kz_r0] | simp -dsimp -implicitDefEqProofs only [go_sem, Nat.reduceBEq, Nat.reduceAdd, Nat.reduceLeDiff, Nat.reduceMul, Int.reduceLE, Int.reduceLT, Int.reduceBEq])
  refine lz_keep [0, 3] (fun m e h' => ∃ (k : Nat) (cs : List X) (bs : List Nat), look e 4 .mk = .raw (.int .i64 k) ∧ m + k = zs.length ∧ hg h' (hn h .mk) .mk = some ⟨2, cs⟩ ∧ cs.length = zs.length * 2 ∧ OTs h' bs (cs.take (k * 2)) (((zs.take k).map eMerge).flatten) ∧ Bl (hn h .mk + 1) (hn h' .mk) bs ∧ h.le h' ∧ hn h .mk < hn h' .mk) zs.length ?_ ?_
  · exact ⟨0, _, [], by simp -dsimp -implicitDefEqProofs only [go_sem, Nat.reduceBEq, Nat.reduceAdd, Nat.reduceLeDiff, Nat.reduceMul, Int.reduceLE, Int.reduceLT, Int.reduceBEq], by omega, (by rw [hg_push, hoo]; rfl), by simp [rep_len], by simpa using OTs.nil, Bl.nil, le_push (H2.le.refl _), by rw [hn_push]; omega⟩
  · rintro m e h' hks ⟨k, cs, bs, e4, hk, hrow, hcs, ho, hbl, hle, hlt⟩
    simp -dsimp -implicitDefEqProofs only [go_sem, Nat.reduceBEq, Nat.reduceAdd, Nat.reduceLeDiff, Nat.reduceMul, Int.reduceLE, Int.reduceLT, Int.reduceBEq, Int.toNat_natCast] at hks
    by_cases h2 : (k : Int) < (zs.length : Int)
    · have h3 : k < zs.length := by omega
      have hsm : szMerge (zs.getD k default) ≤ sumN szMerge zs := sumN_mem (f := szMerge) (getD_mem h3)
      repeat (first | rw [kz_o] | rw [kz_r0] | simp -dsimp -implicitDefEqProofs only [go_sem, Nat.reduceBEq, Nat.reduceAdd, Nat.reduceLeDiff, Nat.reduceMul, Int.reduceLE, Int.reduceLT, Int.reduceBEq, hks, e4, h2, h3])
      refine wz_intro (toMerge_ok (F := under (under f k)) (c := zs.getD k default) (by omega)) ?_
      rintro _ g2 ⟨l2, ys, b2, rfl, o2, bl2⟩
      have nn2 := l2.1
      have hyl : (ys).length = 2 := (OTs.len o2).trans (hE _)
      have hyo := OTs.okx o2
      obtain ⟨w1, w2, w3⟩ := wrt_next hcs h3 hyl
      have row2 := (l2.2 (hn h .mk) hlt).trans hrow
      have hi2 : (0 : Int) ≤ (k : Int) ∧ (k : Int) < (zs.length : Int) := by omega
      repeat (first | rw [kz_o] | rw [kz_r0] | simp -dsimp -implicitDefEqProofs only [go_sem, Nat.reduceBEq, Nat.reduceAdd, Nat.reduceLeDiff, Nat.reduceMul, Int.reduceLE, Int.reduceLT, Int.reduceBEq, hks, e4, row2, hi2, hyl, hyo, w1, wrap_succ h3 (by omega)])
      have hset : ∀ {b : Nat} {kk : OB}, b ≠ hn h .mk → (g2.set (hn h .mk) kk).get b = g2.get b := fun hb => by simp only [H2.set]; rw [if_neg hb]
      refine nx_keep (m - 1) (by omega) (by simp -dsimp -implicitDefEqProofs only [go_sem, Nat.reduceBEq, Nat.reduceAdd, Nat.reduceLeDiff, Nat.reduceMul, Int.reduceLE, Int.reduceLT, Int.reduceBEq, hks]) ⟨k + 1, _, bs ++ b2, by simp -dsimp -implicitDefEqProofs only [go_sem, Nat.reduceBEq, Nat.reduceAdd, Nat.reduceLeDiff, Nat.reduceMul, Int.reduceLE, Int.reduceLT, Int.reduceBEq], by omega, (by rw [hg_set, hoo]; rfl), w2, ?_, ?_, le_set (hle.trans l2) (Nat.le_refl _), by simp -dsimp -implicitDefEqProofs only [go_sem, Nat.reduceBEq, Nat.reduceAdd, Nat.reduceLeDiff, Nat.reduceMul, Int.reduceLE, Int.reduceLT, Int.reduceBEq] <;> omega⟩
      · rw [w3, flat_next h3]
        refine OTs.append ((OTs.keep ho l2 hbl).frame fun b hb => hset (by have := (hbl.2 b hb).1; omega)) (o2.frame fun b hb => hset (by have := (bl2.2 b hb).1; omega))
      · rw [hn_set]
        exact hbl.append bl2 (by omega) nn2
    · repeat (first | rw [kz_o] | rw [kz_r0] | simp -dsimp -implicitDefEqProofs only [go_sem, Nat.reduceBEq, Nat.reduceAdd, Nat.reduceLeDiff, Nat.reduceMul, Int.reduceLE, Int.reduceLT, Int.reduceBEq, hks, e4, h2])
      have : k = zs.length := by omega
      subst this
      obtain ⟨q1, q2⟩ := OT.full hE hrow hcs ho hbl hlt
      exact ⟨hle, _, q1, q2⟩

structure LMatrix where
  width : Int
  rows : List (List Int)
  scales : List (List Int)
  mul : Int
  shift : Int
instance : Inhabited LMatrix := ⟨⟨default, default, default, default, default⟩⟩
def eMatrix (c : LMatrix) : List T := [.v (.int .i64 c.width), .l 1 (rIntSS c.rows), .l 1 (rIntSS c.scales), .v (.int .i64 c.mul), .v (.int .i64 c.shift)]
def xMatrix (F : Nat → Adr) (c : LMatrix) : List X := [.raw (.int .i64 c.width), .sl (F 1) 1 (rIntSS c.rows), .sl (F 2) 1 (rIntSS c.scales), .raw (.int .i64 c.mul), .raw (.int .i64 c.shift)]
theorem mkMatrix {F : Nat → Adr} {c : LMatrix} : mkF F 0 (eMatrix c) = xMatrix F c := rfl
theorem eMatrix_def {c : LMatrix} : eMatrix c = [.v (.int .i64 c.width), .l 1 (rIntSS c.rows), .l 1 (rIntSS c.scales), .v (.int .i64 c.mul), .v (.int .i64 c.shift)] := rfl
theorem xMatrix_def {F : Nat → Adr} {c : LMatrix} : xMatrix F c = [.raw (.int .i64 c.width), .sl (F 1) 1 (rIntSS c.rows), .sl (F 2) 1 (rIntSS c.scales), .raw (.int .i64 c.mul), .raw (.int .i64 c.shift)] := rfl
def szMatrix (c : LMatrix) : Nat := szIntSS c.rows + szIntSS c.scales
def cntMatrix (c : LMatrix) : Nat := cntIntSS c.rows + cntIntSS c.scales
def fitMatrix (c : LMatrix) : Prop := fitIntSS c.rows ∧ fitIntSS c.scales
attribute [go_sem] eMatrix_def xMatrix_def
theorem invMatrix {g : H2} {bs : List Nat} {ys : List X} {c : LMatrix} (o : OTs g bs ys (eMatrix c)) : ∃ b1 s1 b2 s2, ys = [.raw (.int .i64 c.width), s1, s2, .raw (.int .i64 c.mul), .raw (.int .i64 c.shift)] ∧ bs = b1 ++ b2 ∧ OT g b1 s1 (.l 1 (rIntSS c.rows)) ∧ OT g b2 s2 (.l 1 (rIntSS c.scales)) := by
  unfold eMatrix at o
  obtain ⟨ys0, rfl, o0⟩ := OTs.headv o
  obtain ⟨b1, bs1, s1, ys1, rfl, rfl, a1, o1⟩ := OTs.head o0
  obtain ⟨b2, bs2, s2, ys2, rfl, rfl, a2, o2⟩ := OTs.head o1
  obtain ⟨ys3, rfl, o3⟩ := OTs.headv o2
  obtain ⟨ys4, rfl, o4⟩ := OTs.headv o3
  obtain ⟨rfl, rfl⟩ := OTs.tail0 o4
  exact ⟨_, _, _, _, rfl, by simp only [List.append_nil], a1, a2⟩
theorem outMatrix {g : H2} {c : LMatrix} {b1 b2 : List Nat} {s1 s2 : X} (a1 : OT g b1 s1 (.l 1 (rIntSS c.rows))) (a2 : OT g b2 s2 (.l 1 (rIntSS c.scales))) : OTs g (b1 ++ b2) [.raw (.int .i64 c.width), s1, s2, .raw (.int .i64 c.mul), .raw (.int .i64 c.shift)] (eMatrix c) := by
  have := OTs.cons (OT.raw (v := .int .i64 c.width) rfl) (OTs.cons a1 (OTs.cons a2 (OTs.cons (OT.raw (v := .int .i64 c.mul) rfl) (OTs.cons (OT.raw (v := .int .i64 c.shift) rfl) (OTs.nil)))))
  simpa only [eMatrix, List.append_nil, List.nil_append] using this

theorem szMatrix_ok {F : Nat → Adr} {c : LMatrix} {left : Int} {h : H2} (hf : fitMatrix c) (hl : 0 ≤ left ∧ left ≤ 1048576) : PW Try.prog W0 53 [.st (xMatrix F c), .raw (.int .i64 left)] h (fun y => ∃ k : Int, y = .raw (.int .i64 k) ∧ (0 ≤ k → (szMatrix c : Int) + k ≤ left)) := by
  unfold fitMatrix at hf
  refine PW.scalar ?_
  refine start (P := Try.prog) [[0, 1], [1, 2], [1, 2], [], [1, 2], [1], [], [1]] (by kernel_rfl) Try.func53 rfl (by decide) (by decide +kernel) (rs := [.tmp 4]) rfl rfl (Nat.le_of_ble_eq_true rfl) ?_
  intro wf
  repeat (first | rw [kz_o] | rw [kz_r0] | simp -dsimp -implicitDefEqProofs only [go_sem, Nat.reduceBEq, Nat.reduceAdd, Nat.reduceLeDiff, Nat.reduceMul, Int.reduceLE, Int.reduceLT, Int.reduceBEq])
  refine pw_intro (szIntSS_pw  hf.1 ⟨by omega, by omega⟩) ?_
  rintro _ n1 hn1 ⟨k1, rfl, hk1⟩
  repeat (first | rw [kz_o] | rw [kz_r0] | simp -dsimp -implicitDefEqProofs only [go_sem, Nat.reduceBEq, Nat.reduceAdd, Nat.reduceLeDiff, Nat.reduceMul, Int.reduceLE, Int.reduceLT, Int.reduceBEq])
  refine gz_dec (fun q1 => ?_) (fun q1 => ?_)
  · repeat (first | rw [kz_o] | rw [kz_r0] | simp -dsimp -implicitDefEqProofs only [go_sem, Nat.reduceBEq, Nat.reduceAdd, Nat.reduceLeDiff, Nat.reduceMul, Int.reduceLE, Int.reduceLT, Int.reduceBEq])
    exact ⟨by repeat (first | exact H2.le.refl _ | apply le_push | refine le_up ?_ (by assumption)), ⟨_, rfl⟩, _, rfl, fun hh => by omega⟩
  repeat (first | rw [kz_o] | rw [kz_r0] | simp -dsimp -implicitDefEqProofs only [go_sem, Nat.reduceBEq, Nat.reduceAdd, Nat.reduceLeDiff, Nat.reduceMul, Int.reduceLE, Int.reduceLT, Int.reduceBEq])
  refine pw_intro (szIntSS_pw  hf.2 ⟨by omega, by omega⟩) ?_
  rintro _ n2 hn2 ⟨k2, rfl, hk2⟩
  repeat (first | rw [kz_o] | rw [kz_r0] | simp -dsimp -implicitDefEqProofs only [go_sem, Nat.reduceBEq, Nat.reduceAdd, Nat.reduceLeDiff, Nat.reduceMul, Int.reduceLE, Int.reduceLT, Int.reduceBEq])
  refine gz_dec (fun q2 => ?_) (fun q2 => ?_)
  · repeat (first | rw [kz_o] | rw [kz_r0] | simp -dsimp -implicitDefEqProofs only [go_sem, Nat.reduceBEq, Nat.reduceAdd, Nat.reduceLeDiff, Nat.reduceMul, Int.reduceLE, Int.reduceLT, Int.reduceBEq])
    exact ⟨by repeat (first | exact H2.le.refl _ | apply le_push | refine le_up ?_ (by assumption)), ⟨_, rfl⟩, _, rfl, fun hh => by omega⟩
  repeat (first | rw [kz_o] | rw [kz_r0] | simp -dsimp -implicitDefEqProofs only [go_sem, Nat.reduceBEq, Nat.reduceAdd, Nat.reduceLeDiff, Nat.reduceMul, Int.reduceLE, Int.reduceLT, Int.reduceBEq])
  exact ⟨by repeat (first | exact H2.le.refl _ | apply le_push | refine le_up ?_ (by assumption)), ⟨_, rfl⟩, _, rfl, fun hh => by unfold szMatrix; omega⟩

theorem eqMatrix_ok {F F' : Nat → Adr} {c : LMatrix} {h : H2} (hf : fitMatrix c) : PW Try.prog W0 69 [.st (xMatrix F c), .st (xMatrix F' c)] h (fun y => y = .raw (.bool true)) := by
  unfold fitMatrix at hf
  refine PW.scalar ?_
  refine start (P := Try.prog) [[0, 1], [2, 3], [], [2, 3], [], [2, 3], [], [2, 3], [], [2, 3], [], []] (by kernel_rfl) Try.func69 rfl (by decide) (by decide +kernel) (rs := [.tmp 4]) rfl rfl (Nat.le_of_ble_eq_true rfl) ?_
  intro wf
  repeat (first | rw [kz_o] | rw [kz_r0] | simp -dsimp -implicitDefEqProofs only [go_sem, Nat.reduceBEq, Nat.reduceAdd, Nat.reduceLeDiff, Nat.reduceMul, Int.reduceLE, Int.reduceLT, Int.reduceBEq])
  refine pw_intro (eqIntSS_pw  hf.1) ?_
  rintro _ n1 hn1 rfl
  repeat (first | rw [kz_o] | rw [kz_r0] | simp -dsimp -implicitDefEqProofs only [go_sem, Nat.reduceBEq, Nat.reduceAdd, Nat.reduceLeDiff, Nat.reduceMul, Int.reduceLE, Int.reduceLT, Int.reduceBEq])
  refine pw_intro (eqIntSS_pw  hf.2) ?_
  rintro _ n2 hn2 rfl
  repeat (first | rw [kz_o] | rw [kz_r0] | simp -dsimp -implicitDefEqProofs only [go_sem, Nat.reduceBEq, Nat.reduceAdd, Nat.reduceLeDiff, Nat.reduceMul, Int.reduceLE, Int.reduceLT, Int.reduceBEq])
  exact ⟨by repeat (first | exact H2.le.refl _ | apply le_push | refine le_up ?_ (by assumption)), ⟨_, rfl⟩, rfl⟩

theorem toMatrix_ok {F : Nat → Adr} {c : LMatrix} {h : H2} (hs : szMatrix c ≤ 1048576) : NewS Try.prog W0 61 [.st (xMatrix F c)] h (eMatrix c) := by
  unfold szMatrix at hs
  refine start (P := Try.prog) [[0], [1, 2], [1, 2, 3], [1, 2, 3], [1, 2, 3], [1, 2, 3], [1, 2, 3], [2, 3]] (by kernel_rfl) Try.func61 rfl (by decide) (by decide +kernel) (rs := [.cell 2 53]) rfl rfl (Nat.le_of_ble_eq_true rfl) ?_
  intro wf
  repeat (first | rw [kz_o] | rw [kz_r0] | simp -dsimp -implicitDefEqProofs only [go_sem, Nat.reduceBEq, Nat.reduceAdd, Nat.reduceLeDiff, Nat.reduceMul, Int.reduceLE, Int.reduceLT, Int.reduceBEq])
  refine wz_intro (toIntSS_new  (by omega)) ?_
  rintro s1 g1 ⟨l1, b1, o1, bl1⟩
  have ce1 := OT.cell o1
  have n1 := l1.n
  have a10 := l1.2 (hn h .mk) (by simp only [hn_push, hn_set]; omega)
  have a11 := l1.2 (hn h .mk + 1) (by simp only [hn_push, hn_set]; omega)
  have a12 := l1.2 (hn h .mk + 1 + 1) (by simp only [hn_push, hn_set]; omega)
  simp -dsimp -implicitDefEqProofs only [go_sem, Nat.reduceBEq, Nat.reduceAdd, Nat.reduceLeDiff, Nat.reduceMul, Int.reduceLE, Int.reduceLT, Int.reduceBEq, hoo] at n1 a10 a11 a12
  have L1 : h.le g1 := H2.le.trans (by repeat (first | exact H2.le.refl _ | apply le_push | refine le_set ?_ (by omega))) l1
  repeat (first | rw [kz_o] | rw [kz_r0] | simp -dsimp -implicitDefEqProofs only [go_sem, Nat.reduceBEq, Nat.reduceAdd, Nat.reduceLeDiff, Nat.reduceMul, Int.reduceLE, Int.reduceLT, Int.reduceBEq, a10, a11, a12, ce1])
  refine wz_intro (toIntSS_new  (by omega)) ?_
  rintro s2 g2 ⟨l2, b2, o2, bl2⟩
  have ce2 := OT.cell o2
  have n2 := l2.n
  have a20 := l2.2 (hn h .mk) (by simp only [hn_push, hn_set]; omega)
  have a21 := l2.2 (hn h .mk + 1) (by simp only [hn_push, hn_set]; omega)
  have a22 := l2.2 (hn h .mk + 1 + 1) (by simp only [hn_push, hn_set]; omega)
  simp -dsimp -implicitDefEqProofs only [go_sem, Nat.reduceBEq, Nat.reduceAdd, Nat.reduceLeDiff, Nat.reduceMul, Int.reduceLE, Int.reduceLT, Int.reduceBEq, a10, a11, a12, hoo] at n2 a20 a21 a22
  have L2 : h.le g2 := H2.le.trans (by repeat (first | exact L1 | exact H2.le.refl _ | apply le_push | refine le_set ?_ (by omega))) l2
  repeat (first | rw [kz_o] | rw [kz_r0] | simp -dsimp -implicitDefEqProofs only [go_sem, Nat.reduceBEq, Nat.reduceAdd, Nat.reduceLeDiff, Nat.reduceMul, Int.reduceLE, Int.reduceLT, Int.reduceBEq, a20, a21, a22, ce1, ce2])
  refine ⟨by repeat (first | exact L2 | refine le_set ?_ (by omega)), _, b1 ++ b2, rfl, outMatrix (c := c) ?_ ?_, ?_⟩
  · refine OT.frame o1 fun b hb => ?_
    have hbl := bl1.2 b (hb)
    simp only [hn_push, hn_set] at hbl
    simp only [H2.set]
    rw [if_neg (by omega), if_neg (by omega)]
    rw [show g2.get b = _ from l2.2 b (by simp only [hn_set]; omega)]
    simp only [hg, H2.set]
    rw [if_neg (by omega)]
  · refine OT.frame o2 fun b hb => ?_
    have hbl := bl2.2 b (hb)
    simp only [hn_push, hn_set] at hbl
    simp only [H2.set]
    rw [if_neg (by omega), if_neg (by omega)]
  · simp only [hn_set]
    have m1 := bl1
    simp only [hn_push, hn_set] at m1
    have m2 := bl2
    simp only [hn_push, hn_set] at m2
    have := ((Bl.append m1 m2 (by omega) (by omega))).wide (N' := hn h .mk) (by omega) (Nat.le_refl _)
    simpa only [List.append_assoc] using this

structure LTurns where
  cos : List (List Int)
  sin : List (List Int)
instance : Inhabited LTurns := ⟨⟨default, default⟩⟩
def eTurns (c : LTurns) : List T := [.l 1 (rIntSS c.cos), .l 1 (rIntSS c.sin)]
def xTurns (F : Nat → Adr) (c : LTurns) : List X := [.sl (F 0) 1 (rIntSS c.cos), .sl (F 1) 1 (rIntSS c.sin)]
theorem mkTurns {F : Nat → Adr} {c : LTurns} : mkF F 0 (eTurns c) = xTurns F c := rfl
theorem eTurns_def {c : LTurns} : eTurns c = [.l 1 (rIntSS c.cos), .l 1 (rIntSS c.sin)] := rfl
theorem xTurns_def {F : Nat → Adr} {c : LTurns} : xTurns F c = [.sl (F 0) 1 (rIntSS c.cos), .sl (F 1) 1 (rIntSS c.sin)] := rfl
def szTurns (c : LTurns) : Nat := szIntSS c.cos + szIntSS c.sin
def cntTurns (c : LTurns) : Nat := cntIntSS c.cos + cntIntSS c.sin
def fitTurns (c : LTurns) : Prop := fitIntSS c.cos ∧ fitIntSS c.sin
attribute [go_sem] eTurns_def xTurns_def
theorem invTurns {g : H2} {bs : List Nat} {ys : List X} {c : LTurns} (o : OTs g bs ys (eTurns c)) : ∃ b0 s0 b1 s1, ys = [s0, s1] ∧ bs = b0 ++ b1 ∧ OT g b0 s0 (.l 1 (rIntSS c.cos)) ∧ OT g b1 s1 (.l 1 (rIntSS c.sin)) := by
  unfold eTurns at o
  obtain ⟨b0, bs0, s0, ys0, rfl, rfl, a0, o0⟩ := OTs.head o
  obtain ⟨b1, bs1, s1, ys1, rfl, rfl, a1, o1⟩ := OTs.head o0
  obtain ⟨rfl, rfl⟩ := OTs.tail0 o1
  exact ⟨_, _, _, _, rfl, by simp only [List.append_nil], a0, a1⟩
theorem outTurns {g : H2} {c : LTurns} {b0 b1 : List Nat} {s0 s1 : X} (a0 : OT g b0 s0 (.l 1 (rIntSS c.cos))) (a1 : OT g b1 s1 (.l 1 (rIntSS c.sin))) : OTs g (b0 ++ b1) [s0, s1] (eTurns c) := by
  have := OTs.cons a0 (OTs.cons a1 (OTs.nil))
  simpa only [eTurns, List.append_nil, List.nil_append] using this

theorem szTurns_ok {F : Nat → Adr} {c : LTurns} {left : Int} {h : H2} (hf : fitTurns c) (hl : 0 ≤ left ∧ left ≤ 1048576) : PW Try.prog W0 54 [.st (xTurns F c), .raw (.int .i64 left)] h (fun y => ∃ k : Int, y = .raw (.int .i64 k) ∧ (0 ≤ k → (szTurns c : Int) + k ≤ left)) := by
  unfold fitTurns at hf
  refine PW.scalar ?_
  refine start (P := Try.prog) [[0, 1], [1, 2], [1, 2], [], [1, 2], [1], [], [1]] (by kernel_rfl) Try.func54 rfl (by decide) (by decide +kernel) (rs := [.tmp 4]) rfl rfl (Nat.le_of_ble_eq_true rfl) ?_
  intro wf
  repeat (first | rw [kz_o] | rw [kz_r0] | simp -dsimp -implicitDefEqProofs only [go_sem, Nat.reduceBEq, Nat.reduceAdd, Nat.reduceLeDiff, Nat.reduceMul, Int.reduceLE, Int.reduceLT, Int.reduceBEq])
  refine pw_intro (szIntSS_pw  hf.1 ⟨by omega, by omega⟩) ?_
  rintro _ n0 hn0 ⟨k0, rfl, hk0⟩
  repeat (first | rw [kz_o] | rw [kz_r0] | simp -dsimp -implicitDefEqProofs only [go_sem, Nat.reduceBEq, Nat.reduceAdd, Nat.reduceLeDiff, Nat.reduceMul, Int.reduceLE, Int.reduceLT, Int.reduceBEq])
  refine gz_dec (fun q0 => ?_) (fun q0 => ?_)
  · repeat (first | rw [kz_o] | rw [kz_r0] | simp -dsimp -implicitDefEqProofs only [go_sem, Nat.reduceBEq, Nat.reduceAdd, Nat.reduceLeDiff, Nat.reduceMul, Int.reduceLE, Int.reduceLT, Int.reduceBEq])
    exact ⟨by repeat (first | exact H2.le.refl _ | apply le_push | refine le_up ?_ (by assumption)), ⟨_, rfl⟩, _, rfl, fun hh => by omega⟩
  repeat (first | rw [kz_o] | rw [kz_r0] | simp -dsimp -implicitDefEqProofs only [go_sem, Nat.reduceBEq, Nat.reduceAdd, Nat.reduceLeDiff, Nat.reduceMul, Int.reduceLE, Int.reduceLT, Int.reduceBEq])
  refine pw_intro (szIntSS_pw  hf.2 ⟨by omega, by omega⟩) ?_
  rintro _ n1 hn1 ⟨k1, rfl, hk1⟩
  repeat (first | rw [kz_o] | rw [kz_r0] | simp -dsimp -implicitDefEqProofs only [go_sem, Nat.reduceBEq, Nat.reduceAdd, Nat.reduceLeDiff, Nat.reduceMul, Int.reduceLE, Int.reduceLT, Int.reduceBEq])
  refine gz_dec (fun q1 => ?_) (fun q1 => ?_)
  · repeat (first | rw [kz_o] | rw [kz_r0] | simp -dsimp -implicitDefEqProofs only [go_sem, Nat.reduceBEq, Nat.reduceAdd, Nat.reduceLeDiff, Nat.reduceMul, Int.reduceLE, Int.reduceLT, Int.reduceBEq])
    exact ⟨by repeat (first | exact H2.le.refl _ | apply le_push | refine le_up ?_ (by assumption)), ⟨_, rfl⟩, _, rfl, fun hh => by omega⟩
  repeat (first | rw [kz_o] | rw [kz_r0] | simp -dsimp -implicitDefEqProofs only [go_sem, Nat.reduceBEq, Nat.reduceAdd, Nat.reduceLeDiff, Nat.reduceMul, Int.reduceLE, Int.reduceLT, Int.reduceBEq])
  exact ⟨by repeat (first | exact H2.le.refl _ | apply le_push | refine le_up ?_ (by assumption)), ⟨_, rfl⟩, _, rfl, fun hh => by unfold szTurns; omega⟩

theorem eqTurns_ok {F F' : Nat → Adr} {c : LTurns} {h : H2} (hf : fitTurns c) : PW Try.prog W0 70 [.st (xTurns F c), .st (xTurns F' c)] h (fun y => y = .raw (.bool true)) := by
  unfold fitTurns at hf
  refine PW.scalar ?_
  refine start (P := Try.prog) [[0, 1], [2, 3], [], [2, 3], [], []] (by kernel_rfl) Try.func70 rfl (by decide) (by decide +kernel) (rs := [.tmp 4]) rfl rfl (Nat.le_of_ble_eq_true rfl) ?_
  intro wf
  repeat (first | rw [kz_o] | rw [kz_r0] | simp -dsimp -implicitDefEqProofs only [go_sem, Nat.reduceBEq, Nat.reduceAdd, Nat.reduceLeDiff, Nat.reduceMul, Int.reduceLE, Int.reduceLT, Int.reduceBEq])
  refine pw_intro (eqIntSS_pw  hf.1) ?_
  rintro _ n0 hn0 rfl
  repeat (first | rw [kz_o] | rw [kz_r0] | simp -dsimp -implicitDefEqProofs only [go_sem, Nat.reduceBEq, Nat.reduceAdd, Nat.reduceLeDiff, Nat.reduceMul, Int.reduceLE, Int.reduceLT, Int.reduceBEq])
  refine pw_intro (eqIntSS_pw  hf.2) ?_
  rintro _ n1 hn1 rfl
  repeat (first | rw [kz_o] | rw [kz_r0] | simp -dsimp -implicitDefEqProofs only [go_sem, Nat.reduceBEq, Nat.reduceAdd, Nat.reduceLeDiff, Nat.reduceMul, Int.reduceLE, Int.reduceLT, Int.reduceBEq])
  exact ⟨by repeat (first | exact H2.le.refl _ | apply le_push | refine le_up ?_ (by assumption)), ⟨_, rfl⟩, rfl⟩

theorem toTurns_ok {F : Nat → Adr} {c : LTurns} {h : H2} (hs : szTurns c ≤ 1048576) : NewS Try.prog W0 62 [.st (xTurns F c)] h (eTurns c) := by
  unfold szTurns at hs
  refine start (P := Try.prog) [[0], [1, 2], [1, 2, 3], [1, 2, 3], [2, 3]] (by kernel_rfl) Try.func62 rfl (by decide) (by decide +kernel) (rs := [.cell 2 54]) rfl rfl (Nat.le_of_ble_eq_true rfl) ?_
  intro wf
  repeat (first | rw [kz_o] | rw [kz_r0] | simp -dsimp -implicitDefEqProofs only [go_sem, Nat.reduceBEq, Nat.reduceAdd, Nat.reduceLeDiff, Nat.reduceMul, Int.reduceLE, Int.reduceLT, Int.reduceBEq])
  refine wz_intro (toIntSS_new  (by omega)) ?_
  rintro s0 g0 ⟨l0, b0, o0, bl0⟩
  have ce0 := OT.cell o0
  have n0 := l0.n
  have a00 := l0.2 (hn h .mk) (by simp only [hn_push, hn_set]; omega)
  have a01 := l0.2 (hn h .mk + 1) (by simp only [hn_push, hn_set]; omega)
  have a02 := l0.2 (hn h .mk + 1 + 1) (by simp only [hn_push, hn_set]; omega)
  simp -dsimp -implicitDefEqProofs only [go_sem, Nat.reduceBEq, Nat.reduceAdd, Nat.reduceLeDiff, Nat.reduceMul, Int.reduceLE, Int.reduceLT, Int.reduceBEq, hoo] at n0 a00 a01 a02
  have L0 : h.le g0 := H2.le.trans (by repeat (first | exact H2.le.refl _ | apply le_push | refine le_set ?_ (by omega))) l0
  repeat (first | rw [kz_o] | rw [kz_r0] | simp -dsimp -implicitDefEqProofs only [go_sem, Nat.reduceBEq, Nat.reduceAdd, Nat.reduceLeDiff, Nat.reduceMul, Int.reduceLE, Int.reduceLT, Int.reduceBEq, a00, a01, a02, ce0])
  refine wz_intro (toIntSS_new  (by omega)) ?_
  rintro s1 g1 ⟨l1, b1, o1, bl1⟩
  have ce1 := OT.cell o1
  have n1 := l1.n
  have a10 := l1.2 (hn h .mk) (by simp only [hn_push, hn_set]; omega)
  have a11 := l1.2 (hn h .mk + 1) (by simp only [hn_push, hn_set]; omega)
  have a12 := l1.2 (hn h .mk + 1 + 1) (by simp only [hn_push, hn_set]; omega)
  simp -dsimp -implicitDefEqProofs only [go_sem, Nat.reduceBEq, Nat.reduceAdd, Nat.reduceLeDiff, Nat.reduceMul, Int.reduceLE, Int.reduceLT, Int.reduceBEq, a00, a01, a02, hoo] at n1 a10 a11 a12
  have L1 : h.le g1 := H2.le.trans (by repeat (first | exact L0 | exact H2.le.refl _ | apply le_push | refine le_set ?_ (by omega))) l1
  repeat (first | rw [kz_o] | rw [kz_r0] | simp -dsimp -implicitDefEqProofs only [go_sem, Nat.reduceBEq, Nat.reduceAdd, Nat.reduceLeDiff, Nat.reduceMul, Int.reduceLE, Int.reduceLT, Int.reduceBEq, a10, a11, a12, ce0, ce1])
  refine ⟨by repeat (first | exact L1 | refine le_set ?_ (by omega)), _, b0 ++ b1, rfl, outTurns (c := c) ?_ ?_, ?_⟩
  · refine OT.frame o0 fun b hb => ?_
    have hbl := bl0.2 b (hb)
    simp only [hn_push, hn_set] at hbl
    simp only [H2.set]
    rw [if_neg (by omega), if_neg (by omega)]
    rw [show g1.get b = _ from l1.2 b (by simp only [hn_set]; omega)]
    simp only [hg, H2.set]
    rw [if_neg (by omega)]
  · refine OT.frame o1 fun b hb => ?_
    have hbl := bl1.2 b (hb)
    simp only [hn_push, hn_set] at hbl
    simp only [H2.set]
    rw [if_neg (by omega), if_neg (by omega)]
  · simp only [hn_set]
    have m0 := bl0
    simp only [hn_push, hn_set] at m0
    have m1 := bl1
    simp only [hn_push, hn_set] at m1
    have := ((Bl.append m0 m1 (by omega) (by omega))).wide (N' := hn h .mk) (by omega) (Nat.le_refl _)
    simpa only [List.append_assoc] using this

end Go.Bi
