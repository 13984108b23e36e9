/- Walks of what the laws use to measure, copy, compare, mark and look again at structs (RequestS:d,sz,eq,to, Engine:d,sz,eq,to). -/
import Derived.Test.YtjofbadmkigkjaaBe
import Derived.Test.YtjofbadmkigkjaaHc
import Derived.Test.YtjofbadmkigkjaaHd
set_option linter.unusedSimpArgs false
set_option linter.unusedVariables false
set_option maxRecDepth 20000
namespace Go.Bi
open Go.Proofs
open Go.Ai (wrap_i64 wrap_u64 wrap_u8)
variable {W0 : World}
def rRequestS (zs : List LRequest) : List (List T) := zs.map eRequest
theorem rRequestS_len {zs : List LRequest} : (rRequestS zs).length = zs.length := by simp [rRequestS]
theorem rRequestS_el {zs : List LRequest} {i : Nat} (hi : i < zs.length) : el (rRequestS zs) i = eRequest (zs.getD i default) := el_map hi
attribute [go_sem] rRequestS_len rRequestS_el
def szRequestS (zs : List LRequest) : Nat := zs.length + sumN szRequest zs
def cntRequestS (zs : List LRequest) : Nat := 7 * zs.length + sumN cntRequest zs
def fitRequestS (zs : List LRequest) : Prop := zs.length ≤ 9223372036854775807 ∧ ∀ x ∈ zs, fitRequest x

theorem szRequestS_pw {f : Adr} {zs : List LRequest} {left : Int} {h : H2} (hf : fitRequestS zs) (hl : 0 ≤ left ∧ left ≤ 1048576) : PW Try.prog W0 73 [.sl f 10 (rRequestS zs), .raw (.int .i64 left)] h (fun y => ∃ k : Int, y = .raw (.int .i64 k) ∧ (0 ≤ k → (szRequestS zs : Int) + k ≤ left)) := by
  obtain ⟨hf1, hf2⟩ := hf
  unfold szRequestS
  have hw : IntKind.i64.wrap (left - zs.length) = left - zs.length := by rw [wrap_i64] <;> omega
  refine PW.scalar ?_
  refine start (P := Try.prog) [[0, 1], [0, 1], [0, 1], [], [0, 1], [0, 1, 5], [0, 1, 5], [0, 1, 5], [0, 1, 5], [], [1]] (by kernel_rfl) Try.func73 rfl (by decide) (by decide +kernel) (rs := [.tmp 4]) rfl rfl (Nat.le_of_ble_eq_true rfl) ?_
  intro wf
  repeat (first | rw [kz_o] | rw [kz_r0] | simp -dsimp -implicitDefEqProofs only [go_sem, Nat.reduceBEq, Nat.reduceAdd, Nat.reduceLeDiff, Nat.reduceMul, Int.reduceLE, Int.reduceLT, Int.reduceBEq, hw])
  refine gz_dec (fun h1 => ?_) (fun h1 => ?_)
  · repeat (first | rw [kz_o] | rw [kz_r0] | simp -dsimp -implicitDefEqProofs only [go_sem, Nat.reduceBEq, Nat.reduceAdd, Nat.reduceLeDiff, Nat.reduceMul, Int.reduceLE, Int.reduceLT, Int.reduceBEq])
    exact ⟨H2.le.refl _, ⟨_, rfl⟩, _, rfl, fun hh => by omega⟩
  · repeat (first | rw [kz_o] | rw [kz_r0] | simp -dsimp -implicitDefEqProofs only [go_sem, Nat.reduceBEq, Nat.reduceAdd, Nat.reduceLeDiff, Nat.reduceMul, Int.reduceLE, Int.reduceLT, Int.reduceBEq])
    refine lz_keep [0] (fun m e h' => ∃ (k n : Nat) (x : Int), h' = h.up n ∧ hn h .mk ≤ n ∧ look e 5 .mk = .raw (.int .i64 k) ∧ look e 1 .mk = .raw (.int .i64 x) ∧ 0 ≤ x ∧ (zs.length : Int) + sumN szRequest (zs.take k) + x ≤ left ∧ m + k = zs.length) zs.length ?_ ?_
    · exact ⟨0, hn h .mk, left - zs.length, up_self, Nat.le_refl _, by simp -dsimp -implicitDefEqProofs only [go_sem, Nat.reduceBEq, Nat.reduceAdd, Nat.reduceLeDiff, Nat.reduceMul, Int.reduceLE, Int.reduceLT, Int.reduceBEq], by simp -dsimp -implicitDefEqProofs only [go_sem, Nat.reduceBEq, Nat.reduceAdd, Nat.reduceLeDiff, Nat.reduceMul, Int.reduceLE, Int.reduceLT, Int.reduceBEq], by omega, by simp [sumN]; omega, by omega⟩
    · rintro m e h' hks ⟨k, n, x, rfl, hnn, e5, e1, hx, hsum, hk⟩
      simp -dsimp -implicitDefEqProofs only [go_sem, Nat.reduceBEq, Nat.reduceAdd, Nat.reduceLeDiff, Nat.reduceMul, Int.reduceLE, Int.reduceLT, Int.reduceBEq] at hks
      by_cases h2 : (k : Int) < (zs.length : Int)
      · have h3 : k < zs.length := by omega
        have hst : sumN szRequest (zs.take (k + 1)) = sumN szRequest (zs.take k) + szRequest (zs.getD k default) := sumN_take (f := szRequest) h3
        repeat (first | rw [kz_o] | rw [kz_r0] | simp -dsimp -implicitDefEqProofs only [go_sem, Nat.reduceBEq, Nat.reduceAdd, Nat.reduceLeDiff, Nat.reduceMul, Int.reduceLE, Int.reduceLT, Int.reduceBEq, hks, e5, e1, h2, h3])
        refine pw_intro (szRequest_ok (F := under (under f k)) (c := zs.getD k default) (hf2 _ (getD_mem h3)) ⟨by omega, by omega⟩) ?_
        rintro _ n2 hn2 ⟨x2, rfl, hx2⟩
        simp only [hn_up] at hn2
        repeat (first | rw [kz_o] | rw [kz_r0] | simp -dsimp -implicitDefEqProofs only [go_sem, Nat.reduceBEq, Nat.reduceAdd, Nat.reduceLeDiff, Nat.reduceMul, Int.reduceLE, Int.reduceLT, Int.reduceBEq])
        refine gz_dec (fun h4 => ?_) (fun h4 => ?_)
        · repeat (first | rw [kz_o] | rw [kz_r0] | simp -dsimp -implicitDefEqProofs only [go_sem, Nat.reduceBEq, Nat.reduceAdd, Nat.reduceLeDiff, Nat.reduceMul, Int.reduceLE, Int.reduceLT, Int.reduceBEq])
          exact ⟨(by first | exact le_up (H2.le.refl _) (by omega) | exact le_up (le_up (H2.le.refl _) hnn) (by rw [hn_up]; omega)), ⟨_, rfl⟩, _, rfl, fun hh => by omega⟩
        · repeat (first | rw [kz_o] | rw [kz_r0] | simp -dsimp -implicitDefEqProofs only [go_sem, Nat.reduceBEq, Nat.reduceAdd, Nat.reduceLeDiff, Nat.reduceMul, Int.reduceLE, Int.reduceLT, Int.reduceBEq, hks, e5, wrap_succ h3 hf1])
          exact nx_keep (m - 1) (by omega) (by simp -dsimp -implicitDefEqProofs only [go_sem, Nat.reduceBEq, Nat.reduceAdd, Nat.reduceLeDiff, Nat.reduceMul, Int.reduceLE, Int.reduceLT, Int.reduceBEq, hks]) ⟨k + 1, n2, x2, up_up, by omega, by simp -dsimp -implicitDefEqProofs only [go_sem, Nat.reduceBEq, Nat.reduceAdd, Nat.reduceLeDiff, Nat.reduceMul, Int.reduceLE, Int.reduceLT, Int.reduceBEq], by simp -dsimp -implicitDefEqProofs only [go_sem, Nat.reduceBEq, Nat.reduceAdd, Nat.reduceLeDiff, Nat.reduceMul, Int.reduceLE, Int.reduceLT, Int.reduceBEq], by omega, by have := hx2 (by omega); omega, by omega⟩
      · repeat (first | rw [kz_o] | rw [kz_r0] | simp -dsimp -implicitDefEqProofs only [go_sem, Nat.reduceBEq, Nat.reduceAdd, Nat.reduceLeDiff, Nat.reduceMul, Int.reduceLE, Int.reduceLT, Int.reduceBEq, hks, e5, e1, h2])
        refine ⟨le_up (H2.le.refl _) hnn, ⟨_, rfl⟩, x, rfl, fun _ => ?_⟩
        rw [List.take_of_length_le (by omega)] at hsum
        omega

theorem eqRequestS_pw {f f' : Adr} {zs : List LRequest} {h : H2} (hf : fitRequestS zs) : PW Try.prog W0 83 [.sl f 10 (rRequestS zs), .sl f' 10 (rRequestS zs)] h (fun y => y = .raw (.bool true)) := by
  obtain ⟨hf1, hf2⟩ := hf
  refine PW.scalar ?_
  refine start (P := Try.prog) [[0, 1], [0, 1], [], [0, 1], [0, 1, 5], [0, 1, 5], [0, 1, 5], [], []] (by kernel_rfl) Try.func83 rfl (by decide) (by decide +kernel) (rs := [.tmp 4]) rfl rfl (Nat.le_of_ble_eq_true rfl) ?_
  intro wf
  repeat (first | rw [kz_o] | rw [kz_r0] | simp -dsimp -implicitDefEqProofs only [go_sem, Nat.reduceBEq, Nat.reduceAdd, Nat.reduceLeDiff, Nat.reduceMul, Int.reduceLE, Int.reduceLT, Int.reduceBEq])
  refine lz_keep [0, 1] (fun m e h' => ∃ (k n : Nat), h' = h.up n ∧ hn h .mk ≤ n ∧ look e 5 .mk = .raw (.int .i64 k) ∧ m + k = zs.length) zs.length ?_ ?_
  · exact ⟨0, hn h .mk, up_self, Nat.le_refl _, by simp -dsimp -implicitDefEqProofs only [go_sem, Nat.reduceBEq, Nat.reduceAdd, Nat.reduceLeDiff, Nat.reduceMul, Int.reduceLE, Int.reduceLT, Int.reduceBEq], by omega⟩
  · rintro m e h' hks ⟨k, n, rfl, hnn, e5, hk⟩
    simp -dsimp -implicitDefEqProofs only [go_sem, Nat.reduceBEq, Nat.reduceAdd, Nat.reduceLeDiff, Nat.reduceMul, Int.reduceLE, Int.reduceLT, Int.reduceBEq] at hks
    by_cases h2 : (k : Int) < (zs.length : Int)
    · have h3 : k < zs.length := by omega
      repeat (first | rw [kz_o] | rw [kz_r0] | simp -dsimp -implicitDefEqProofs only [go_sem, Nat.reduceBEq, Nat.reduceAdd, Nat.reduceLeDiff, Nat.reduceMul, Int.reduceLE, Int.reduceLT, Int.reduceBEq, hks, e5, h2])
      refine dq_intro [(0, []), (1, []), (2, []), (3, []), (4, []), (5, []), (6, []), (7, []), (8, []), (9, [])] (by kernel_rfl) ?_
      repeat (first | rw [kz_o] | rw [kz_r0] | simp -dsimp -implicitDefEqProofs only [go_sem, Nat.reduceBEq, Nat.reduceAdd, Nat.reduceLeDiff, Nat.reduceMul, Int.reduceLE, Int.reduceLT, Int.reduceBEq, hks, e5, h3])
      refine pw_intro (eqRequest_ok (F := under (under f k)) (F' := under (under f' k)) (c := zs.getD k default) (hf2 _ (getD_mem h3))) ?_
      rintro _ n2 hn2 rfl
      simp only [hn_up] at hn2
      repeat (first | rw [kz_o] | rw [kz_r0] | simp -dsimp -implicitDefEqProofs only [go_sem, Nat.reduceBEq, Nat.reduceAdd, Nat.reduceLeDiff, Nat.reduceMul, Int.reduceLE, Int.reduceLT, Int.reduceBEq, hks, e5, wrap_succ h3 hf1])
      exact nx_keep (m - 1) (by omega) (by simp -dsimp -implicitDefEqProofs only [go_sem, Nat.reduceBEq, Nat.reduceAdd, Nat.reduceLeDiff, Nat.reduceMul, Int.reduceLE, Int.reduceLT, Int.reduceBEq, hks]) ⟨k + 1, n2, up_up, by omega, by simp -dsimp -implicitDefEqProofs only [go_sem, Nat.reduceBEq, Nat.reduceAdd, Nat.reduceLeDiff, Nat.reduceMul, Int.reduceLE, Int.reduceLT, Int.reduceBEq], by omega⟩
    · repeat (first | rw [kz_o] | rw [kz_r0] | simp -dsimp -implicitDefEqProofs only [go_sem, Nat.reduceBEq, Nat.reduceAdd, Nat.reduceLeDiff, Nat.reduceMul, Int.reduceLE, Int.reduceLT, Int.reduceBEq, hks, e5, h2])
      exact ⟨le_up (H2.le.refl _) hnn, ⟨_, rfl⟩, rfl⟩

theorem toRequestS_new {f : Adr} {zs : List LRequest} {h : H2} (hs : szRequestS zs ≤ 1048576) : NewT Try.prog W0 77 [.sl f 10 (rRequestS zs)] h (.l 10 (rRequestS zs)) := by
  unfold szRequestS at hs
  have hE : ∀ a, (eRequest a).length = 10 := fun a => rfl
  refine start (P := Try.prog) [[0], [0], [0, 3], [0, 3, 4], [0, 3, 4], [0, 3, 4], [3]] (by kernel_rfl) Try.func77 rfl (by decide) (by decide +kernel) (rs := [.tmp 2]) rfl rfl (Nat.le_of_ble_eq_true rfl) ?_
  intro wf
  repeat (first | rw [kz_o] | rw [kz_r0] | simp -dsimp -implicitDefEqProofs only [go_sem, Nat.reduceBEq, Nat.reduceAdd, Nat.reduceLeDiff, Nat.reduceMul, Int.reduceLE, Int.reduceLT, Int.reduceBEq])
  refine make_intro Ai.ty_el74 Ai.ty_zr169 (by decide) ⟨by omega, by simp only [Int.toNat_natCast]; have : Ai.most = 1099511627776 := rfl; omega⟩ ?_
  repeat (first | rw [kz_o] | rw [kz_r0] | simp -dsimp -implicitDefEqProofs only [go_sem, Nat.reduceBEq, Nat.reduceAdd, Nat.reduceLeDiff, Nat.reduceMul, Int.reduceLE, Int.reduceLT, Int.reduceBEq])
  refine lz_keep [0, 3] (fun m e h' => ∃ (k : Nat) (cs : List X) (bs : List Nat), look e 4 .mk = .raw (.int .i64 k) ∧ m + k = zs.length ∧ hg h' (hn h .mk) .mk = some ⟨10, cs⟩ ∧ cs.length = zs.length * 10 ∧ OTs h' bs (cs.take (k * 10)) (((zs.take k).map eRequest).flatten) ∧ Bl (hn h .mk + 1) (hn h' .mk) bs ∧ h.le h' ∧ hn h .mk < hn h' .mk) zs.length ?_ ?_
  · exact ⟨0, _, [], by simp -dsimp -implicitDefEqProofs only [go_sem, Nat.reduceBEq, Nat.reduceAdd, Nat.reduceLeDiff, Nat.reduceMul, Int.reduceLE, Int.reduceLT, Int.reduceBEq], by omega, (by rw [hg_push, hoo]; rfl), by simp [rep_len], by simpa using OTs.nil, Bl.nil, le_push (H2.le.refl _), by rw [hn_push]; omega⟩
  · rintro m e h' hks ⟨k, cs, bs, e4, hk, hrow, hcs, ho, hbl, hle, hlt⟩
    simp -dsimp -implicitDefEqProofs only [go_sem, Nat.reduceBEq, Nat.reduceAdd, Nat.reduceLeDiff, Nat.reduceMul, Int.reduceLE, Int.reduceLT, Int.reduceBEq, Int.toNat_natCast] at hks
    by_cases h2 : (k : Int) < (zs.length : Int)
    · have h3 : k < zs.length := by omega
      have hsm : szRequest (zs.getD k default) ≤ sumN szRequest zs := sumN_mem (f := szRequest) (getD_mem h3)
      repeat (first | rw [kz_o] | rw [kz_r0] | simp -dsimp -implicitDefEqProofs only [go_sem, Nat.reduceBEq, Nat.reduceAdd, Nat.reduceLeDiff, Nat.reduceMul, Int.reduceLE, Int.reduceLT, Int.reduceBEq, hks, e4, h2, h3])
      refine wz_intro (toRequest_ok (F := under (under f k)) (c := zs.getD k default) (by omega)) ?_
      rintro _ g2 ⟨l2, ys, b2, rfl, o2, bl2⟩
      have nn2 := l2.1
      have hyl : (ys).length = 10 := (OTs.len o2).trans (hE _)
      have hyo := OTs.okx o2
      obtain ⟨w1, w2, w3⟩ := wrt_next hcs h3 hyl
      have row2 := (l2.2 (hn h .mk) hlt).trans hrow
      have hi2 : (0 : Int) ≤ (k : Int) ∧ (k : Int) < (zs.length : Int) := by omega
      repeat (first | rw [kz_o] | rw [kz_r0] | simp -dsimp -implicitDefEqProofs only [go_sem, Nat.reduceBEq, Nat.reduceAdd, Nat.reduceLeDiff, Nat.reduceMul, Int.reduceLE, Int.reduceLT, Int.reduceBEq, hks, e4, row2, hi2, hyl, hyo, w1, wrap_succ h3 (by omega)])
      have hset : ∀ {b : Nat} {kk : OB}, b ≠ hn h .mk → (g2.set (hn h .mk) kk).get b = g2.get b := fun hb => by simp only [H2.set]; rw [if_neg hb]
      refine nx_keep (m - 1) (by omega) (by simp -dsimp -implicitDefEqProofs only [go_sem, Nat.reduceBEq, Nat.reduceAdd, Nat.reduceLeDiff, Nat.reduceMul, Int.reduceLE, Int.reduceLT, Int.reduceBEq, hks]) ⟨k + 1, _, bs ++ b2, by simp -dsimp -implicitDefEqProofs only [go_sem, Nat.reduceBEq, Nat.reduceAdd, Nat.reduceLeDiff, Nat.reduceMul, Int.reduceLE, Int.reduceLT, Int.reduceBEq], by omega, (by rw [hg_set, hoo]; rfl), w2, ?_, ?_, le_set (hle.trans l2) (Nat.le_refl _), by simp -dsimp -implicitDefEqProofs only [go_sem, Nat.reduceBEq, Nat.reduceAdd, Nat.reduceLeDiff, Nat.reduceMul, Int.reduceLE, Int.reduceLT, Int.reduceBEq] <;> omega⟩
      · rw [w3, flat_next h3]
        refine OTs.append ((OTs.keep ho l2 hbl).frame fun b hb => hset (by have := (hbl.2 b hb).1; omega)) (o2.frame fun b hb => hset (by have := (bl2.2 b hb).1; omega))
      · rw [hn_set]
        exact hbl.append bl2 (by omega) nn2
    · repeat (first | rw [kz_o] | rw [kz_r0] | simp -dsimp -implicitDefEqProofs only [go_sem, Nat.reduceBEq, Nat.reduceAdd, Nat.reduceLeDiff, Nat.reduceMul, Int.reduceLE, Int.reduceLT, Int.reduceBEq, hks, e4, h2])
      have : k = zs.length := by omega
      subst this
      obtain ⟨q1, q2⟩ := OT.full hE hrow hcs ho hbl hlt
      exact ⟨hle, _, q1, q2⟩

structure LEngine where
  model : LModel
  store : LStore
  requests : List LRequest
instance : Inhabited LEngine := ⟨⟨default, default, default⟩⟩
def eEngine (c : LEngine) : List T := [.v (.int .i64 c.model.dim), .v (.int .i64 c.model.heads), .v (.int .i64 c.model.context), .l 2 (rMergeS c.model.merges), .l 1 (rIntSS c.model.embed), .l 32 (rLayerS c.model.layers), .l 1 (ints c.model.gainEnd), .v (.int .i64 c.model.head.width), .l 1 (rIntSS c.model.head.rows), .l 1 (rIntSS c.model.head.scales), .v (.int .i64 c.model.head.mul), .v (.int .i64 c.model.head.shift), .l 1 (rIntSS c.model.turns.cos), .l 1 (rIntSS c.model.turns.sin), .l 1 (ints c.store.refs), .l 1 (rCellSS c.store.pages), .l 10 (rRequestS c.requests)]
def xEngine (F : Nat → Adr) (c : LEngine) : List X := [.raw (.int .i64 c.model.dim), .raw (.int .i64 c.model.heads), .raw (.int .i64 c.model.context), .sl (F 3) 2 (rMergeS c.model.merges), .sl (F 4) 1 (rIntSS c.model.embed), .sl (F 5) 32 (rLayerS c.model.layers), .sl (F 6) 1 (ints c.model.gainEnd), .raw (.int .i64 c.model.head.width), .sl (F 8) 1 (rIntSS c.model.head.rows), .sl (F 9) 1 (rIntSS c.model.head.scales), .raw (.int .i64 c.model.head.mul), .raw (.int .i64 c.model.head.shift), .sl (F 12) 1 (rIntSS c.model.turns.cos), .sl (F 13) 1 (rIntSS c.model.turns.sin), .sl (F 14) 1 (ints c.store.refs), .sl (F 15) 1 (rCellSS c.store.pages), .sl (F 16) 10 (rRequestS c.requests)]
theorem mkEngine {F : Nat → Adr} {c : LEngine} : mkF F 0 (eEngine c) = xEngine F c := rfl
theorem eEngine_def {c : LEngine} : eEngine c = [.v (.int .i64 c.model.dim), .v (.int .i64 c.model.heads), .v (.int .i64 c.model.context), .l 2 (rMergeS c.model.merges), .l 1 (rIntSS c.model.embed), .l 32 (rLayerS c.model.layers), .l 1 (ints c.model.gainEnd), .v (.int .i64 c.model.head.width), .l 1 (rIntSS c.model.head.rows), .l 1 (rIntSS c.model.head.scales), .v (.int .i64 c.model.head.mul), .v (.int .i64 c.model.head.shift), .l 1 (rIntSS c.model.turns.cos), .l 1 (rIntSS c.model.turns.sin), .l 1 (ints c.store.refs), .l 1 (rCellSS c.store.pages), .l 10 (rRequestS c.requests)] := rfl
theorem xEngine_def {F : Nat → Adr} {c : LEngine} : xEngine F c = [.raw (.int .i64 c.model.dim), .raw (.int .i64 c.model.heads), .raw (.int .i64 c.model.context), .sl (F 3) 2 (rMergeS c.model.merges), .sl (F 4) 1 (rIntSS c.model.embed), .sl (F 5) 32 (rLayerS c.model.layers), .sl (F 6) 1 (ints c.model.gainEnd), .raw (.int .i64 c.model.head.width), .sl (F 8) 1 (rIntSS c.model.head.rows), .sl (F 9) 1 (rIntSS c.model.head.scales), .raw (.int .i64 c.model.head.mul), .raw (.int .i64 c.model.head.shift), .sl (F 12) 1 (rIntSS c.model.turns.cos), .sl (F 13) 1 (rIntSS c.model.turns.sin), .sl (F 14) 1 (ints c.store.refs), .sl (F 15) 1 (rCellSS c.store.pages), .sl (F 16) 10 (rRequestS c.requests)] := rfl
def szEngine (c : LEngine) : Nat := szModel c.model + szStore c.store + szRequestS c.requests
def cntEngine (c : LEngine) : Nat := cntModel c.model + cntStore c.store + cntRequestS c.requests
def fitEngine (c : LEngine) : Prop := fitModel c.model ∧ fitStore c.store ∧ fitRequestS c.requests
attribute [go_sem] eEngine_def xEngine_def
theorem invEngine {g : H2} {bs : List Nat} {ys : List X} {c : LEngine} (o : OTs g bs ys (eEngine c)) : ∃ b3 s3 b4 s4 b5 s5 b6 s6 b8 s8 b9 s9 b12 s12 b13 s13 b14 s14 b15 s15 b16 s16, ys = [.raw (.int .i64 c.model.dim), .raw (.int .i64 c.model.heads), .raw (.int .i64 c.model.context), s3, s4, s5, s6, .raw (.int .i64 c.model.head.width), s8, s9, .raw (.int .i64 c.model.head.mul), .raw (.int .i64 c.model.head.shift), s12, s13, s14, s15, s16] ∧ bs = b3 ++ (b4 ++ (b5 ++ (b6 ++ (b8 ++ (b9 ++ (b12 ++ (b13 ++ (b14 ++ (b15 ++ b16))))))))) ∧ OT g b3 s3 (.l 2 (rMergeS c.model.merges)) ∧ OT g b4 s4 (.l 1 (rIntSS c.model.embed)) ∧ OT g b5 s5 (.l 32 (rLayerS c.model.layers)) ∧ OT g b6 s6 (.l 1 (ints c.model.gainEnd)) ∧ OT g b8 s8 (.l 1 (rIntSS c.model.head.rows)) ∧ OT g b9 s9 (.l 1 (rIntSS c.model.head.scales)) ∧ OT g b12 s12 (.l 1 (rIntSS c.model.turns.cos)) ∧ OT g b13 s13 (.l 1 (rIntSS c.model.turns.sin)) ∧ OT g b14 s14 (.l 1 (ints c.store.refs)) ∧ OT g b15 s15 (.l 1 (rCellSS c.store.pages)) ∧ OT g b16 s16 (.l 10 (rRequestS c.requests)) := by
  unfold eEngine at o
  obtain ⟨ys0, rfl, o0⟩ := OTs.headv o
  obtain ⟨ys1, rfl, o1⟩ := OTs.headv o0
  obtain ⟨ys2, rfl, o2⟩ := OTs.headv o1
  obtain ⟨b3, bs3, s3, ys3, rfl, rfl, a3, o3⟩ := OTs.head o2
  obtain ⟨b4, bs4, s4, ys4, rfl, rfl, a4, o4⟩ := OTs.head o3
  obtain ⟨b5, bs5, s5, ys5, rfl, rfl, a5, o5⟩ := OTs.head o4
  obtain ⟨b6, bs6, s6, ys6, rfl, rfl, a6, o6⟩ := OTs.head o5
  obtain ⟨ys7, rfl, o7⟩ := OTs.headv o6
  obtain ⟨b8, bs8, s8, ys8, rfl, rfl, a8, o8⟩ := OTs.head o7
  obtain ⟨b9, bs9, s9, ys9, rfl, rfl, a9, o9⟩ := OTs.head o8
  obtain ⟨ys10, rfl, o10⟩ := OTs.headv o9
  obtain ⟨ys11, rfl, o11⟩ := OTs.headv o10
  obtain ⟨b12, bs12, s12, ys12, rfl, rfl, a12, o12⟩ := OTs.head o11
  obtain ⟨b13, bs13, s13, ys13, rfl, rfl, a13, o13⟩ := OTs.head o12
  obtain ⟨b14, bs14, s14, ys14, rfl, rfl, a14, o14⟩ := OTs.head o13
  obtain ⟨b15, bs15, s15, ys15, rfl, rfl, a15, o15⟩ := OTs.head o14
  obtain ⟨b16, bs16, s16, ys16, rfl, rfl, a16, o16⟩ := OTs.head o15
  obtain ⟨rfl, rfl⟩ := OTs.tail0 o16
  exact ⟨_, _, _, _, _, _, _, _, _, _, _, _, _, _, _, _, _, _, _, _, _, _, rfl, by simp only [List.append_nil], a3, a4, a5, a6, a8, a9, a12, a13, a14, a15, a16⟩
theorem outEngine {g : H2} {c : LEngine} {b3 b4 b5 b6 b8 b9 b12 b13 b14 b15 b16 : List Nat} {s3 s4 s5 s6 s8 s9 s12 s13 s14 s15 s16 : X} (a3 : OT g b3 s3 (.l 2 (rMergeS c.model.merges))) (a4 : OT g b4 s4 (.l 1 (rIntSS c.model.embed))) (a5 : OT g b5 s5 (.l 32 (rLayerS c.model.layers))) (a6 : OT g b6 s6 (.l 1 (ints c.model.gainEnd))) (a8 : OT g b8 s8 (.l 1 (rIntSS c.model.head.rows))) (a9 : OT g b9 s9 (.l 1 (rIntSS c.model.head.scales))) (a12 : OT g b12 s12 (.l 1 (rIntSS c.model.turns.cos))) (a13 : OT g b13 s13 (.l 1 (rIntSS c.model.turns.sin))) (a14 : OT g b14 s14 (.l 1 (ints c.store.refs))) (a15 : OT g b15 s15 (.l 1 (rCellSS c.store.pages))) (a16 : OT g b16 s16 (.l 10 (rRequestS c.requests))) : OTs g (b3 ++ (b4 ++ (b5 ++ (b6 ++ (b8 ++ (b9 ++ (b12 ++ (b13 ++ (b14 ++ (b15 ++ b16)))))))))) [.raw (.int .i64 c.model.dim), .raw (.int .i64 c.model.heads), .raw (.int .i64 c.model.context), s3, s4, s5, s6, .raw (.int .i64 c.model.head.width), s8, s9, .raw (.int .i64 c.model.head.mul), .raw (.int .i64 c.model.head.shift), s12, s13, s14, s15, s16] (eEngine c) := by
  have := OTs.cons (OT.raw (v := .int .i64 c.model.dim) rfl) (OTs.cons (OT.raw (v := .int .i64 c.model.heads) rfl) (OTs.cons (OT.raw (v := .int .i64 c.model.context) rfl) (OTs.cons a3 (OTs.cons a4 (OTs.cons a5 (OTs.cons a6 (OTs.cons (OT.raw (v := .int .i64 c.model.head.width) rfl) (OTs.cons a8 (OTs.cons a9 (OTs.cons (OT.raw (v := .int .i64 c.model.head.mul) rfl) (OTs.cons (OT.raw (v := .int .i64 c.model.head.shift) rfl) (OTs.cons a12 (OTs.cons a13 (OTs.cons a14 (OTs.cons a15 (OTs.cons a16 (OTs.nil)))))))))))))))))
  simpa only [eEngine, List.append_nil, List.nil_append] using this

theorem szEngine_ok {F : Nat → Adr} {c : LEngine} {left : Int} {h : H2} (hf : fitEngine c) (hl : 0 ≤ left ∧ left ≤ 1048576) : PW Try.prog W0 25 [.st (xEngine F c), .raw (.int .i64 left)] h (fun y => ∃ k : Int, y = .raw (.int .i64 k) ∧ (0 ≤ k → (szEngine c : Int) + k ≤ left)) := by
  unfold fitEngine at hf
  refine PW.scalar ?_
  refine start (P := Try.prog) [[0, 1], [1, 2], [1, 2], [], [1, 2], [1, 2], [], [1, 2], [1], [], [1]] (by kernel_rfl) Try.func25 rfl (by decide) (by decide +kernel) (rs := [.tmp 4]) rfl rfl (Nat.le_of_ble_eq_true rfl) ?_
  intro wf
  repeat (first | rw [kz_o] | rw [kz_r0] | simp -dsimp -implicitDefEqProofs only [go_sem, Nat.reduceBEq, Nat.reduceAdd, Nat.reduceLeDiff, Nat.reduceMul, Int.reduceLE, Int.reduceLT, Int.reduceBEq])
  refine pw_intro (szModel_ok (F := F) hf.1 ⟨by omega, by omega⟩) ?_
  rintro _ n0 hn0 ⟨k0, rfl, hk0⟩
  repeat (first | rw [kz_o] | rw [kz_r0] | simp -dsimp -implicitDefEqProofs only [go_sem, Nat.reduceBEq, Nat.reduceAdd, Nat.reduceLeDiff, Nat.reduceMul, Int.reduceLE, Int.reduceLT, Int.reduceBEq])
  refine gz_dec (fun q0 => ?_) (fun q0 => ?_)
  · repeat (first | rw [kz_o] | rw [kz_r0] | simp -dsimp -implicitDefEqProofs only [go_sem, Nat.reduceBEq, Nat.reduceAdd, Nat.reduceLeDiff, Nat.reduceMul, Int.reduceLE, Int.reduceLT, Int.reduceBEq])
    exact ⟨by repeat (first | exact H2.le.refl _ | apply le_push | refine le_up ?_ (by assumption)), ⟨_, rfl⟩, _, rfl, fun hh => by omega⟩
  repeat (first | rw [kz_o] | rw [kz_r0] | simp -dsimp -implicitDefEqProofs only [go_sem, Nat.reduceBEq, Nat.reduceAdd, Nat.reduceLeDiff, Nat.reduceMul, Int.reduceLE, Int.reduceLT, Int.reduceBEq])
  refine pw_intro (szStore_ok (F := fun j => F (j + 14)) hf.2.1 ⟨by omega, by omega⟩) ?_
  rintro _ n1 hn1 ⟨k1, rfl, hk1⟩
  repeat (first | rw [kz_o] | rw [kz_r0] | simp -dsimp -implicitDefEqProofs only [go_sem, Nat.reduceBEq, Nat.reduceAdd, Nat.reduceLeDiff, Nat.reduceMul, Int.reduceLE, Int.reduceLT, Int.reduceBEq])
  refine gz_dec (fun q1 => ?_) (fun q1 => ?_)
  · repeat (first | rw [kz_o] | rw [kz_r0] | simp -dsimp -implicitDefEqProofs only [go_sem, Nat.reduceBEq, Nat.reduceAdd, Nat.reduceLeDiff, Nat.reduceMul, Int.reduceLE, Int.reduceLT, Int.reduceBEq])
    exact ⟨by repeat (first | exact H2.le.refl _ | apply le_push | refine le_up ?_ (by assumption)), ⟨_, rfl⟩, _, rfl, fun hh => by omega⟩
  repeat (first | rw [kz_o] | rw [kz_r0] | simp -dsimp -implicitDefEqProofs only [go_sem, Nat.reduceBEq, Nat.reduceAdd, Nat.reduceLeDiff, Nat.reduceMul, Int.reduceLE, Int.reduceLT, Int.reduceBEq])
  refine pw_intro (szRequestS_pw  hf.2.2 ⟨by omega, by omega⟩) ?_
  rintro _ n2 hn2 ⟨k2, rfl, hk2⟩
  repeat (first | rw [kz_o] | rw [kz_r0] | simp -dsimp -implicitDefEqProofs only [go_sem, Nat.reduceBEq, Nat.reduceAdd, Nat.reduceLeDiff, Nat.reduceMul, Int.reduceLE, Int.reduceLT, Int.reduceBEq])
  refine gz_dec (fun q2 => ?_) (fun q2 => ?_)
  · repeat (first | rw [kz_o] | rw [kz_r0] | simp -dsimp -implicitDefEqProofs only [go_sem, Nat.reduceBEq, Nat.reduceAdd, Nat.reduceLeDiff, Nat.reduceMul, Int.reduceLE, Int.reduceLT, Int.reduceBEq])
    exact ⟨by repeat (first | exact H2.le.refl _ | apply le_push | refine le_up ?_ (by assumption)), ⟨_, rfl⟩, _, rfl, fun hh => by omega⟩
  repeat (first | rw [kz_o] | rw [kz_r0] | simp -dsimp -implicitDefEqProofs only [go_sem, Nat.reduceBEq, Nat.reduceAdd, Nat.reduceLeDiff, Nat.reduceMul, Int.reduceLE, Int.reduceLT, Int.reduceBEq])
  exact ⟨by repeat (first | exact H2.le.refl _ | apply le_push | refine le_up ?_ (by assumption)), ⟨_, rfl⟩, _, rfl, fun hh => by unfold szEngine; omega⟩

theorem eqEngine_ok {F F' : Nat → Adr} {c : LEngine} {h : H2} (hf : fitEngine c) : PW Try.prog W0 29 [.st (xEngine F c), .st (xEngine F' c)] h (fun y => y = .raw (.bool true)) := by
  unfold fitEngine at hf
  refine PW.scalar ?_
  refine start (P := Try.prog) [[0, 1], [2, 3], [], [2, 3], [], [2, 3], [], []] (by kernel_rfl) Try.func29 rfl (by decide) (by decide +kernel) (rs := [.tmp 4]) rfl rfl (Nat.le_of_ble_eq_true rfl) ?_
  intro wf
  repeat (first | rw [kz_o] | rw [kz_r0] | simp -dsimp -implicitDefEqProofs only [go_sem, Nat.reduceBEq, Nat.reduceAdd, Nat.reduceLeDiff, Nat.reduceMul, Int.reduceLE, Int.reduceLT, Int.reduceBEq])
  refine pw_intro (eqModel_ok (F := fun j => F (j + 0)) (F' := fun j => F' (j + 0)) hf.1) ?_
  rintro _ n0 hn0 rfl
  repeat (first | rw [kz_o] | rw [kz_r0] | simp -dsimp -implicitDefEqProofs only [go_sem, Nat.reduceBEq, Nat.reduceAdd, Nat.reduceLeDiff, Nat.reduceMul, Int.reduceLE, Int.reduceLT, Int.reduceBEq])
  refine pw_intro (eqStore_ok (F := fun j => F (j + 14)) (F' := fun j => F' (j + 14)) hf.2.1) ?_
  rintro _ n1 hn1 rfl
  repeat (first | rw [kz_o] | rw [kz_r0] | simp -dsimp -implicitDefEqProofs only [go_sem, Nat.reduceBEq, Nat.reduceAdd, Nat.reduceLeDiff, Nat.reduceMul, Int.reduceLE, Int.reduceLT, Int.reduceBEq])
  refine pw_intro (eqRequestS_pw  hf.2.2) ?_
  rintro _ n2 hn2 rfl
  repeat (first | rw [kz_o] | rw [kz_r0] | simp -dsimp -implicitDefEqProofs only [go_sem, Nat.reduceBEq, Nat.reduceAdd, Nat.reduceLeDiff, Nat.reduceMul, Int.reduceLE, Int.reduceLT, Int.reduceBEq])
  exact ⟨by repeat (first | exact H2.le.refl _ | apply le_push | refine le_up ?_ (by assumption)), ⟨_, rfl⟩, rfl⟩

theorem toEngine_ok {F : Nat → Adr} {c : LEngine} {h : H2} (hs : szEngine c ≤ 1048576) : NewS Try.prog W0 27 [.st (xEngine F c)] h (eEngine c) := by
  unfold szEngine at hs
  refine start (P := Try.prog) [[0], [1, 2], [1, 2, 3], [1, 2, 3], [1, 2, 3], [2, 3]] (by kernel_rfl) Try.func27 rfl (by decide) (by decide +kernel) (rs := [.cell 2 76]) rfl rfl (Nat.le_of_ble_eq_true rfl) ?_
  intro wf
  repeat (first | rw [kz_o] | rw [kz_r0] | simp -dsimp -implicitDefEqProofs only [go_sem, Nat.reduceBEq, Nat.reduceAdd, Nat.reduceLeDiff, Nat.reduceMul, Int.reduceLE, Int.reduceLT, Int.reduceBEq])
  refine wz_intro (toModel_ok (F := F) (by omega)) ?_
  rintro _ g0 ⟨l0, ys0, b0, rfl, o0, bl0⟩
  obtain ⟨b0_3, s3, b0_4, s4, b0_5, s5, b0_6, s6, b0_8, s8, b0_9, s9, b0_12, s12, b0_13, s13, rfl, hb0, o0_3, o0_4, o0_5, o0_6, o0_8, o0_9, o0_12, o0_13⟩ := invModel o0
  have ce3 := OT.cell o0_3
  have ce4 := OT.cell o0_4
  have ce5 := OT.cell o0_5
  have ce6 := OT.cell o0_6
  have ce8 := OT.cell o0_8
  have ce9 := OT.cell o0_9
  have ce12 := OT.cell o0_12
  have ce13 := OT.cell o0_13
  have n0 := l0.n
  have a00 := l0.2 (hn h .mk) (by simp only [hn_push, hn_set]; omega)
  have a01 := l0.2 (hn h .mk + 1) (by simp only [hn_push, hn_set]; omega)
  have a02 := l0.2 (hn h .mk + 1 + 1) (by simp only [hn_push, hn_set]; omega)
  simp -dsimp -implicitDefEqProofs only [go_sem, Nat.reduceBEq, Nat.reduceAdd, Nat.reduceLeDiff, Nat.reduceMul, Int.reduceLE, Int.reduceLT, Int.reduceBEq, hoo] at n0 a00 a01 a02
  have L0 : h.le g0 := H2.le.trans (by repeat (first | exact H2.le.refl _ | apply le_push | refine le_set ?_ (by omega))) l0
  repeat (first | rw [kz_o] | rw [kz_r0] | simp -dsimp -implicitDefEqProofs only [go_sem, Nat.reduceBEq, Nat.reduceAdd, Nat.reduceLeDiff, Nat.reduceMul, Int.reduceLE, Int.reduceLT, Int.reduceBEq, a00, a01, a02, ce3, ce4, ce5, ce6, ce8, ce9, ce12, ce13])
  refine wz_intro (toStore_ok (F := fun j => F (j + 14)) (by omega)) ?_
  rintro _ g1 ⟨l1, ys1, b1, rfl, o1, bl1⟩
  obtain ⟨b1_0, s14, b1_1, s15, rfl, hb1, o1_0, o1_1⟩ := invStore o1
  have ce14 := OT.cell o1_0
  have ce15 := OT.cell o1_1
  have n1 := l1.n
  have a10 := l1.2 (hn h .mk) (by simp only [hn_push, hn_set]; omega)
  have a11 := l1.2 (hn h .mk + 1) (by simp only [hn_push, hn_set]; omega)
  have a12 := l1.2 (hn h .mk + 1 + 1) (by simp only [hn_push, hn_set]; omega)
  simp -dsimp -implicitDefEqProofs only [go_sem, Nat.reduceBEq, Nat.reduceAdd, Nat.reduceLeDiff, Nat.reduceMul, Int.reduceLE, Int.reduceLT, Int.reduceBEq, a00, a01, a02, hoo] at n1 a10 a11 a12
  have L1 : h.le g1 := H2.le.trans (by repeat (first | exact L0 | exact H2.le.refl _ | apply le_push | refine le_set ?_ (by omega))) l1
  repeat (first | rw [kz_o] | rw [kz_r0] | simp -dsimp -implicitDefEqProofs only [go_sem, Nat.reduceBEq, Nat.reduceAdd, Nat.reduceLeDiff, Nat.reduceMul, Int.reduceLE, Int.reduceLT, Int.reduceBEq, a10, a11, a12, ce3, ce4, ce5, ce6, ce8, ce9, ce12, ce13, ce14, ce15])
  refine wz_intro (toRequestS_new  (by omega)) ?_
  rintro s16 g2 ⟨l2, b2, o2, bl2⟩
  have ce16 := OT.cell o2
  have n2 := l2.n
  have a20 := l2.2 (hn h .mk) (by simp only [hn_push, hn_set]; omega)
  have a21 := l2.2 (hn h .mk + 1) (by simp only [hn_push, hn_set]; omega)
  have a22 := l2.2 (hn h .mk + 1 + 1) (by simp only [hn_push, hn_set]; omega)
  simp -dsimp -implicitDefEqProofs only [go_sem, Nat.reduceBEq, Nat.reduceAdd, Nat.reduceLeDiff, Nat.reduceMul, Int.reduceLE, Int.reduceLT, Int.reduceBEq, a10, a11, a12, hoo] at n2 a20 a21 a22
  have L2 : h.le g2 := H2.le.trans (by repeat (first | exact L1 | exact H2.le.refl _ | apply le_push | refine le_set ?_ (by omega))) l2
  repeat (first | rw [kz_o] | rw [kz_r0] | simp -dsimp -implicitDefEqProofs only [go_sem, Nat.reduceBEq, Nat.reduceAdd, Nat.reduceLeDiff, Nat.reduceMul, Int.reduceLE, Int.reduceLT, Int.reduceBEq, a20, a21, a22, ce3, ce4, ce5, ce6, ce8, ce9, ce12, ce13, ce14, ce15, ce16])
  refine ⟨by repeat (first | exact L2 | refine le_set ?_ (by omega)), _, b0_3 ++ (b0_4 ++ (b0_5 ++ (b0_6 ++ (b0_8 ++ (b0_9 ++ (b0_12 ++ (b0_13 ++ (b1_0 ++ (b1_1 ++ b2))))))))), rfl, outEngine (c := c) ?_ ?_ ?_ ?_ ?_ ?_ ?_ ?_ ?_ ?_ ?_, ?_⟩
  · refine OT.frame o0_3 fun b hb => ?_
    have hbl := bl0.2 b (by rw [hb0]; simp [hb])
    simp only [hn_push, hn_set] at hbl
    simp only [H2.set]
    rw [if_neg (by omega), if_neg (by omega)]
    rw [show g2.get b = _ from l2.2 b (by simp only [hn_set]; omega)]
    simp only [hg, H2.set]
    rw [if_neg (by omega)]
    rw [show g1.get b = _ from l1.2 b (by simp only [hn_set]; omega)]
    simp only [hg, H2.set]
    rw [if_neg (by omega)]
  · refine OT.frame o0_4 fun b hb => ?_
    have hbl := bl0.2 b (by rw [hb0]; simp [hb])
    simp only [hn_push, hn_set] at hbl
    simp only [H2.set]
    rw [if_neg (by omega), if_neg (by omega)]
    rw [show g2.get b = _ from l2.2 b (by simp only [hn_set]; omega)]
    simp only [hg, H2.set]
    rw [if_neg (by omega)]
    rw [show g1.get b = _ from l1.2 b (by simp only [hn_set]; omega)]
    simp only [hg, H2.set]
    rw [if_neg (by omega)]
  · refine OT.frame o0_5 fun b hb => ?_
    have hbl := bl0.2 b (by rw [hb0]; simp [hb])
    simp only [hn_push, hn_set] at hbl
    simp only [H2.set]
    rw [if_neg (by omega), if_neg (by omega)]
    rw [show g2.get b = _ from l2.2 b (by simp only [hn_set]; omega)]
    simp only [hg, H2.set]
    rw [if_neg (by omega)]
    rw [show g1.get b = _ from l1.2 b (by simp only [hn_set]; omega)]
    simp only [hg, H2.set]
    rw [if_neg (by omega)]
  · refine OT.frame o0_6 fun b hb => ?_
    have hbl := bl0.2 b (by rw [hb0]; simp [hb])
    simp only [hn_push, hn_set] at hbl
    simp only [H2.set]
    rw [if_neg (by omega), if_neg (by omega)]
    rw [show g2.get b = _ from l2.2 b (by simp only [hn_set]; omega)]
    simp only [hg, H2.set]
    rw [if_neg (by omega)]
    rw [show g1.get b = _ from l1.2 b (by simp only [hn_set]; omega)]
    simp only [hg, H2.set]
    rw [if_neg (by omega)]
  · refine OT.frame o0_8 fun b hb => ?_
    have hbl := bl0.2 b (by rw [hb0]; simp [hb])
    simp only [hn_push, hn_set] at hbl
    simp only [H2.set]
    rw [if_neg (by omega), if_neg (by omega)]
    rw [show g2.get b = _ from l2.2 b (by simp only [hn_set]; omega)]
    simp only [hg, H2.set]
    rw [if_neg (by omega)]
    rw [show g1.get b = _ from l1.2 b (by simp only [hn_set]; omega)]
    simp only [hg, H2.set]
    rw [if_neg (by omega)]
  · refine OT.frame o0_9 fun b hb => ?_
    have hbl := bl0.2 b (by rw [hb0]; simp [hb])
    simp only [hn_push, hn_set] at hbl
    simp only [H2.set]
    rw [if_neg (by omega), if_neg (by omega)]
    rw [show g2.get b = _ from l2.2 b (by simp only [hn_set]; omega)]
    simp only [hg, H2.set]
    rw [if_neg (by omega)]
    rw [show g1.get b = _ from l1.2 b (by simp only [hn_set]; omega)]
    simp only [hg, H2.set]
    rw [if_neg (by omega)]
  · refine OT.frame o0_12 fun b hb => ?_
    have hbl := bl0.2 b (by rw [hb0]; simp [hb])
    simp only [hn_push, hn_set] at hbl
    simp only [H2.set]
    rw [if_neg (by omega), if_neg (by omega)]
    rw [show g2.get b = _ from l2.2 b (by simp only [hn_set]; omega)]
    simp only [hg, H2.set]
    rw [if_neg (by omega)]
    rw [show g1.get b = _ from l1.2 b (by simp only [hn_set]; omega)]
    simp only [hg, H2.set]
    rw [if_neg (by omega)]
  · refine OT.frame o0_13 fun b hb => ?_
    have hbl := bl0.2 b (by rw [hb0]; simp [hb])
    simp only [hn_push, hn_set] at hbl
    simp only [H2.set]
    rw [if_neg (by omega), if_neg (by omega)]
    rw [show g2.get b = _ from l2.2 b (by simp only [hn_set]; omega)]
    simp only [hg, H2.set]
    rw [if_neg (by omega)]
    rw [show g1.get b = _ from l1.2 b (by simp only [hn_set]; omega)]
    simp only [hg, H2.set]
    rw [if_neg (by omega)]
  · refine OT.frame o1_0 fun b hb => ?_
    have hbl := bl1.2 b (by rw [hb1]; simp [hb])
    simp only [hn_push, hn_set] at hbl
    simp only [H2.set]
    rw [if_neg (by omega), if_neg (by omega)]
    rw [show g2.get b = _ from l2.2 b (by simp only [hn_set]; omega)]
    simp only [hg, H2.set]
    rw [if_neg (by omega)]
  · refine OT.frame o1_1 fun b hb => ?_
    have hbl := bl1.2 b (by rw [hb1]; simp [hb])
    simp only [hn_push, hn_set] at hbl
    simp only [H2.set]
    rw [if_neg (by omega), if_neg (by omega)]
    rw [show g2.get b = _ from l2.2 b (by simp only [hn_set]; omega)]
    simp only [hg, H2.set]
    rw [if_neg (by omega)]
  · refine OT.frame o2 fun b hb => ?_
    have hbl := bl2.2 b (hb)
    simp only [hn_push, hn_set] at hbl
    simp only [H2.set]
    rw [if_neg (by omega), if_neg (by omega)]
  · simp only [hn_set]
    have m0 := bl0
    simp only [hn_push, hn_set] at m0
    rw [hb0] at m0
    have m1 := bl1
    simp only [hn_push, hn_set] at m1
    rw [hb1] at m1
    have m2 := bl2
    simp only [hn_push, hn_set] at m2
    have := ((Bl.append m0 (Bl.append m1 m2 (by omega) (by omega)) (by omega) (by omega))).wide (N' := hn h .mk) (by omega) (Nat.le_refl _)
    simpa only [List.append_assoc] using this

end Go.Bi
