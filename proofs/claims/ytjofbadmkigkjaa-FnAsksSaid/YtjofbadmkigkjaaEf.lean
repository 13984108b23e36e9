/- The walk of the program's ReadAsk. -/
import Derived.Test.YtjofbadmkigkjaaEe
set_option linter.unusedSimpArgs false
set_option linter.unusedVariables false
set_option maxRecDepth 20000
namespace Go.Bi
open Go.Proofs
open Go.Ai (wrap_i64 wrap_u64 wrap_u8 Heap)
variable {W0 : World} {P : Program}
def zAsk : LAsk := ⟨0, ⟨#[]⟩, 0, zCfg, []⟩
def okQ (s : ByteArray) (q : LAsk × Rd) : Bool := !q.2.bad && (decide ((q.2.p : Int) = (s.size : Int)) && (askOkB q.1 && ((askS q.1).toList == s.toList)))
def ask0 (s : ByteArray) : LAsk × Rd := askP s (oneP s ⟨0, false⟩).1 (oneP s ⟨0, false⟩).2
def readAsk (s : ByteArray) : LAsk × Bool := if okQ s (ask0 s) = true then ((ask0 s).1, true) else (zAsk, false)
theorem shortP_size {s : ByteArray} {r : Rd} : (shortP s r).1.size ≤ 12000 := by
  unfold shortP
  split
  · rename_i h _; exact (rdS_le h).2
  · show 0 ≤ 12000; omega
theorem shorts_size {s : ByteArray} {r : Rd} : ∀ {k : Nat}, ∀ t ∈ (shorts s k r).1, t.size ≤ 12000
  | 0, t, ht => by cases ht
  | k + 1, t, ht => by
    simp only [shorts, List.mem_append, List.mem_singleton] at ht
    rcases ht with ht | rfl
    · exact shorts_size t ht
    · exact shortP_size
theorem fit_ask {s : ByteArray} {op : Int} {r : Rd} : fitAsk (askP s op r).1 ∧ (askP s op r).1.config.stops.length ≤ 255 ∧ (askP s op r).1.picks.length ≤ 255 := by
  have hz : ∀ (t : ByteArray), t ∈ ([] : List ByteArray) → t.size ≤ 9223372036854775807 := by simp
  unfold askP
  split
  · have h1 : (ask1P s r).2.2.2.2.1.toNat ≤ 255 := by have := oneP_range (s := s) (r := (oneP s (numP s (oneP s (shortP s r).2).2).2).2); simp only [ask1P]; omega
    refine ⟨⟨?_, ⟨?_, fun t ht => ?_⟩, by simp⟩, ?_, by simp⟩
    · have := shortP_size (s := s) (r := r); simp only [ask1P]; omega
    · simp only [shorts_len]; omega
    · have := shorts_size t ht; omega
    · simp only [shorts_len]; omega
  · split
    · exact ⟨⟨Nat.zero_le _, ⟨by simp, hz⟩, by simp⟩, by simp, by simp⟩
    · split
      · have h1 : (oneP s r).1.toNat ≤ 255 := by have := oneP_range (s := s) (r := r); omega
        refine ⟨⟨Nat.zero_le _, ⟨by simp [zCfg], hz⟩, ?_⟩, by simp [zCfg], ?_⟩
        · simp only [ones_len]; omega
        · simp only [ones_len]; omega
      · exact ⟨⟨Nat.zero_le _, ⟨by simp [zCfg], hz⟩, by simp⟩, by simp [zCfg], by simp⟩
/-- What is handed back: an ask as a tree of its own, and whether it was one. -/
def ReadK (g : H2) (s : ByteArray) (x : X) (g' : H2) : Prop := g.le g' ∧ ∃ ys bs, x = .tp [.st ys, .raw (.bool (readAsk s).2)] ∧ OTs g' bs ys (eAsk (readAsk s).1) ∧ Bl (hn g .mk) (hn g' .mk) bs
theorem readK_bad {g g' : H2} {s : ByteArray} (hl : g.le g') (h : okQ s (ask0 s) = false) : ReadK g s (.tp [.st [.raw (.int .i64 0), .raw (.string ⟨#[]⟩), .raw (.int .i64 0), .raw (.int .i64 0), .raw (.int .i64 0), .raw (.int .i64 0), .raw (.slice none 0 0), .raw (.slice none 0 0)], .raw (.bool false)]) g' := by
  have e : readAsk s = (zAsk, false) := by rw [readAsk, h]; rfl
  refine ⟨hl, _, [], by rw [e], ?_, .nil⟩
  rw [e]
  exact outAsk (c := zAsk) (b6 := []) (b7 := []) .nil .nil
theorem implReadAsk_ok {s : ByteArray} {g : H2} (hs : s.size ≤ 4611686018427387904) : WC2 Try.prog W0 10 [.raw (.string s)] g (ReadK g s) := by
  refine start (P := Try.prog) [[0], [0, 2], [0, 2, 4], [0, 2, 4, 5], [0, 2, 4, 6], [0, 2, 4, 6, 7, 8], [2], [2, 6]] (by kernel_rfl) Try.func10 rfl (by decide) (by decide +kernel) (rs := [.cell 2 29, .tmp 3]) rfl rfl (Nat.le_of_ble_eq_true rfl) ?_
  intro wf
  repeat (first | rw [kz_o] | rw [kz_r0] | simp -dsimp -implicitDefEqProofs only [go_sem, Nat.reduceBEq, Nat.reduceAdd, Nat.reduceLeDiff, Nat.reduceMul, Int.reduceLE, Int.reduceLT, Int.reduceBEq])
  have b0 : (hn g .mk == hn g .mk + 1) = false := by simp
  refine wz_intro (implOne_ok hs (r := ⟨0, false⟩) (b := hn g .mk + 1) ⟨by simp -dsimp -implicitDefEqProofs only [go_sem, Nat.reduceBEq, Nat.reduceAdd, Nat.reduceLeDiff, Nat.reduceMul, Int.reduceLE, Int.reduceLT, Int.reduceBEq], by simp⟩) ?_
  rintro _ g1 ⟨rfl, hr1, on1⟩
  have nn1 := on1.1
  simp only [hn_push] at nn1
  have ra1 := on1.2 (hn g .mk) (by simp only [hn_push]; omega) (by omega)
  simp -dsimp -implicitDefEqProofs only [go_sem, Nat.reduceBEq, Nat.reduceAdd, Nat.reduceLeDiff, Nat.reduceMul, Int.reduceLE, Int.reduceLT, Int.reduceBEq] at ra1
  have fr1 : ∀ c, c < hn g .mk → hg g1 c .mk = hg g c .mk := fun c hc => (on1.2 c (by simp only [hn_push]; omega) (by omega)).trans (by
    have c0 : (c == hn g .mk) = false := by simp; omega
    have c1 : (c == hn g .mk + 1) = false := by simp; omega
    simp -dsimp -implicitDefEqProofs only [go_sem, Nat.reduceBEq, Nat.reduceAdd, Nat.reduceLeDiff, Nat.reduceMul, Int.reduceLE, Int.reduceLT, Int.reduceBEq, c0, c1])
  repeat (first | rw [kz_o] | rw [kz_r0] | simp -dsimp -implicitDefEqProofs only [go_sem, Nat.reduceBEq, Nat.reduceAdd, Nat.reduceLeDiff, Nat.reduceMul, Int.reduceLE, Int.reduceLT, Int.reduceBEq])
  refine wz_intro (implAsk_ok hs hr1 (by omega)) ?_
  rintro _ g2 ⟨⟨ys, bs, rfl, ot, bl⟩, hr2, on2⟩
  have hq : askP s (oneP s ⟨0, false⟩).1 (oneP s ⟨0, false⟩).2 = ask0 s := rfl
  have hfit := fit_ask (s := s) (op := (oneP s ⟨0, false⟩).1) (r := (oneP s ⟨0, false⟩).2)
  rw [hq] at hfit
  rw [hq] at ot hr2
  have nn2 := on2.1
  have ra2 := on2.2 (hn g .mk) (by omega) (by omega)
  rw [ra1] at ra2
  have fr2 : ∀ c, c < hn g .mk → hg g2 c .mk = hg g c .mk := fun c hc => (on2.2 c (by omega) (by omega)).trans (fr1 c hc)
  have hok : okQ s (ask0 s) = okQ s (ask0 s) := rfl
  have hrd : readAsk s = if okQ s (ask0 s) = true then ((ask0 s).1, true) else (zAsk, false) := rfl
  have hbadK : ∀ g', g.le g' → okQ s (ask0 s) = false → ReadK g s (.tp [.st [.raw (.int .i64 0), .raw (.string ⟨#[]⟩), .raw (.int .i64 0), .raw (.int .i64 0), .raw (.int .i64 0), .raw (.int .i64 0), .raw (.slice none 0 0), .raw (.slice none 0 0)], .raw (.bool false)]) g' := fun g' hl h => readK_bad hl h
  have hgood : okQ s (ask0 s) = true → readAsk s = ((ask0 s).1, true) := fun h => by rw [hrd, if_pos h]
  have hokdef : okQ s (ask0 s) = (!(ask0 s).2.bad && (decide (((ask0 s).2.p : Int) = (s.size : Int)) && (askOkB (ask0 s).1 && ((askS (ask0 s).1).toList == s.toList)))) := rfl
  generalize ask0 s = q at *
  obtain ⟨a, ⟨p, bad⟩⟩ := q
  simp only at ot hr2 hfit hgood hokdef
  have hrow2 := hr2.1
  obtain ⟨b6, s6, b7, s7, rfl, rfl, o6, o7⟩ := invAsk ot
  have ce6 := OT.cell o6
  have ce7 := OT.cell o7
  have bl6 := bl.split.1
  have bl7 := bl.split.2.1
  have bne : (hn g .mk + 1 == hn g2 .mk) = false := by simp; omega
  have bne0 : (hn g .mk == hn g2 .mk) = false := by simp; omega
  have bne2 : (hn g2 .mk == hn g .mk) = false := by simp; omega
  repeat (first | rw [kz_o] | rw [kz_r0] | simp -dsimp -implicitDefEqProofs only [go_sem, Nat.reduceBEq, Nat.reduceAdd, Nat.reduceLeDiff, Nat.reduceMul, Int.reduceLE, Int.reduceLT, Int.reduceBEq, ce6, ce7])
  refine wz_intro (implAskText_tree (outAsk (c := a) (o6.keep (H2.le_push1 g2 _) bl6) (o7.keep (H2.le_push1 g2 _) bl7)) hfit.1) ?_
  rintro _ g3 ⟨l3, rfl⟩
  have nn3 := l3.n
  simp only [hn_push] at nn3
  have ra3 := l3.2 (hn g .mk) (by simp only [hn_push]; omega)
  have rr3 := l3.2 (hn g .mk + 1) (by simp only [hn_push]; omega)
  have rt3 := l3.2 (hn g2 .mk) (by simp only [hn_push]; omega)
  simp -dsimp -implicitDefEqProofs only [go_sem, Nat.reduceBEq, Nat.reduceAdd, Nat.reduceLeDiff, Nat.reduceMul, Int.reduceLE, Int.reduceLT, Int.reduceBEq, bne0, ra2] at ra3
  simp -dsimp -implicitDefEqProofs only [go_sem, Nat.reduceBEq, Nat.reduceAdd, Nat.reduceLeDiff, Nat.reduceMul, Int.reduceLE, Int.reduceLT, Int.reduceBEq, bne, hrow2] at rr3
  simp -dsimp -implicitDefEqProofs only [go_sem, Nat.reduceBEq, Nat.reduceAdd, Nat.reduceLeDiff, Nat.reduceMul, Int.reduceLE, Int.reduceLT, Int.reduceBEq] at rt3
  have fr3 : ∀ c, c < hn g .mk → hg g3 c .mk = hg g c .mk := fun c hc => (l3.2 c (by simp only [hn_push]; omega)).trans (by
    have c0 : (c == hn g2 .mk) = false := by simp; omega
    simp -dsimp -implicitDefEqProofs only [go_sem, Nat.reduceBEq, Nat.reduceAdd, Nat.reduceLeDiff, Nat.reduceMul, Int.reduceLE, Int.reduceLT, Int.reduceBEq, c0, fr2 c hc])
  have hl4 : ∀ k, g.le (g3.set (hn g .mk) k) := fun k => le_set ⟨by omega, fun c hc => fr3 c hc⟩ (Nat.le_refl _)
  repeat (first | rw [kz_o] | rw [kz_r0] | simp -dsimp -implicitDefEqProofs only [go_sem, Nat.reduceBEq, Nat.reduceAdd, Nat.reduceLeDiff, Nat.reduceMul, Int.reduceLE, Int.reduceLT, Int.reduceBEq, ce6, ce7, ra3, rr3, rt3])
  cases bad
  rotate_left
  · repeat (first | rw [kz_o] | rw [kz_r0] | simp -dsimp -implicitDefEqProofs only [go_sem, Nat.reduceBEq, Nat.reduceAdd, Nat.reduceLeDiff, Nat.reduceMul, Int.reduceLE, Int.reduceLT, Int.reduceBEq, ce6, ce7, ra3, rr3, rt3])
    exact hbadK _ (hl4 _) (by rw [hokdef]; rfl)
  repeat (first | rw [kz_o] | rw [kz_r0] | simp -dsimp -implicitDefEqProofs only [go_sem, Nat.reduceBEq, Nat.reduceAdd, Nat.reduceLeDiff, Nat.reduceMul, Int.reduceLE, Int.reduceLT, Int.reduceBEq, ce6, ce7, ra3, rr3, rt3])
  refine gz_ndec (fun h1 => ?_) (fun h1 => ?_)
  rotate_left
  · repeat (first | rw [kz_o] | rw [kz_r0] | simp -dsimp -implicitDefEqProofs only [go_sem, Nat.reduceBEq, Nat.reduceAdd, Nat.reduceLeDiff, Nat.reduceMul, Int.reduceLE, Int.reduceLT, Int.reduceBEq, ce6, ce7, ra3, rr3, rt3, h1])
    exact hbadK _ (hl4 _) (by rw [hokdef]; simp only [h1, decide_false, Bool.false_and, Bool.and_false])
  replace h1 := Decidable.not_not.1 h1
  repeat (first | rw [kz_o] | rw [kz_r0] | simp -dsimp -implicitDefEqProofs only [go_sem, Nat.reduceBEq, Nat.reduceAdd, Nat.reduceLeDiff, Nat.reduceMul, Int.reduceLE, Int.reduceLT, Int.reduceBEq, ce6, ce7, ra3, rr3, rt3, h1])
  cases h2 : askOkB a
  · repeat (first | rw [kz_o] | rw [kz_r0] | simp -dsimp -implicitDefEqProofs only [go_sem, Nat.reduceBEq, Nat.reduceAdd, Nat.reduceLeDiff, Nat.reduceMul, Int.reduceLE, Int.reduceLT, Int.reduceBEq, ce6, ce7, ra3, rr3, rt3, h1])
    exact hbadK _ (hl4 _) (by rw [hokdef, h2]; simp only [Bool.false_and, Bool.and_false])
  repeat (first | rw [kz_o] | rw [kz_r0] | simp -dsimp -implicitDefEqProofs only [go_sem, Nat.reduceBEq, Nat.reduceAdd, Nat.reduceLeDiff, Nat.reduceMul, Int.reduceLE, Int.reduceLT, Int.reduceBEq, ce6, ce7, ra3, rr3, rt3, h1])
  refine gz_intro (fun h3 => ?_) (fun h3 => ?_)
  · repeat (first | rw [kz_o] | rw [kz_r0] | simp -dsimp -implicitDefEqProofs only [go_sem, Nat.reduceBEq, Nat.reduceAdd, Nat.reduceLeDiff, Nat.reduceMul, Int.reduceLE, Int.reduceLT, Int.reduceBEq, ce6, ce7, ra3, rr3, rt3, h1])
    have h3' : ((askS a).toList == s.toList) = false := by simpa using h3
    exact hbadK _ (hl4 _) (by rw [hokdef, h3']; simp only [Bool.and_false])
  · repeat (first | rw [kz_o] | rw [kz_r0] | simp -dsimp -implicitDefEqProofs only [go_sem, Nat.reduceBEq, Nat.reduceAdd, Nat.reduceLeDiff, Nat.reduceMul, Int.reduceLE, Int.reduceLT, Int.reduceBEq, ce6, ce7, ra3, rr3, rt3, h1])
    have h3' : ((askS a).toList == s.toList) = true := by simpa using h3
    have hT := hgood (by rw [hokdef, h2, h3', h1]; simp only [decide_true, Bool.not_false, Bool.and_true, Bool.true_and])
    refine ⟨hl4 _, _, b6 ++ b7, by rw [hT], ?_, ?_⟩
    · rw [hT]
      have fo : ∀ x, x ∈ b6 ++ b7 → (g3.set (hn g .mk) ⟨8, [.raw (.int .i64 a.op), .raw (.string a.text), .raw (.int .i64 a.pos), .raw (.int .i64 a.config.top), .raw (.int .i64 a.config.seed), .raw (.int .i64 a.config.new), s6, s7]⟩).get x = g2.get x := fun x hx => by
        have hx2 := bl.2 x hx
        have c0 : (x == hn g .mk) = false := by simp; omega
        have c1 : (x == hn g2 .mk) = false := by simp; omega
        show hg _ x .mk = hg g2 x .mk
        rw [hg_set, c0, hk_f, l3.2 x (by simp only [hn_push]; omega), hg_push, c1]; rfl
      exact outAsk (c := a) (o6.frame fun x hx => fo x (by simp [hx])) (o7.frame fun x hx => fo x (by simp [hx]))
    · exact bl.wide (by omega) (by simp only [hn_set]; omega)
end Go.Bi
