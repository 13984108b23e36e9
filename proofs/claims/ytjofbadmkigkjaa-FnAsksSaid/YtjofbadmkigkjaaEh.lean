/- The walk of the reference's ReadAsk. -/
import Derived.Test.YtjofbadmkigkjaaEg
import Derived.Test.YtjofbadmkigkjaaB2
set_option linter.unusedSimpArgs false
set_option linter.unusedVariables false
set_option maxRecDepth 20000
namespace Go.Bi
open Go.Proofs
open Go.Ai (wrap_i64 wrap_u64 wrap_u8 Heap)
variable {W0 : World} {P : Program}
/-- What has been read is the ask, or neither it nor the ask is one. -/
def Mid (s : ByteArray) (q : LAsk × Rd) : Prop := fitAsk q.1 ∧ (q = ask0 s ∨ (okS s q = false ∧ okS s (ask0 s) = false))
theorem mid_self {s : ByteArray} {q : LAsk × Rd} (h : ask0 s = q) : Mid s q := by
  subst h; exact ⟨fit_ask.1, .inl rfl⟩
theorem okS_bad {s : ByteArray} {q : LAsk × Rd} (h : q.2.bad = true) : okS s q = false := by simp [okS, h]
theorem okS_not {s : ByteArray} {q : LAsk × Rd} (h : askOkB q.1 = false) : okS s q = false := by simp [okS, h]
theorem mid_stops {s x1 : ByteArray} {op x2 x3 x4 : Int} {n k : Nat} {r : Rd} (p1 : op = 1) (ha : ask0 s = (⟨op, x1, 0, ⟨x2, x3, x4, (shorts s n r).1⟩, []⟩, (shorts s n r).2)) (hk : k ≤ n) (hn : n ≤ 255) (hx : x1.size ≤ 12000) (h : k = n ∨ 4 ≤ k ∨ (shorts s k r).2.bad = true) : Mid s (⟨op, x1, 0, ⟨x2, x3, x4, (shorts s k r).1⟩, []⟩, (shorts s k r).2) := by
  have big : ∀ {m : Nat}, 4 ≤ m → okS s (⟨op, x1, 0, ⟨x2, x3, x4, (shorts s m r).1⟩, []⟩, (shorts s m r).2) = false := fun {m} hm => okS_not (by
    have : ¬ (((shorts s m r).1.length : Int) ≤ 3) := by rw [shorts_len]; omega
    simp only [askOkB, if_pos p1, cfgOk, this, decide_false, Bool.false_and, Bool.and_false])
  refine ⟨⟨by show x1.size ≤ _; omega, ⟨by show (shorts s k r).1.length ≤ _; rw [shorts_len]; omega, fun t ht => by have := shorts_size t ht; omega⟩, Nat.zero_le _⟩, ?_⟩
  rcases h with rfl | h | h
  · exact .inl ha.symm
  · exact .inr ⟨big h, by rw [ha]; exact big (by omega)⟩
  · exact .inr ⟨okS_bad h, by rw [ha]; exact okS_bad (shorts_bad h hk)⟩
theorem mid_picks {s : ByteArray} {op : Int} {n k : Nat} {r : Rd} (p5 : op = 5) (ha : ask0 s = (⟨op, ⟨#[]⟩, 0, zCfg, (ones s n r).1⟩, (ones s n r).2)) (hk : k ≤ n) (hn : n ≤ 255) (h : k = n ∨ 21 ≤ k ∨ (ones s k r).2.bad = true) : Mid s (⟨op, ⟨#[]⟩, 0, zCfg, (ones s k r).1⟩, (ones s k r).2) := by
  have big : ∀ {m : Nat}, 21 ≤ m → okS s (⟨op, ⟨#[]⟩, 0, zCfg, (ones s m r).1⟩, (ones s m r).2) = false := fun {m} hm => okS_not (by
    have : ¬ (((ones s m r).1.length : Int) ≤ 20) := by rw [ones_len]; omega
    have e1 : ¬ op = 1 := by omega
    have e2 : ¬ op = 2 := by omega
    have e3 : ¬ (op = 3 ∨ op = 4 ∨ op = 6) := by omega
    simp only [askOkB, if_neg e1, if_neg e2, if_neg e3, if_pos p5, this, decide_false, Bool.false_and])
  refine ⟨⟨Nat.zero_le _, ⟨Nat.zero_le _, fun t ht => by cases ht⟩, by show (ones s k r).1.length ≤ _; rw [ones_len]; omega⟩, ?_⟩
  rcases h with rfl | h | h
  · exact .inl ha.symm
  · exact .inr ⟨big h, by rw [ha]; exact big (by omega)⟩
  · exact .inr ⟨okS_bad h, by rw [ha]; exact okS_bad (ones_bad h hk)⟩
/-- How things stand when all has been read. -/
def MidK (s : ByteArray) (g : H2) (c : Nat) (g' : H2) : Prop := ∃ (q : LAsk × Rd) (ys : List X) (bs : List Nat), hg g' c .mk = some ⟨8, ys⟩ ∧ OTs g' bs ys (eAsk q.1) ∧ Bl (c + 1) (hn g' .mk) bs ∧ RdAt g' (hn g .mk + 1) s q.2 ∧ c + 1 ≤ hn g' .mk ∧
  hg g' (hn g .mk) .mk = some ⟨8, [.raw (.int .i64 0), .raw (.string ⟨#[]⟩), .raw (.int .i64 0), .raw (.int .i64 0), .raw (.int .i64 0), .raw (.int .i64 0), .raw (.slice none 0 0), .raw (.slice none 0 0)]⟩ ∧ (∀ x, x < hn g .mk → hg g' x .mk = hg g x .mk) ∧ Mid s q
theorem midK {s : ByteArray} {g g' : H2} {c : Nat} {q : LAsk × Rd} {v w : X} (hq : Mid s q) (hrow : hg g' c .mk = some ⟨8, [.raw (.int .i64 q.1.op), .raw (.string q.1.text), .raw (.int .i64 q.1.pos), .raw (.int .i64 q.1.config.top), .raw (.int .i64 q.1.config.seed), .raw (.int .i64 q.1.config.new), v, w]⟩)
    (ov : OwnS (c + 1) g' v q.1.config.stops) (ow : OwnI (c + 1) g' w q.1.picks) (hvw : (∃ k, v = .raw (.slice none 0 k)) ∨ (∃ k, w = .raw (.slice none 0 k))) (hr : RdAt g' (hn g .mk + 1) s q.2) (hc : c + 1 ≤ hn g' .mk)
    (h0 : hg g' (hn g .mk) .mk = some ⟨8, [.raw (.int .i64 0), .raw (.string ⟨#[]⟩), .raw (.int .i64 0), .raw (.int .i64 0), .raw (.int .i64 0), .raw (.int .i64 0), .raw (.slice none 0 0), .raw (.slice none 0 0)]⟩) (hf : ∀ x, x < hn g .mk → hg g' x .mk = hg g x .mk) : MidK s g c g' := by
  obtain ⟨bv, tv, lv⟩ := ov.tree
  obtain ⟨bw, tw, lw⟩ := ow.tree
  refine ⟨q, _, bv ++ bw, hrow, outAsk (c := q.1) tv tw, ?_, hr, hc, h0, hf, hq⟩
  have : bv = [] ∨ bw = [] := by
    rcases hvw with ⟨k, rfl⟩ | ⟨k, rfl⟩
    · left; exact tv.nil_bs
    · right; exact tw.nil_bs
  rcases this with rfl | rfl
  · simpa using lw
  · simpa using lv
set_option maxHeartbeats 4000000
attribute [-go_sem] c_block in
theorem specReadAsk_ok {s : ByteArray} {g : H2} (hs : s.size ≤ 4611686018427387904) : WC2 Try.prog W0 14 [.raw (.string s)] g (ReadK g s) := by
  refine start (P := Try.prog) [[0], [0, 2], [0, 2, 4], [0, 2, 4, 5], [0, 2, 4, 5], [0, 2, 4, 5, 19], [0, 2, 4, 5], [0, 2, 4, 5], [0, 2, 4, 5], [0, 2, 4, 5], [0, 2, 4, 5], [0, 2, 4, 5, 6], [0, 2, 4, 5, 6, 7], [0, 2, 4, 5, 6, 7], [0, 2, 4, 5, 6, 7], [0, 2, 4, 5, 19], [0, 2, 4, 5], [0, 2, 4, 5], [0, 2, 4, 5], [0, 2, 4, 5, 19], [0, 2, 4, 5], [0, 2, 4, 5, 8], [0, 2, 4, 5, 8, 9], [0, 2, 4, 5, 8, 9], [0, 2, 4, 5, 8, 9], [0, 2, 4, 5], [0, 2, 4, 5, 10, 11], [2], [2, 5]] (by kernel_rfl) Try.func14 rfl (by decide) (by decide +kernel) (rs := [.cell 2 29, .tmp 3]) rfl rfl (Nat.le_of_ble_eq_true rfl) ?_
  intro wf
  repeat (first | rw [kz_o] | rw [kz_r0] | simp -dsimp -implicitDefEqProofs only [go_sem, Nat.reduceBEq, Nat.reduceAdd, Nat.reduceLeDiff, Nat.reduceMul, Int.reduceLE, Int.reduceLT, Int.reduceBEq])
  have b0 : (hn g .mk == hn g .mk + 1) = false := by simp
  have b0' : (hn g .mk + 1 == hn g .mk) = false := by simp
  refine wz_intro (specOne_ok hs (r := ⟨0, false⟩) (b := hn g .mk + 1) ⟨by simp -dsimp -implicitDefEqProofs only [go_sem, Nat.reduceBEq, Nat.reduceAdd, Nat.reduceLeDiff, Nat.reduceMul, Int.reduceLE, Int.reduceLT, Int.reduceBEq], by simp⟩) ?_
  rintro _ g1 ⟨rfl, hr1, on1⟩
  have nn1 := on1.1
  simp only [hn_push] at nn1
  have ra1 := on1.2 (hn g .mk) (by simp only [hn_push]; omega) (by omega)
  simp -dsimp -implicitDefEqProofs only [go_sem, Nat.reduceBEq, Nat.reduceAdd, Nat.reduceLeDiff, Nat.reduceMul, Int.reduceLE, Int.reduceLT, Int.reduceBEq] at ra1
  have fr1 : ∀ c, c < hn g .mk → hg g1 c .mk = hg g c .mk := fun c hc => (on1.2 c (by simp only [hn_push]; omega) (by omega)).trans (by
    have c0 : (c == hn g .mk) = false := by simp; omega
    have c1 : (c == hn g .mk + 1) = false := by simp; omega
    simp -dsimp -implicitDefEqProofs only [go_sem, Nat.reduceBEq, Nat.reduceAdd, Nat.reduceLeDiff, Nat.reduceMul, Int.reduceLE, Int.reduceLT, Int.reduceBEq, c0, c1])
  clear on1
  have hq0 : ∀ op r, oneP s ⟨0, false⟩ = (op, r) → ask0 s = askP s op r := fun op r h => by rw [ask0, h]
  generalize hp1 : oneP s ⟨0, false⟩ = q1 at *
  obtain ⟨op, r1⟩ := q1
  have hq := hq0 op r1 rfl
  clear hq0
  simp only at hr1
  have c0 : (hn g1 .mk == hn g .mk) = false := by simp; omega
  have c0' : (hn g .mk == hn g1 .mk) = false := by simp; omega
  have c1 : (hn g1 .mk == hn g .mk + 1) = false := by simp; omega
  have c1' : (hn g .mk + 1 == hn g1 .mk) = false := by simp; omega
  repeat (first | rw [kz_o] | rw [kz_r0] | simp -dsimp -implicitDefEqProofs only [go_sem, Nat.reduceBEq, Nat.reduceAdd, Nat.reduceLeDiff, Nat.reduceMul, Int.reduceLE, Int.reduceLT, Int.reduceBEq, c0, c0', c1, c1'])
  refine cz_mid [0, 2, 4, 5] (fun e' g' => MidK s g (hn g1 .mk) g') ?_ ?_
  rotate_left
  · rintro e g2 hks ⟨q, ys, bs, hrow, ot, bl, hr2, nn2, ra2, fr2, hfit, hq⟩
    simp -dsimp -implicitDefEqProofs only [go_sem, Nat.reduceBEq, Nat.reduceAdd, Nat.reduceLeDiff, Nat.reduceMul, Int.reduceLE, Int.reduceLT, Int.reduceBEq] at hks
    have hbadK : ∀ g', g.le g' → okS s q = false → ReadK g s (.tp [.st [.raw (.int .i64 0), .raw (.string ⟨#[]⟩), .raw (.int .i64 0), .raw (.int .i64 0), .raw (.int .i64 0), .raw (.int .i64 0), .raw (.slice none 0 0), .raw (.slice none 0 0)], .raw (.bool false)]) g' := fun g' hl h => readK_bad hl (by
      rcases hq with rfl | ⟨_, h2⟩
      · rw [okS_eq]; exact h
      · rw [okS_eq]; exact h2)
    have hgood : okS s q = true → readAsk s = (q.1, true) := fun h => by
      rcases hq with rfl | ⟨h2, _⟩
      · rw [readAsk, okS_eq, if_pos h]
      · rw [h2] at h; cases h
    have hokdef : okS s q = (!q.2.bad && (askOkB q.1 && ((askS q.1).toList == s.toList))) := rfl
    clear hq
    obtain ⟨a, ⟨p, bad⟩⟩ := q
    simp only at ot hr2 hfit hgood hokdef
    have hrow2 := hr2.1
    obtain ⟨b6, s6, b7, s7, rfl, rfl, o6, o7⟩ := invAsk ot
    have ce6 := OT.cell o6
    have ce7 := OT.cell o7
    have bl6 := bl.split.1
    have bl7 := bl.split.2.1
    repeat (first | rw [kz_o] | rw [kz_r0] | simp -dsimp -implicitDefEqProofs only [go_sem, Nat.reduceBEq, Nat.reduceAdd, Nat.reduceLeDiff, Nat.reduceMul, Int.reduceLE, Int.reduceLT, Int.reduceBEq, hks, hrow, ce6, ce7])
    refine wz_intro (specAskText_tree (outAsk (c := a) o6 o7) hfit) ?_
    rintro _ g3 ⟨l3, rfl⟩
    have nn3 := l3.n
    have ra3 := l3.2 (hn g .mk) (by omega)
    have rr3 := l3.2 (hn g .mk + 1) (by omega)
    have rt3 := l3.2 (hn g1 .mk) (by omega)
    rw [ra2] at ra3
    rw [hrow2] at rr3
    rw [hrow] at rt3
    have fr3 : ∀ c, c < hn g .mk → hg g3 c .mk = hg g c .mk := fun c hc => (l3.2 c (by omega)).trans (fr2 c hc)
    have hl4 : ∀ k, g.le (g3.set (hn g .mk) k) := fun k => le_set ⟨by omega, fun c hc => fr3 c hc⟩ (Nat.le_refl _)
    repeat (first | rw [kz_o] | rw [kz_r0] | simp -dsimp -implicitDefEqProofs only [go_sem, Nat.reduceBEq, Nat.reduceAdd, Nat.reduceLeDiff, Nat.reduceMul, Int.reduceLE, Int.reduceLT, Int.reduceBEq, hks, ce6, ce7, ra3, rr3, rt3])
    cases bad
    rotate_left
    · repeat (first | rw [kz_o] | rw [kz_r0] | simp -dsimp -implicitDefEqProofs only [go_sem, Nat.reduceBEq, Nat.reduceAdd, Nat.reduceLeDiff, Nat.reduceMul, Int.reduceLE, Int.reduceLT, Int.reduceBEq, hks, ce6, ce7, ra3, rr3, rt3])
      exact hbadK _ (hl4 _) (by rw [hokdef]; rfl)
    repeat (first | rw [kz_o] | rw [kz_r0] | simp -dsimp -implicitDefEqProofs only [go_sem, Nat.reduceBEq, Nat.reduceAdd, Nat.reduceLeDiff, Nat.reduceMul, Int.reduceLE, Int.reduceLT, Int.reduceBEq, hks, ce6, ce7, ra3, rr3, rt3])
    cases h2 : askOkB a
    · repeat (first | rw [kz_o] | rw [kz_r0] | simp -dsimp -implicitDefEqProofs only [go_sem, Nat.reduceBEq, Nat.reduceAdd, Nat.reduceLeDiff, Nat.reduceMul, Int.reduceLE, Int.reduceLT, Int.reduceBEq, hks, ce6, ce7, ra3, rr3, rt3])
      exact hbadK _ (hl4 _) (by rw [hokdef, h2]; simp only [Bool.false_and, Bool.and_false])
    repeat (first | rw [kz_o] | rw [kz_r0] | simp -dsimp -implicitDefEqProofs only [go_sem, Nat.reduceBEq, Nat.reduceAdd, Nat.reduceLeDiff, Nat.reduceMul, Int.reduceLE, Int.reduceLT, Int.reduceBEq, hks, ce6, ce7, ra3, rr3, rt3])
    refine gz_intro (fun h3 => ?_) (fun h3 => ?_)
    · repeat (first | rw [kz_o] | rw [kz_r0] | simp -dsimp -implicitDefEqProofs only [go_sem, Nat.reduceBEq, Nat.reduceAdd, Nat.reduceLeDiff, Nat.reduceMul, Int.reduceLE, Int.reduceLT, Int.reduceBEq, hks, ce6, ce7, ra3, rr3, rt3])
      have h3' : ((askS a).toList == s.toList) = false := by simpa using h3
      exact hbadK _ (hl4 _) (by rw [hokdef, h3']; simp only [Bool.and_false])
    · repeat (first | rw [kz_o] | rw [kz_r0] | simp -dsimp -implicitDefEqProofs only [go_sem, Nat.reduceBEq, Nat.reduceAdd, Nat.reduceLeDiff, Nat.reduceMul, Int.reduceLE, Int.reduceLT, Int.reduceBEq, hks, ce6, ce7, ra3, rr3, rt3])
      have h3' : ((askS a).toList == s.toList) = true := by simpa using h3
      have hT := hgood (by rw [hokdef, h2, h3']; simp only [Bool.not_false, Bool.and_true, Bool.true_and])
      refine ⟨hl4 _, _, b6 ++ b7, by rw [hT], ?_, ?_⟩
      · rw [hT]
        have fo : ∀ x, x ∈ b6 ++ b7 → (g3.set (hn g .mk) ⟨8, [.raw (.int .i64 a.op), .raw (.string a.text), .raw (.int .i64 a.pos), .raw (.int .i64 a.config.top), .raw (.int .i64 a.config.seed), .raw (.int .i64 a.config.new), s6, s7]⟩).get x = g2.get x := fun x hx => by
          have hx2 := bl.2 x hx
          have c0 : (x == hn g .mk) = false := by simp; omega
          show hg _ x .mk = hg g2 x .mk
          rw [hg_set, c0, hk_f, l3.2 x (by omega)]
        exact outAsk (c := a) (o6.frame fun x hx => fo x (by simp [hx])) (o7.frame fun x hx => fo x (by simp [hx]))
      · exact bl.wide (by omega) (by simp only [hn_set]; omega)
  repeat (first | rw [kz_o] | rw [kz_r0] | simp -dsimp -implicitDefEqProofs only [go_sem, Nat.reduceBEq, Nat.reduceAdd, Nat.reduceLeDiff, Nat.reduceMul, Int.reduceLE, Int.reduceLT, Int.reduceBEq, c_block, c0, c0', c1, c1'])
  refine gz_dec (fun p1 => ?_) (fun p1 => ?_)
  · repeat (first | rw [kz_o] | rw [kz_r0] | simp -dsimp -implicitDefEqProofs only [go_sem, Nat.reduceBEq, Nat.reduceAdd, Nat.reduceLeDiff, Nat.reduceMul, Int.reduceLE, Int.reduceLT, Int.reduceBEq, p1, c0, c0', c1, c1'])
    refine wz_intro (specShort_ok hs (b := hn g .mk + 1) (r := r1) ⟨by simp -dsimp -implicitDefEqProofs only [go_sem, Nat.reduceBEq, Nat.reduceAdd, Nat.reduceLeDiff, Nat.reduceMul, Int.reduceLE, Int.reduceLT, Int.reduceBEq, c0, c0', c1, c1', b0, b0', hr1.1], hr1.2⟩) ?_
    rintro _ g2 ⟨rfl, hr2, on2⟩
    have nn2 := on2.1
    simp only [hn_push, hn_set, hn_up] at nn2
    have ra2 := on2.2 (hn g .mk) (by simp only [hn_push, hn_set, hn_up]; omega) (by omega)
    have rb2 := on2.2 (hn g1 .mk) (by simp only [hn_push, hn_set, hn_up]; omega) (by omega)
    have fr2 : ∀ x, x < hn g .mk → hg g2 x .mk = hg g x .mk := fun x hx => (on2.2 x (by simp only [hn_push, hn_set, hn_up]; omega) (by omega)).trans (by
      have e0 : (x == hn g1 .mk) = false := by simp; omega
      simp -dsimp -implicitDefEqProofs only [go_sem, Nat.reduceBEq, Nat.reduceAdd, Nat.reduceLeDiff, Nat.reduceMul, Int.reduceLE, Int.reduceLT, Int.reduceBEq, e0, fr1 x hx])
    simp -dsimp -implicitDefEqProofs only [go_sem, Nat.reduceBEq, Nat.reduceAdd, Nat.reduceLeDiff, Nat.reduceMul, Int.reduceLE, Int.reduceLT, Int.reduceBEq, c0, c0', c1, c1', b0, b0', ra1] at ra2 rb2
    clear on2
    generalize hp2 : shortP s r1 = q2 at *
    obtain ⟨x2, r2⟩ := q2
    simp only at hr2 rb2 ra2
    repeat (first | rw [kz_o] | rw [kz_r0] | simp -dsimp -implicitDefEqProofs only [go_sem, Nat.reduceBEq, Nat.reduceAdd, Nat.reduceLeDiff, Nat.reduceMul, Int.reduceLE, Int.reduceLT, Int.reduceBEq, c_block, c0, c0', c1, c1', b0, b0', ra2, rb2])
    refine wz_intro (specOne_ok hs (b := hn g .mk + 1) (r := r2) ⟨by simp -dsimp -implicitDefEqProofs only [go_sem, Nat.reduceBEq, Nat.reduceAdd, Nat.reduceLeDiff, Nat.reduceMul, Int.reduceLE, Int.reduceLT, Int.reduceBEq, c0, c0', c1, c1', b0, b0', hr2.1], hr2.2⟩) ?_
    rintro _ g3 ⟨rfl, hr3, on3⟩
    have nn3 := on3.1
    simp only [hn_push, hn_set, hn_up] at nn3
    have ra3 := on3.2 (hn g .mk) (by simp only [hn_push, hn_set, hn_up]; omega) (by omega)
    have rb3 := on3.2 (hn g1 .mk) (by simp only [hn_push, hn_set, hn_up]; omega) (by omega)
    have fr3 : ∀ x, x < hn g .mk → hg g3 x .mk = hg g x .mk := fun x hx => (on3.2 x (by simp only [hn_push, hn_set, hn_up]; omega) (by omega)).trans (by
      have e0 : (x == hn g1 .mk) = false := by simp; omega
      simp -dsimp -implicitDefEqProofs only [go_sem, Nat.reduceBEq, Nat.reduceAdd, Nat.reduceLeDiff, Nat.reduceMul, Int.reduceLE, Int.reduceLT, Int.reduceBEq, e0, fr2 x hx])
    simp -dsimp -implicitDefEqProofs only [go_sem, Nat.reduceBEq, Nat.reduceAdd, Nat.reduceLeDiff, Nat.reduceMul, Int.reduceLE, Int.reduceLT, Int.reduceBEq, c0, c0', c1, c1', b0, b0', ra2, rb2] at ra3 rb3
    clear on3
    generalize hp3 : oneP s r2 = q3 at *
    obtain ⟨x3, r3⟩ := q3
    simp only at hr3 rb3 ra3
    repeat (first | rw [kz_o] | rw [kz_r0] | simp -dsimp -implicitDefEqProofs only [go_sem, Nat.reduceBEq, Nat.reduceAdd, Nat.reduceLeDiff, Nat.reduceMul, Int.reduceLE, Int.reduceLT, Int.reduceBEq, c_block, c0, c0', c1, c1', b0, b0', ra3, rb3])
    refine wz_intro (specNum_ok hs (b := hn g .mk + 1) (r := r3) ⟨by simp -dsimp -implicitDefEqProofs only [go_sem, Nat.reduceBEq, Nat.reduceAdd, Nat.reduceLeDiff, Nat.reduceMul, Int.reduceLE, Int.reduceLT, Int.reduceBEq, c0, c0', c1, c1', b0, b0', hr3.1], hr3.2⟩) ?_
    rintro _ g4 ⟨rfl, hr4, on4⟩
    have nn4 := on4.1
    simp only [hn_push, hn_set, hn_up] at nn4
    have ra4 := on4.2 (hn g .mk) (by simp only [hn_push, hn_set, hn_up]; omega) (by omega)
    have rb4 := on4.2 (hn g1 .mk) (by simp only [hn_push, hn_set, hn_up]; omega) (by omega)
    have fr4 : ∀ x, x < hn g .mk → hg g4 x .mk = hg g x .mk := fun x hx => (on4.2 x (by simp only [hn_push, hn_set, hn_up]; omega) (by omega)).trans (by
      have e0 : (x == hn g1 .mk) = false := by simp; omega
      simp -dsimp -implicitDefEqProofs only [go_sem, Nat.reduceBEq, Nat.reduceAdd, Nat.reduceLeDiff, Nat.reduceMul, Int.reduceLE, Int.reduceLT, Int.reduceBEq, e0, fr3 x hx])
    simp -dsimp -implicitDefEqProofs only [go_sem, Nat.reduceBEq, Nat.reduceAdd, Nat.reduceLeDiff, Nat.reduceMul, Int.reduceLE, Int.reduceLT, Int.reduceBEq, c0, c0', c1, c1', b0, b0', ra3, rb3] at ra4 rb4
    clear on4
    generalize hp4 : numP s r3 = q4 at *
    obtain ⟨x4, r4⟩ := q4
    simp only at hr4 rb4 ra4
    repeat (first | rw [kz_o] | rw [kz_r0] | simp -dsimp -implicitDefEqProofs only [go_sem, Nat.reduceBEq, Nat.reduceAdd, Nat.reduceLeDiff, Nat.reduceMul, Int.reduceLE, Int.reduceLT, Int.reduceBEq, c_block, c0, c0', c1, c1', b0, b0', ra4, rb4])
    refine wz_intro (specOne_ok hs (b := hn g .mk + 1) (r := r4) ⟨by simp -dsimp -implicitDefEqProofs only [go_sem, Nat.reduceBEq, Nat.reduceAdd, Nat.reduceLeDiff, Nat.reduceMul, Int.reduceLE, Int.reduceLT, Int.reduceBEq, c0, c0', c1, c1', b0, b0', hr4.1], hr4.2⟩) ?_
    rintro _ g5 ⟨rfl, hr5, on5⟩
    have nn5 := on5.1
    simp only [hn_push, hn_set, hn_up] at nn5
    have ra5 := on5.2 (hn g .mk) (by simp only [hn_push, hn_set, hn_up]; omega) (by omega)
    have rb5 := on5.2 (hn g1 .mk) (by simp only [hn_push, hn_set, hn_up]; omega) (by omega)
    have fr5 : ∀ x, x < hn g .mk → hg g5 x .mk = hg g x .mk := fun x hx => (on5.2 x (by simp only [hn_push, hn_set, hn_up]; omega) (by omega)).trans (by
      have e0 : (x == hn g1 .mk) = false := by simp; omega
      simp -dsimp -implicitDefEqProofs only [go_sem, Nat.reduceBEq, Nat.reduceAdd, Nat.reduceLeDiff, Nat.reduceMul, Int.reduceLE, Int.reduceLT, Int.reduceBEq, e0, fr4 x hx])
    simp -dsimp -implicitDefEqProofs only [go_sem, Nat.reduceBEq, Nat.reduceAdd, Nat.reduceLeDiff, Nat.reduceMul, Int.reduceLE, Int.reduceLT, Int.reduceBEq, c0, c0', c1, c1', b0, b0', ra4, rb4] at ra5 rb5
    clear on5
    generalize hp5 : oneP s r4 = q5 at *
    obtain ⟨x5, r5⟩ := q5
    simp only at hr5 rb5 ra5
    repeat (first | rw [kz_o] | rw [kz_r0] | simp -dsimp -implicitDefEqProofs only [go_sem, Nat.reduceBEq, Nat.reduceAdd, Nat.reduceLeDiff, Nat.reduceMul, Int.reduceLE, Int.reduceLT, Int.reduceBEq, c_block, c0, c0', c1, c1', b0, b0', ra5, rb5])
    refine wz_intro (specOne_ok hs (b := hn g .mk + 1) (r := r5) ⟨by simp -dsimp -implicitDefEqProofs only [go_sem, Nat.reduceBEq, Nat.reduceAdd, Nat.reduceLeDiff, Nat.reduceMul, Int.reduceLE, Int.reduceLT, Int.reduceBEq, c0, c0', c1, c1', b0, b0', hr5.1], hr5.2⟩) ?_
    rintro _ g6 ⟨rfl, hr6, on6⟩
    have nn6 := on6.1
    simp only [hn_push, hn_set, hn_up] at nn6
    have ra6 := on6.2 (hn g .mk) (by simp only [hn_push, hn_set, hn_up]; omega) (by omega)
    have rb6 := on6.2 (hn g1 .mk) (by simp only [hn_push, hn_set, hn_up]; omega) (by omega)
    have fr6 : ∀ x, x < hn g .mk → hg g6 x .mk = hg g x .mk := fun x hx => (on6.2 x (by simp only [hn_push, hn_set, hn_up]; omega) (by omega)).trans (by
      have e0 : (x == hn g1 .mk) = false := by simp; omega
      simp -dsimp -implicitDefEqProofs only [go_sem, Nat.reduceBEq, Nat.reduceAdd, Nat.reduceLeDiff, Nat.reduceMul, Int.reduceLE, Int.reduceLT, Int.reduceBEq, e0, fr5 x hx])
    simp -dsimp -implicitDefEqProofs only [go_sem, Nat.reduceBEq, Nat.reduceAdd, Nat.reduceLeDiff, Nat.reduceMul, Int.reduceLE, Int.reduceLT, Int.reduceBEq, c0, c0', c1, c1', b0, b0', ra5, rb5] at ra6 rb6
    clear on6
    generalize hp6 : oneP s r5 = q6 at *
    obtain ⟨x6, r6⟩ := q6
    simp only at hr6 rb6 ra6
    repeat (first | rw [kz_o] | rw [kz_r0] | simp -dsimp -implicitDefEqProofs only [go_sem, Nat.reduceBEq, Nat.reduceAdd, Nat.reduceLeDiff, Nat.reduceMul, Int.reduceLE, Int.reduceLT, Int.reduceBEq, c_block, c0, c0', c1, c1', b0, b0', ra6, rb6])
    have hx1 : x2.size ≤ 12000 := by have := shortP_size (s := s) (r := r1); rw [hp2] at this; exact this
    have h5 := oneP_range (s := s) (r := r5)
    rw [hp6] at h5
    obtain ⟨n, hx5⟩ := Int.eq_ofNat_of_zero_le h5.1
    simp only at hx5
    subst hx5
    have hn255 : n ≤ 255 := by have := h5.2; simp only at this; omega
    have hA : askP s op r1 = (⟨op, x2, 0, ⟨x3, x4, x5, (shorts s n r6).1⟩, []⟩, (shorts s n r6).2) := by
      simp only [askP, if_pos p1, ask1P, hp2, hp3, hp4, hp5, hp6, Int.toNat_natCast]
    refine lz_join 1 [0, 2, 4, 5, 6] (fun m e h' => ∃ (k : Nat) (v : X), k ≤ n ∧ m + k = n ∧ look e 7 .mk = .raw (.int .i64 k) ∧ RdAt h' (hn g .mk + 1) s (shorts s k r6).2 ∧ OwnS (hn g1 .mk + 1) h' v (shorts s k r6).1 ∧ hg h' (hn g .mk) .mk = hg g6 (hn g .mk) .mk ∧
        hg h' (hn g1 .mk) .mk = some ⟨8, [.raw (.int .i64 op), .raw (.string x2), .raw (.int .i64 0), .raw (.int .i64 x3), .raw (.int .i64 x4), .raw (.int .i64 x5), v, .raw (.slice none 0 0)]⟩ ∧ hn g1 .mk + 1 ≤ hn h' .mk ∧ ∀ x, x < hn g .mk → hg h' x .mk = hg g x .mk)
      (fun e h' => MidK s g (hn g1 .mk) h') n ?_ ?_ ?_
    · refine ⟨0, .raw (.slice none 0 0), by omega, by omega, by simp -dsimp -implicitDefEqProofs only [go_sem, Nat.reduceBEq, Nat.reduceAdd, Nat.reduceLeDiff, Nat.reduceMul, Int.reduceLE, Int.reduceLT, Int.reduceBEq], ⟨by simp -dsimp -implicitDefEqProofs only [go_sem, Nat.reduceBEq, Nat.reduceAdd, Nat.reduceLeDiff, Nat.reduceMul, Int.reduceLE, Int.reduceLT, Int.reduceBEq, c0, c0', c1, c1', b0, b0', hr6.1, shorts], hr6.2⟩, Own.nil, by first | rfl | simp -dsimp -implicitDefEqProofs only [go_sem, Nat.reduceBEq, Nat.reduceAdd, Nat.reduceLeDiff, Nat.reduceMul, Int.reduceLE, Int.reduceLT, Int.reduceBEq, c0, c0', c1, c1', b0, b0'], by simp -dsimp -implicitDefEqProofs only [go_sem, Nat.reduceBEq, Nat.reduceAdd, Nat.reduceLeDiff, Nat.reduceMul, Int.reduceLE, Int.reduceLT, Int.reduceBEq, c0, c0', c1, c1', b0, b0', rb6], by (try simp only [hn_set]); omega, fun x hx => ?_⟩
      have e0 : (x == hn g1 .mk) = false := by simp; omega
      simp -dsimp -implicitDefEqProofs only [go_sem, Nat.reduceBEq, Nat.reduceAdd, Nat.reduceLeDiff, Nat.reduceMul, Int.reduceLE, Int.reduceLT, Int.reduceBEq, e0, fr6 x hx]
    · rintro m e h' hks ⟨k, v, hkn, hk, e31, hr, ov, ha, hbr, hN, hfr⟩
      simp -dsimp -implicitDefEqProofs only [go_sem, Nat.reduceBEq, Nat.reduceAdd, Nat.reduceLeDiff, Nat.reduceMul, Int.reduceLE, Int.reduceLT, Int.reduceBEq] at hks
      rw [ra6] at ha
      have hrr := hr.1
      simp only [rdCells_def] at hrr
      have hce := own_cell ov
      have hmid : (k = n ∨ 4 ≤ k ∨ (shorts s k r6).2.bad = true) → MidK s g (hn g1 .mk) h' := fun h => midK (q := (⟨op, x2, 0, ⟨x3, x4, x5, (shorts s k r6).1⟩, []⟩, (shorts s k r6).2)) (mid_stops p1 (hq.trans hA) hkn hn255 hx1 h) hbr ov Own.nil (.inr ⟨_, rfl⟩) hr hN ha hfr
      repeat (first | rw [kz_o] | rw [kz_r0] | simp -dsimp -implicitDefEqProofs only [go_sem, Nat.reduceBEq, Nat.reduceAdd, Nat.reduceLeDiff, Nat.reduceMul, Int.reduceLE, Int.reduceLT, Int.reduceBEq, c_block, hks, e31])
      refine gz_dec (fun h2 => ?_) (fun h2 => ?_)
      rotate_left
      · repeat (first | rw [kz_o] | rw [kz_r0] | simp -dsimp -implicitDefEqProofs only [go_sem, Nat.reduceBEq, Nat.reduceAdd, Nat.reduceLeDiff, Nat.reduceMul, Int.reduceLE, Int.reduceLT, Int.reduceBEq, c_block, hks, e31, h2])
        exact out_keep (by simp -dsimp -implicitDefEqProofs only [go_sem, Nat.reduceBEq, Nat.reduceAdd, Nat.reduceLeDiff, Nat.reduceMul, Int.reduceLE, Int.reduceLT, Int.reduceBEq, hks]) (hmid (.inl (by omega)))
      repeat (first | rw [kz_o] | rw [kz_r0] | simp -dsimp -implicitDefEqProofs only [go_sem, Nat.reduceBEq, Nat.reduceAdd, Nat.reduceLeDiff, Nat.reduceMul, Int.reduceLE, Int.reduceLT, Int.reduceBEq, c_block, hks, e31, h2])
      refine gz_dec (fun h3 => ?_) (fun h3 => ?_)
      rotate_left
      · repeat (first | rw [kz_o] | rw [kz_r0] | simp -dsimp -implicitDefEqProofs only [go_sem, Nat.reduceBEq, Nat.reduceAdd, Nat.reduceLeDiff, Nat.reduceMul, Int.reduceLE, Int.reduceLT, Int.reduceBEq, c_block, hks, e31, h2, h3])
        exact out_keep (by simp -dsimp -implicitDefEqProofs only [go_sem, Nat.reduceBEq, Nat.reduceAdd, Nat.reduceLeDiff, Nat.reduceMul, Int.reduceLE, Int.reduceLT, Int.reduceBEq, hks]) (hmid (.inr (.inl (by omega))))
      repeat (first | rw [kz_o] | rw [kz_r0] | simp -dsimp -implicitDefEqProofs only [go_sem, Nat.reduceBEq, Nat.reduceAdd, Nat.reduceLeDiff, Nat.reduceMul, Int.reduceLE, Int.reduceLT, Int.reduceBEq, c_block, hks, e31, hrr, h2, h3])
      cases hbad : (shorts s k r6).2.bad
      rotate_left
      · rw [hbad] at hrr
        repeat (first | rw [kz_o] | rw [kz_r0] | simp -dsimp -implicitDefEqProofs only [go_sem, Nat.reduceBEq, Nat.reduceAdd, Nat.reduceLeDiff, Nat.reduceMul, Int.reduceLE, Int.reduceLT, Int.reduceBEq, c_block, hks, e31, hrr, hbad, h2, h3])
        exact out_keep (by simp -dsimp -implicitDefEqProofs only [go_sem, Nat.reduceBEq, Nat.reduceAdd, Nat.reduceLeDiff, Nat.reduceMul, Int.reduceLE, Int.reduceLT, Int.reduceBEq, hks]) (hmid (.inr (.inr hbad)))
      repeat (first | rw [kz_o] | rw [kz_r0] | simp -dsimp -implicitDefEqProofs only [go_sem, Nat.reduceBEq, Nat.reduceAdd, Nat.reduceLeDiff, Nat.reduceMul, Int.reduceLE, Int.reduceLT, Int.reduceBEq, c_block, hks, e31, hrr, hbad, h2, h3])
      refine dq_intro [(0, []), (1, []), (2, []), (3, []), (4, [2]), (5, [2]), (6, []), (7, []), (8, []), (9, [])] (by kernel_rfl) ?_
      repeat (first | rw [kz_o] | rw [kz_r0] | simp -dsimp -implicitDefEqProofs only [go_sem, Nat.reduceBEq, Nat.reduceAdd, Nat.reduceLeDiff, Nat.reduceMul, Int.reduceLE, Int.reduceLT, Int.reduceBEq, hks, e31, hbr])
      refine wz_intro (specShort_ok hs hr) ?_
      rintro _ gx ⟨rfl, hrx, onx⟩
      have rbx := onx.2 (hn g1 .mk) (by omega) (by omega)
      have rax := onx.2 (hn g .mk) (by omega) (by omega)
      rw [hbr] at rbx
      rw [ha] at rax
      have nnx := onx.1
      have frx : ∀ x, x < hn g .mk → hg gx x .mk = hg g x .mk := fun x hx => (onx.2 x (by omega) (by omega)).trans (hfr x hx)
      have ovx : OwnS (hn g1 .mk + 1) gx v (shorts s k r6).1 := own_frame ov nnx fun x h1 h2 => onx.2 x h2 (by omega)
      rw [kz_r]
      refine ⟨by simp -dsimp -implicitDefEqProofs only [go_sem, Nat.reduceBEq, Nat.reduceAdd, Nat.reduceLeDiff, Nat.reduceMul, Int.reduceLE, Int.reduceLT, Int.reduceBEq, hks, e31, rbx], ?_⟩
      repeat (first | rw [kz_o] | rw [kz_r0] | simp -dsimp -implicitDefEqProofs only [go_sem, Nat.reduceBEq, Nat.reduceAdd, Nat.reduceLeDiff, Nat.reduceMul, Int.reduceLE, Int.reduceLT, Int.reduceBEq, hks, e31, rbx])
      refine append_str (D := fun _ => none) (N := hn g1 .mk + 1) Go.Ai.ty_el24 Go.Ai.ty_zr9 Go.Ai.ty_cl24 (ovx.keep (le_up1 (H2.le.refl _))) (by simp only [hn_up]; omega) (by rw [shorts_len]; have : Go.Ai.most = 1099511627776 := rfl; omega) ?_
      intro v' g7 o7 nn7 _ hk7
      simp only [hn_up] at nn7
      have rb7 := hk7 (hn g1 .mk) (by simp only [hn_up]; omega) (own_ne ov (by omega))
      have ra7 := hk7 (hn g .mk) (by simp only [hn_up]; omega) (own_ne ov (by omega))
      have rr7 := hk7 (hn g .mk + 1) (by simp only [hn_up]; omega) (own_ne ov (by omega))
      rw [hg_up, rbx] at rb7
      rw [hg_up, rax] at ra7
      rw [hg_up, hrx.1] at rr7
      have hce7 := own_cell o7
      try rw [kz_r]
      try refine ⟨by simp -dsimp -implicitDefEqProofs only [go_sem, Nat.reduceBEq, Nat.reduceAdd, Nat.reduceLeDiff, Nat.reduceMul, Int.reduceLE, Int.reduceLT, Int.reduceBEq, hks, e31, rb7], ?_⟩
      repeat (first | rw [kz_o] | rw [kz_r0] | simp -dsimp -implicitDefEqProofs only [go_sem, Nat.reduceBEq, Nat.reduceAdd, Nat.reduceLeDiff, Nat.reduceMul, Int.reduceLE, Int.reduceLT, Int.reduceBEq, c_block, hks, e31, rb7, hce7, wrap_succ (show k < n by omega) (by omega)])
      refine nx_keep (m - 1) (by omega) (by simp -dsimp -implicitDefEqProofs only [go_sem, Nat.reduceBEq, Nat.reduceAdd, Nat.reduceLeDiff, Nat.reduceMul, Int.reduceLE, Int.reduceLT, Int.reduceBEq, hks]) ⟨k + 1, v', by omega, by omega, by simp -dsimp -implicitDefEqProofs only [go_sem, Nat.reduceBEq, Nat.reduceAdd, Nat.reduceLeDiff, Nat.reduceMul, Int.reduceLE, Int.reduceLT, Int.reduceBEq], ⟨by simp -dsimp -implicitDefEqProofs only [go_sem, Nat.reduceBEq, Nat.reduceAdd, Nat.reduceLeDiff, Nat.reduceMul, Int.reduceLE, Int.reduceLT, Int.reduceBEq, c1']; exact rr7, hrx.2⟩, ?_, by simp -dsimp -implicitDefEqProofs only [go_sem, Nat.reduceBEq, Nat.reduceAdd, Nat.reduceLeDiff, Nat.reduceMul, Int.reduceLE, Int.reduceLT, Int.reduceBEq, c0', ra6]; exact ra7, by simp -dsimp -implicitDefEqProofs only [go_sem, Nat.reduceBEq, Nat.reduceAdd, Nat.reduceLeDiff, Nat.reduceMul, Int.reduceLE, Int.reduceLT, Int.reduceBEq], by simp only [hn_set]; omega, fun x hx => ?_⟩
      · exact own_frame o7 (by simp only [hn_set]; omega) fun x h1 h2 => by rw [hg_set, show (x == hn g1 .mk) = false by simp; omega]; rfl
      · have e1 : (x == hn g1 .mk) = false := by simp; omega
        simp -dsimp -implicitDefEqProofs only [go_sem, Nat.reduceBEq, Nat.reduceAdd, Nat.reduceLeDiff, Nat.reduceMul, Int.reduceLE, Int.reduceLT, Int.reduceBEq, e1]
        exact (hk7 x (by simp only [hn_up]; omega) (own_ne ov (by omega))).trans (frx x hx)
    · rintro e g9 hks hj
      simp -dsimp -implicitDefEqProofs only [go_sem, Nat.reduceBEq, Nat.reduceAdd, Nat.reduceLeDiff, Nat.reduceMul, Int.reduceLE, Int.reduceLT, Int.reduceBEq] at hks
      repeat (first | rw [kz_o] | rw [kz_r0] | simp -dsimp -implicitDefEqProofs only [go_sem, Nat.reduceBEq, Nat.reduceAdd, Nat.reduceLeDiff, Nat.reduceMul, Int.reduceLE, Int.reduceLT, Int.reduceBEq, c_block, hks])
      exact jz_keep (by simp -dsimp -implicitDefEqProofs only [go_sem, Nat.reduceBEq, Nat.reduceAdd, Nat.reduceLeDiff, Nat.reduceMul, Int.reduceLE, Int.reduceLT, Int.reduceBEq, hks]) hj
  repeat (first | rw [kz_o] | rw [kz_r0] | simp -dsimp -implicitDefEqProofs only [go_sem, Nat.reduceBEq, Nat.reduceAdd, Nat.reduceLeDiff, Nat.reduceMul, Int.reduceLE, Int.reduceLT, Int.reduceBEq, c_block, p1, c0, c0', c1, c1'])
  refine gz_dec (fun p2 => ?_) (fun p2 => ?_)
  · repeat (first | rw [kz_o] | rw [kz_r0] | simp -dsimp -implicitDefEqProofs only [go_sem, Nat.reduceBEq, Nat.reduceAdd, Nat.reduceLeDiff, Nat.reduceMul, Int.reduceLE, Int.reduceLT, Int.reduceBEq, c_block, p1, p2, c0, c0', c1, c1'])
    refine wz_intro (specOne_ok hs (b := hn g .mk + 1) (r := r1) ⟨by simp -dsimp -implicitDefEqProofs only [go_sem, Nat.reduceBEq, Nat.reduceAdd, Nat.reduceLeDiff, Nat.reduceMul, Int.reduceLE, Int.reduceLT, Int.reduceBEq, c0, c0', c1, c1', b0, b0', hr1.1], hr1.2⟩) ?_
    rintro _ g2 ⟨rfl, hr2, on2⟩
    have nn2 := on2.1
    simp only [hn_push, hn_set, hn_up] at nn2
    have ra2 := on2.2 (hn g .mk) (by simp only [hn_push, hn_set, hn_up]; omega) (by omega)
    have rb2 := on2.2 (hn g1 .mk) (by simp only [hn_push, hn_set, hn_up]; omega) (by omega)
    have fr2 : ∀ x, x < hn g .mk → hg g2 x .mk = hg g x .mk := fun x hx => (on2.2 x (by simp only [hn_push, hn_set, hn_up]; omega) (by omega)).trans (by
      have e0 : (x == hn g1 .mk) = false := by simp; omega
      simp -dsimp -implicitDefEqProofs only [go_sem, Nat.reduceBEq, Nat.reduceAdd, Nat.reduceLeDiff, Nat.reduceMul, Int.reduceLE, Int.reduceLT, Int.reduceBEq, e0, fr1 x hx])
    simp -dsimp -implicitDefEqProofs only [go_sem, Nat.reduceBEq, Nat.reduceAdd, Nat.reduceLeDiff, Nat.reduceMul, Int.reduceLE, Int.reduceLT, Int.reduceBEq, c0, c0', c1, c1', b0, b0', ra1] at ra2 rb2
    clear on2
    generalize hp2 : oneP s r1 = q2 at *
    obtain ⟨x2, r2⟩ := q2
    simp only at hr2 rb2 ra2
    repeat (first | rw [kz_o] | rw [kz_r0] | simp -dsimp -implicitDefEqProofs only [go_sem, Nat.reduceBEq, Nat.reduceAdd, Nat.reduceLeDiff, Nat.reduceMul, Int.reduceLE, Int.reduceLT, Int.reduceBEq, c_block, c0, c0', c1, c1', b0, b0', ra2, rb2])
    refine wz_intro (specNum_ok hs (b := hn g .mk + 1) (r := r2) ⟨by simp -dsimp -implicitDefEqProofs only [go_sem, Nat.reduceBEq, Nat.reduceAdd, Nat.reduceLeDiff, Nat.reduceMul, Int.reduceLE, Int.reduceLT, Int.reduceBEq, c0, c0', c1, c1', b0, b0', hr2.1], hr2.2⟩) ?_
    rintro _ g3 ⟨rfl, hr3, on3⟩
    have nn3 := on3.1
    simp only [hn_push, hn_set, hn_up] at nn3
    have ra3 := on3.2 (hn g .mk) (by simp only [hn_push, hn_set, hn_up]; omega) (by omega)
    have rb3 := on3.2 (hn g1 .mk) (by simp only [hn_push, hn_set, hn_up]; omega) (by omega)
    have fr3 : ∀ x, x < hn g .mk → hg g3 x .mk = hg g x .mk := fun x hx => (on3.2 x (by simp only [hn_push, hn_set, hn_up]; omega) (by omega)).trans (by
      have e0 : (x == hn g1 .mk) = false := by simp; omega
      simp -dsimp -implicitDefEqProofs only [go_sem, Nat.reduceBEq, Nat.reduceAdd, Nat.reduceLeDiff, Nat.reduceMul, Int.reduceLE, Int.reduceLT, Int.reduceBEq, e0, fr2 x hx])
    simp -dsimp -implicitDefEqProofs only [go_sem, Nat.reduceBEq, Nat.reduceAdd, Nat.reduceLeDiff, Nat.reduceMul, Int.reduceLE, Int.reduceLT, Int.reduceBEq, c0, c0', c1, c1', b0, b0', ra2, rb2] at ra3 rb3
    clear on3
    generalize hp3 : numP s r2 = q3 at *
    obtain ⟨x3, r3⟩ := q3
    simp only at hr3 rb3 ra3
    repeat (first | rw [kz_o] | rw [kz_r0] | simp -dsimp -implicitDefEqProofs only [go_sem, Nat.reduceBEq, Nat.reduceAdd, Nat.reduceLeDiff, Nat.reduceMul, Int.reduceLE, Int.reduceLT, Int.reduceBEq, c_block, c0, c0', c1, c1', b0, b0', ra3, rb3])
    refine wz_intro (specOne_ok hs (b := hn g .mk + 1) (r := r3) ⟨by simp -dsimp -implicitDefEqProofs only [go_sem, Nat.reduceBEq, Nat.reduceAdd, Nat.reduceLeDiff, Nat.reduceMul, Int.reduceLE, Int.reduceLT, Int.reduceBEq, c0, c0', c1, c1', b0, b0', hr3.1], hr3.2⟩) ?_
    rintro _ g4 ⟨rfl, hr4, on4⟩
    have nn4 := on4.1
    simp only [hn_push, hn_set, hn_up] at nn4
    have ra4 := on4.2 (hn g .mk) (by simp only [hn_push, hn_set, hn_up]; omega) (by omega)
    have rb4 := on4.2 (hn g1 .mk) (by simp only [hn_push, hn_set, hn_up]; omega) (by omega)
    have fr4 : ∀ x, x < hn g .mk → hg g4 x .mk = hg g x .mk := fun x hx => (on4.2 x (by simp only [hn_push, hn_set, hn_up]; omega) (by omega)).trans (by
      have e0 : (x == hn g1 .mk) = false := by simp; omega
      simp -dsimp -implicitDefEqProofs only [go_sem, Nat.reduceBEq, Nat.reduceAdd, Nat.reduceLeDiff, Nat.reduceMul, Int.reduceLE, Int.reduceLT, Int.reduceBEq, e0, fr3 x hx])
    simp -dsimp -implicitDefEqProofs only [go_sem, Nat.reduceBEq, Nat.reduceAdd, Nat.reduceLeDiff, Nat.reduceMul, Int.reduceLE, Int.reduceLT, Int.reduceBEq, c0, c0', c1, c1', b0, b0', ra3, rb3] at ra4 rb4
    clear on4
    generalize hp4 : oneP s r3 = q4 at *
    obtain ⟨x4, r4⟩ := q4
    simp only at hr4 rb4 ra4
    repeat (first | rw [kz_o] | rw [kz_r0] | simp -dsimp -implicitDefEqProofs only [go_sem, Nat.reduceBEq, Nat.reduceAdd, Nat.reduceLeDiff, Nat.reduceMul, Int.reduceLE, Int.reduceLT, Int.reduceBEq, c_block, c0, c0', c1, c1', b0, b0', ra4, rb4])
    have hA : askP s op r1 = (⟨op, ⟨#[]⟩, x2, ⟨0, x3, x4, []⟩, []⟩, r4) := by
      simp only [askP, if_neg p1, if_pos p2, ask2P, hp2, hp3, hp4]
    refine jz_keep (by simp -dsimp -implicitDefEqProofs only [go_sem, Nat.reduceBEq, Nat.reduceAdd, Nat.reduceLeDiff, Nat.reduceMul, Int.reduceLE, Int.reduceLT, Int.reduceBEq]) ?_
    refine midK (q := (⟨op, ⟨#[]⟩, x2, ⟨0, x3, x4, []⟩, []⟩, r4)) (v := .raw (.slice none 0 0)) (w := .raw (.slice none 0 0)) (mid_self (hq.trans hA)) (by simp -dsimp -implicitDefEqProofs only [go_sem, Nat.reduceBEq, Nat.reduceAdd, Nat.reduceLeDiff, Nat.reduceMul, Int.reduceLE, Int.reduceLT, Int.reduceBEq, c0, c0', c1, c1', b0, b0', rb4, zCfg]) Own.nil Own.nil (.inr ⟨_, rfl⟩) ⟨by simp -dsimp -implicitDefEqProofs only [go_sem, Nat.reduceBEq, Nat.reduceAdd, Nat.reduceLeDiff, Nat.reduceMul, Int.reduceLE, Int.reduceLT, Int.reduceBEq, c0, c0', c1, c1', b0, b0', hr4.1], hr4.2⟩ (by simp only [hn_set]; omega) (by simp -dsimp -implicitDefEqProofs only [go_sem, Nat.reduceBEq, Nat.reduceAdd, Nat.reduceLeDiff, Nat.reduceMul, Int.reduceLE, Int.reduceLT, Int.reduceBEq, c0, c0', c1, c1', b0, b0', ra4]) (fun x hx => ?_)
    have e0 : (x == hn g1 .mk) = false := by simp; omega
    simp -dsimp -implicitDefEqProofs only [go_sem, Nat.reduceBEq, Nat.reduceAdd, Nat.reduceLeDiff, Nat.reduceMul, Int.reduceLE, Int.reduceLT, Int.reduceBEq, e0, fr4 x hx]
  repeat (first | rw [kz_o] | rw [kz_r0] | simp -dsimp -implicitDefEqProofs only [go_sem, Nat.reduceBEq, Nat.reduceAdd, Nat.reduceLeDiff, Nat.reduceMul, Int.reduceLE, Int.reduceLT, Int.reduceBEq, c_block, p1, p2, c0, c0', c1, c1'])
  refine gz_dec (fun p5 => ?_) (fun p5 => ?_)
  · repeat (first | rw [kz_o] | rw [kz_r0] | simp -dsimp -implicitDefEqProofs only [go_sem, Nat.reduceBEq, Nat.reduceAdd, Nat.reduceLeDiff, Nat.reduceMul, Int.reduceLE, Int.reduceLT, Int.reduceBEq, c_block, p1, p2, p5, c0, c0', c1, c1'])
    refine wz_intro (specOne_ok hs (b := hn g .mk + 1) (r := r1) ⟨by simp -dsimp -implicitDefEqProofs only [go_sem, Nat.reduceBEq, Nat.reduceAdd, Nat.reduceLeDiff, Nat.reduceMul, Int.reduceLE, Int.reduceLT, Int.reduceBEq, c0, c0', c1, c1', b0, b0', hr1.1], hr1.2⟩) ?_
    rintro _ g2 ⟨rfl, hr2, on2⟩
    have nn2 := on2.1
    simp only [hn_push, hn_set, hn_up] at nn2
    have ra2 := on2.2 (hn g .mk) (by simp only [hn_push, hn_set, hn_up]; omega) (by omega)
    have rb2 := on2.2 (hn g1 .mk) (by simp only [hn_push, hn_set, hn_up]; omega) (by omega)
    have fr2 : ∀ x, x < hn g .mk → hg g2 x .mk = hg g x .mk := fun x hx => (on2.2 x (by simp only [hn_push, hn_set, hn_up]; omega) (by omega)).trans (by
      have e0 : (x == hn g1 .mk) = false := by simp; omega
      simp -dsimp -implicitDefEqProofs only [go_sem, Nat.reduceBEq, Nat.reduceAdd, Nat.reduceLeDiff, Nat.reduceMul, Int.reduceLE, Int.reduceLT, Int.reduceBEq, e0, fr1 x hx])
    simp -dsimp -implicitDefEqProofs only [go_sem, Nat.reduceBEq, Nat.reduceAdd, Nat.reduceLeDiff, Nat.reduceMul, Int.reduceLE, Int.reduceLT, Int.reduceBEq, c0, c0', c1, c1', b0, b0', ra1] at ra2 rb2
    clear on2
    generalize hp2 : oneP s r1 = q2 at *
    obtain ⟨x2, r2⟩ := q2
    simp only at hr2 rb2 ra2
    repeat (first | rw [kz_o] | rw [kz_r0] | simp -dsimp -implicitDefEqProofs only [go_sem, Nat.reduceBEq, Nat.reduceAdd, Nat.reduceLeDiff, Nat.reduceMul, Int.reduceLE, Int.reduceLT, Int.reduceBEq, c_block, c0, c0', c1, c1', b0, b0', ra2, rb2])
    have h5 := oneP_range (s := s) (r := r1)
    rw [hp2] at h5
    obtain ⟨n, hx5⟩ := Int.eq_ofNat_of_zero_le h5.1
    simp only at hx5
    subst hx5
    have hn255 : n ≤ 255 := by have := h5.2; simp only at this; omega
    have hA : askP s op r1 = (⟨op, ⟨#[]⟩, 0, zCfg, (ones s n r2).1⟩, (ones s n r2).2) := by
      simp only [askP, if_neg p1, if_neg p2, if_pos p5, hp2, Int.toNat_natCast]
    refine lz_join 3 [0, 2, 4, 5, 8] (fun m e h' => ∃ (k : Nat) (v : X), k ≤ n ∧ m + k = n ∧ look e 9 .mk = .raw (.int .i64 k) ∧ RdAt h' (hn g .mk + 1) s (ones s k r2).2 ∧ OwnI (hn g1 .mk + 1) h' v (ones s k r2).1 ∧ hg h' (hn g .mk) .mk = hg g2 (hn g .mk) .mk ∧
        hg h' (hn g1 .mk) .mk = some ⟨8, [.raw (.int .i64 op), .raw (.string ⟨#[]⟩), .raw (.int .i64 0), .raw (.int .i64 0), .raw (.int .i64 0), .raw (.int .i64 0), .raw (.slice none 0 0), v]⟩ ∧ hn g1 .mk + 1 ≤ hn h' .mk ∧ ∀ x, x < hn g .mk → hg h' x .mk = hg g x .mk)
      (fun e h' => MidK s g (hn g1 .mk) h') n ?_ ?_ ?_
    · refine ⟨0, .raw (.slice none 0 0), by omega, by omega, by simp -dsimp -implicitDefEqProofs only [go_sem, Nat.reduceBEq, Nat.reduceAdd, Nat.reduceLeDiff, Nat.reduceMul, Int.reduceLE, Int.reduceLT, Int.reduceBEq], ⟨by simp -dsimp -implicitDefEqProofs only [go_sem, Nat.reduceBEq, Nat.reduceAdd, Nat.reduceLeDiff, Nat.reduceMul, Int.reduceLE, Int.reduceLT, Int.reduceBEq, c0, c0', c1, c1', b0, b0', hr2.1, ones], hr2.2⟩, Own.nil, by first | rfl | simp -dsimp -implicitDefEqProofs only [go_sem, Nat.reduceBEq, Nat.reduceAdd, Nat.reduceLeDiff, Nat.reduceMul, Int.reduceLE, Int.reduceLT, Int.reduceBEq, c0, c0', c1, c1', b0, b0'], by simp -dsimp -implicitDefEqProofs only [go_sem, Nat.reduceBEq, Nat.reduceAdd, Nat.reduceLeDiff, Nat.reduceMul, Int.reduceLE, Int.reduceLT, Int.reduceBEq, c0, c0', c1, c1', b0, b0', rb2], by (try simp only [hn_set]); omega, fun x hx => ?_⟩
      have e0 : (x == hn g1 .mk) = false := by simp; omega
      simp -dsimp -implicitDefEqProofs only [go_sem, Nat.reduceBEq, Nat.reduceAdd, Nat.reduceLeDiff, Nat.reduceMul, Int.reduceLE, Int.reduceLT, Int.reduceBEq, e0, fr2 x hx]
    · rintro m e h' hks ⟨k, v, hkn, hk, e31, hr, ov, ha, hbr, hN, hfr⟩
      simp -dsimp -implicitDefEqProofs only [go_sem, Nat.reduceBEq, Nat.reduceAdd, Nat.reduceLeDiff, Nat.reduceMul, Int.reduceLE, Int.reduceLT, Int.reduceBEq] at hks
      rw [ra2] at ha
      have hrr := hr.1
      simp only [rdCells_def] at hrr
      have hce := own_cell ov
      have hmid : (k = n ∨ 21 ≤ k ∨ (ones s k r2).2.bad = true) → MidK s g (hn g1 .mk) h' := fun h => midK (q := (⟨op, ⟨#[]⟩, 0, zCfg, (ones s k r2).1⟩, (ones s k r2).2)) (mid_picks p5 (hq.trans hA) hkn hn255 h) hbr Own.nil ov (.inl ⟨_, rfl⟩) hr hN ha hfr
      repeat (first | rw [kz_o] | rw [kz_r0] | simp -dsimp -implicitDefEqProofs only [go_sem, Nat.reduceBEq, Nat.reduceAdd, Nat.reduceLeDiff, Nat.reduceMul, Int.reduceLE, Int.reduceLT, Int.reduceBEq, c_block, hks, e31])
      refine gz_dec (fun h2 => ?_) (fun h2 => ?_)
      rotate_left
      · repeat (first | rw [kz_o] | rw [kz_r0] | simp -dsimp -implicitDefEqProofs only [go_sem, Nat.reduceBEq, Nat.reduceAdd, Nat.reduceLeDiff, Nat.reduceMul, Int.reduceLE, Int.reduceLT, Int.reduceBEq, c_block, hks, e31, h2])
        exact out_keep (by simp -dsimp -implicitDefEqProofs only [go_sem, Nat.reduceBEq, Nat.reduceAdd, Nat.reduceLeDiff, Nat.reduceMul, Int.reduceLE, Int.reduceLT, Int.reduceBEq, hks]) (hmid (.inl (by omega)))
      repeat (first | rw [kz_o] | rw [kz_r0] | simp -dsimp -implicitDefEqProofs only [go_sem, Nat.reduceBEq, Nat.reduceAdd, Nat.reduceLeDiff, Nat.reduceMul, Int.reduceLE, Int.reduceLT, Int.reduceBEq, c_block, hks, e31, h2])
      refine gz_dec (fun h3 => ?_) (fun h3 => ?_)
      rotate_left
      · repeat (first | rw [kz_o] | rw [kz_r0] | simp -dsimp -implicitDefEqProofs only [go_sem, Nat.reduceBEq, Nat.reduceAdd, Nat.reduceLeDiff, Nat.reduceMul, Int.reduceLE, Int.reduceLT, Int.reduceBEq, c_block, hks, e31, h2, h3])
        exact out_keep (by simp -dsimp -implicitDefEqProofs only [go_sem, Nat.reduceBEq, Nat.reduceAdd, Nat.reduceLeDiff, Nat.reduceMul, Int.reduceLE, Int.reduceLT, Int.reduceBEq, hks]) (hmid (.inr (.inl (by omega))))
      repeat (first | rw [kz_o] | rw [kz_r0] | simp -dsimp -implicitDefEqProofs only [go_sem, Nat.reduceBEq, Nat.reduceAdd, Nat.reduceLeDiff, Nat.reduceMul, Int.reduceLE, Int.reduceLT, Int.reduceBEq, c_block, hks, e31, hrr, h2, h3])
      cases hbad : (ones s k r2).2.bad
      rotate_left
      · rw [hbad] at hrr
        repeat (first | rw [kz_o] | rw [kz_r0] | simp -dsimp -implicitDefEqProofs only [go_sem, Nat.reduceBEq, Nat.reduceAdd, Nat.reduceLeDiff, Nat.reduceMul, Int.reduceLE, Int.reduceLT, Int.reduceBEq, c_block, hks, e31, hrr, hbad, h2, h3])
        exact out_keep (by simp -dsimp -implicitDefEqProofs only [go_sem, Nat.reduceBEq, Nat.reduceAdd, Nat.reduceLeDiff, Nat.reduceMul, Int.reduceLE, Int.reduceLT, Int.reduceBEq, hks]) (hmid (.inr (.inr hbad)))
      repeat (first | rw [kz_o] | rw [kz_r0] | simp -dsimp -implicitDefEqProofs only [go_sem, Nat.reduceBEq, Nat.reduceAdd, Nat.reduceLeDiff, Nat.reduceMul, Int.reduceLE, Int.reduceLT, Int.reduceBEq, c_block, hks, e31, hrr, hbad, h2, h3])
      refine dq_intro [(0, []), (1, []), (2, []), (3, [1]), (4, [1]), (5, []), (6, []), (7, [])] (by kernel_rfl) ?_
      repeat (first | rw [kz_o] | rw [kz_r0] | simp -dsimp -implicitDefEqProofs only [go_sem, Nat.reduceBEq, Nat.reduceAdd, Nat.reduceLeDiff, Nat.reduceMul, Int.reduceLE, Int.reduceLT, Int.reduceBEq, hks, e31, hbr])
      refine wz_intro (specOne_ok hs hr) ?_
      rintro _ gx ⟨rfl, hrx, onx⟩
      have rbx := onx.2 (hn g1 .mk) (by omega) (by omega)
      have rax := onx.2 (hn g .mk) (by omega) (by omega)
      rw [hbr] at rbx
      rw [ha] at rax
      have nnx := onx.1
      have frx : ∀ x, x < hn g .mk → hg gx x .mk = hg g x .mk := fun x hx => (onx.2 x (by omega) (by omega)).trans (hfr x hx)
      have ovx : OwnI (hn g1 .mk + 1) gx v (ones s k r2).1 := own_frame ov nnx fun x h1 h2 => onx.2 x h2 (by omega)
      rw [kz_r]
      refine ⟨by simp -dsimp -implicitDefEqProofs only [go_sem, Nat.reduceBEq, Nat.reduceAdd, Nat.reduceLeDiff, Nat.reduceMul, Int.reduceLE, Int.reduceLT, Int.reduceBEq, hks, e31, rbx], ?_⟩
      repeat (first | rw [kz_o] | rw [kz_r0] | simp -dsimp -implicitDefEqProofs only [go_sem, Nat.reduceBEq, Nat.reduceAdd, Nat.reduceLeDiff, Nat.reduceMul, Int.reduceLE, Int.reduceLT, Int.reduceBEq, hks, e31, rbx])
      refine append_int (D := fun _ => none) (N := hn g1 .mk + 1) Go.Ai.ty_el27 Go.Ai.ty_zr3 Go.Ai.ty_cl27 (ovx.keep (le_up1 (H2.le.refl _))) (by simp only [hn_up]; omega) (by rw [ones_len]; have : Go.Ai.most = 1099511627776 := rfl; omega) ?_
      intro v' g7 o7 nn7 _ hk7
      simp only [hn_up] at nn7
      have rb7 := hk7 (hn g1 .mk) (by simp only [hn_up]; omega) (own_ne ov (by omega))
      have ra7 := hk7 (hn g .mk) (by simp only [hn_up]; omega) (own_ne ov (by omega))
      have rr7 := hk7 (hn g .mk + 1) (by simp only [hn_up]; omega) (own_ne ov (by omega))
      rw [hg_up, rbx] at rb7
      rw [hg_up, rax] at ra7
      rw [hg_up, hrx.1] at rr7
      have hce7 := own_cell o7
      try rw [kz_r]
      try refine ⟨by simp -dsimp -implicitDefEqProofs only [go_sem, Nat.reduceBEq, Nat.reduceAdd, Nat.reduceLeDiff, Nat.reduceMul, Int.reduceLE, Int.reduceLT, Int.reduceBEq, hks, e31, rb7], ?_⟩
      repeat (first | rw [kz_o] | rw [kz_r0] | simp -dsimp -implicitDefEqProofs only [go_sem, Nat.reduceBEq, Nat.reduceAdd, Nat.reduceLeDiff, Nat.reduceMul, Int.reduceLE, Int.reduceLT, Int.reduceBEq, c_block, hks, e31, rb7, hce7, wrap_succ (show k < n by omega) (by omega)])
      refine nx_keep (m - 1) (by omega) (by simp -dsimp -implicitDefEqProofs only [go_sem, Nat.reduceBEq, Nat.reduceAdd, Nat.reduceLeDiff, Nat.reduceMul, Int.reduceLE, Int.reduceLT, Int.reduceBEq, hks]) ⟨k + 1, v', by omega, by omega, by simp -dsimp -implicitDefEqProofs only [go_sem, Nat.reduceBEq, Nat.reduceAdd, Nat.reduceLeDiff, Nat.reduceMul, Int.reduceLE, Int.reduceLT, Int.reduceBEq], ⟨by simp -dsimp -implicitDefEqProofs only [go_sem, Nat.reduceBEq, Nat.reduceAdd, Nat.reduceLeDiff, Nat.reduceMul, Int.reduceLE, Int.reduceLT, Int.reduceBEq, c1']; exact rr7, hrx.2⟩, ?_, by simp -dsimp -implicitDefEqProofs only [go_sem, Nat.reduceBEq, Nat.reduceAdd, Nat.reduceLeDiff, Nat.reduceMul, Int.reduceLE, Int.reduceLT, Int.reduceBEq, c0', ra2]; exact ra7, by simp -dsimp -implicitDefEqProofs only [go_sem, Nat.reduceBEq, Nat.reduceAdd, Nat.reduceLeDiff, Nat.reduceMul, Int.reduceLE, Int.reduceLT, Int.reduceBEq], by simp only [hn_set]; omega, fun x hx => ?_⟩
      · exact own_frame o7 (by simp only [hn_set]; omega) fun x h1 h2 => by rw [hg_set, show (x == hn g1 .mk) = false by simp; omega]; rfl
      · have e1 : (x == hn g1 .mk) = false := by simp; omega
        simp -dsimp -implicitDefEqProofs only [go_sem, Nat.reduceBEq, Nat.reduceAdd, Nat.reduceLeDiff, Nat.reduceMul, Int.reduceLE, Int.reduceLT, Int.reduceBEq, e1]
        exact (hk7 x (by simp only [hn_up]; omega) (own_ne ov (by omega))).trans (frx x hx)
    · rintro e g9 hks hj
      simp -dsimp -implicitDefEqProofs only [go_sem, Nat.reduceBEq, Nat.reduceAdd, Nat.reduceLeDiff, Nat.reduceMul, Int.reduceLE, Int.reduceLT, Int.reduceBEq] at hks
      repeat (first | rw [kz_o] | rw [kz_r0] | simp -dsimp -implicitDefEqProofs only [go_sem, Nat.reduceBEq, Nat.reduceAdd, Nat.reduceLeDiff, Nat.reduceMul, Int.reduceLE, Int.reduceLT, Int.reduceBEq, c_block, hks])
      exact jz_keep (by simp -dsimp -implicitDefEqProofs only [go_sem, Nat.reduceBEq, Nat.reduceAdd, Nat.reduceLeDiff, Nat.reduceMul, Int.reduceLE, Int.reduceLT, Int.reduceBEq, hks]) hj
  repeat (first | rw [kz_o] | rw [kz_r0] | simp -dsimp -implicitDefEqProofs only [go_sem, Nat.reduceBEq, Nat.reduceAdd, Nat.reduceLeDiff, Nat.reduceMul, Int.reduceLE, Int.reduceLT, Int.reduceBEq, c_block, p1, p2, p5, c0, c0', c1, c1'])
  refine wz_intro (specOne_ok hs (b := hn g .mk + 1) (r := r1) ⟨by simp -dsimp -implicitDefEqProofs only [go_sem, Nat.reduceBEq, Nat.reduceAdd, Nat.reduceLeDiff, Nat.reduceMul, Int.reduceLE, Int.reduceLT, Int.reduceBEq, c0, c0', c1, c1', b0, b0', hr1.1], hr1.2⟩) ?_
  rintro _ g2 ⟨rfl, hr2, on2⟩
  have nn2 := on2.1
  simp only [hn_push, hn_set, hn_up] at nn2
  have ra2 := on2.2 (hn g .mk) (by simp only [hn_push, hn_set, hn_up]; omega) (by omega)
  have rb2 := on2.2 (hn g1 .mk) (by simp only [hn_push, hn_set, hn_up]; omega) (by omega)
  have fr2 : ∀ x, x < hn g .mk → hg g2 x .mk = hg g x .mk := fun x hx => (on2.2 x (by simp only [hn_push, hn_set, hn_up]; omega) (by omega)).trans (by
    have e0 : (x == hn g1 .mk) = false := by simp; omega
    simp -dsimp -implicitDefEqProofs only [go_sem, Nat.reduceBEq, Nat.reduceAdd, Nat.reduceLeDiff, Nat.reduceMul, Int.reduceLE, Int.reduceLT, Int.reduceBEq, e0, fr1 x hx])
  simp -dsimp -implicitDefEqProofs only [go_sem, Nat.reduceBEq, Nat.reduceAdd, Nat.reduceLeDiff, Nat.reduceMul, Int.reduceLE, Int.reduceLT, Int.reduceBEq, c0, c0', c1, c1', b0, b0', ra1] at ra2 rb2
  clear on2
  generalize hp2 : oneP s r1 = q2 at *
  obtain ⟨x2, r2⟩ := q2
  simp only at hr2 rb2 ra2
  repeat (first | rw [kz_o] | rw [kz_r0] | simp -dsimp -implicitDefEqProofs only [go_sem, Nat.reduceBEq, Nat.reduceAdd, Nat.reduceLeDiff, Nat.reduceMul, Int.reduceLE, Int.reduceLT, Int.reduceBEq, c_block, c0, c0', c1, c1', b0, b0', ra2, rb2])
  have hA : askP s op r1 = (⟨op, ⟨#[]⟩, x2, zCfg, []⟩, r2) := by
    simp only [askP, if_neg p1, if_neg p2, if_neg p5, hp2]
  refine jz_keep (by simp -dsimp -implicitDefEqProofs only [go_sem, Nat.reduceBEq, Nat.reduceAdd, Nat.reduceLeDiff, Nat.reduceMul, Int.reduceLE, Int.reduceLT, Int.reduceBEq]) ?_
  refine midK (q := (⟨op, ⟨#[]⟩, x2, zCfg, []⟩, r2)) (v := .raw (.slice none 0 0)) (w := .raw (.slice none 0 0)) (mid_self (hq.trans hA)) (by simp -dsimp -implicitDefEqProofs only [go_sem, Nat.reduceBEq, Nat.reduceAdd, Nat.reduceLeDiff, Nat.reduceMul, Int.reduceLE, Int.reduceLT, Int.reduceBEq, c0, c0', c1, c1', b0, b0', rb2, zCfg]) Own.nil Own.nil (.inr ⟨_, rfl⟩) ⟨by simp -dsimp -implicitDefEqProofs only [go_sem, Nat.reduceBEq, Nat.reduceAdd, Nat.reduceLeDiff, Nat.reduceMul, Int.reduceLE, Int.reduceLT, Int.reduceBEq, c0, c0', c1, c1', b0, b0', hr2.1], hr2.2⟩ (by simp only [hn_set]; omega) (by simp -dsimp -implicitDefEqProofs only [go_sem, Nat.reduceBEq, Nat.reduceAdd, Nat.reduceLeDiff, Nat.reduceMul, Int.reduceLE, Int.reduceLT, Int.reduceBEq, c0, c0', c1, c1', b0, b0', ra2]) (fun x hx => ?_)
  have e0 : (x == hn g1 .mk) = false := by simp; omega
  simp -dsimp -implicitDefEqProofs only [go_sem, Nat.reduceBEq, Nat.reduceAdd, Nat.reduceLeDiff, Nat.reduceMul, Int.reduceLE, Int.reduceLT, Int.reduceBEq, e0, fr2 x hx]
theorem readAsk_fit {s : ByteArray} : fitAsk (readAsk s).1 ∧ (readAsk s).1.config.stops.length ≤ 255 ∧ (readAsk s).1.picks.length ≤ 255 := by
  unfold readAsk
  split
  · exact fit_ask
  · exact ⟨⟨Nat.zero_le _, ⟨Nat.zero_le _, fun t ht => by cases ht⟩, Nat.zero_le _⟩, Nat.zero_le _, Nat.zero_le _⟩
end Go.Bi
