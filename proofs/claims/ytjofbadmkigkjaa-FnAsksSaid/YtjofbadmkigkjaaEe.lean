/- What an ask is read as; the walk of the program's reader behind an op. -/
import Derived.Test.YtjofbadmkigkjaaEd
set_option linter.unusedSimpArgs false
set_option linter.unusedVariables false
set_option maxRecDepth 20000
namespace Go.Bi
open Go.Proofs
open Go.Ai (wrap_i64 wrap_u64 wrap_u8 Heap)
variable {W0 : World} {P : Program}
def shorts (s : ByteArray) : Nat → Rd → List ByteArray × Rd
  | 0, r => ([], r)
  | k + 1, r => ((shorts s k r).1 ++ [(shortP s (shorts s k r).2).1], (shortP s (shorts s k r).2).2)
def ones (s : ByteArray) : Nat → Rd → List Int × Rd
  | 0, r => ([], r)
  | k + 1, r => ((ones s k r).1 ++ [(oneP s (ones s k r).2).1], (oneP s (ones s k r).2).2)
theorem oneP_range {s : ByteArray} {r : Rd} : 0 ≤ (oneP s r).1 ∧ (oneP s r).1 ≤ 255 := by
  unfold oneP; split
  · exact ⟨by simp, by simp⟩
  · have := ((lst s).getD r.p 0).toNat_lt
    simp only; omega
theorem shorts_len {s : ByteArray} {r : Rd} : ∀ {k : Nat}, (shorts s k r).1.length = k
  | 0 => rfl
  | k + 1 => by simp [shorts, shorts_len]
theorem ones_len {s : ByteArray} {r : Rd} : ∀ {k : Nat}, (ones s k r).1.length = k
  | 0 => rfl
  | k + 1 => by simp [ones, ones_len]
def zCfg : LConfig := ⟨0, 0, 0, []⟩
def ask1P (s : ByteArray) (r : Rd) : ByteArray × Int × Int × Int × Int × Rd :=
  let a := shortP s r
  let b := oneP s a.2
  let c := numP s b.2
  let d := oneP s c.2
  let e := oneP s d.2
  (a.1, b.1, c.1, d.1, e.1, e.2)
def ask2P (s : ByteArray) (r : Rd) : Int × Int × Int × Rd :=
  let a := oneP s r
  let b := numP s a.2
  let c := oneP s b.2
  (a.1, b.1, c.1, c.2)
def askP (s : ByteArray) (op : Int) (r : Rd) : LAsk × Rd :=
  if op = 1 then
    let q := ask1P s r
    let l := shorts s q.2.2.2.2.1.toNat q.2.2.2.2.2
    (⟨op, q.1, 0, ⟨q.2.1, q.2.2.1, q.2.2.2.1, l.1⟩, []⟩, l.2)
  else if op = 2 then
    let q := ask2P s r
    (⟨op, ⟨#[]⟩, q.1, ⟨0, q.2.1, q.2.2.1, []⟩, []⟩, q.2.2.2)
  else if op = 5 then
    let l := ones s (oneP s r).1.toNat (oneP s r).2
    (⟨op, ⟨#[]⟩, 0, zCfg, l.1⟩, l.2)
  else (⟨op, ⟨#[]⟩, (oneP s r).1, zCfg, []⟩, (oneP s r).2)
theorem Only.row {g g' : H2} {b c : Nat} {k : OB} (o : Only g g' b) (hc : c < hn g .mk) (hne : c ≠ b) (hk : hg g c .mk = some k) : hg g' c .mk = some k := (o.2 c hc hne).trans hk
theorem append_str {D : Nat → Option (List Nat)} {g : H2} {K : KT} {t u U y N : Nat} {xs : List ByteArray} {x : X} {f : Adr} {s : ByteArray} (he : Go.Ai.elt? P t = some (U, 1, y)) (hz : Go.Ai.zr? P U = some [.string ⟨#[]⟩]) (hu : Go.Ai.cls? P u = some .sl)
    (hx : OwnS N g x xs) (hN0 : N ≤ hn g .mk) (hn0 : (xs.length + 1) * (y + 1) ≤ Go.Ai.most)
    (hk : ∀ v' g', OwnS N g' v' (xs ++ [s]) → hn g .mk ≤ hn g' .mk → (∀ g0 : H2, hn g0 .mk ≤ N → g0.le g → g0.le g') → (∀ c, c < hn g .mk → blockOf x ≠ some c → hg g' c .mk = hg g c .mk) → kz K v' g' .mk) :
    az (biz P g .append [t, u] [x, .sl f 1 [[.v (.string s)]]] .mk) K .mk := by
  refine append_own (z := 0) (m := 1) (news := [cS s]) (N := N) he hz rfl hu hx hN0 rfl rfl rfl hn0 ?_
  intro v' g' o
  refine hk v' g' ?_
  unfold OwnS
  rw [List.map_append, List.length_append]
  exact o
theorem append_int {D : Nat → Option (List Nat)} {g : H2} {K : KT} {t u U y N : Nat} {xs : List Int} {x : X} {f : Adr} {s : Int} (he : Go.Ai.elt? P t = some (U, 1, y)) (hz : Go.Ai.zr? P U = some [.int .i64 0]) (hu : Go.Ai.cls? P u = some .sl)
    (hx : OwnI N g x xs) (hN0 : N ≤ hn g .mk) (hn0 : (xs.length + 1) * (y + 1) ≤ Go.Ai.most)
    (hk : ∀ v' g', OwnI N g' v' (xs ++ [s]) → hn g .mk ≤ hn g' .mk → (∀ g0 : H2, hn g0 .mk ≤ N → g0.le g → g0.le g') → (∀ c, c < hn g .mk → blockOf x ≠ some c → hg g' c .mk = hg g c .mk) → kz K v' g' .mk) :
    az (biz P g .append [t, u] [x, .sl f 1 [[.v (.int .i64 s)]]] .mk) K .mk := by
  refine append_own (z := 0) (m := 1) (news := [cI s]) (N := N) he hz rfl hu hx hN0 rfl rfl rfl hn0 ?_
  intro v' g' o
  refine hk v' g' ?_
  unfold OwnI
  rw [List.map_append, List.length_append]
  exact o
theorem own_ne {N z n c : Nat} {g : H2} {v : X} {cs : List X} (o : Own N g v z n cs) (hc : c < N) : blockOf v ≠ some c := by
  obtain ⟨_, h⟩ := o
  rcases h with ⟨rfl, _⟩ | ⟨b, rfl, h1, _⟩
  · intro e; cases e
  · intro e; simp only [blockOf, Option.some.injEq] at e; omega
theorem own_cell {N z n : Nat} {g : H2} {v : X} {cs : List X} (o : Own N g v z n cs) : cellsX v = some [v] ∧ okX v = true ∧ isTpX v = false := by
  obtain ⟨_, h⟩ := o
  rcases h with ⟨rfl, _⟩ | ⟨b, rfl, _⟩ <;> exact ⟨rfl, rfl, rfl⟩
theorem own_frame {N z n : Nat} {g g' : H2} {v : X} {cs : List X} (o : Own N g v z n cs) (hn' : hn g .mk ≤ hn g' .mk) (hk : ∀ c, N ≤ c → c < hn g .mk → hg g' c .mk = hg g c .mk) : Own N g' v z n cs := by
  obtain ⟨h0, h⟩ := o
  refine ⟨h0, h.imp_right ?_⟩
  rintro ⟨b, e1, e2, e3, e4⟩
  exact ⟨b, e1, e2, Nat.lt_of_lt_of_le e3 hn', by rw [hk b e2 e3]; exact e4⟩
theorem OT.nil_bs {g : H2} {bs : List Nat} {n k : Nat} {t : T} (o : OT g bs (.raw (.slice none n k)) t) : bs = [] := by
  generalize hx : X.raw (.slice none n k) = x at o
  cases o with
  | raw => rfl
  | nil => rfl
  | row => cases hx
/-- What the reader hands back: an ask as a tree of its own; the reader's row is as told. -/
def AskK (g : H2) (b : Nat) (s : ByteArray) (q : LAsk × Rd) (x : X) (g' : H2) : Prop :=
  (∃ ys bs, x = .st ys ∧ OTs g' bs ys (eAsk q.1) ∧ Bl (hn g .mk) (hn g' .mk) bs) ∧ RdAt g' b s q.2 ∧ Only g g' b
theorem askK {g g' : H2} {b : Nat} {s : ByteArray} {q : LAsk × Rd} {v w : X} {N M : Nat} (hN : hn g .mk ≤ N) (hNM : N ≤ M) (hM : M ≤ hn g' .mk)
    (ov : OwnS N g' v q.1.config.stops) (ow : OwnI N g' w q.1.picks) (hvw : (∃ k, v = .raw (.slice none 0 k)) ∨ (∃ k, w = .raw (.slice none 0 k))) (hr : RdAt g' b s q.2) (ho : Only g g' b) :
    AskK g b s q (.st [.raw (.int .i64 q.1.op), .raw (.string q.1.text), .raw (.int .i64 q.1.pos), .raw (.int .i64 q.1.config.top), .raw (.int .i64 q.1.config.seed), .raw (.int .i64 q.1.config.new), v, w]) g' := by
  obtain ⟨bv, tv, lv⟩ := ov.tree
  obtain ⟨bw, tw, lw⟩ := ow.tree
  refine ⟨⟨_, bv ++ bw, rfl, outAsk (c := q.1) tv tw, ?_⟩, hr, ho⟩
  have : bv = [] ∨ bw = [] := by
    rcases hvw with ⟨k, rfl⟩ | ⟨k, rfl⟩
    · left; exact tv.nil_bs
    · right; exact tw.nil_bs
  rcases this with rfl | rfl
  · exact (by simpa using lw.wide hN (Nat.le_refl _))
  · exact (by simpa using lv.wide hN (Nat.le_refl _))
set_option maxHeartbeats 4000000 in
theorem implAsk_ok {s : ByteArray} {op : Int} {r0 : Rd} {b : Nat} {g : H2} (hs : s.size ≤ 4611686018427387904) (hr0 : RdAt g b s r0) (hb : b < hn g .mk) : WC2 Try.prog W0 44 [.raw (.pointer (some ⟨b, 0, none⟩)), .raw (.int .i64 op)] g (AskK g b s (askP s op r0)) := by
  have bn0 : (b == hn g .mk) = false := by simp; omega
  have bn1 : (b == hn g .mk + 1) = false := by simp; omega
  have bn2 : (hn g .mk == b) = false := by simp; omega
  have bn3 : (hn g .mk + 1 == b) = false := by simp; omega
  refine start (P := Try.prog) [[0, 1], [0, 1, 4], [0, 1, 4, 5], [0, 4, 5], [0, 4, 5, 8], [0, 4, 5], [0, 4, 5], [0, 4, 5], [0, 4, 5], [0, 4, 5], [0, 4, 5, 30, 31], [0, 4, 5, 30, 31], [0, 4, 5, 30, 31], [0, 4, 5, 8], [0, 4, 5], [0, 4, 5], [0, 4, 5], [0, 4, 5, 8], [0, 4, 5], [0, 4, 5, 59, 60], [0, 4, 5, 59, 60], [0, 4, 5, 59, 60], [4, 5]] (by kernel_rfl) Try.func44 rfl (by decide) (by decide +kernel) (rs := [.cell 4 29]) rfl rfl (Nat.le_of_ble_eq_true rfl) ?_
  intro wf
  repeat (first | rw [kz_o] | rw [kz_r0] | simp -dsimp -implicitDefEqProofs only [go_sem, Nat.reduceBEq, Nat.reduceAdd, Nat.reduceLeDiff, Nat.reduceMul, Int.reduceLE, Int.reduceLT, Int.reduceBEq])
  refine gz_dec (fun p1 => ?_) (fun p1 => ?_)
  · repeat (first | rw [kz_o] | rw [kz_r0] | simp -dsimp -implicitDefEqProofs only [go_sem, Nat.reduceBEq, Nat.reduceAdd, Nat.reduceLeDiff, Nat.reduceMul, Int.reduceLE, Int.reduceLT, Int.reduceBEq, p1])
    refine wz_intro (implShort_ok hs (r := r0) ⟨by simp -dsimp -implicitDefEqProofs only [go_sem, Nat.reduceBEq, Nat.reduceAdd, Nat.reduceLeDiff, Nat.reduceMul, Int.reduceLE, Int.reduceLT, Int.reduceBEq, bn0, bn1, bn2, bn3, hr0.1], hr0.2⟩) ?_
    rintro _ g1 ⟨rfl, hr1, on1⟩
    have nn1 := on1.1
    simp only [hn_push, hn_set, hn_up] at nn1
    have ra1 := on1.2 (hn g .mk) (by simp only [hn_push, hn_set, hn_up]; omega) (by omega)
    have rb1 := on1.2 (hn g .mk + 1) (by simp only [hn_push, hn_set, hn_up]; omega) (by omega)
    have fr1 : ∀ c, c < hn g .mk → c ≠ b → hg g1 c .mk = hg g c .mk := fun c hc hb => (on1.2 c (by simp only [hn_push, hn_set, hn_up]; omega) hb).trans (by
      have c0 : (c == hn g .mk) = false := by simp; omega
      have c1 : (c == hn g .mk + 1) = false := by simp; omega
      simp -dsimp -implicitDefEqProofs only [go_sem, Nat.reduceBEq, Nat.reduceAdd, Nat.reduceLeDiff, Nat.reduceMul, Int.reduceLE, Int.reduceLT, Int.reduceBEq, c0, c1])
    simp -dsimp -implicitDefEqProofs only [go_sem, Nat.reduceBEq, Nat.reduceAdd, Nat.reduceLeDiff, Nat.reduceMul, Int.reduceLE, Int.reduceLT, Int.reduceBEq, bn0, bn1, bn2, bn3] at ra1 rb1
    clear on1
    generalize hp1 : shortP s r0 = q1 at *
    obtain ⟨x1, r1⟩ := q1
    simp only at hr1 rb1 ra1
    repeat (first | rw [kz_o] | rw [kz_r0] | simp -dsimp -implicitDefEqProofs only [go_sem, Nat.reduceBEq, Nat.reduceAdd, Nat.reduceLeDiff, Nat.reduceMul, Int.reduceLE, Int.reduceLT, Int.reduceBEq, bn0, bn1, bn2, bn3, ra1, rb1])
    refine wz_intro (implOne_ok hs (r := r1) ⟨by simp -dsimp -implicitDefEqProofs only [go_sem, Nat.reduceBEq, Nat.reduceAdd, Nat.reduceLeDiff, Nat.reduceMul, Int.reduceLE, Int.reduceLT, Int.reduceBEq, bn0, bn1, bn2, bn3, hr1.1], hr1.2⟩) ?_
    rintro _ g2 ⟨rfl, hr2, on2⟩
    have nn2 := on2.1
    simp only [hn_push, hn_set, hn_up] at nn2
    have ra2 := on2.2 (hn g .mk) (by simp only [hn_push, hn_set, hn_up]; omega) (by omega)
    have rb2 := on2.2 (hn g .mk + 1) (by simp only [hn_push, hn_set, hn_up]; omega) (by omega)
    have fr2 : ∀ c, c < hn g .mk → c ≠ b → hg g2 c .mk = hg g c .mk := fun c hc hb => (on2.2 c (by simp only [hn_push, hn_set, hn_up]; omega) hb).trans (by
      have c0 : (c == hn g .mk) = false := by simp; omega
      have c1 : (c == hn g .mk + 1) = false := by simp; omega
      simp -dsimp -implicitDefEqProofs only [go_sem, Nat.reduceBEq, Nat.reduceAdd, Nat.reduceLeDiff, Nat.reduceMul, Int.reduceLE, Int.reduceLT, Int.reduceBEq, c0, c1, fr1 c hc hb])
    simp -dsimp -implicitDefEqProofs only [go_sem, Nat.reduceBEq, Nat.reduceAdd, Nat.reduceLeDiff, Nat.reduceMul, Int.reduceLE, Int.reduceLT, Int.reduceBEq, bn0, bn1, bn2, bn3, ra1, rb1] at ra2 rb2
    clear on2
    generalize hp2 : oneP s r1 = q2 at *
    obtain ⟨x2, r2⟩ := q2
    simp only at hr2 rb2 ra2
    repeat (first | rw [kz_o] | rw [kz_r0] | simp -dsimp -implicitDefEqProofs only [go_sem, Nat.reduceBEq, Nat.reduceAdd, Nat.reduceLeDiff, Nat.reduceMul, Int.reduceLE, Int.reduceLT, Int.reduceBEq, bn0, bn1, bn2, bn3, ra2, rb2])
    refine wz_intro (implNum_ok hs (r := r2) ⟨by simp -dsimp -implicitDefEqProofs only [go_sem, Nat.reduceBEq, Nat.reduceAdd, Nat.reduceLeDiff, Nat.reduceMul, Int.reduceLE, Int.reduceLT, Int.reduceBEq, bn0, bn1, bn2, bn3, hr2.1], hr2.2⟩) ?_
    rintro _ g3 ⟨rfl, hr3, on3⟩
    have nn3 := on3.1
    simp only [hn_push, hn_set, hn_up] at nn3
    have ra3 := on3.2 (hn g .mk) (by simp only [hn_push, hn_set, hn_up]; omega) (by omega)
    have rb3 := on3.2 (hn g .mk + 1) (by simp only [hn_push, hn_set, hn_up]; omega) (by omega)
    have fr3 : ∀ c, c < hn g .mk → c ≠ b → hg g3 c .mk = hg g c .mk := fun c hc hb => (on3.2 c (by simp only [hn_push, hn_set, hn_up]; omega) hb).trans (by
      have c0 : (c == hn g .mk) = false := by simp; omega
      have c1 : (c == hn g .mk + 1) = false := by simp; omega
      simp -dsimp -implicitDefEqProofs only [go_sem, Nat.reduceBEq, Nat.reduceAdd, Nat.reduceLeDiff, Nat.reduceMul, Int.reduceLE, Int.reduceLT, Int.reduceBEq, c0, c1, fr2 c hc hb])
    simp -dsimp -implicitDefEqProofs only [go_sem, Nat.reduceBEq, Nat.reduceAdd, Nat.reduceLeDiff, Nat.reduceMul, Int.reduceLE, Int.reduceLT, Int.reduceBEq, bn0, bn1, bn2, bn3, ra2, rb2] at ra3 rb3
    clear on3
    generalize hp3 : numP s r2 = q3 at *
    obtain ⟨x3, r3⟩ := q3
    simp only at hr3 rb3 ra3
    repeat (first | rw [kz_o] | rw [kz_r0] | simp -dsimp -implicitDefEqProofs only [go_sem, Nat.reduceBEq, Nat.reduceAdd, Nat.reduceLeDiff, Nat.reduceMul, Int.reduceLE, Int.reduceLT, Int.reduceBEq, bn0, bn1, bn2, bn3, ra3, rb3])
    refine wz_intro (implOne_ok hs (r := r3) ⟨by simp -dsimp -implicitDefEqProofs only [go_sem, Nat.reduceBEq, Nat.reduceAdd, Nat.reduceLeDiff, Nat.reduceMul, Int.reduceLE, Int.reduceLT, Int.reduceBEq, bn0, bn1, bn2, bn3, hr3.1], hr3.2⟩) ?_
    rintro _ g4 ⟨rfl, hr4, on4⟩
    have nn4 := on4.1
    simp only [hn_push, hn_set, hn_up] at nn4
    have ra4 := on4.2 (hn g .mk) (by simp only [hn_push, hn_set, hn_up]; omega) (by omega)
    have rb4 := on4.2 (hn g .mk + 1) (by simp only [hn_push, hn_set, hn_up]; omega) (by omega)
    have fr4 : ∀ c, c < hn g .mk → c ≠ b → hg g4 c .mk = hg g c .mk := fun c hc hb => (on4.2 c (by simp only [hn_push, hn_set, hn_up]; omega) hb).trans (by
      have c0 : (c == hn g .mk) = false := by simp; omega
      have c1 : (c == hn g .mk + 1) = false := by simp; omega
      simp -dsimp -implicitDefEqProofs only [go_sem, Nat.reduceBEq, Nat.reduceAdd, Nat.reduceLeDiff, Nat.reduceMul, Int.reduceLE, Int.reduceLT, Int.reduceBEq, c0, c1, fr3 c hc hb])
    simp -dsimp -implicitDefEqProofs only [go_sem, Nat.reduceBEq, Nat.reduceAdd, Nat.reduceLeDiff, Nat.reduceMul, Int.reduceLE, Int.reduceLT, Int.reduceBEq, bn0, bn1, bn2, bn3, ra3, rb3] at ra4 rb4
    clear on4
    generalize hp4 : oneP s r3 = q4 at *
    obtain ⟨x4, r4⟩ := q4
    simp only at hr4 rb4 ra4
    repeat (first | rw [kz_o] | rw [kz_r0] | simp -dsimp -implicitDefEqProofs only [go_sem, Nat.reduceBEq, Nat.reduceAdd, Nat.reduceLeDiff, Nat.reduceMul, Int.reduceLE, Int.reduceLT, Int.reduceBEq, bn0, bn1, bn2, bn3, ra4, rb4])
    refine wz_intro (implOne_ok hs (r := r4) ⟨by simp -dsimp -implicitDefEqProofs only [go_sem, Nat.reduceBEq, Nat.reduceAdd, Nat.reduceLeDiff, Nat.reduceMul, Int.reduceLE, Int.reduceLT, Int.reduceBEq, bn0, bn1, bn2, bn3, hr4.1], hr4.2⟩) ?_
    rintro _ g5 ⟨rfl, hr5, on5⟩
    have nn5 := on5.1
    simp only [hn_push, hn_set, hn_up] at nn5
    have ra5 := on5.2 (hn g .mk) (by simp only [hn_push, hn_set, hn_up]; omega) (by omega)
    have rb5 := on5.2 (hn g .mk + 1) (by simp only [hn_push, hn_set, hn_up]; omega) (by omega)
    have fr5 : ∀ c, c < hn g .mk → c ≠ b → hg g5 c .mk = hg g c .mk := fun c hc hb => (on5.2 c (by simp only [hn_push, hn_set, hn_up]; omega) hb).trans (by
      have c0 : (c == hn g .mk) = false := by simp; omega
      have c1 : (c == hn g .mk + 1) = false := by simp; omega
      simp -dsimp -implicitDefEqProofs only [go_sem, Nat.reduceBEq, Nat.reduceAdd, Nat.reduceLeDiff, Nat.reduceMul, Int.reduceLE, Int.reduceLT, Int.reduceBEq, c0, c1, fr4 c hc hb])
    simp -dsimp -implicitDefEqProofs only [go_sem, Nat.reduceBEq, Nat.reduceAdd, Nat.reduceLeDiff, Nat.reduceMul, Int.reduceLE, Int.reduceLT, Int.reduceBEq, bn0, bn1, bn2, bn3, ra4, rb4] at ra5 rb5
    clear on5
    generalize hp5 : oneP s r4 = q5 at *
    obtain ⟨x5, r5⟩ := q5
    simp only at hr5 rb5 ra5
    repeat (first | rw [kz_o] | rw [kz_r0] | simp -dsimp -implicitDefEqProofs only [go_sem, Nat.reduceBEq, Nat.reduceAdd, Nat.reduceLeDiff, Nat.reduceMul, Int.reduceLE, Int.reduceLT, Int.reduceBEq, bn0, bn1, bn2, bn3, ra5, rb5])
    have h5 := oneP_range (s := s) (r := r4)
    rw [hp5] at h5
    obtain ⟨n, hx5⟩ := Int.eq_ofNat_of_zero_le h5.1
    simp only at hx5
    subst hx5
    have hn255 : n ≤ 255 := by have := h5.2; simp only at this; omega
    have hA : askP s op r0 = (⟨op, x1, 0, ⟨x2, x3, x4, (shorts s n r5).1⟩, []⟩, (shorts s n r5).2) := by
      simp only [askP, if_pos p1, ask1P, hp1, hp2, hp3, hp4, hp5, Int.toNat_natCast]
    rw [hA]
    refine lz_keep [0, 4, 5, 30] (fun m e h' => ∃ (k : Nat) (v : X), look e 31 .mk = .raw (.int .i64 k) ∧ m + k = n ∧ RdAt h' b s (shorts s k r5).2 ∧ OwnS (hn g .mk + 2) h' v (shorts s k r5).1 ∧ hg h' (hn g .mk) .mk = hg g5 (hn g .mk) .mk ∧
        hg h' (hn g .mk + 1) .mk = some ⟨8, [.raw (.int .i64 op), .raw (.string x1), .raw (.int .i64 0), .raw (.int .i64 x2), .raw (.int .i64 x3), .raw (.int .i64 x4), v, .raw (.slice none 0 0)]⟩ ∧ hn g .mk + 2 ≤ hn h' .mk ∧ ∀ c, c < hn g .mk → c ≠ b → hg h' c .mk = hg g c .mk) n ?_ ?_
    · refine ⟨0, _, by simp -dsimp -implicitDefEqProofs only [go_sem, Nat.reduceBEq, Nat.reduceAdd, Nat.reduceLeDiff, Nat.reduceMul, Int.reduceLE, Int.reduceLT, Int.reduceBEq], by omega, ⟨by simp -dsimp -implicitDefEqProofs only [go_sem, Nat.reduceBEq, Nat.reduceAdd, Nat.reduceLeDiff, Nat.reduceMul, Int.reduceLE, Int.reduceLT, Int.reduceBEq, bn0, bn1, bn2, bn3, hr5.1, shorts], hr5.2⟩, Own.nil, by simp -dsimp -implicitDefEqProofs only [go_sem, Nat.reduceBEq, Nat.reduceAdd, Nat.reduceLeDiff, Nat.reduceMul, Int.reduceLE, Int.reduceLT, Int.reduceBEq], by simp -dsimp -implicitDefEqProofs only [go_sem, Nat.reduceBEq, Nat.reduceAdd, Nat.reduceLeDiff, Nat.reduceMul, Int.reduceLE, Int.reduceLT, Int.reduceBEq, ra5, rb5, p1], by omega, fun c hc hb' => ?_⟩
      simp -dsimp -implicitDefEqProofs only [go_sem, Nat.reduceBEq, Nat.reduceAdd, Nat.reduceLeDiff, Nat.reduceMul, Int.reduceLE, Int.reduceLT, Int.reduceBEq, fr5 c hc hb']
    · rintro m e h' hks ⟨k, v, e31, hk, hr, ov, ha, hbr, hN, hfr⟩
      simp -dsimp -implicitDefEqProofs only [go_sem, Nat.reduceBEq, Nat.reduceAdd, Nat.reduceLeDiff, Nat.reduceMul, Int.reduceLE, Int.reduceLT, Int.reduceBEq] at hks
      rw [ra5] at ha
      have hce := own_cell ov
      repeat (first | rw [kz_o] | rw [kz_r0] | simp -dsimp -implicitDefEqProofs only [go_sem, Nat.reduceBEq, Nat.reduceAdd, Nat.reduceLeDiff, Nat.reduceMul, Int.reduceLE, Int.reduceLT, Int.reduceBEq, hks, e31])
      refine gz_dec (fun h2 => ?_) (fun h2 => ?_)
      · repeat (first | rw [kz_o] | rw [kz_r0] | simp -dsimp -implicitDefEqProofs only [go_sem, Nat.reduceBEq, Nat.reduceAdd, Nat.reduceLeDiff, Nat.reduceMul, Int.reduceLE, Int.reduceLT, Int.reduceBEq, hks, e31])
        refine dq_intro [(0, []), (1, []), (2, []), (3, []), (4, [2]), (5, [2]), (6, []), (7, []), (8, []), (9, [])] (by kernel_rfl) ?_
        repeat (first | rw [kz_o] | rw [kz_r0] | simp -dsimp -implicitDefEqProofs only [go_sem, Nat.reduceBEq, Nat.reduceAdd, Nat.reduceLeDiff, Nat.reduceMul, Int.reduceLE, Int.reduceLT, Int.reduceBEq, hks, e31, hbr])
        refine wz_intro (implShort_ok hs hr) ?_
        rintro _ g6 ⟨rfl, hr6, on6⟩
        have rb6 := on6.2 (hn g .mk + 1) (by omega) (by omega)
        have ra6 := on6.2 (hn g .mk) (by omega) (by omega)
        rw [hbr] at rb6
        rw [ha] at ra6
        have nn6 := on6.1
        have fr6 : ∀ c, c < hn g .mk → c ≠ b → hg g6 c .mk = hg g c .mk := fun c hc hb' => (on6.2 c (by omega) hb').trans (hfr c hc hb')
        have ov6 : OwnS (hn g .mk + 2) g6 v (shorts s k r5).1 := own_frame ov nn6 fun c h1 h2 => on6.2 c h2 (by omega)
        rw [kz_r]
        refine ⟨by simp -dsimp -implicitDefEqProofs only [go_sem, Nat.reduceBEq, Nat.reduceAdd, Nat.reduceLeDiff, Nat.reduceMul, Int.reduceLE, Int.reduceLT, Int.reduceBEq, hks, e31, rb6], ?_⟩
        repeat (first | rw [kz_o] | rw [kz_r0] | simp -dsimp -implicitDefEqProofs only [go_sem, Nat.reduceBEq, Nat.reduceAdd, Nat.reduceLeDiff, Nat.reduceMul, Int.reduceLE, Int.reduceLT, Int.reduceBEq, hks, e31, rb6])
        refine append_str (D := fun _ => none) (N := hn g .mk + 2) Go.Ai.ty_el24 Go.Ai.ty_zr9 Go.Ai.ty_cl24 (ov6.keep (le_up1 (H2.le.refl _))) (by simp only [hn_up]; omega) (by rw [shorts_len]; have : Go.Ai.most = 1099511627776 := rfl; omega) ?_
        intro v' g7 o7 nn7 _ hk7
        simp only [hn_up] at nn7
        have rb7 := hk7 (hn g .mk + 1) (by simp only [hn_up]; omega) (own_ne ov (by omega))
        have ra7 := hk7 (hn g .mk) (by simp only [hn_up]; omega) (own_ne ov (by omega))
        have rr7 := hk7 b (by simp only [hn_up]; omega) (own_ne ov (by omega))
        rw [hg_up, rb6] at rb7
        rw [hg_up, ra6] at ra7
        rw [hg_up, hr6.1] at rr7
        have hce7 := own_cell o7
        try rw [kz_r]
        try refine ⟨by simp -dsimp -implicitDefEqProofs only [go_sem, Nat.reduceBEq, Nat.reduceAdd, Nat.reduceLeDiff, Nat.reduceMul, Int.reduceLE, Int.reduceLT, Int.reduceBEq, hks, e31, rb7], ?_⟩
        repeat (first | rw [kz_o] | rw [kz_r0] | simp -dsimp -implicitDefEqProofs only [go_sem, Nat.reduceBEq, Nat.reduceAdd, Nat.reduceLeDiff, Nat.reduceMul, Int.reduceLE, Int.reduceLT, Int.reduceBEq, hks, e31, rb7, hce7, wrap_succ (show k < n by omega) (by omega)])
        refine nx_keep (m - 1) (by omega) (by simp -dsimp -implicitDefEqProofs only [go_sem, Nat.reduceBEq, Nat.reduceAdd, Nat.reduceLeDiff, Nat.reduceMul, Int.reduceLE, Int.reduceLT, Int.reduceBEq, hks]) ⟨k + 1, v', by simp -dsimp -implicitDefEqProofs only [go_sem, Nat.reduceBEq, Nat.reduceAdd, Nat.reduceLeDiff, Nat.reduceMul, Int.reduceLE, Int.reduceLT, Int.reduceBEq], by omega, ⟨by simp -dsimp -implicitDefEqProofs only [go_sem, Nat.reduceBEq, Nat.reduceAdd, Nat.reduceLeDiff, Nat.reduceMul, Int.reduceLE, Int.reduceLT, Int.reduceBEq, bn1]; exact rr7, hr6.2⟩, ?_, by simp -dsimp -implicitDefEqProofs only [go_sem, Nat.reduceBEq, Nat.reduceAdd, Nat.reduceLeDiff, Nat.reduceMul, Int.reduceLE, Int.reduceLT, Int.reduceBEq, ra5]; exact ra7, by simp -dsimp -implicitDefEqProofs only [go_sem, Nat.reduceBEq, Nat.reduceAdd, Nat.reduceLeDiff, Nat.reduceMul, Int.reduceLE, Int.reduceLT, Int.reduceBEq], by simp only [hn_set]; omega, fun c hc hb' => ?_⟩
        · exact own_frame o7 (by simp only [hn_set]; omega) fun c h1 h2 => by rw [hg_set, show (c == hn g .mk + 1) = false by simp; omega]; rfl
        · have c1 : (c == hn g .mk + 1) = false := by simp; omega
          simp -dsimp -implicitDefEqProofs only [go_sem, Nat.reduceBEq, Nat.reduceAdd, Nat.reduceLeDiff, Nat.reduceMul, Int.reduceLE, Int.reduceLT, Int.reduceBEq, c1]
          exact (hk7 c (by simp only [hn_up]; omega) (own_ne ov (by omega))).trans (fr6 c hc hb')
      · have hkn : k = n := by omega
        subst hkn
        repeat (first | rw [kz_o] | rw [kz_r0] | simp -dsimp -implicitDefEqProofs only [go_sem, Nat.reduceBEq, Nat.reduceAdd, Nat.reduceLeDiff, Nat.reduceMul, Int.reduceLE, Int.reduceLT, Int.reduceBEq, hks, e31, hbr, ha, hce])
        refine askK (q := (⟨op, x1, 0, ⟨x2, x3, x4, (shorts s k r5).1⟩, []⟩, (shorts s k r5).2)) (N := hn g .mk + 2) (M := hn g .mk + 2) (by omega) (by omega) (by simp only [hn_set]; omega) ?_ Own.nil (.inr ⟨_, rfl⟩) ⟨by simp -dsimp -implicitDefEqProofs only [go_sem, Nat.reduceBEq, Nat.reduceAdd, Nat.reduceLeDiff, Nat.reduceMul, Int.reduceLE, Int.reduceLT, Int.reduceBEq, bn0]; exact hr.1, hr.2⟩ ⟨by simp only [hn_set]; omega, fun c hc hb' => ?_⟩
        · exact own_frame ov (by simp only [hn_set]; omega) fun c h1 h2 => by rw [hg_set, show (c == hn g .mk) = false by simp; omega]; rfl
        · have c0 : (c == hn g .mk) = false := by simp; omega
          simp -dsimp -implicitDefEqProofs only [go_sem, Nat.reduceBEq, Nat.reduceAdd, Nat.reduceLeDiff, Nat.reduceMul, Int.reduceLE, Int.reduceLT, Int.reduceBEq, c0]
          exact hfr c hc hb'
  repeat (first | rw [kz_o] | rw [kz_r0] | simp -dsimp -implicitDefEqProofs only [go_sem, Nat.reduceBEq, Nat.reduceAdd, Nat.reduceLeDiff, Nat.reduceMul, Int.reduceLE, Int.reduceLT, Int.reduceBEq, p1])
  refine gz_dec (fun p2 => ?_) (fun p2 => ?_)
  · repeat (first | rw [kz_o] | rw [kz_r0] | simp -dsimp -implicitDefEqProofs only [go_sem, Nat.reduceBEq, Nat.reduceAdd, Nat.reduceLeDiff, Nat.reduceMul, Int.reduceLE, Int.reduceLT, Int.reduceBEq, p1, p2])
    refine wz_intro (implOne_ok hs (r := r0) ⟨by simp -dsimp -implicitDefEqProofs only [go_sem, Nat.reduceBEq, Nat.reduceAdd, Nat.reduceLeDiff, Nat.reduceMul, Int.reduceLE, Int.reduceLT, Int.reduceBEq, bn0, bn1, bn2, bn3, hr0.1], hr0.2⟩) ?_
    rintro _ g1 ⟨rfl, hr1, on1⟩
    have nn1 := on1.1
    simp only [hn_push, hn_set, hn_up] at nn1
    have ra1 := on1.2 (hn g .mk) (by simp only [hn_push, hn_set, hn_up]; omega) (by omega)
    have rb1 := on1.2 (hn g .mk + 1) (by simp only [hn_push, hn_set, hn_up]; omega) (by omega)
    have fr1 : ∀ c, c < hn g .mk → c ≠ b → hg g1 c .mk = hg g c .mk := fun c hc hb => (on1.2 c (by simp only [hn_push, hn_set, hn_up]; omega) hb).trans (by
      have c0 : (c == hn g .mk) = false := by simp; omega
      have c1 : (c == hn g .mk + 1) = false := by simp; omega
      simp -dsimp -implicitDefEqProofs only [go_sem, Nat.reduceBEq, Nat.reduceAdd, Nat.reduceLeDiff, Nat.reduceMul, Int.reduceLE, Int.reduceLT, Int.reduceBEq, c0, c1])
    simp -dsimp -implicitDefEqProofs only [go_sem, Nat.reduceBEq, Nat.reduceAdd, Nat.reduceLeDiff, Nat.reduceMul, Int.reduceLE, Int.reduceLT, Int.reduceBEq, bn0, bn1, bn2, bn3] at ra1 rb1
    clear on1
    generalize hp1 : oneP s r0 = q1 at *
    obtain ⟨x1, r1⟩ := q1
    simp only at hr1 rb1 ra1
    repeat (first | rw [kz_o] | rw [kz_r0] | simp -dsimp -implicitDefEqProofs only [go_sem, Nat.reduceBEq, Nat.reduceAdd, Nat.reduceLeDiff, Nat.reduceMul, Int.reduceLE, Int.reduceLT, Int.reduceBEq, bn0, bn1, bn2, bn3, ra1, rb1])
    refine wz_intro (implNum_ok hs (r := r1) ⟨by simp -dsimp -implicitDefEqProofs only [go_sem, Nat.reduceBEq, Nat.reduceAdd, Nat.reduceLeDiff, Nat.reduceMul, Int.reduceLE, Int.reduceLT, Int.reduceBEq, bn0, bn1, bn2, bn3, hr1.1], hr1.2⟩) ?_
    rintro _ g2 ⟨rfl, hr2, on2⟩
    have nn2 := on2.1
    simp only [hn_push, hn_set, hn_up] at nn2
    have ra2 := on2.2 (hn g .mk) (by simp only [hn_push, hn_set, hn_up]; omega) (by omega)
    have rb2 := on2.2 (hn g .mk + 1) (by simp only [hn_push, hn_set, hn_up]; omega) (by omega)
    have fr2 : ∀ c, c < hn g .mk → c ≠ b → hg g2 c .mk = hg g c .mk := fun c hc hb => (on2.2 c (by simp only [hn_push, hn_set, hn_up]; omega) hb).trans (by
      have c0 : (c == hn g .mk) = false := by simp; omega
      have c1 : (c == hn g .mk + 1) = false := by simp; omega
      simp -dsimp -implicitDefEqProofs only [go_sem, Nat.reduceBEq, Nat.reduceAdd, Nat.reduceLeDiff, Nat.reduceMul, Int.reduceLE, Int.reduceLT, Int.reduceBEq, c0, c1, fr1 c hc hb])
    simp -dsimp -implicitDefEqProofs only [go_sem, Nat.reduceBEq, Nat.reduceAdd, Nat.reduceLeDiff, Nat.reduceMul, Int.reduceLE, Int.reduceLT, Int.reduceBEq, bn0, bn1, bn2, bn3, ra1, rb1] at ra2 rb2
    clear on2
    generalize hp2 : numP s r1 = q2 at *
    obtain ⟨x2, r2⟩ := q2
    simp only at hr2 rb2 ra2
    repeat (first | rw [kz_o] | rw [kz_r0] | simp -dsimp -implicitDefEqProofs only [go_sem, Nat.reduceBEq, Nat.reduceAdd, Nat.reduceLeDiff, Nat.reduceMul, Int.reduceLE, Int.reduceLT, Int.reduceBEq, bn0, bn1, bn2, bn3, ra2, rb2])
    refine wz_intro (implOne_ok hs (r := r2) ⟨by simp -dsimp -implicitDefEqProofs only [go_sem, Nat.reduceBEq, Nat.reduceAdd, Nat.reduceLeDiff, Nat.reduceMul, Int.reduceLE, Int.reduceLT, Int.reduceBEq, bn0, bn1, bn2, bn3, hr2.1], hr2.2⟩) ?_
    rintro _ g3 ⟨rfl, hr3, on3⟩
    have nn3 := on3.1
    simp only [hn_push, hn_set, hn_up] at nn3
    have ra3 := on3.2 (hn g .mk) (by simp only [hn_push, hn_set, hn_up]; omega) (by omega)
    have rb3 := on3.2 (hn g .mk + 1) (by simp only [hn_push, hn_set, hn_up]; omega) (by omega)
    have fr3 : ∀ c, c < hn g .mk → c ≠ b → hg g3 c .mk = hg g c .mk := fun c hc hb => (on3.2 c (by simp only [hn_push, hn_set, hn_up]; omega) hb).trans (by
      have c0 : (c == hn g .mk) = false := by simp; omega
      have c1 : (c == hn g .mk + 1) = false := by simp; omega
      simp -dsimp -implicitDefEqProofs only [go_sem, Nat.reduceBEq, Nat.reduceAdd, Nat.reduceLeDiff, Nat.reduceMul, Int.reduceLE, Int.reduceLT, Int.reduceBEq, c0, c1, fr2 c hc hb])
    simp -dsimp -implicitDefEqProofs only [go_sem, Nat.reduceBEq, Nat.reduceAdd, Nat.reduceLeDiff, Nat.reduceMul, Int.reduceLE, Int.reduceLT, Int.reduceBEq, bn0, bn1, bn2, bn3, ra2, rb2] at ra3 rb3
    clear on3
    generalize hp3 : oneP s r2 = q3 at *
    obtain ⟨x3, r3⟩ := q3
    simp only at hr3 rb3 ra3
    repeat (first | rw [kz_o] | rw [kz_r0] | simp -dsimp -implicitDefEqProofs only [go_sem, Nat.reduceBEq, Nat.reduceAdd, Nat.reduceLeDiff, Nat.reduceMul, Int.reduceLE, Int.reduceLT, Int.reduceBEq, bn0, bn1, bn2, bn3, ra3, rb3])
    have hA : askP s op r0 = (⟨op, ⟨#[]⟩, x1, ⟨0, x2, x3, []⟩, []⟩, r3) := by
      simp only [askP, if_neg p1, if_pos p2, ask2P, hp1, hp2, hp3]
    rw [hA]
    refine askK (q := (⟨op, ⟨#[]⟩, x1, ⟨0, x2, x3, []⟩, []⟩, r3)) (v := .raw (.slice none 0 0)) (w := .raw (.slice none 0 0)) (N := hn g .mk + 2) (M := hn g .mk + 2) (by omega) (by omega) (by simp only [hn_set]; omega) Own.nil Own.nil (.inr ⟨_, rfl⟩) ⟨by simp -dsimp -implicitDefEqProofs only [go_sem, Nat.reduceBEq, Nat.reduceAdd, Nat.reduceLeDiff, Nat.reduceMul, Int.reduceLE, Int.reduceLT, Int.reduceBEq, bn0, bn1, bn2, bn3, hr3.1], hr3.2⟩ ⟨by simp only [hn_set]; omega, fun c hc hb' => ?_⟩
    have c0 : (c == hn g .mk) = false := by simp; omega
    have c1 : (c == hn g .mk + 1) = false := by simp; omega
    simp -dsimp -implicitDefEqProofs only [go_sem, Nat.reduceBEq, Nat.reduceAdd, Nat.reduceLeDiff, Nat.reduceMul, Int.reduceLE, Int.reduceLT, Int.reduceBEq, c0, c1, fr3 c hc hb']
  repeat (first | rw [kz_o] | rw [kz_r0] | simp -dsimp -implicitDefEqProofs only [go_sem, Nat.reduceBEq, Nat.reduceAdd, Nat.reduceLeDiff, Nat.reduceMul, Int.reduceLE, Int.reduceLT, Int.reduceBEq, p1, p2])
  refine gz_dec (fun p5 => ?_) (fun p5 => ?_)
  · repeat (first | rw [kz_o] | rw [kz_r0] | simp -dsimp -implicitDefEqProofs only [go_sem, Nat.reduceBEq, Nat.reduceAdd, Nat.reduceLeDiff, Nat.reduceMul, Int.reduceLE, Int.reduceLT, Int.reduceBEq, p1, p2, p5])
    refine wz_intro (implOne_ok hs (r := r0) ⟨by simp -dsimp -implicitDefEqProofs only [go_sem, Nat.reduceBEq, Nat.reduceAdd, Nat.reduceLeDiff, Nat.reduceMul, Int.reduceLE, Int.reduceLT, Int.reduceBEq, bn0, bn1, bn2, bn3, hr0.1], hr0.2⟩) ?_
    rintro _ g1 ⟨rfl, hr1, on1⟩
    have nn1 := on1.1
    simp only [hn_push, hn_set, hn_up] at nn1
    have ra1 := on1.2 (hn g .mk) (by simp only [hn_push, hn_set, hn_up]; omega) (by omega)
    have rb1 := on1.2 (hn g .mk + 1) (by simp only [hn_push, hn_set, hn_up]; omega) (by omega)
    have fr1 : ∀ c, c < hn g .mk → c ≠ b → hg g1 c .mk = hg g c .mk := fun c hc hb => (on1.2 c (by simp only [hn_push, hn_set, hn_up]; omega) hb).trans (by
      have c0 : (c == hn g .mk) = false := by simp; omega
      have c1 : (c == hn g .mk + 1) = false := by simp; omega
      simp -dsimp -implicitDefEqProofs only [go_sem, Nat.reduceBEq, Nat.reduceAdd, Nat.reduceLeDiff, Nat.reduceMul, Int.reduceLE, Int.reduceLT, Int.reduceBEq, c0, c1])
    simp -dsimp -implicitDefEqProofs only [go_sem, Nat.reduceBEq, Nat.reduceAdd, Nat.reduceLeDiff, Nat.reduceMul, Int.reduceLE, Int.reduceLT, Int.reduceBEq, bn0, bn1, bn2, bn3] at ra1 rb1
    clear on1
    generalize hp1 : oneP s r0 = q1 at *
    obtain ⟨x1, r1⟩ := q1
    simp only at hr1 rb1 ra1
    repeat (first | rw [kz_o] | rw [kz_r0] | simp -dsimp -implicitDefEqProofs only [go_sem, Nat.reduceBEq, Nat.reduceAdd, Nat.reduceLeDiff, Nat.reduceMul, Int.reduceLE, Int.reduceLT, Int.reduceBEq, bn0, bn1, bn2, bn3, ra1, rb1])
    have h5 := oneP_range (s := s) (r := r0)
    rw [hp1] at h5
    obtain ⟨n, hx5⟩ := Int.eq_ofNat_of_zero_le h5.1
    simp only at hx5
    subst hx5
    have hn255 : n ≤ 255 := by have := h5.2; simp only at this; omega
    have hA : askP s op r0 = (⟨op, ⟨#[]⟩, 0, zCfg, (ones s n r1).1⟩, (ones s n r1).2) := by
      simp only [askP, if_neg p1, if_neg p2, if_pos p5, hp1, Int.toNat_natCast]
    rw [hA]
    refine lz_keep [0, 4, 5, 59] (fun m e h' => ∃ (k : Nat) (v : X), look e 60 .mk = .raw (.int .i64 k) ∧ m + k = n ∧ RdAt h' b s (ones s k r1).2 ∧ OwnI (hn g .mk + 2) h' v (ones s k r1).1 ∧ hg h' (hn g .mk) .mk = hg g1 (hn g .mk) .mk ∧
        hg h' (hn g .mk + 1) .mk = some ⟨8, [.raw (.int .i64 op), .raw (.string ⟨#[]⟩), .raw (.int .i64 0), .raw (.int .i64 0), .raw (.int .i64 0), .raw (.int .i64 0), .raw (.slice none 0 0), v]⟩ ∧ hn g .mk + 2 ≤ hn h' .mk ∧ ∀ c, c < hn g .mk → c ≠ b → hg h' c .mk = hg g c .mk) n ?_ ?_
    · refine ⟨0, _, by simp -dsimp -implicitDefEqProofs only [go_sem, Nat.reduceBEq, Nat.reduceAdd, Nat.reduceLeDiff, Nat.reduceMul, Int.reduceLE, Int.reduceLT, Int.reduceBEq], by omega, ⟨by simp -dsimp -implicitDefEqProofs only [go_sem, Nat.reduceBEq, Nat.reduceAdd, Nat.reduceLeDiff, Nat.reduceMul, Int.reduceLE, Int.reduceLT, Int.reduceBEq, bn0, bn1, bn2, bn3, hr1.1, ones], hr1.2⟩, Own.nil, rfl, by simp -dsimp -implicitDefEqProofs only [go_sem, Nat.reduceBEq, Nat.reduceAdd, Nat.reduceLeDiff, Nat.reduceMul, Int.reduceLE, Int.reduceLT, Int.reduceBEq, ra1, rb1, p5], by omega, fun c hc hb' => ?_⟩
      simp -dsimp -implicitDefEqProofs only [go_sem, Nat.reduceBEq, Nat.reduceAdd, Nat.reduceLeDiff, Nat.reduceMul, Int.reduceLE, Int.reduceLT, Int.reduceBEq, fr1 c hc hb']
    · rintro m e h' hks ⟨k, v, e31, hk, hr, ov, ha, hbr, hN, hfr⟩
      simp -dsimp -implicitDefEqProofs only [go_sem, Nat.reduceBEq, Nat.reduceAdd, Nat.reduceLeDiff, Nat.reduceMul, Int.reduceLE, Int.reduceLT, Int.reduceBEq] at hks
      rw [ra1] at ha
      have hce := own_cell ov
      repeat (first | rw [kz_o] | rw [kz_r0] | simp -dsimp -implicitDefEqProofs only [go_sem, Nat.reduceBEq, Nat.reduceAdd, Nat.reduceLeDiff, Nat.reduceMul, Int.reduceLE, Int.reduceLT, Int.reduceBEq, hks, e31])
      refine gz_dec (fun h2 => ?_) (fun h2 => ?_)
      · repeat (first | rw [kz_o] | rw [kz_r0] | simp -dsimp -implicitDefEqProofs only [go_sem, Nat.reduceBEq, Nat.reduceAdd, Nat.reduceLeDiff, Nat.reduceMul, Int.reduceLE, Int.reduceLT, Int.reduceBEq, hks, e31])
        refine dq_intro [(0, []), (1, []), (2, []), (3, [1]), (4, [1]), (5, []), (6, []), (7, [])] (by kernel_rfl) ?_
        repeat (first | rw [kz_o] | rw [kz_r0] | simp -dsimp -implicitDefEqProofs only [go_sem, Nat.reduceBEq, Nat.reduceAdd, Nat.reduceLeDiff, Nat.reduceMul, Int.reduceLE, Int.reduceLT, Int.reduceBEq, hks, e31, hbr])
        refine wz_intro (implOne_ok hs hr) ?_
        rintro _ g6 ⟨rfl, hr6, on6⟩
        have rb6 := on6.2 (hn g .mk + 1) (by omega) (by omega)
        have ra6 := on6.2 (hn g .mk) (by omega) (by omega)
        rw [hbr] at rb6
        rw [ha] at ra6
        have nn6 := on6.1
        have fr6 : ∀ c, c < hn g .mk → c ≠ b → hg g6 c .mk = hg g c .mk := fun c hc hb' => (on6.2 c (by omega) hb').trans (hfr c hc hb')
        have ov6 : OwnI (hn g .mk + 2) g6 v (ones s k r1).1 := own_frame ov nn6 fun c h1 h2 => on6.2 c h2 (by omega)
        rw [kz_r]
        refine ⟨by simp -dsimp -implicitDefEqProofs only [go_sem, Nat.reduceBEq, Nat.reduceAdd, Nat.reduceLeDiff, Nat.reduceMul, Int.reduceLE, Int.reduceLT, Int.reduceBEq, hks, e31, rb6], ?_⟩
        repeat (first | rw [kz_o] | rw [kz_r0] | simp -dsimp -implicitDefEqProofs only [go_sem, Nat.reduceBEq, Nat.reduceAdd, Nat.reduceLeDiff, Nat.reduceMul, Int.reduceLE, Int.reduceLT, Int.reduceBEq, hks, e31, rb6])
        refine append_int (D := fun _ => none) (N := hn g .mk + 2) Go.Ai.ty_el27 Go.Ai.ty_zr3 Go.Ai.ty_cl27 (ov6.keep (le_up1 (H2.le.refl _))) (by simp only [hn_up]; omega) (by rw [ones_len]; have : Go.Ai.most = 1099511627776 := rfl; omega) ?_
        intro v' g7 o7 nn7 _ hk7
        simp only [hn_up] at nn7
        have rb7 := hk7 (hn g .mk + 1) (by simp only [hn_up]; omega) (own_ne ov (by omega))
        have ra7 := hk7 (hn g .mk) (by simp only [hn_up]; omega) (own_ne ov (by omega))
        have rr7 := hk7 b (by simp only [hn_up]; omega) (own_ne ov (by omega))
        rw [hg_up, rb6] at rb7
        rw [hg_up, ra6] at ra7
        rw [hg_up, hr6.1] at rr7
        have hce7 := own_cell o7
        try rw [kz_r]
        try refine ⟨by simp -dsimp -implicitDefEqProofs only [go_sem, Nat.reduceBEq, Nat.reduceAdd, Nat.reduceLeDiff, Nat.reduceMul, Int.reduceLE, Int.reduceLT, Int.reduceBEq, hks, e31, rb7], ?_⟩
        repeat (first | rw [kz_o] | rw [kz_r0] | simp -dsimp -implicitDefEqProofs only [go_sem, Nat.reduceBEq, Nat.reduceAdd, Nat.reduceLeDiff, Nat.reduceMul, Int.reduceLE, Int.reduceLT, Int.reduceBEq, hks, e31, rb7, hce7, wrap_succ (show k < n by omega) (by omega)])
        refine nx_keep (m - 1) (by omega) (by simp -dsimp -implicitDefEqProofs only [go_sem, Nat.reduceBEq, Nat.reduceAdd, Nat.reduceLeDiff, Nat.reduceMul, Int.reduceLE, Int.reduceLT, Int.reduceBEq, hks]) ⟨k + 1, v', by simp -dsimp -implicitDefEqProofs only [go_sem, Nat.reduceBEq, Nat.reduceAdd, Nat.reduceLeDiff, Nat.reduceMul, Int.reduceLE, Int.reduceLT, Int.reduceBEq], by omega, ⟨by simp -dsimp -implicitDefEqProofs only [go_sem, Nat.reduceBEq, Nat.reduceAdd, Nat.reduceLeDiff, Nat.reduceMul, Int.reduceLE, Int.reduceLT, Int.reduceBEq, bn1]; exact rr7, hr6.2⟩, ?_, by simp -dsimp -implicitDefEqProofs only [go_sem, Nat.reduceBEq, Nat.reduceAdd, Nat.reduceLeDiff, Nat.reduceMul, Int.reduceLE, Int.reduceLT, Int.reduceBEq, ra1]; exact ra7, by simp -dsimp -implicitDefEqProofs only [go_sem, Nat.reduceBEq, Nat.reduceAdd, Nat.reduceLeDiff, Nat.reduceMul, Int.reduceLE, Int.reduceLT, Int.reduceBEq], by simp only [hn_set]; omega, fun c hc hb' => ?_⟩
        · exact own_frame o7 (by simp only [hn_set]; omega) fun c h1 h2 => by rw [hg_set, show (c == hn g .mk + 1) = false by simp; omega]; rfl
        · have c1 : (c == hn g .mk + 1) = false := by simp; omega
          simp -dsimp -implicitDefEqProofs only [go_sem, Nat.reduceBEq, Nat.reduceAdd, Nat.reduceLeDiff, Nat.reduceMul, Int.reduceLE, Int.reduceLT, Int.reduceBEq, c1]
          exact (hk7 c (by simp only [hn_up]; omega) (own_ne ov (by omega))).trans (fr6 c hc hb')
      · have hkn : k = n := by omega
        subst hkn
        repeat (first | rw [kz_o] | rw [kz_r0] | simp -dsimp -implicitDefEqProofs only [go_sem, Nat.reduceBEq, Nat.reduceAdd, Nat.reduceLeDiff, Nat.reduceMul, Int.reduceLE, Int.reduceLT, Int.reduceBEq, hks, e31, hbr, ha, hce])
        refine askK (q := (⟨op, ⟨#[]⟩, 0, zCfg, (ones s k r1).1⟩, (ones s k r1).2)) (v := .raw (.slice none 0 0)) (N := hn g .mk + 2) (M := hn g .mk + 2) (by omega) (by omega) (by simp only [hn_set]; omega) Own.nil ?_ (.inl ⟨_, rfl⟩) ⟨by simp -dsimp -implicitDefEqProofs only [go_sem, Nat.reduceBEq, Nat.reduceAdd, Nat.reduceLeDiff, Nat.reduceMul, Int.reduceLE, Int.reduceLT, Int.reduceBEq, bn0]; exact hr.1, hr.2⟩ ⟨by simp only [hn_set]; omega, fun c hc hb' => ?_⟩
        · exact own_frame ov (by simp only [hn_set]; omega) fun c h1 h2 => by rw [hg_set, show (c == hn g .mk) = false by simp; omega]; rfl
        · have c0 : (c == hn g .mk) = false := by simp; omega
          simp -dsimp -implicitDefEqProofs only [go_sem, Nat.reduceBEq, Nat.reduceAdd, Nat.reduceLeDiff, Nat.reduceMul, Int.reduceLE, Int.reduceLT, Int.reduceBEq, c0]
          exact hfr c hc hb'
  repeat (first | rw [kz_o] | rw [kz_r0] | simp -dsimp -implicitDefEqProofs only [go_sem, Nat.reduceBEq, Nat.reduceAdd, Nat.reduceLeDiff, Nat.reduceMul, Int.reduceLE, Int.reduceLT, Int.reduceBEq, p1, p2, p5])
  refine wz_intro (implOne_ok hs (r := r0) ⟨by simp -dsimp -implicitDefEqProofs only [go_sem, Nat.reduceBEq, Nat.reduceAdd, Nat.reduceLeDiff, Nat.reduceMul, Int.reduceLE, Int.reduceLT, Int.reduceBEq, bn0, bn1, bn2, bn3, hr0.1], hr0.2⟩) ?_
  rintro _ g1 ⟨rfl, hr1, on1⟩
  have nn1 := on1.1
  simp only [hn_push, hn_set, hn_up] at nn1
  have ra1 := on1.2 (hn g .mk) (by simp only [hn_push, hn_set, hn_up]; omega) (by omega)
  have rb1 := on1.2 (hn g .mk + 1) (by simp only [hn_push, hn_set, hn_up]; omega) (by omega)
  have fr1 : ∀ c, c < hn g .mk → c ≠ b → hg g1 c .mk = hg g c .mk := fun c hc hb => (on1.2 c (by simp only [hn_push, hn_set, hn_up]; omega) hb).trans (by
    have c0 : (c == hn g .mk) = false := by simp; omega
    have c1 : (c == hn g .mk + 1) = false := by simp; omega
    simp -dsimp -implicitDefEqProofs only [go_sem, Nat.reduceBEq, Nat.reduceAdd, Nat.reduceLeDiff, Nat.reduceMul, Int.reduceLE, Int.reduceLT, Int.reduceBEq, c0, c1])
  simp -dsimp -implicitDefEqProofs only [go_sem, Nat.reduceBEq, Nat.reduceAdd, Nat.reduceLeDiff, Nat.reduceMul, Int.reduceLE, Int.reduceLT, Int.reduceBEq, bn0, bn1, bn2, bn3] at ra1 rb1
  clear on1
  generalize hp1 : oneP s r0 = q1 at *
  obtain ⟨x1, r1⟩ := q1
  simp only at hr1 rb1 ra1
  repeat (first | rw [kz_o] | rw [kz_r0] | simp -dsimp -implicitDefEqProofs only [go_sem, Nat.reduceBEq, Nat.reduceAdd, Nat.reduceLeDiff, Nat.reduceMul, Int.reduceLE, Int.reduceLT, Int.reduceBEq, bn0, bn1, bn2, bn3, ra1, rb1])
  have hA : askP s op r0 = (⟨op, ⟨#[]⟩, x1, zCfg, []⟩, r1) := by
    simp only [askP, if_neg p1, if_neg p2, if_neg p5, hp1]
  rw [hA]
  refine askK (q := (⟨op, ⟨#[]⟩, x1, zCfg, []⟩, r1)) (v := .raw (.slice none 0 0)) (w := .raw (.slice none 0 0)) (N := hn g .mk + 2) (M := hn g .mk + 2) (by omega) (by omega) (by simp only [hn_set]; omega) Own.nil Own.nil (.inr ⟨_, rfl⟩) ⟨by simp -dsimp -implicitDefEqProofs only [go_sem, Nat.reduceBEq, Nat.reduceAdd, Nat.reduceLeDiff, Nat.reduceMul, Int.reduceLE, Int.reduceLT, Int.reduceBEq, bn0, bn1, bn2, bn3, hr1.1], hr1.2⟩ ⟨by simp only [hn_set]; omega, fun c hc hb' => ?_⟩
  have c0 : (c == hn g .mk) = false := by simp; omega
  have c1 : (c == hn g .mk + 1) = false := by simp; omega
  simp -dsimp -implicitDefEqProofs only [go_sem, Nat.reduceBEq, Nat.reduceAdd, Nat.reduceLeDiff, Nat.reduceMul, Int.reduceLE, Int.reduceLT, Int.reduceBEq, c0, c1, fr1 c hc hb']
end Go.Bi
