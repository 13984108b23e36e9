/- The walk of the law FnAsks. -/
import Derived.Test.YtjofbadmkigkjaaJd
import Derived.Test.YtjofbadmkigkjaaJf
import Derived.Test.YtjofbadmkigkjaaEh
import Derived.Test.YtjofbadmkigkjaaDf
set_option linter.unusedSimpArgs false
set_option linter.unusedVariables false
set_option maxRecDepth 20000
namespace Go.Bi
open Go.Proofs
open Go.Ai (wrap_i64 wrap_u64 wrap_u8)
variable {W0 : World} {P : Program}
set_option maxHeartbeats 4000000
theorem allT_strs {f : Adr} {ss : List ByteArray} : AllT (fun _ => True) f (.l 1 (strs ss)) := .l (fun _ _ _ _ => trivial) fun i j t h => by
  cases hi : (strs ss)[i]? with
  | none => rw [hi] at h; cases h
  | some e =>
    rw [hi] at h
    simp only [Option.bind_some] at h
    have : e ∈ strs ss := List.mem_of_getElem? hi
    obtain ⟨s, _, rfl⟩ := List.mem_map.1 this
    match j, h with
    | 0, h => simp only [eS, List.getElem?_cons_zero, Option.some.injEq] at h; subst h; exact .v
    | j + 1, h => simp [eS] at h
theorem RowS.lent {N : Nat} {g : H2} {v : X} {ss : List ByteArray} (o : RowS N g v ss) : ∃ f, Lent g v (.sl f 1 (strs ss)) := by
  rcases o with o | ⟨f, rfl⟩
  · obtain ⟨bs, t, _⟩ := OwnS.tree o
    exact t.lent
  · exact ⟨f, Fz.sl (.sl allT_strs)⟩
theorem AskA.lent {N : Nat} {g : H2} {x : X} {a : LAsk} (h : AskA N g x a) : ∃ F : Nat → Adr, Lent g x (.st (xAsk F a)) := by
  obtain ⟨_, v, w, rfl, ov, ow⟩ := h
  obtain ⟨f1, l1⟩ := ov.lent
  obtain ⟨f2, l2⟩ := ow.lent
  refine ⟨fun i => if i = 6 then f1 else f2, .st (by simp [xAsk]) fun i hi hi' => ?_⟩
  simp only [List.length_cons, List.length_nil] at hi
  match i, hi with
  | 0, _ => exact .raw
  | 1, _ => exact .raw
  | 2, _ => exact .raw
  | 3, _ => exact .raw
  | 4, _ => exact .raw
  | 5, _ => exact .raw
  | 6, _ => exact l1
  | 7, _ => exact l2
  | n + 8, h => exact absurd h (by omega)
theorem implAsk_A {N : Nat} {g : H2} {x : X} {a : LAsk} (h : AskA N g x a) : PW Try.prog W0 8 [x] g (fun r => r = .tp [.raw (.string (askS a)), .raw (.bool (askOkB a))]) := by
  obtain ⟨F, hF⟩ := h.lent
  exact (PW.lend (.cons hF .nil) (implAskText_ok (F := F) h.fit) (fun y h => by rw [h, askR_eq]; exact tp_raw)).mono fun y h => by rw [h, askR_eq]
theorem specAsk_A {N : Nat} {g : H2} {x : X} {a : LAsk} (h : AskA N g x a) : PW Try.prog W0 9 [x] g (fun r => r = .tp [.raw (.string (askS a)), .raw (.bool (askOkB a))]) := by
  obtain ⟨F, hF⟩ := h.lent
  exact (PW.lend (.cons hF .nil) (specAskText_ok (F := F) h.fit) (fun y h => by rw [h, askR_eq]; exact tp_raw)).mono fun y h => by rw [h, askR_eq]
theorem AskA.keep {N : Nat} {g g' : H2} {x : X} {a : LAsk} (h : AskA N g x a) (l : g.le g') : AskA N g' x a := by
  obtain ⟨hz, v, w, rfl, ov, ow⟩ := h
  exact ⟨hz, v, w, rfl, ov.keep l, OwnI.keep ow l⟩
theorem drawAsk_ok {f : Adr} {bs : List Int} {g : H2} (hl : bs.length ≤ 1048576) : WC2 Try.prog W0 7 [.sl f 1 (u8s bs)] g (fun x g' => (∃ a, AskA (hn g .mk) g' x a) ∧ g.le g') := by
  refine start (P := Try.prog) [[0], [0, 2]] (by kernel_rfl) Try.func7 rfl (by decide) (by decide +kernel) (rs := [.cell 2 29]) rfl rfl (Nat.le_of_ble_eq_true rfl) ?_
  intro wf
  repeat (first | rw [kz_o] | rw [kz_r0] | simp -dsimp -implicitDefEqProofs only [go_sem, Nat.reduceBEq, Nat.reduceAdd, Nat.reduceLeDiff, Nat.reduceMul, Int.reduceLE, Int.reduceLT, Int.reduceBEq])
  refine wz_intro (new_ok hl) ?_
  rintro _ g1 ⟨b, rfl, co1, hb, l1⟩
  have N1 := l1.1
  simp only [hn_push] at N1 hb
  have rowR1 := (l1.2 (hn g .mk) (by rw [hn_push]; omega)).trans (by simp -dsimp -implicitDefEqProofs only [go_sem, Nat.reduceBEq, Nat.reduceAdd, Nat.reduceLeDiff, Nat.reduceMul, Int.reduceLE, Int.reduceLT, Int.reduceBEq, hoo] <;> rfl)
  repeat (first | rw [kz_o] | rw [kz_r0] | simp -dsimp -implicitDefEqProofs only [go_sem, Nat.reduceBEq, Nat.reduceAdd, Nat.reduceLeDiff, Nat.reduceMul, Int.reduceLE, Int.reduceLT, Int.reduceBEq])
  refine wz_intro (anyAsk_ok co1) ?_
  rintro _ g2 ⟨⟨a, ⟨hz, v, w, rfl, ov, ow⟩⟩, co2, on2⟩
  have N2 := on2.1
  have rowR2 := (on2.2 (hn g .mk) (by omega) (by omega)).trans rowR1
  have oc := ov.cell
  have oc2 := own_cell ow
  repeat (first | rw [kz_o] | rw [kz_r0] | simp -dsimp -implicitDefEqProofs only [go_sem, Nat.reduceBEq, Nat.reduceAdd, Nat.reduceLeDiff, Nat.reduceMul, Int.reduceLE, Int.reduceLT, Int.reduceBEq, rowR2, oc, oc2, hoo])
  have nr : blockOf v ≠ some (hn g .mk) := ov.ne rowR2 (by decide)
  have mr : blockOf w ≠ some (hn g .mk) := own_ne1 ow rowR2 (by decide)
  have l2 : g.le g2 := ⟨by omega, fun c hc => (on2.2 c (by omega) (by omega)).trans ((l1.2 c (by rw [hn_push]; omega)).trans (by rw [hg_push, show (c == hn g .mk) = false by simp; omega]; rfl))⟩
  exact ⟨⟨a, hz, v, w, rfl, RowS.wide (ov.set nr) (by omega), own_wide (own_setq ow mr) (by omega)⟩, le_set l2 (Nat.le_refl _)⟩
theorem drawText_ok {f : Adr} {bs : List Int} {g : H2} (hl : bs.length ≤ 1048576) : WC2 Try.prog W0 13 [.sl f 1 (u8s bs)] g (fun x g' => (∃ t : ByteArray, x = .raw (.string t) ∧ t.size ≤ 4000000001) ∧ g.le g') := by
  refine start (P := Try.prog) [[0], [0], [3], [3, 4]] (by kernel_rfl) Try.func13 rfl (by decide) (by decide +kernel) (rs := [.tmp 2]) rfl rfl (Nat.le_of_ble_eq_true rfl) ?_
  intro wf
  repeat (first | rw [kz_o] | rw [kz_r0] | simp -dsimp -implicitDefEqProofs only [go_sem, Nat.reduceBEq, Nat.reduceAdd, Nat.reduceLeDiff, Nat.reduceMul, Int.reduceLE, Int.reduceLT, Int.reduceBEq])
  refine wz_intro (new_ok hl) ?_
  rintro _ g1 ⟨b, rfl, co1, hb, l1⟩
  have N1 := l1.1
  repeat (first | rw [kz_o] | rw [kz_r0] | simp -dsimp -implicitDefEqProofs only [go_sem, Nat.reduceBEq, Nat.reduceAdd, Nat.reduceLeDiff, Nat.reduceMul, Int.reduceLE, Int.reduceLT, Int.reduceBEq])
  refine wz_intro (anyAsk_ok co1) ?_
  rintro x g2 ⟨⟨a, ha⟩, co2, on2⟩
  have N2 := on2.1
  have hx : cellsX x = cellsX x := rfl
  have l2 : g.le g2 := ⟨by omega, fun c hc => (on2.2 c (by omega) (by omega)).trans (l1.2 c hc)⟩
  obtain ⟨v, w, rfl, ov, ow⟩ := id ha.2
  repeat (first | rw [kz_o] | rw [kz_r0] | simp -dsimp -implicitDefEqProofs only [go_sem, Nat.reduceBEq, Nat.reduceAdd, Nat.reduceLeDiff, Nat.reduceMul, Int.reduceLE, Int.reduceLT, Int.reduceBEq])
  refine pw_intro (specAsk_A ha) ?_
  rintro _ n3 hn3 rfl
  repeat (first | rw [kz_o] | rw [kz_r0] | simp -dsimp -implicitDefEqProofs only [go_sem, Nat.reduceBEq, Nat.reduceAdd, Nat.reduceLeDiff, Nat.reduceMul, Int.reduceLE, Int.reduceLT, Int.reduceBEq])
  refine wz_intro (spoilt_ok (co2.le (le_up (H2.le.refl _) hn3)) (askS_size ha.1.1 ha.1.2.1 ha.1.2.2.1 ha.1.2.2.2)) ?_
  rintro _ g4 ⟨⟨t, rfl, ht⟩, co4, on4⟩
  repeat (first | rw [kz_o] | rw [kz_r0] | simp -dsimp -implicitDefEqProofs only [go_sem, Nat.reduceBEq, Nat.reduceAdd, Nat.reduceLeDiff, Nat.reduceMul, Int.reduceLE, Int.reduceLT, Int.reduceBEq])
  have N4 := on4.1
  simp only [hn_up] at N4
  exact ⟨⟨t, rfl, ht⟩, by omega, fun c hc => (on4.2 c (by rw [hn_up]; omega) (by omega)).trans (l2.2 c hc)⟩
end Go.Bi
