/- The walk of the program's AskText. -/
import Derived.Test.YtjofbadmkigkjaaDc
set_option linter.unusedSimpArgs false
set_option linter.unusedVariables false
set_option maxRecDepth 20000
namespace Go.Bi
open Go.Proofs
open Go.Ai (wrap_i64 wrap_u64 wrap_u8 Heap)
variable {W0 : World} {P : Program}
theorem foldl_take {α β : Type} [Inhabited α] {f : β → α → β} {b : β} {xs : List α} {k : Nat} (hk : k < xs.length) : (xs.take (k + 1)).foldl f b = f ((xs.take k).foldl f b) (xs.getD k default) := by
  rw [List.take_succ_eq_append_getElem hk, List.foldl_append, List.getD_eq_getElem?_getD, List.getElem?_eq_getElem hk]; rfl
theorem foldl_all {α β : Type} {f : β → α → β} {b : β} {xs : List α} {k : Nat} (hk : k = xs.length) : (xs.take k).foldl f b = xs.foldl f b := by rw [hk, List.take_length]
def askT (a : LAsk) : ByteArray :=
  if a.op = 1 then a.config.stops.foldl (fun s x => s ++ shortT x) (byteT 1 ++ ((((shortT a.text ++ byteT a.config.top) ++ varT a.config.seed.toNat) ++ byteT a.config.new) ++ byteT a.config.stops.length))
  else if a.op = 2 then byteT 2 ++ ((byteT a.pos ++ varT a.config.seed.toNat) ++ byteT a.config.new)
  else if a.op = 5 then a.picks.foldl (fun s n => s ++ byteT n) (byteT 5 ++ byteT a.picks.length)
  else byteT a.op ++ byteT a.pos
def askR (a : LAsk) : X := if askOkB a = true then .tp [.raw (.string (askT a)), .raw (.bool true)] else .tp [.raw (.string ⟨#[]⟩), .raw (.bool false)]
theorem byteT_size (n : Int) : (byteT n).size = 1 := rfl
theorem shortT_size (s : ByteArray) : (shortT s).size ≤ s.size + s.size + 1 := by
  have := varT_size s.size
  rw [shortT, ByteArray.size_append]; omega
theorem cfg_facts {c : LConfig} (h : cfgOk c = true) : 0 ≤ c.seed ∧ c.seed ≤ 1000000000 ∧ c.stops.length ≤ 3 ∧ ∀ k, k < c.stops.length → (c.stops.getD k default).size ≤ 8 := by
  simp only [cfgOk, Bool.and_eq_true, decide_eq_true_eq] at h
  obtain ⟨h1, h2, h3, h4, h5⟩ := h
  refine ⟨(inI_t h2).1, (inI_t h2).2, by omega, fun k hk => ?_⟩
  have := List.all_eq_true.1 h5 _ (List.getElem_mem hk)
  rw [List.getD_eq_getElem?_getD, List.getElem?_eq_getElem hk]
  have := (inI_t this).2
  simp only [Option.getD_some]; omega
theorem ask1 {a : LAsk} (h : askOkB a = true) (h1 : a.op = 1) : a.text.size ≤ 200 ∧ cfgOk a.config = true := by
  simp only [askOkB, h1, ↓reduceIte, Bool.and_eq_true, decide_eq_true_eq] at h
  exact ⟨by omega, h.1⟩
theorem ask2 {a : LAsk} (h : askOkB a = true) (h2 : a.op = 2) : 0 ≤ a.config.seed ∧ a.config.seed ≤ 1000000000 := by
  simp only [askOkB, h2, ↓reduceIte, Int.reduceEq, Bool.and_eq_true, decide_eq_true_eq] at h
  exact inI_t h.2.1
theorem ask5 {a : LAsk} (h : askOkB a = true) (h5 : a.op = 5) : a.picks.length ≤ 20 := by
  simp only [askOkB, h5, ↓reduceIte, Int.reduceEq, Bool.and_eq_true, decide_eq_true_eq, or_self] at h
  omega
set_option maxHeartbeats 4000000 in
theorem implAskText_ok {F : Nat → Adr} {c : LAsk} {h : H2} (hf : fitAsk c) : PW Try.prog W0 8 [.st (xAsk F c)] h (fun r => r = askR c) := by
  have hf0 := hf
  obtain ⟨hf1, ⟨hf2, _⟩, hf3⟩ := hf
  refine (PW.of (q := fun _ => True) (Q := fun r => r = askR c) ?_).mono fun _ h => h.1
  refine start (P := Try.prog) [[0], [1], [], [1], [1, 4], [1, 4], [1, 4, 16], [1, 4], [1, 4], [4, 52, 53, 54], [4, 52, 53, 54], [4, 6, 52, 53, 54], [4, 52, 53, 54], [1, 4, 16], [1, 4], [1, 4, 16], [1, 4], [1, 4], [4, 89, 90, 91], [4, 89, 90, 91], [4, 8, 89, 90, 91], [4, 89, 90, 91], [4]] (by kernel_rfl) Try.func8 rfl (by decide) (by decide +kernel) (rs := [.tmp 2, .tmp 3]) rfl rfl (Nat.le_of_ble_eq_true rfl) ?_
  intro wf
  repeat (first | rw [kz_o] | rw [kz_r0] | simp -dsimp -implicitDefEqProofs only [go_sem, Nat.reduceBEq, Nat.reduceAdd, Nat.reduceLeDiff, Nat.reduceMul, Int.reduceLE, Int.reduceLT, Int.reduceBEq])
  refine pw_intro (askOk_ok (F := F) (c := c) hf0) ?_
  rintro _ n1 hn1 rfl
  have fin : ∀ (s : ByteArray) (b : Bool) (g' : H2), h.le g' → askR c = .tp [.raw (.string s), .raw (.bool b)] → h.le g' ∧ ∃ y, Fz (fun b => hn h .mk ≤ b) (fun _ => True) g' (.tp [.raw (.string s), .raw (.bool b)]) y ∧ y = askR c :=
    fun s b g' hl he => ⟨hl, _, .tp rfl (fun i hi hi' => by
      match i, hi with
      | 0, _ => exact .raw
      | 1, _ => exact .raw), he.symm⟩
  cases hok : askOkB c
  · repeat (first | rw [kz_o] | rw [kz_r0] | simp -dsimp -implicitDefEqProofs only [go_sem, Nat.reduceBEq, Nat.reduceAdd, Nat.reduceLeDiff, Nat.reduceMul, Int.reduceLE, Int.reduceLT, Int.reduceBEq])
    exact fin _ _ _ (by repeat (first | exact H2.le.refl _ | apply le_push | refine le_up ?_ (by assumption) | refine le_up ?_ (by simp only [hn_up, hn_push] at *; omega))) (by rw [askR, if_neg (by rw [hok]; decide)])
  have hR : askR c = .tp [.raw (.string (askT c)), .raw (.bool true)] := by rw [askR, if_pos hok]
  repeat (first | rw [kz_o] | rw [kz_r0] | simp -dsimp -implicitDefEqProofs only [go_sem, Nat.reduceBEq, Nat.reduceAdd, Nat.reduceLeDiff, Nat.reduceMul, Int.reduceLE, Int.reduceLT, Int.reduceBEq])
  refine pw_intro oneByte_ok ?_
  rintro _ n2 hn2 rfl
  repeat (first | rw [kz_o] | rw [kz_r0] | simp -dsimp -implicitDefEqProofs only [go_sem, Nat.reduceBEq, Nat.reduceAdd, Nat.reduceLeDiff, Nat.reduceMul, Int.reduceLE, Int.reduceLT, Int.reduceBEq])
  refine gz_dec (fun p1 => ?_) (fun p1 => ?_)
  · obtain ⟨ht, hc⟩ := ask1 hok p1
    obtain ⟨hs0, hs1, hl, hz⟩ := cfg_facts hc
    obtain ⟨sd, hsd⟩ := Int.eq_ofNat_of_zero_le hs0
    have hst := shortT_size c.text
    have hvs := varT_size sd
    repeat (first | rw [kz_o] | rw [kz_r0] | simp -dsimp -implicitDefEqProofs only [go_sem, Nat.reduceBEq, Nat.reduceAdd, Nat.reduceLeDiff, Nat.reduceMul, Int.reduceLE, Int.reduceLT, Int.reduceBEq, p1])
    refine dq_intro [(0, []), (1, []), (2, []), (4, []), (5, []), (6, []), (9, []), (10, []), (11, []), (14, []), (15, []), (16, []), (19, []), (20, []), (21, []), (22, []), (3, [6, 11, 16, 21]), (7, [11, 16, 21]), (8, []), (12, [16, 21]), (13, []), (17, [21]), (18, []), (23, []), (24, []), (25, []), (26, [])] (by kernel_rfl) ?_
    repeat (first | rw [kz_o] | rw [kz_r0] | simp -dsimp -implicitDefEqProofs only [go_sem, Nat.reduceBEq, Nat.reduceAdd, Nat.reduceLeDiff, Nat.reduceMul, Int.reduceLE, Int.reduceLT, Int.reduceBEq, p1, hsd])
    refine pw_intro (shortBytes_ok (by omega)) ?_
    rintro _ n3 hn3 rfl
    rw [kz_r]
    refine ⟨by simp -dsimp -implicitDefEqProofs only [go_sem, Nat.reduceBEq, Nat.reduceAdd, Nat.reduceLeDiff, Nat.reduceMul, Int.reduceLE, Int.reduceLT, Int.reduceBEq, p1, hsd], ?_⟩
    repeat (first | rw [kz_o] | rw [kz_r0] | simp -dsimp -implicitDefEqProofs only [go_sem, Nat.reduceBEq, Nat.reduceAdd, Nat.reduceLeDiff, Nat.reduceMul, Int.reduceLE, Int.reduceLT, Int.reduceBEq, p1, hsd])
    refine pw_intro oneByte_ok ?_
    rintro _ n4 hn4 rfl
    rw [kz_r]
    refine ⟨by simp -dsimp -implicitDefEqProofs only [go_sem, Nat.reduceBEq, Nat.reduceAdd, Nat.reduceLeDiff, Nat.reduceMul, Int.reduceLE, Int.reduceLT, Int.reduceBEq, p1, hsd], ?_⟩
    have a1 : (((shortT c.text).size + (byteT c.config.top).size : Nat) : Int) ≤ 9223372036854775807 := by rw [byteT_size]; omega
    repeat (first | rw [kz_o] | rw [kz_r0] | simp -dsimp -implicitDefEqProofs only [go_sem, Nat.reduceBEq, Nat.reduceAdd, Nat.reduceLeDiff, Nat.reduceMul, Int.reduceLE, Int.reduceLT, Int.reduceBEq, p1, hsd, a1])
    refine pw_intro (varBytes_ok (by omega)) ?_
    rintro _ n5 hn5 rfl
    rw [kz_r]
    refine ⟨by simp -dsimp -implicitDefEqProofs only [go_sem, Nat.reduceBEq, Nat.reduceAdd, Nat.reduceLeDiff, Nat.reduceMul, Int.reduceLE, Int.reduceLT, Int.reduceBEq, p1, hsd], ?_⟩
    have a2 : (((shortT c.text ++ byteT c.config.top).size + (varT sd).size : Nat) : Int) ≤ 9223372036854775807 := by simp only [ByteArray.size_append, byteT_size]; omega
    repeat (first | rw [kz_o] | rw [kz_r0] | simp -dsimp -implicitDefEqProofs only [go_sem, Nat.reduceBEq, Nat.reduceAdd, Nat.reduceLeDiff, Nat.reduceMul, Int.reduceLE, Int.reduceLT, Int.reduceBEq, p1, hsd, a1, a2])
    refine pw_intro oneByte_ok ?_
    rintro _ n6 hn6 rfl
    rw [kz_r]
    refine ⟨by simp -dsimp -implicitDefEqProofs only [go_sem, Nat.reduceBEq, Nat.reduceAdd, Nat.reduceLeDiff, Nat.reduceMul, Int.reduceLE, Int.reduceLT, Int.reduceBEq, p1, hsd], ?_⟩
    have a3 : ((((shortT c.text ++ byteT c.config.top) ++ varT sd).size + (byteT c.config.new).size : Nat) : Int) ≤ 9223372036854775807 := by simp only [ByteArray.size_append, byteT_size]; omega
    repeat (first | rw [kz_o] | rw [kz_r0] | simp -dsimp -implicitDefEqProofs only [go_sem, Nat.reduceBEq, Nat.reduceAdd, Nat.reduceLeDiff, Nat.reduceMul, Int.reduceLE, Int.reduceLT, Int.reduceBEq, p1, hsd, a1, a2, a3])
    refine pw_intro oneByte_ok ?_
    rintro _ n7 hn7 rfl
    rw [kz_r]
    refine ⟨by simp -dsimp -implicitDefEqProofs only [go_sem, Nat.reduceBEq, Nat.reduceAdd, Nat.reduceLeDiff, Nat.reduceMul, Int.reduceLE, Int.reduceLT, Int.reduceBEq, p1, hsd], ?_⟩
    have a4 : (((((shortT c.text ++ byteT c.config.top) ++ varT sd) ++ byteT c.config.new).size + (byteT c.config.stops.length).size : Nat) : Int) ≤ 9223372036854775807 := by simp only [ByteArray.size_append, byteT_size]; omega
    have a5 : (((byteT 1).size + ((((shortT c.text ++ byteT c.config.top) ++ varT sd) ++ byteT c.config.new) ++ byteT c.config.stops.length).size : Nat) : Int) ≤ 9223372036854775807 := by simp only [ByteArray.size_append, byteT_size]; omega
    repeat (first | rw [kz_o] | rw [kz_r0] | simp -dsimp -implicitDefEqProofs only [go_sem, Nat.reduceBEq, Nat.reduceAdd, Nat.reduceLeDiff, Nat.reduceMul, Int.reduceLE, Int.reduceLT, Int.reduceBEq, p1, hsd, a1, a2, a3, a4, a5])
    have hT : askT c = c.config.stops.foldl (fun s x => s ++ shortT x) (byteT 1 ++ ((((shortT c.text ++ byteT c.config.top) ++ varT sd) ++ byteT c.config.new) ++ byteT c.config.stops.length)) := by
      rw [askT, if_pos p1, hsd, Int.toNat_natCast]
    have hB : (byteT 1 ++ ((((shortT c.text ++ byteT c.config.top) ++ varT sd) ++ byteT c.config.new) ++ byteT c.config.stops.length)).size ≤ 1000001000 := by simp only [ByteArray.size_append, byteT_size]; omega
    generalize hb0 : byteT 1 ++ ((((shortT c.text ++ byteT c.config.top) ++ varT sd) ++ byteT c.config.new) ++ byteT c.config.stops.length) = base at hT hB ⊢
    refine lz_keep [52, 53] (fun m e h' => h.le h' ∧ ∃ (k : Nat) (s : ByteArray), look e 54 .mk = .raw (.int .i64 k) ∧ look e 4 .mk = .raw (.string s) ∧ m + k = c.config.stops.length ∧ s = (c.config.stops.take k).foldl (fun s x => s ++ shortT x) base ∧ s.size ≤ base.size + k * 1000) c.config.stops.length ?_ ?_
    · exact ⟨by repeat (first | exact H2.le.refl _ | apply le_push | refine le_up ?_ (by assumption) | refine le_up ?_ (by simp only [hn_up, hn_push] at *; omega)), 0, base, by simp -dsimp -implicitDefEqProofs only [go_sem, Nat.reduceBEq, Nat.reduceAdd, Nat.reduceLeDiff, Nat.reduceMul, Int.reduceLE, Int.reduceLT, Int.reduceBEq], by simp -dsimp -implicitDefEqProofs only [go_sem, Nat.reduceBEq, Nat.reduceAdd, Nat.reduceLeDiff, Nat.reduceMul, Int.reduceLE, Int.reduceLT, Int.reduceBEq, hb0], by omega, rfl, by omega⟩
    · rintro m e h' hks ⟨hle, k, s, e54, e4, hk, hs, hsz⟩
      simp -dsimp -implicitDefEqProofs only [go_sem, Nat.reduceBEq, Nat.reduceAdd, Nat.reduceLeDiff, Nat.reduceMul, Int.reduceLE, Int.reduceLT, Int.reduceBEq] at hks
      repeat (first | rw [kz_o] | rw [kz_r0] | simp -dsimp -implicitDefEqProofs only [go_sem, Nat.reduceBEq, Nat.reduceAdd, Nat.reduceLeDiff, Nat.reduceMul, Int.reduceLE, Int.reduceLT, Int.reduceBEq, hks, e54, e4])
      refine gz_dec (fun h2 => ?_) (fun h2 => ?_)
      · have h3 : k < c.config.stops.length := by omega
        have h8 := hz k h3
        have h9 := shortT_size (c.config.stops.getD k default)
        repeat (first | rw [kz_o] | rw [kz_r0] | simp -dsimp -implicitDefEqProofs only [go_sem, Nat.reduceBEq, Nat.reduceAdd, Nat.reduceLeDiff, Nat.reduceMul, Int.reduceLE, Int.reduceLT, Int.reduceBEq, hks, e54, e4, h3])
        refine pw_intro (shortBytes_ok (by omega)) ?_
        rintro _ n8 hn8 rfl
        have a6 : ((s.size + (shortT (c.config.stops.getD k default)).size : Nat) : Int) ≤ 9223372036854775807 := by omega
        repeat (first | rw [kz_o] | rw [kz_r0] | simp -dsimp -implicitDefEqProofs only [go_sem, Nat.reduceBEq, Nat.reduceAdd, Nat.reduceLeDiff, Nat.reduceMul, Int.reduceLE, Int.reduceLT, Int.reduceBEq, hks, e54, e4, h3, a6, wrap_succ h3 hf2])
        exact nx_keep (m - 1) (by omega) (by simp -dsimp -implicitDefEqProofs only [go_sem, Nat.reduceBEq, Nat.reduceAdd, Nat.reduceLeDiff, Nat.reduceMul, Int.reduceLE, Int.reduceLT, Int.reduceBEq, hks]) ⟨le_up hle hn8, k + 1, s ++ shortT (c.config.stops.getD k default), by simp -dsimp -implicitDefEqProofs only [go_sem, Nat.reduceBEq, Nat.reduceAdd, Nat.reduceLeDiff, Nat.reduceMul, Int.reduceLE, Int.reduceLT, Int.reduceBEq], by simp -dsimp -implicitDefEqProofs only [go_sem, Nat.reduceBEq, Nat.reduceAdd, Nat.reduceLeDiff, Nat.reduceMul, Int.reduceLE, Int.reduceLT, Int.reduceBEq], by omega, by rw [foldl_take h3, ← hs], by rw [ByteArray.size_append]; omega⟩
      · repeat (first | rw [kz_o] | rw [kz_r0] | simp -dsimp -implicitDefEqProofs only [go_sem, Nat.reduceBEq, Nat.reduceAdd, Nat.reduceLeDiff, Nat.reduceMul, Int.reduceLE, Int.reduceLT, Int.reduceBEq, hks, e54, e4])
        exact fin _ _ _ hle (by rw [hR, hT, hs, foldl_all (by omega)])
  repeat (first | rw [kz_o] | rw [kz_r0] | simp -dsimp -implicitDefEqProofs only [go_sem, Nat.reduceBEq, Nat.reduceAdd, Nat.reduceLeDiff, Nat.reduceMul, Int.reduceLE, Int.reduceLT, Int.reduceBEq, p1])
  refine gz_dec (fun p2 => ?_) (fun p2 => ?_)
  · obtain ⟨hs0, hs1⟩ := ask2 hok p2
    obtain ⟨sd, hsd⟩ := Int.eq_ofNat_of_zero_le hs0
    have hvs := varT_size sd
    repeat (first | rw [kz_o] | rw [kz_r0] | simp -dsimp -implicitDefEqProofs only [go_sem, Nat.reduceBEq, Nat.reduceAdd, Nat.reduceLeDiff, Nat.reduceMul, Int.reduceLE, Int.reduceLT, Int.reduceBEq, p1, p2])
    refine dq_intro [(0, []), (1, []), (2, []), (4, []), (5, []), (6, []), (9, []), (10, []), (11, []), (3, [6, 11]), (7, [11]), (8, []), (12, []), (13, []), (14, []), (15, [])] (by kernel_rfl) ?_
    repeat (first | rw [kz_o] | rw [kz_r0] | simp -dsimp -implicitDefEqProofs only [go_sem, Nat.reduceBEq, Nat.reduceAdd, Nat.reduceLeDiff, Nat.reduceMul, Int.reduceLE, Int.reduceLT, Int.reduceBEq, p1, p2, hsd])
    refine pw_intro oneByte_ok ?_
    rintro _ n3 hn3 rfl
    rw [kz_r]
    refine ⟨by simp -dsimp -implicitDefEqProofs only [go_sem, Nat.reduceBEq, Nat.reduceAdd, Nat.reduceLeDiff, Nat.reduceMul, Int.reduceLE, Int.reduceLT, Int.reduceBEq, p1, hsd], ?_⟩
    repeat (first | rw [kz_o] | rw [kz_r0] | simp -dsimp -implicitDefEqProofs only [go_sem, Nat.reduceBEq, Nat.reduceAdd, Nat.reduceLeDiff, Nat.reduceMul, Int.reduceLE, Int.reduceLT, Int.reduceBEq, p1, p2, hsd])
    refine pw_intro (varBytes_ok (by omega)) ?_
    rintro _ n4 hn4 rfl
    rw [kz_r]
    refine ⟨by simp -dsimp -implicitDefEqProofs only [go_sem, Nat.reduceBEq, Nat.reduceAdd, Nat.reduceLeDiff, Nat.reduceMul, Int.reduceLE, Int.reduceLT, Int.reduceBEq, p1, hsd], ?_⟩
    have a1 : (((byteT c.pos).size + (varT sd).size : Nat) : Int) ≤ 9223372036854775807 := by rw [byteT_size]; omega
    repeat (first | rw [kz_o] | rw [kz_r0] | simp -dsimp -implicitDefEqProofs only [go_sem, Nat.reduceBEq, Nat.reduceAdd, Nat.reduceLeDiff, Nat.reduceMul, Int.reduceLE, Int.reduceLT, Int.reduceBEq, p1, p2, hsd, a1])
    refine pw_intro oneByte_ok ?_
    rintro _ n5 hn5 rfl
    rw [kz_r]
    refine ⟨by simp -dsimp -implicitDefEqProofs only [go_sem, Nat.reduceBEq, Nat.reduceAdd, Nat.reduceLeDiff, Nat.reduceMul, Int.reduceLE, Int.reduceLT, Int.reduceBEq, p1, hsd], ?_⟩
    have a2 : (((byteT c.pos ++ varT sd).size + (byteT c.config.new).size : Nat) : Int) ≤ 9223372036854775807 := by simp only [ByteArray.size_append, byteT_size]; omega
    have a3 : (((byteT 2).size + ((byteT c.pos ++ varT sd) ++ byteT c.config.new).size : Nat) : Int) ≤ 9223372036854775807 := by simp only [ByteArray.size_append, byteT_size]; omega
    repeat (first | rw [kz_o] | rw [kz_r0] | simp -dsimp -implicitDefEqProofs only [go_sem, Nat.reduceBEq, Nat.reduceAdd, Nat.reduceLeDiff, Nat.reduceMul, Int.reduceLE, Int.reduceLT, Int.reduceBEq, p1, p2, hsd, a1, a2, a3])
    exact fin _ _ _ (by repeat (first | exact H2.le.refl _ | apply le_push | refine le_up ?_ (by assumption) | refine le_up ?_ (by simp only [hn_up, hn_push] at *; omega))) (by rw [hR, askT, if_neg p1, if_pos p2, hsd, Int.toNat_natCast])
  repeat (first | rw [kz_o] | rw [kz_r0] | simp -dsimp -implicitDefEqProofs only [go_sem, Nat.reduceBEq, Nat.reduceAdd, Nat.reduceLeDiff, Nat.reduceMul, Int.reduceLE, Int.reduceLT, Int.reduceBEq, p1, p2])
  refine gz_dec (fun p5 => ?_) (fun p5 => ?_)
  · have hl := ask5 hok p5
    repeat (first | rw [kz_o] | rw [kz_r0] | simp -dsimp -implicitDefEqProofs only [go_sem, Nat.reduceBEq, Nat.reduceAdd, Nat.reduceLeDiff, Nat.reduceMul, Int.reduceLE, Int.reduceLT, Int.reduceBEq, p1, p2, p5])
    refine pw_intro oneByte_ok ?_
    rintro _ n3 hn3 rfl
    have a1 : (((byteT 5).size + (byteT c.picks.length).size : Nat) : Int) ≤ 9223372036854775807 := by simp only [byteT_size]; omega
    repeat (first | rw [kz_o] | rw [kz_r0] | simp -dsimp -implicitDefEqProofs only [go_sem, Nat.reduceBEq, Nat.reduceAdd, Nat.reduceLeDiff, Nat.reduceMul, Int.reduceLE, Int.reduceLT, Int.reduceBEq, p1, p2, p5, a1])
    have hT : askT c = c.picks.foldl (fun s n => s ++ byteT n) (byteT 5 ++ byteT c.picks.length) := by rw [askT, if_neg p1, if_neg p2, if_pos p5]
    have hB : (byteT 5 ++ byteT c.picks.length).size = 2 := rfl
    generalize hb0 : byteT 5 ++ byteT c.picks.length = base at hT hB ⊢
    refine lz_keep [89, 90] (fun m e h' => h.le h' ∧ ∃ (k : Nat) (s : ByteArray), look e 91 .mk = .raw (.int .i64 k) ∧ look e 4 .mk = .raw (.string s) ∧ m + k = c.picks.length ∧ s = (c.picks.take k).foldl (fun s n => s ++ byteT n) base ∧ s.size = 2 + k) c.picks.length ?_ ?_
    · exact ⟨by repeat (first | exact H2.le.refl _ | apply le_push | refine le_up ?_ (by assumption) | refine le_up ?_ (by simp only [hn_up, hn_push] at *; omega)), 0, base, by simp -dsimp -implicitDefEqProofs only [go_sem, Nat.reduceBEq, Nat.reduceAdd, Nat.reduceLeDiff, Nat.reduceMul, Int.reduceLE, Int.reduceLT, Int.reduceBEq], by simp -dsimp -implicitDefEqProofs only [go_sem, Nat.reduceBEq, Nat.reduceAdd, Nat.reduceLeDiff, Nat.reduceMul, Int.reduceLE, Int.reduceLT, Int.reduceBEq, hb0], by omega, rfl, by omega⟩
    · rintro m e h' hks ⟨hle, k, s, e91, e4, hk, hs, hsz⟩
      simp -dsimp -implicitDefEqProofs only [go_sem, Nat.reduceBEq, Nat.reduceAdd, Nat.reduceLeDiff, Nat.reduceMul, Int.reduceLE, Int.reduceLT, Int.reduceBEq] at hks
      repeat (first | rw [kz_o] | rw [kz_r0] | simp -dsimp -implicitDefEqProofs only [go_sem, Nat.reduceBEq, Nat.reduceAdd, Nat.reduceLeDiff, Nat.reduceMul, Int.reduceLE, Int.reduceLT, Int.reduceBEq, hks, e91, e4])
      refine gz_dec (fun h2 => ?_) (fun h2 => ?_)
      · have h3 : k < c.picks.length := by omega
        repeat (first | rw [kz_o] | rw [kz_r0] | simp -dsimp -implicitDefEqProofs only [go_sem, Nat.reduceBEq, Nat.reduceAdd, Nat.reduceLeDiff, Nat.reduceMul, Int.reduceLE, Int.reduceLT, Int.reduceBEq, hks, e91, e4, h3])
        refine pw_intro oneByte_ok ?_
        rintro _ n8 hn8 rfl
        have a6 : ((s.size + (byteT (c.picks.getD k default)).size : Nat) : Int) ≤ 9223372036854775807 := by rw [byteT_size]; omega
        repeat (first | rw [kz_o] | rw [kz_r0] | simp -dsimp -implicitDefEqProofs only [go_sem, Nat.reduceBEq, Nat.reduceAdd, Nat.reduceLeDiff, Nat.reduceMul, Int.reduceLE, Int.reduceLT, Int.reduceBEq, hks, e91, e4, h3, a6, wrap_succ h3 hf3])
        exact nx_keep (m - 1) (by omega) (by simp -dsimp -implicitDefEqProofs only [go_sem, Nat.reduceBEq, Nat.reduceAdd, Nat.reduceLeDiff, Nat.reduceMul, Int.reduceLE, Int.reduceLT, Int.reduceBEq, hks]) ⟨le_up hle hn8, k + 1, s ++ byteT (c.picks.getD k default), by simp -dsimp -implicitDefEqProofs only [go_sem, Nat.reduceBEq, Nat.reduceAdd, Nat.reduceLeDiff, Nat.reduceMul, Int.reduceLE, Int.reduceLT, Int.reduceBEq], by simp -dsimp -implicitDefEqProofs only [go_sem, Nat.reduceBEq, Nat.reduceAdd, Nat.reduceLeDiff, Nat.reduceMul, Int.reduceLE, Int.reduceLT, Int.reduceBEq], by omega, by rw [foldl_take h3, ← hs], by rw [ByteArray.size_append, byteT_size]; omega⟩
      · repeat (first | rw [kz_o] | rw [kz_r0] | simp -dsimp -implicitDefEqProofs only [go_sem, Nat.reduceBEq, Nat.reduceAdd, Nat.reduceLeDiff, Nat.reduceMul, Int.reduceLE, Int.reduceLT, Int.reduceBEq, hks, e91, e4])
        exact fin _ _ _ hle (by rw [hR, hT, hs, foldl_all (by omega)])
  repeat (first | rw [kz_o] | rw [kz_r0] | simp -dsimp -implicitDefEqProofs only [go_sem, Nat.reduceBEq, Nat.reduceAdd, Nat.reduceLeDiff, Nat.reduceMul, Int.reduceLE, Int.reduceLT, Int.reduceBEq, p1, p2, p5])
  refine pw_intro oneByte_ok ?_
  rintro _ n3 hn3 rfl
  have a1 : (((byteT c.op).size + (byteT c.pos).size : Nat) : Int) ≤ 9223372036854775807 := by simp only [byteT_size]; omega
  repeat (first | rw [kz_o] | rw [kz_r0] | simp -dsimp -implicitDefEqProofs only [go_sem, Nat.reduceBEq, Nat.reduceAdd, Nat.reduceLeDiff, Nat.reduceMul, Int.reduceLE, Int.reduceLT, Int.reduceBEq, p1, p2, p5, a1])
  exact fin _ _ _ (by repeat (first | exact H2.le.refl _ | apply le_push | refine le_up ?_ (by assumption) | refine le_up ?_ (by simp only [hn_up, hn_push] at *; omega))) (by rw [hR, askT, if_neg p1, if_neg p2, if_neg p5])
end Go.Bi
