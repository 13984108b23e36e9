/- Decode on both sides. -/
import Derived.Test.YtjofbadmkigkjaaKb
set_option linter.unusedSimpArgs false
set_option linter.unusedVariables false
set_option maxRecDepth 20000
namespace Go.Bi
open Go.Proofs
open Go.Ai (wrap_i64 wrap_u64 wrap_u8 Heap)
variable {W0 : World} {P : Program}
set_option maxHeartbeats 2000000
def lsb (s : ByteArray) : List UInt8 := s.data.toList
def PlainK (x : X) : Prop := (∃ v, x = .raw v) ∨ ∃ vs : List Value, x = .tp (vs.map .raw)
theorem PlainK.fz {p q : Nat → Prop} {g : H2} {x : X} (h : PlainK x) : Fz p q g x x := by
  rcases h with ⟨v, rfl⟩ | ⟨vs, rfl⟩
  · exact .raw
  · refine .tp rfl fun i hi hi' => ?_
    simp only [List.getElem_map]; exact .raw
theorem PW.plainK {f : FuncId} {xs : List X} {g : H2} {Q : X → Prop} (c : WC2 P W0 f xs g fun x g' => g.le g' ∧ PlainK x ∧ Q x) : PW P W0 f xs g Q :=
  (PW.of (q := fun _ => True) (Q := Q) (c.mono fun x g' ⟨h1, h2, h3⟩ => ⟨h1, x, h2.fz, h3⟩)).mono fun y h => h.1
def tokB (l : List LMerge) (ts : List Int) : Bool := mergesB l && (decide ((ts.length : Int) ≤ 200) && allI ts 0 (255 + (l.length : Int)))
def decS (l : List LMerge) (ts : List Int) : ByteArray := ts.foldl (fun s t => s ++ pc l l.length t) ⟨#[]⟩
def decR (l : List LMerge) (ts : List Int) : X := if tokB l ts = true then .tp [.raw (.string (decS l ts)), .raw (.bool true)] else .tp [.raw (.string ⟨#[]⟩), .raw (.bool false)]
theorem cv_fromS {s d e : TypeId} {h : H2} {b : ByteArray} (hs : Go.Ai.cls? P s = some .str) (hd : Go.Ai.cls? P d = some .sl) (he : Go.Ai.elt? P d = some (e, 1, 1)) (hc : Go.Ai.cls? P e = some (.int .u8)) (hb : b.size ≤ 1048576) :
    convz P h s d (.raw (.string b)) .mk = some (.raw (.slice (some ⟨hn h .mk, 0, none⟩) b.size b.size), h.push ⟨1, (lsb b).map cB⟩) := by
  simp only [convz, convX, hs, hd, he, hc, if_pos hb]; rfl
theorem allok_cB : ∀ {bs : List UInt8}, (bs.map cB).all okX = true
  | [] => rfl
  | b :: bs => by rw [List.map_cons, List.all_cons, allok_cB]; rfl
theorem implTokens_ok {f f' : Adr} {l : List LMerge} {ts : List Int} {g : H2} (hl : l.length ≤ 1048576) (ht : ts.length ≤ 1048576) : PW Try.prog W0 101 [.sl f 2 (rMergeS l), .sl f' 1 (ints ts), .raw (.int .i64 200)] g (fun y => y = .raw (.bool (tokB l ts))) := by
  refine PW.scalar ?_
  refine start (P := Try.prog) [[0, 1, 2], [0, 1, 2]] (by kernel_rfl) Try.func101 rfl (by decide) (by decide +kernel) (rs := [.tmp 6]) rfl rfl (Nat.le_of_ble_eq_true rfl) ?_
  intro wf
  repeat (first | rw [kz_o] | rw [kz_r0] | simp -dsimp -implicitDefEqProofs only [go_sem, Nat.reduceBEq, Nat.reduceAdd, Nat.reduceLeDiff, Nat.reduceMul, Int.reduceLE, Int.reduceLT, Int.reduceBEq])
  refine pw_intro (implMergesOk_ok hl) ?_
  rintro _ n1 hn1 rfl
  have w1 : IntKind.i64.wrap (255 + (l.length : Int)) = 255 + (l.length : Int) := by rw [wrap_i64] <;> omega
  cases h1 : mergesB l
  · repeat (first | rw [kz_o] | rw [kz_r0] | simp -dsimp -implicitDefEqProofs only [go_sem, Nat.reduceBEq, Nat.reduceAdd, Nat.reduceLeDiff, Nat.reduceMul, Int.reduceLE, Int.reduceLT, Int.reduceBEq])
    exact ⟨le_up (H2.le.refl _) hn1, ⟨_, rfl⟩, by rw [tokB, h1]; rfl⟩
  by_cases h2 : (ts.length : Int) ≤ 200
  · repeat (first | rw [kz_o] | rw [kz_r0] | simp -dsimp -implicitDefEqProofs only [go_sem, Nat.reduceBEq, Nat.reduceAdd, Nat.reduceLeDiff, Nat.reduceMul, Int.reduceLE, Int.reduceLT, Int.reduceBEq, h2, w1])
    refine pw_intro (allIn_ok (by omega)) ?_
    rintro _ n2 hn2 rfl
    rw [hn_up] at hn2
    repeat (first | rw [kz_o] | rw [kz_r0] | simp -dsimp -implicitDefEqProofs only [go_sem, Nat.reduceBEq, Nat.reduceAdd, Nat.reduceLeDiff, Nat.reduceMul, Int.reduceLE, Int.reduceLT, Int.reduceBEq])
    exact ⟨le_up (le_up (H2.le.refl _) hn1) (by rw [hn_up]; exact hn2), ⟨_, rfl⟩, by rw [tokB, h1]; simp [h2]⟩
  · repeat (first | rw [kz_o] | rw [kz_r0] | simp -dsimp -implicitDefEqProofs only [go_sem, Nat.reduceBEq, Nat.reduceAdd, Nat.reduceLeDiff, Nat.reduceMul, Int.reduceLE, Int.reduceLT, Int.reduceBEq, h2, w1])
    exact ⟨le_up (H2.le.refl _) hn1, ⟨_, rfl⟩, by rw [tokB, h1]; simp [h2]⟩
theorem l07Token_ok {f : Adr} {l : List LMerge} {t : Int} {g : H2} (hl : l.length ≤ 1048576) : PW Try.prog W0 126 [.sl f 2 (rMergeS l), .raw (.int .i64 t)] g (fun y => y = .raw (.bool (inI t 0 (255 + (l.length : Int))))) := by
  refine PW.scalar ?_
  refine start (P := Try.prog) [[0, 1], [0, 1]] (by kernel_rfl) Try.func126 rfl (by decide) (by decide +kernel) (rs := [.tmp 4]) rfl rfl (Nat.le_of_ble_eq_true rfl) ?_
  intro wf
  have w1 : IntKind.i64.wrap (255 + (l.length : Int)) = 255 + (l.length : Int) := by rw [wrap_i64] <;> omega
  repeat (first | rw [kz_o] | rw [kz_r0] | simp -dsimp -implicitDefEqProofs only [go_sem, Nat.reduceBEq, Nat.reduceAdd, Nat.reduceLeDiff, Nat.reduceMul, Int.reduceLE, Int.reduceLT, Int.reduceBEq, w1])
  refine wz_intro l01In_ok ?_
  rintro _ h' ⟨rfl, rfl⟩
  repeat (first | rw [kz_o] | rw [kz_r0] | simp -dsimp -implicitDefEqProofs only [go_sem, Nat.reduceBEq, Nat.reduceAdd, Nat.reduceLeDiff, Nat.reduceMul, Int.reduceLE, Int.reduceLT, Int.reduceBEq])
  exact ⟨H2.le.refl _, ⟨_, rfl⟩, rfl⟩
theorem specTokens_ok {f f' : Adr} {l : List LMerge} {ts : List Int} {g : H2} (hl : l.length ≤ 1048576) (ht : ts.length ≤ 1048576) : PW Try.prog W0 97 [.sl f 2 (rMergeS l), .sl f' 1 (ints ts)] g (fun y => y = .raw (.bool (tokB l ts))) := by
  refine PW.scalar ?_
  refine start (P := Try.prog) [[0, 1], [0, 1], [], [0, 1], [0, 1, 5], [0, 1, 5], [0, 1, 5], [], []] (by kernel_rfl) Try.func97 rfl (by decide) (by decide +kernel) (rs := [.tmp 4]) rfl rfl (Nat.le_of_ble_eq_true rfl) ?_
  intro wf
  repeat (first | rw [kz_o] | rw [kz_r0] | simp -dsimp -implicitDefEqProofs only [go_sem, Nat.reduceBEq, Nat.reduceAdd, Nat.reduceLeDiff, Nat.reduceMul, Int.reduceLE, Int.reduceLT, Int.reduceBEq])
  refine pw_intro (specMergesOk_ok hl) ?_
  rintro _ n1 hn1 rfl
  cases h1 : mergesB l
  · repeat (first | rw [kz_o] | rw [kz_r0] | simp -dsimp -implicitDefEqProofs only [go_sem, Nat.reduceBEq, Nat.reduceAdd, Nat.reduceLeDiff, Nat.reduceMul, Int.reduceLE, Int.reduceLT, Int.reduceBEq])
    exact ⟨le_up (H2.le.refl _) hn1, ⟨_, rfl⟩, by rw [tokB, h1]; rfl⟩
  by_cases h2 : (ts.length : Int) > 200
  · repeat (first | rw [kz_o] | rw [kz_r0] | simp -dsimp -implicitDefEqProofs only [go_sem, Nat.reduceBEq, Nat.reduceAdd, Nat.reduceLeDiff, Nat.reduceMul, Int.reduceLE, Int.reduceLT, Int.reduceBEq, h2])
    exact ⟨le_up (H2.le.refl _) hn1, ⟨_, rfl⟩, by rw [tokB, h1]; simp; intro h; omega⟩
  repeat (first | rw [kz_o] | rw [kz_r0] | simp -dsimp -implicitDefEqProofs only [go_sem, Nat.reduceBEq, Nat.reduceAdd, Nat.reduceLeDiff, Nat.reduceMul, Int.reduceLE, Int.reduceLT, Int.reduceBEq, h2])
  refine lz_keep [0, 1] (fun m e h' => ∃ (i n : Nat), h' = g.up n ∧ hn g .mk ≤ n ∧ look e 5 .mk = .raw (.int .i64 (i : Nat)) ∧ m + i = ts.length ∧ ∀ j, j < i → inI (ts.getD j default) 0 (255 + (l.length : Int)) = true) ts.length ?_ ?_
  · exact ⟨0, n1, rfl, hn1, by simp -dsimp -implicitDefEqProofs only [go_sem, Nat.reduceBEq, Nat.reduceAdd, Nat.reduceLeDiff, Nat.reduceMul, Int.reduceLE, Int.reduceLT, Int.reduceBEq], by omega, fun j hj => by omega⟩
  · rintro m e h' hks ⟨i, n, rfl, hn2, e5, hm, hpre⟩
    simp -dsimp -implicitDefEqProofs only [go_sem, Nat.reduceBEq, Nat.reduceAdd, Nat.reduceLeDiff, Nat.reduceMul, Int.reduceLE, Int.reduceLT, Int.reduceBEq] at hks
    by_cases h3 : (i : Int) < (ts.length : Int)
    · have h4 : i < ts.length := by omega
      repeat (first | rw [kz_o] | rw [kz_r0] | simp -dsimp -implicitDefEqProofs only [go_sem, Nat.reduceBEq, Nat.reduceAdd, Nat.reduceLeDiff, Nat.reduceMul, Int.reduceLE, Int.reduceLT, Int.reduceBEq, hks, e5, h3, h4])
      refine pw_intro (l07Token_ok hl) ?_
      rintro _ n3 hn3 rfl
      rw [hn_up] at hn3
      have w1 : IntKind.i64.wrap ((i : Int) + 1) = ((i + 1 : Nat) : Int) := by rw [wrap_i64] <;> omega
      cases h5 : inI (ts.getD i default) 0 (255 + (l.length : Int))
      · repeat (first | rw [kz_o] | rw [kz_r0] | simp -dsimp -implicitDefEqProofs only [go_sem, Nat.reduceBEq, Nat.reduceAdd, Nat.reduceLeDiff, Nat.reduceMul, Int.reduceLE, Int.reduceLT, Int.reduceBEq, hks, e5, h3, h4])
        exact ⟨le_up (le_up (H2.le.refl _) hn2) (by rw [hn_up]; omega), ⟨_, rfl⟩, by rw [tokB, h1, allI, all_none h4 h5]; simp⟩
      · repeat (first | rw [kz_o] | rw [kz_r0] | simp -dsimp -implicitDefEqProofs only [go_sem, Nat.reduceBEq, Nat.reduceAdd, Nat.reduceLeDiff, Nat.reduceMul, Int.reduceLE, Int.reduceLT, Int.reduceBEq, hks, e5, h3, h4, w1])
        refine nx_keep (m - 1) (by omega) (by simp -dsimp -implicitDefEqProofs only [go_sem, Nat.reduceBEq, Nat.reduceAdd, Nat.reduceLeDiff, Nat.reduceMul, Int.reduceLE, Int.reduceLT, Int.reduceBEq, hks]) ⟨i + 1, n3, rfl, by omega, by simp -dsimp -implicitDefEqProofs only [go_sem, Nat.reduceBEq, Nat.reduceAdd, Nat.reduceLeDiff, Nat.reduceMul, Int.reduceLE, Int.reduceLT, Int.reduceBEq, w1], by omega, fun j hj => ?_⟩
        by_cases hji : j = i
        · subst hji; exact h5
        · exact hpre j (by omega)
    · repeat (first | rw [kz_o] | rw [kz_r0] | simp -dsimp -implicitDefEqProofs only [go_sem, Nat.reduceBEq, Nat.reduceAdd, Nat.reduceLeDiff, Nat.reduceMul, Int.reduceLE, Int.reduceLT, Int.reduceBEq, hks, e5, h3])
      exact ⟨le_up (H2.le.refl _) (by omega), ⟨_, rfl⟩, by rw [tokB, h1, allI, all_getD fun j hj => hpre j (by omega)]; simp; omega⟩
theorem decS_take {l : List LMerge} {ts : List Int} {k : Nat} (hk : k < ts.length) : decS l (ts.take (k + 1)) = decS l (ts.take k) ++ pc l l.length (ts.getD k default) := by
  unfold decS
  rw [List.take_succ_eq_append_getElem hk, List.foldl_append, List.getD_eq_getElem?_getD, List.getElem?_eq_getElem hk]; rfl
theorem decS_size {l : List LMerge} (hr : rightM l) : ∀ {ts : List Int}, (∀ t ∈ ts, 0 ≤ t ∧ t < 256 + (l.length : Int)) → (decS l ts).size ≤ 64 * ts.length := by
  intro ts
  have key : ∀ {ts : List Int} {b : ByteArray}, (∀ t ∈ ts, 0 ≤ t ∧ t < 256 + (l.length : Int)) → (ts.foldl (fun s t => s ++ pc l l.length t) b).size ≤ b.size + 64 * ts.length := by
    intro ts
    induction ts with
    | nil => intro b _; simp
    | cons t ts ih =>
      intro b h
      have h1 := h t (by simp)
      have h2 := pc_64 hr (n := l.length) (Nat.le_refl _) h1.1 h1.2
      have h3 := ih (b := b ++ pc l l.length t) fun u hu => h u (by simp [hu])
      rw [List.foldl_cons, List.length_cons]
      rw [ByteArray.size_append] at h3
      omega
  intro h
  have := key (b := ⟨#[]⟩) h
  have e : (ByteArray.mk #[]).size = 0 := rfl
  unfold decS
  omega
theorem tok_facts {l : List LMerge} {ts : List Int} (h : tokB l ts = true) : (l.length ≤ 16 ∧ rightM l) ∧ ts.length ≤ 200 ∧ ∀ t ∈ ts, 0 ≤ t ∧ t < 256 + (l.length : Int) := by
  unfold tokB at h
  simp only [Bool.and_eq_true, decide_eq_true_eq, allI, List.all_eq_true] at h
  exact ⟨right_of h.1, by omega, fun t ht => by have := inI_tt (h.2.2 t ht); omega⟩
theorem getD_memI {ts : List Int} {i : Nat} (h : i < ts.length) : ts.getD i default ∈ ts := by
  rw [List.getD_eq_getElem?_getD, List.getElem?_eq_getElem h]; exact List.getElem_mem h
theorem implDecode_ok {f f' : Adr} {l : List LMerge} {ts : List Int} {g : H2} (hl : l.length ≤ 1048576) (ht : ts.length ≤ 1048576) : PW Try.prog W0 64 [.sl f 2 (rMergeS l), .sl f' 1 (ints ts)] g (fun y => y = decR l ts) := by
  refine PW.plainK ?_
  refine start (P := Try.prog) [[0, 1], [0, 1], [], [0, 1], [0, 1, 6], [0, 6, 13, 14, 15], [0, 6, 13, 14, 15], [0, 6, 8, 13, 14, 15], [0, 6, 13, 14, 15], [6]] (by kernel_rfl) Try.func64 rfl (by decide) (by decide +kernel) (rs := [.tmp 4, .tmp 5]) rfl rfl (Nat.le_of_ble_eq_true rfl) ?_
  intro wf
  repeat (first | rw [kz_o] | rw [kz_r0] | simp -dsimp -implicitDefEqProofs only [go_sem, Nat.reduceBEq, Nat.reduceAdd, Nat.reduceLeDiff, Nat.reduceMul, Int.reduceLE, Int.reduceLT, Int.reduceBEq])
  refine pw_intro (implTokens_ok hl ht) ?_
  rintro _ n1 hn1 rfl
  cases htk : tokB l ts
  · repeat (first | rw [kz_o] | rw [kz_r0] | simp -dsimp -implicitDefEqProofs only [go_sem, Nat.reduceBEq, Nat.reduceAdd, Nat.reduceLeDiff, Nat.reduceMul, Int.reduceLE, Int.reduceLT, Int.reduceBEq])
    exact ⟨le_up (H2.le.refl _) hn1, .inr ⟨[_, _], rfl⟩, by rw [decR, htk]; rfl⟩
  obtain ⟨⟨l16, hr⟩, h200, hts⟩ := tok_facts htk
  repeat (first | rw [kz_o] | rw [kz_r0] | simp -dsimp -implicitDefEqProofs only [go_sem, Nat.reduceBEq, Nat.reduceAdd, Nat.reduceLeDiff, Nat.reduceMul, Int.reduceLE, Int.reduceLT, Int.reduceBEq])
  refine lz_keep [0, 13, 14] (fun m e h' => ∃ (i n : Nat), h' = g.up n ∧ hn g .mk ≤ n ∧ look e 15 .mk = .raw (.int .i64 (i : Nat)) ∧ look e 6 .mk = .raw (.string (decS l (ts.take i))) ∧ m + i = ts.length) ts.length ?_ ?_
  · exact ⟨0, n1, rfl, hn1, by simp -dsimp -implicitDefEqProofs only [go_sem, Nat.reduceBEq, Nat.reduceAdd, Nat.reduceLeDiff, Nat.reduceMul, Int.reduceLE, Int.reduceLT, Int.reduceBEq], by simp -dsimp -implicitDefEqProofs only [go_sem, Nat.reduceBEq, Nat.reduceAdd, Nat.reduceLeDiff, Nat.reduceMul, Int.reduceLE, Int.reduceLT, Int.reduceBEq] <;> rfl, by omega⟩
  · rintro m e h' hks ⟨i, n, rfl, hn2, e15, e6, hm⟩
    simp -dsimp -implicitDefEqProofs only [go_sem, Nat.reduceBEq, Nat.reduceAdd, Nat.reduceLeDiff, Nat.reduceMul, Int.reduceLE, Int.reduceLT, Int.reduceBEq] at hks
    by_cases h3 : (i : Int) < (ts.length : Int)
    · have h4 : i < ts.length := by omega
      have h5 := hts _ (getD_memI h4)
      repeat (first | rw [kz_o] | rw [kz_r0] | simp -dsimp -implicitDefEqProofs only [go_sem, Nat.reduceBEq, Nat.reduceAdd, Nat.reduceLeDiff, Nat.reduceMul, Int.reduceLE, Int.reduceLT, Int.reduceBEq, hks, e15, e6, h3, h4])
      refine pw_intro (implPiece_ok hr l16 (n := l.length) (Nat.le_refl _) h5.1 h5.2) ?_
      rintro _ n3 hn3 rfl
      rw [hn_up] at hn3
      have w1 : IntKind.i64.wrap ((i : Int) + 1) = ((i + 1 : Nat) : Int) := by rw [wrap_i64] <;> omega
      have s1 := decS_size hr (ts := ts.take i) fun t ht => hts t (List.mem_of_mem_take ht)
      have s2 := pc_64 hr (n := l.length) (Nat.le_refl _) h5.1 h5.2
      rw [List.length_take] at s1
      have a1 : (((decS l (ts.take i)).size + (pc l l.length (ts.getD i default)).size : Nat) : Int) ≤ 9223372036854775807 := by omega
      repeat (first | rw [kz_o] | rw [kz_r0] | simp -dsimp -implicitDefEqProofs only [go_sem, Nat.reduceBEq, Nat.reduceAdd, Nat.reduceLeDiff, Nat.reduceMul, Int.reduceLE, Int.reduceLT, Int.reduceBEq, hks, e15, e6, w1, a1])
      exact nx_keep (m - 1) (by omega) (by simp -dsimp -implicitDefEqProofs only [go_sem, Nat.reduceBEq, Nat.reduceAdd, Nat.reduceLeDiff, Nat.reduceMul, Int.reduceLE, Int.reduceLT, Int.reduceBEq, hks]) ⟨i + 1, n3, rfl, by omega, by simp -dsimp -implicitDefEqProofs only [go_sem, Nat.reduceBEq, Nat.reduceAdd, Nat.reduceLeDiff, Nat.reduceMul, Int.reduceLE, Int.reduceLT, Int.reduceBEq, w1], by simp -dsimp -implicitDefEqProofs only [go_sem, Nat.reduceBEq, Nat.reduceAdd, Nat.reduceLeDiff, Nat.reduceMul, Int.reduceLE, Int.reduceLT, Int.reduceBEq, decS_take h4], by omega⟩
    · obtain rfl : i = ts.length := by omega
      rw [List.take_length] at e6
      repeat (first | rw [kz_o] | rw [kz_r0] | simp -dsimp -implicitDefEqProofs only [go_sem, Nat.reduceBEq, Nat.reduceAdd, Nat.reduceLeDiff, Nat.reduceMul, Int.reduceLE, Int.reduceLT, Int.reduceBEq, hks, e15, e6, h3])
      exact ⟨le_up (H2.le.refl _) hn2, .inr ⟨[_, _], rfl⟩, by rw [decR, htk]; rfl⟩
theorem specDecode_ok {f f' : Adr} {l : List LMerge} {ts : List Int} {g : H2} (hl : l.length ≤ 1048576) (ht : ts.length ≤ 1048576) : PW Try.prog W0 56 [.sl f 2 (rMergeS l), .sl f' 1 (ints ts)] g (fun y => y = decR l ts) := by
  refine PW.plainK ?_
  refine start (P := Try.prog) [[0, 1], [0, 1], [], [0, 1], [0, 1, 6], [0, 1, 6, 7], [0, 1, 6, 7], [0, 1, 6, 7], [6]] (by kernel_rfl) Try.func56 rfl (by decide) (by decide +kernel) (rs := [.tmp 4, .tmp 5]) rfl rfl (Nat.le_of_ble_eq_true rfl) ?_
  intro wf
  repeat (first | rw [kz_o] | rw [kz_r0] | simp -dsimp -implicitDefEqProofs only [go_sem, Nat.reduceBEq, Nat.reduceAdd, Nat.reduceLeDiff, Nat.reduceMul, Int.reduceLE, Int.reduceLT, Int.reduceBEq])
  refine pw_intro (specTokens_ok hl ht) ?_
  rintro _ n1 hn1 rfl
  cases htk : tokB l ts
  · repeat (first | rw [kz_o] | rw [kz_r0] | simp -dsimp -implicitDefEqProofs only [go_sem, Nat.reduceBEq, Nat.reduceAdd, Nat.reduceLeDiff, Nat.reduceMul, Int.reduceLE, Int.reduceLT, Int.reduceBEq])
    exact ⟨le_up (H2.le.refl _) hn1, .inr ⟨[_, _], rfl⟩, by rw [decR, htk]; rfl⟩
  obtain ⟨⟨l16, hr⟩, h200, hts⟩ := tok_facts htk
  repeat (first | rw [kz_o] | rw [kz_r0] | simp -dsimp -implicitDefEqProofs only [go_sem, Nat.reduceBEq, Nat.reduceAdd, Nat.reduceLeDiff, Nat.reduceMul, Int.reduceLE, Int.reduceLT, Int.reduceBEq])
  refine lz_keep [0, 1] (fun m e h' => ∃ (i : Nat) (v : X), g.le h' ∧ look e 7 .mk = .raw (.int .i64 (i : Nat)) ∧ look e 6 .mk = v ∧ OwnB (hn g .mk) h' v (lsb (decS l (ts.take i))) ∧ m + i = ts.length) ts.length ?_ ?_
  · exact ⟨0, _, le_push (le_up (H2.le.refl _) hn1), by simp -dsimp -implicitDefEqProofs only [go_sem, Nat.reduceBEq, Nat.reduceAdd, Nat.reduceLeDiff, Nat.reduceMul, Int.reduceLE, Int.reduceLT, Int.reduceBEq], by simp -dsimp -implicitDefEqProofs only [go_sem, Nat.reduceBEq, Nat.reduceAdd, Nat.reduceLeDiff, Nat.reduceMul, Int.reduceLE, Int.reduceLT, Int.reduceBEq] <;> rfl, Own.new (by rw [hn_up]; exact hn1) rfl, by omega⟩
  · rintro m e h' hks ⟨i, v, lg, e7, e6, ov, hm⟩
    simp -dsimp -implicitDefEqProofs only [go_sem, Nat.reduceBEq, Nat.reduceAdd, Nat.reduceLeDiff, Nat.reduceMul, Int.reduceLE, Int.reduceLT, Int.reduceBEq] at hks
    by_cases h3 : (i : Int) < (ts.length : Int)
    · have h4 : i < ts.length := by omega
      have h5 := hts _ (getD_memI h4)
      repeat (first | rw [kz_o] | rw [kz_r0] | simp -dsimp -implicitDefEqProofs only [go_sem, Nat.reduceBEq, Nat.reduceAdd, Nat.reduceLeDiff, Nat.reduceMul, Int.reduceLE, Int.reduceLT, Int.reduceBEq, hks, e7, e6, h3, h4])
      refine pw_intro (specPiece_ok hr l16 (n := l.length) (Nat.le_refl _) h5.1 h5.2) ?_
      rintro _ n3 hn3 rfl
      have w1 : IntKind.i64.wrap ((i : Int) + 1) = ((i + 1 : Nat) : Int) := by rw [wrap_i64] <;> omega
      have s1 := decS_size hr (ts := ts.take i) fun t ht => hts t (List.mem_of_mem_take ht)
      have s2 := pc_64 hr (n := l.length) (Nat.le_refl _) h5.1 h5.2
      rw [List.length_take] at s1
      repeat (first | rw [kz_o] | rw [kz_r0] | simp -dsimp -implicitDefEqProofs only [go_sem, Nat.reduceBEq, Nat.reduceAdd, Nat.reduceLeDiff, Nat.reduceMul, Int.reduceLE, Int.reduceLT, Int.reduceBEq, hks, e7, e6, h3, h4])
      rw [cv_fromS Go.Ai.ty_cl9 Go.Ai.ty_cl22 Go.Ai.ty_el22 Go.Ai.ty_cl5 (by omega)]
      repeat (first | rw [kz_o] | rw [kz_r0] | simp -dsimp -implicitDefEqProofs only [go_sem, Nat.reduceBEq, Nat.reduceAdd, Nat.reduceLeDiff, Nat.reduceMul, Int.reduceLE, Int.reduceLT, Int.reduceBEq, hks, e7, e6])
      have hle := lg.1
      have hg2 : (g.le ((h'.up n3).push ⟨1, (lsb (pc l l.length (ts.getD i default))).map cB⟩)) := le_push (le_up lg hn3)
      have op : OwnB (hn g .mk) ((h'.up n3).push ⟨1, (lsb (pc l l.length (ts.getD i default))).map cB⟩) (.raw (.slice (some ⟨hn (h'.up n3) .mk, 0, none⟩) (pc l l.length (ts.getD i default)).size (pc l l.length (ts.getD i default)).size)) (lsb (pc l l.length (ts.getD i default))) := Own.new (by rw [hn_up]; omega) (by simp; rfl)
      have ov2 : OwnB (hn g .mk) ((h'.up n3).push ⟨1, (lsb (pc l l.length (ts.getD i default))).map cB⟩) v (lsb (decS l (ts.take i))) := Own.keep ov (le_push (le_up (H2.le.refl _) hn3))
      refine append_own (P := Try.prog) (z := 0) (N := hn g .mk) Go.Ai.ty_el22 Go.Ai.ty_zr5 rfl Go.Ai.ty_cl22 ov2 (by rw [hn_push, hn_up]; omega) (src_own op) (by simp) allok_cB (by have : Go.Ai.most = 1099511627776 := rfl; have : (lsb (decS l (ts.take i))).length = (decS l (ts.take i)).size := rfl; have : (lsb (pc l l.length (ts.getD i default))).length = (pc l l.length (ts.getD i default)).size := rfl; omega) ?_
      intro v4 g4 o4 nn4 le4 on4
      repeat (first | rw [kz_o] | rw [kz_r0] | simp -dsimp -implicitDefEqProofs only [go_sem, Nat.reduceBEq, Nat.reduceAdd, Nat.reduceLeDiff, Nat.reduceMul, Int.reduceLE, Int.reduceLT, Int.reduceBEq, hks, e7, e6, w1])
      refine nx_keep (m - 1) (by omega) (by simp -dsimp -implicitDefEqProofs only [go_sem, Nat.reduceBEq, Nat.reduceAdd, Nat.reduceLeDiff, Nat.reduceMul, Int.reduceLE, Int.reduceLT, Int.reduceBEq, hks]) ⟨i + 1, v4, le4 g (Nat.le_refl _) hg2, by simp -dsimp -implicitDefEqProofs only [go_sem, Nat.reduceBEq, Nat.reduceAdd, Nat.reduceLeDiff, Nat.reduceMul, Int.reduceLE, Int.reduceLT, Int.reduceBEq, w1], by simp -dsimp -implicitDefEqProofs only [go_sem, Nat.reduceBEq, Nat.reduceAdd, Nat.reduceLeDiff, Nat.reduceMul, Int.reduceLE, Int.reduceLT, Int.reduceBEq], ?_, by omega⟩
      have e : lsb (decS l (ts.take (i + 1))) = lsb (decS l (ts.take i)) ++ lsb (pc l l.length (ts.getD i default)) := by
        rw [decS_take h4]; simp [lsb, ByteArray.data_append]
      unfold OwnB
      rw [e, List.map_append, List.length_append]
      exact o4
    · obtain rfl : i = ts.length := by omega
      rw [List.take_length] at ov
      repeat (first | rw [kz_o] | rw [kz_r0] | simp -dsimp -implicitDefEqProofs only [go_sem, Nat.reduceBEq, Nat.reduceAdd, Nat.reduceLeDiff, Nat.reduceMul, Int.reduceLE, Int.reduceLT, Int.reduceBEq, hks, e7, e6, h3])
      rw [cv_ownB Go.Ai.ty_cl22 Go.Ai.ty_cl9 (by simp -dsimp -implicitDefEqProofs only [go_sem, Nat.reduceBEq, Nat.reduceAdd, Nat.reduceLeDiff, Nat.reduceMul, Int.reduceLE, Int.reduceLT, Int.reduceBEq]) (by simp -dsimp -implicitDefEqProofs only [go_sem, Nat.reduceBEq, Nat.reduceAdd, Nat.reduceLeDiff, Nat.reduceMul, Int.reduceLE, Int.reduceLT, Int.reduceBEq]) (by simp -dsimp -implicitDefEqProofs only [go_sem, Nat.reduceBEq, Nat.reduceAdd, Nat.reduceLeDiff, Nat.reduceMul, Int.reduceLE, Int.reduceLT, Int.reduceBEq]) ov]
      repeat (first | rw [kz_o] | rw [kz_r0] | simp -dsimp -implicitDefEqProofs only [go_sem, Nat.reduceBEq, Nat.reduceAdd, Nat.reduceLeDiff, Nat.reduceMul, Int.reduceLE, Int.reduceLT, Int.reduceBEq])
      exact ⟨lg, .inr ⟨[_, _], rfl⟩, by rw [decR, htk]; rfl⟩
end Go.Bi
