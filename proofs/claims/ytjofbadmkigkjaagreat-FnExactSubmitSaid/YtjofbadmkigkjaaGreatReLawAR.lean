/- Own lemmas that the theorem of this claim needs: the abstract machine and walks of functions. -/
import Derived.Test.YtjofbadmkigkjaaGreatReLawAQ
set_option linter.unusedSimpArgs false
set_option linter.unusedVariables false
open Nat renaming reduceBEq → rq1, reduceAdd → rq2, reduceLeDiff → rq3, reduceMul → rq4
open Int renaming reduceLE → rq5, reduceLT → rq6, reduceBEq → rq7
section
set_option maxRecDepth 20000
namespace Go.Bi
open Go.Proofs
open Go.Ai (wrap_i64 wrap_u8 Heap)
variable {W0 : World} {P : Program}
set_option maxHeartbeats 4000000
structure ReqT (e : LEngine) (r : LRequest) : Prop where
 cfg : cfgOk r.config = true
 prompt : inI r.prompt 1 24 = true
 ctx : ¬ r.prompt + r.config.new > e.model.context
 status : inI r.status 0 4 = true
 len : inI r.tokens.length r.prompt (r.prompt + r.config.new) = true
 full : ¬ (r.status = 0 ∧ (r.tokens.length : Int) = r.prompt + r.config.new)
 toks : allI r.tokens 0 (vocI e.model - 1) = true
 table : tableB e.store r.table = true
 count : ¬ r.table.count > (r.tokens.length : Int)
 done : ¬ (¬ r.status = 0 ∧ (r.table.pages.length : Int) > 0)
 need : ¬ needI (r.prompt + r.config.new) > (e.store.refs.length : Int)
 cells : ((cellsL e.store r.table r.table.pages.length).any fun c => !cellB c e.model) = false
theorem reqB_iff {e : LEngine} {r : LRequest} : reqB e r = true ↔ ReqT e r := by
 unfold reqB
 simp only [Bool.and_eq_true, Bool.not_eq_true', Bool.and_eq_false_iff, decide_eq_false_iff_not]
 constructor
 ·rintro ⟨h1, h2, h3, h4, h5, h6, h7, h8, h9, h10, h11, h12⟩
  exact ⟨h1, h2, h3, h4, h5, fun hh => h6.elim (fun h => h hh.1) (fun h => h hh.2), h7, h8, h9, fun hh => h10.elim (fun h => h hh.1) (fun h => h hh.2), h11, h12⟩
 ·rintro ⟨h1, h2, h3, h4, h5, h6, h7, h8, h9, h10, h11, h12⟩
  refine ⟨h1, h2, h3, h4, h5, ?_, h7, h8, h9, ?_, h11, h12⟩
  ·by_cases hs : r.status = 0
   ·exact .inr fun hl => h6 ⟨hs, hl⟩
   ·exact .inl hs
  ·by_cases hs : ¬ r.status = 0
   ·exact .inr fun hl => h10 ⟨hs, hl⟩
   ·exact .inl hs
theorem req_no {e : LEngine} {r : LRequest} (h : ReqT e r → False) : reqB e r = false := by
 cases hb : reqB e r
 ·rfl
 ·exact (h (reqB_iff.1 hb)).elim
theorem token_ok {F : Nat → Adr} {m : LModel} {t : Int} {h : H2} (hm : m.merges.length ≤ 1048576) : PW Tryz.prog W0 160 [.st (xModel F m), .raw (.int .i64 t)] h (fun r => r = .raw (.bool (inI t 0 (vocI m - 1)))) := by
 refine PW.scalar ?_
 refine begins [[0, 1], [1, 2]] Tryz.func160 rfl (rs := [.tmp 4]) rfl rfl ?_
 intro wf
 have w : IntKind.i64.wrap (vocI m - 1) = vocI m - 1 := by unfold vocI; rw [wrap_i64] <;> omega
 repeat (first | rw [ko] | rw [kr] | simp -dsimp -implicitDefEqProofs only [go_sem, hoo])
 refine pw_intro (voc2_ok (F := F) hm) ?_
 rintro _ n1 hn1 rfl
 try (rw [kq]; refine ⟨by simp -dsimp -implicitDefEqProofs only [go_sem, rq1, rq2, rq3, rq4, rq5, rq6, rq7, hoo], ?_⟩)
 repeat (first | rw [ko] | rw [kr] | simp -dsimp -implicitDefEqProofs only [go_sem, hoo, w])
 refine wz_intro l01In_ok ?_
 rintro _ h2 ⟨rfl, rfl⟩
 repeat (first | rw [ko] | rw [kr] | simp -dsimp -implicitDefEqProofs only [go_sem])
 exact ⟨zale, ⟨_, rfl⟩, rfl⟩
theorem specReq_ok {F F' : Nat → Adr} {e : LEngine} {r : LRequest} {g : H2} (hm : modelB e.model = true) (hst : storeB e.store = true) (hs : smallEng e) (hr : smallReq r) (hct : i64R r.table.count) :
  PW Tryz.prog W0 65 [.st (xEngine F e), .st (xRequest F' r)] g (fun y => y = .raw (.bool (reqB e r))) := by
 obtain ⟨s1, s2, s3, s4, s5⟩ := hs
 obtain ⟨r1, r2, r3⟩ := hr
 have hwd := modelB_w hm
 have hhd := modelB_h hm
 obtain ⟨hpl, hrl⟩ := storeB_len hst
 have hmg : e.model.merges.length ≤ 1048576 := s1.1
 refine PW.scalar ?_
 refine begins [[0, 1], [2, 3], [2, 3, 5], [], [2, 3, 5], [2, 3, 5, 6], [2, 3, 5, 6], [2, 3, 5, 6], [], [2, 3]] Tryz.func65 rfl (rs := [.tmp 4]) rfl rfl ?_
 intro wf
 have hne : (hn g .mk == hn g .mk + 1) = false := by simp
 repeat (first | rw [ko] | rw [kr] | simp -dsimp -implicitDefEqProofs only [go_sem, rq1, hoo])
 generalize hap : List.append _ _ = oplist
 simp only [List.append_eq, List.cons_append, List.nil_append] at hap
 subst hap
 by_cases h1 : r.prompt < 1
 ·repeat (first | rw [ko] | rw [kr] | simp -dsimp -implicitDefEqProofs only [go_sem, rq1, hoo, h1])
  exact ⟨zale, ⟨_, rfl⟩, by rw [req_no fun (hh : ReqT e r) => by have := inI_tt hh.prompt; omega]⟩
 repeat (first | rw [ko] | rw [kr] | simp -dsimp -implicitDefEqProofs only [go_sem, rq1, hoo, h1])
 refine pw_intro (specConfigOk_ok (F := fun j => F' (j + 2)) (c := r.config) (by omega)) ?_
 rintro _ n1 hn1 rfl
 simp only [hn_push] at hn1
 try (rw [kq]; refine ⟨by simp -dsimp -implicitDefEqProofs only [go_sem, rq1, rq2, rq3, rq4, rq5, rq6, rq7, hoo, hne], ?_⟩)
 cases h2 : cfgOk r.config
 ·repeat (first | rw [ko] | rw [kr] | simp -dsimp -implicitDefEqProofs only [go_sem, rq1, hoo])
  exact ⟨zale, ⟨_, rfl⟩, by rw [req_no fun (hh : ReqT e r) => by have := hh.cfg; rw [h2] at this; cases this]⟩
 have hnew := cfg_new h2
 by_cases h3 : (r.tokens.length : Int) < r.prompt
 ·repeat (first | rw [ko] | rw [kr] | simp -dsimp -implicitDefEqProofs only [go_sem, rq1, hoo, h3])
  exact ⟨zale, ⟨_, rfl⟩, by rw [req_no fun (hh : ReqT e r) => by have := inI_tt hh.len; omega]⟩
 by_cases h4 : r.prompt > 24
 ·repeat (first | rw [ko] | rw [kr] | simp -dsimp -implicitDefEqProofs only [go_sem, rq1, hoo, h3, h4])
  exact ⟨zale, ⟨_, rfl⟩, by rw [req_no fun (hh : ReqT e r) => by have := inI_tt hh.prompt; omega]⟩
 have w1 : IntKind.i64.wrap (r.prompt + r.config.new) = r.prompt + r.config.new := by rw [wrap_i64] <;> omega
 by_cases h5 : (r.tokens.length : Int) > r.prompt + r.config.new
 ·repeat (first | rw [ko] | rw [kr] | simp -dsimp -implicitDefEqProofs only [go_sem, rq1, rq2, hoo, h3, h4, w1, h5])
  exact ⟨zale, ⟨_, rfl⟩, by rw [req_no fun (hh : ReqT e r) => by have := inI_tt hh.len; omega]⟩
 by_cases h6 : r.prompt + r.config.new > e.model.context
 ·repeat (first | rw [ko] | rw [kr] | simp -dsimp -implicitDefEqProofs only [go_sem, rq1, rq2, hoo, hne, h3, h4, w1, h5, h6])
  exact ⟨zale, ⟨_, rfl⟩, by rw [req_no fun (hh : ReqT e r) => hh.ctx h6]⟩
 repeat (first | rw [ko] | rw [kr] | simp -dsimp -implicitDefEqProofs only [go_sem, rq1, rq2, hoo, hne, h3, h4, w1, h5, h6])
 refine wz_intro l01In_ok ?_
 rintro _ _ ⟨rfl, rfl⟩
 try (rw [kq]; refine ⟨by simp -dsimp -implicitDefEqProofs only [go_sem, rq1, rq2, rq3, rq4, rq5, rq6, rq7, hoo, hne], ?_⟩)
 cases h7 : inI r.status 0 4
 ·repeat (first | rw [ko] | rw [kr] | simp -dsimp -implicitDefEqProofs only [go_sem, rq1, hoo])
  exact ⟨zale, ⟨_, rfl⟩, by rw [req_no fun (hh : ReqT e r) => by have := hh.status; rw [h7] at this; cases this]⟩
 repeat (first | rw [ko] | rw [kr] | simp -dsimp -implicitDefEqProofs only [go_sem, rq1, hoo, hne])
 refine pw_intro (specTable_ok (F := fun j => F (j + 14)) (F' := fun j => F' (j + 7)) (s := e.store) (t := r.table) (by omega) (by omega) hct.2) ?_
 rintro _ n2 hn2 rfl
 simp only [hn_up] at hn2
 try (rw [kq]; refine ⟨by simp -dsimp -implicitDefEqProofs only [go_sem, rq1, rq2, rq3, rq4, rq5, rq6, rq7, hoo, hne], ?_⟩)
 rw [tableC_eq hst]
 cases h8 : tableB e.store r.table
 ·repeat (first | rw [ko] | rw [kr] | simp -dsimp -implicitDefEqProofs only [go_sem, rq1, hoo])
  exact ⟨zale, ⟨_, rfl⟩, by rw [req_no fun (hh : ReqT e r) => by have := hh.table; rw [h8] at this; cases this]⟩
 obtain ⟨t1, t2, t3, t4⟩ := table_t h8
 have hpc : (0 < r.table.count ↔ (r.table.pages.length : Int) > 0) := by
  obtain ⟨c, hc⟩ := Int.eq_ofNat_of_zero_le t1
  rw [hc, need_nat] at t3
  omega
 have hp16 : r.table.pages.length ≤ 16 := by
  obtain ⟨c, hc⟩ := Int.eq_ofNat_of_zero_le t1
  rw [hc, need_nat] at t3
  omega
 by_cases h9 : r.table.count > (r.tokens.length : Int)
 ·repeat (first | rw [ko] | rw [kr] | simp -dsimp -implicitDefEqProofs only [go_sem, rq1, rq2, hoo, h9])
  exact ⟨zale, ⟨_, rfl⟩, by rw [req_no fun (hh : ReqT e r) => hh.count h9]⟩
 by_cases h10 : r.status = 0
 ·have e10 : decide (¬ r.status = 0) = false := decide_eq_false (fun h => h h10)
  have e10' : decide (r.status = 0) = true := decide_eq_true h10
  by_cases h11 : (r.tokens.length : Int) = r.prompt + r.config.new
  ·have e11 : decide ((r.tokens.length : Int) = r.prompt + r.config.new) = true := decide_eq_true h11
   repeat (first | rw [ko] | rw [kr] | simp -dsimp -implicitDefEqProofs only [go_sem, rq1, rq2, hoo, h9, e10, e10', w1, e11])
   exact ⟨zale, ⟨_, rfl⟩, by rw [req_no fun (hh : ReqT e r) => hh.full ⟨h10, h11⟩]⟩
  have e11 : decide ((r.tokens.length : Int) = r.prompt + r.config.new) = false := decide_eq_false h11
  have hfull : ¬ (r.status = 0 ∧ (r.tokens.length : Int) = r.prompt + r.config.new) := fun h => h11 h.2
  have hdone : ¬ (¬ r.status = 0 ∧ (r.table.pages.length : Int) > 0) := fun h => h.1 h10
  repeat (first | rw [ko] | rw [kr] | simp -dsimp -implicitDefEqProofs only [go_sem, rq1, rq2, hoo, h9, e10, e10', w1, e11])
  refine lz_keep [2, 3, 5] (fun mm s h' => ∃ (i : Nat), g.le h' ∧ hn g .mk + 2 ≤ hn h' .mk ∧ hg h' (hn g .mk) .mk = some ⟨17, [.raw (.int .i64 e.model.dim), .raw (.int .i64 e.model.heads), .raw (.int .i64 e.model.context), .sl (F 3) 2 (rMergeS e.model.merges), .sl (F 4) 1 (rIntSS e.model.embed), .sl (F 5) 32 (rLayerS e.model.layers), .sl (F 6) 1 (ints e.model.gainEnd), .raw (.int .i64 e.model.head.width), .sl (F 8) 1 (rIntSS e.model.head.rows), .sl (F 9) 1 (rIntSS e.model.head.scales), .raw (.int .i64 e.model.head.mul), .raw (.int .i64 e.model.head.shift), .sl (F 12) 1 (rIntSS e.model.turns.cos), .sl (F 13) 1 (rIntSS e.model.turns.sin), .sl (F 14) 1 (ints e.store.refs), .sl (F 15) 1 (rCellSS e.store.pages), .sl (F 16) 10 (rRequestS e.requests)]⟩ ∧ hg h' (hn g .mk + 1) .mk = some ⟨10, [.raw (.int .i64 r.prompt), .sl (F' 1) 1 (ints r.tokens), .raw (.int .i64 r.config.top), .raw (.int .i64 r.config.seed), .raw (.int .i64 r.config.new), .sl (F' 5) 1 (strs r.config.stops), .raw (.int .u64 r.state), .sl (F' 7) 1 (ints r.table.pages), .raw (.int .i64 r.table.count), .raw (.int .i64 r.status)]⟩ ∧ look s 6 .mk = .raw (.int .i64 (i : Nat)) ∧ mm + i = r.tokens.length ∧ ∀ j, j < i → inI (r.tokens.getD j default) 0 (vocI e.model - 1) = true) r.tokens.length ?_ ?_
  ·exact ⟨0, zale, by simp only [hn_up]; omega, by simp -dsimp -implicitDefEqProofs only [go_sem, hoo, hne] <;> rfl, by simp -dsimp -implicitDefEqProofs only [go_sem, hoo] <;> rfl, zsm, by omega, fun j hj => by omega⟩
  rintro mm s h' hks ⟨i, hle, hnn, ra, rb, ei, hmm, hpre⟩
  simp -dsimp -implicitDefEqProofs only [go_sem] at hks
  by_cases q1 : (i : Int) < (r.tokens.length : Int)
  ·have q2 : i < r.tokens.length := by omega
   have w3 := zwrs i (by omega)
   repeat (first | rw [ko] | rw [kr] | simp -dsimp -implicitDefEqProofs only [go_sem, rq1, hks, ei, q1])
   refine dq_intro [(0, []), (1, []), (2, []), (3, []), (4, []), (5, []), (6, []), (7, []), (8, [])] (by kernel_rfl) ?_
   repeat (first | rw [ko] | rw [kr] | simp -dsimp -implicitDefEqProofs only [go_sem, rq1, q2, ra, rb])
   refine pw_intro (token_ok (F := F) (m := e.model) hmg) ?_
   rintro _ n4 hn4 rfl
   try (rw [kq]; refine ⟨zsm, ?_⟩)
   cases q5 : inI (r.tokens.getD i default) 0 (vocI e.model - 1)
   ·repeat (first | rw [ko] | rw [kr] | simp -dsimp -implicitDefEqProofs only [go_sem])
    exact ⟨le_up hle hn4, ⟨_, rfl⟩, by rw [req_no fun (hh : ReqT e r) => by
     have := (List.all_eq_true.1 hh.toks) _ (getD_memR q2)
     rw [q5] at this; cases this]⟩
   ·repeat (first | rw [ko] | rw [kr] | simp -dsimp -implicitDefEqProofs only [go_sem, rq1, w3])
    refine nx_keep (mm - 1) (by omega) zsm ⟨i + 1, le_up hle hn4, by rw [hn_up]; omega, by simp -dsimp -implicitDefEqProofs only [go_sem, ra], by simp -dsimp -implicitDefEqProofs only [go_sem, rb], zsm, by omega, fun j hj => ?_⟩
    by_cases hji : j = i
    ·subst hji; exact q5
    ·exact hpre j (by omega)
  have htoks : allI r.tokens 0 (vocI e.model - 1) = true := by
   rw [allI, List.all_eq_true]
   intro x hx
   obtain ⟨j, hj, rfl⟩ := List.getElem_of_mem hx
   have := hpre j (by omega)
   rwa [List.getD_eq_getElem?_getD, List.getElem?_eq_getElem hj] at this
  repeat (first | rw [ko] | rw [kr] | simp -dsimp -implicitDefEqProofs only [go_sem, rq1, hks, ei, q1])
  refine dq_intro [(0, []), (1, []), (2, []), (3, []), (4, []), (5, []), (7, []), (8, []), (9, []), (10, []), (6, [9]), (11, []), (12, []), (13, []), (14, []), (15, []), (16, []), (17, []), (18, []), (19, [14]), (20, []), (21, []), (22, [])] (by kernel_rfl) ?_
  repeat (first | rw [ko] | rw [kr] | simp -dsimp -implicitDefEqProofs only [go_sem, rq1, rq2, ra, rb, w1])
  refine wz_intro (specNeed_ok (by omega)) ?_
  rintro _ _ ⟨rfl, rfl⟩
  try (rw [kq]; refine ⟨by simp -dsimp -implicitDefEqProofs only [go_sem, ra], ?_⟩)
  by_cases h13 : needI (r.prompt + r.config.new) ≤ (e.store.refs.length : Int)
  rotate_left
  ·repeat (first | rw [ko] | rw [kr] | simp -dsimp -implicitDefEqProofs only [go_sem, rq1, h13])
   exact ⟨hle, ⟨_, rfl⟩, by rw [req_no fun (hh : ReqT e r) => hh.need (by omega)]⟩
  repeat (first | rw [ko] | rw [kr] | simp -dsimp -implicitDefEqProofs only [go_sem, rq1, ra, rb, h13])
  refine pw_intro (l15Cells_ok (F := fun j => F (j + 14)) (F' := fun j => F' (j + 7)) (s := e.store) (t := r.table) hpl h8) ?_
  rintro _ n5 hn5 ⟨f5, rfl⟩
  try (rw [kq]; refine ⟨by simp -dsimp -implicitDefEqProofs only [go_sem, rq1, ra], ?_⟩)
  have hsc : smallC (cellsL e.store r.table r.table.pages.length) := cells_small s3 (by omega)
  repeat (first | rw [ko] | rw [kr] | simp -dsimp -implicitDefEqProofs only [go_sem, rq1])
  refine pw_intro (l18Cells_ok (F := F) (m := e.model) hwd hhd hsc) ?_
  rintro _ n6 hn6 rfl
  rw [hn_up] at hn6
  try (rw [kq]; refine ⟨zsm, ?_⟩)
  repeat (first | rw [ko] | rw [kr] | simp -dsimp -implicitDefEqProofs only [go_sem, rq1])
  refine ⟨le_up (le_up hle hn5) (by rw [hn_up]; exact hn6), ⟨_, rfl⟩, ?_⟩
  have hz : (1 : Int) ≤ r.prompt ∧ r.prompt ≤ 24 := by omega
  have hp : inI r.prompt 1 24 = true := by unfold inI; simp only [Bool.and_eq_true, decide_eq_true_eq]; omega
  have hl : inI r.tokens.length r.prompt (r.prompt + r.config.new) = true := by unfold inI; simp only [Bool.and_eq_true, decide_eq_true_eq]; omega
  cases hc : (cellsL e.store r.table r.table.pages.length).any fun c => !cellB c e.model
  ·rw [reqB_iff.2 ⟨h2, hp, h6, h7, hl, hfull, htoks, h8, h9, hdone, by omega, hc⟩]; rfl
  ·rw [req_no fun (hh : ReqT e r) => by have := hh.cells; rw [hc] at this; cases this]; rfl
 ·have e10 : decide (¬ r.status = 0) = true := decide_eq_true h10
  have e10' : decide (r.status = 0) = false := decide_eq_false h10
  by_cases h11 : r.table.count > 0
  ·repeat (first | rw [ko] | rw [kr] | simp -dsimp -implicitDefEqProofs only [go_sem, rq1, rq2, hoo, h9, e10, h11])
   exact ⟨zale, ⟨_, rfl⟩, by rw [req_no fun (hh : ReqT e r) => hh.done ⟨h10, hpc.1 h11⟩]⟩
  have hfull : ¬ (r.status = 0 ∧ (r.tokens.length : Int) = r.prompt + r.config.new) := fun h => h10 h.1
  have hdone : ¬ (¬ r.status = 0 ∧ (r.table.pages.length : Int) > 0) := fun h => h11 (hpc.2 h.2)
  repeat (first | rw [ko] | rw [kr] | simp -dsimp -implicitDefEqProofs only [go_sem, rq1, rq2, hoo, h9, e10, e10', h11])
  refine lz_keep [2, 3, 5] (fun mm s h' => ∃ (i : Nat), g.le h' ∧ hn g .mk + 2 ≤ hn h' .mk ∧ hg h' (hn g .mk) .mk = some ⟨17, [.raw (.int .i64 e.model.dim), .raw (.int .i64 e.model.heads), .raw (.int .i64 e.model.context), .sl (F 3) 2 (rMergeS e.model.merges), .sl (F 4) 1 (rIntSS e.model.embed), .sl (F 5) 32 (rLayerS e.model.layers), .sl (F 6) 1 (ints e.model.gainEnd), .raw (.int .i64 e.model.head.width), .sl (F 8) 1 (rIntSS e.model.head.rows), .sl (F 9) 1 (rIntSS e.model.head.scales), .raw (.int .i64 e.model.head.mul), .raw (.int .i64 e.model.head.shift), .sl (F 12) 1 (rIntSS e.model.turns.cos), .sl (F 13) 1 (rIntSS e.model.turns.sin), .sl (F 14) 1 (ints e.store.refs), .sl (F 15) 1 (rCellSS e.store.pages), .sl (F 16) 10 (rRequestS e.requests)]⟩ ∧ hg h' (hn g .mk + 1) .mk = some ⟨10, [.raw (.int .i64 r.prompt), .sl (F' 1) 1 (ints r.tokens), .raw (.int .i64 r.config.top), .raw (.int .i64 r.config.seed), .raw (.int .i64 r.config.new), .sl (F' 5) 1 (strs r.config.stops), .raw (.int .u64 r.state), .sl (F' 7) 1 (ints r.table.pages), .raw (.int .i64 r.table.count), .raw (.int .i64 r.status)]⟩ ∧ look s 6 .mk = .raw (.int .i64 (i : Nat)) ∧ mm + i = r.tokens.length ∧ ∀ j, j < i → inI (r.tokens.getD j default) 0 (vocI e.model - 1) = true) r.tokens.length ?_ ?_
  ·exact ⟨0, zale, by simp only [hn_up]; omega, by simp -dsimp -implicitDefEqProofs only [go_sem, hoo, hne] <;> rfl, by simp -dsimp -implicitDefEqProofs only [go_sem, hoo] <;> rfl, zsm, by omega, fun j hj => by omega⟩
  rintro mm s h' hks ⟨i, hle, hnn, ra, rb, ei, hmm, hpre⟩
  simp -dsimp -implicitDefEqProofs only [go_sem] at hks
  by_cases q1 : (i : Int) < (r.tokens.length : Int)
  ·have q2 : i < r.tokens.length := by omega
   have w3 := zwrs i (by omega)
   repeat (first | rw [ko] | rw [kr] | simp -dsimp -implicitDefEqProofs only [go_sem, rq1, hks, ei, q1])
   refine dq_intro [(0, []), (1, []), (2, []), (3, []), (4, []), (5, []), (6, []), (7, []), (8, [])] (by kernel_rfl) ?_
   repeat (first | rw [ko] | rw [kr] | simp -dsimp -implicitDefEqProofs only [go_sem, rq1, q2, ra, rb])
   refine pw_intro (token_ok (F := F) (m := e.model) hmg) ?_
   rintro _ n4 hn4 rfl
   try (rw [kq]; refine ⟨zsm, ?_⟩)
   cases q5 : inI (r.tokens.getD i default) 0 (vocI e.model - 1)
   ·repeat (first | rw [ko] | rw [kr] | simp -dsimp -implicitDefEqProofs only [go_sem])
    exact ⟨le_up hle hn4, ⟨_, rfl⟩, by rw [req_no fun (hh : ReqT e r) => by
     have := (List.all_eq_true.1 hh.toks) _ (getD_memR q2)
     rw [q5] at this; cases this]⟩
   ·repeat (first | rw [ko] | rw [kr] | simp -dsimp -implicitDefEqProofs only [go_sem, rq1, w3])
    refine nx_keep (mm - 1) (by omega) zsm ⟨i + 1, le_up hle hn4, by rw [hn_up]; omega, by simp -dsimp -implicitDefEqProofs only [go_sem, ra], by simp -dsimp -implicitDefEqProofs only [go_sem, rb], zsm, by omega, fun j hj => ?_⟩
    by_cases hji : j = i
    ·subst hji; exact q5
    ·exact hpre j (by omega)
  have htoks : allI r.tokens 0 (vocI e.model - 1) = true := by
   rw [allI, List.all_eq_true]
   intro x hx
   obtain ⟨j, hj, rfl⟩ := List.getElem_of_mem hx
   have := hpre j (by omega)
   rwa [List.getD_eq_getElem?_getD, List.getElem?_eq_getElem hj] at this
  repeat (first | rw [ko] | rw [kr] | simp -dsimp -implicitDefEqProofs only [go_sem, rq1, hks, ei, q1])
  refine dq_intro [(0, []), (1, []), (2, []), (3, []), (4, []), (5, []), (7, []), (8, []), (9, []), (10, []), (6, [9]), (11, []), (12, []), (13, []), (14, []), (15, []), (16, []), (17, []), (18, []), (19, [14]), (20, []), (21, []), (22, [])] (by kernel_rfl) ?_
  repeat (first | rw [ko] | rw [kr] | simp -dsimp -implicitDefEqProofs only [go_sem, rq1, rq2, ra, rb, w1])
  refine wz_intro (specNeed_ok (by omega)) ?_
  rintro _ _ ⟨rfl, rfl⟩
  try (rw [kq]; refine ⟨by simp -dsimp -implicitDefEqProofs only [go_sem, ra], ?_⟩)
  by_cases h13 : needI (r.prompt + r.config.new) ≤ (e.store.refs.length : Int)
  rotate_left
  ·repeat (first | rw [ko] | rw [kr] | simp -dsimp -implicitDefEqProofs only [go_sem, rq1, h13])
   exact ⟨hle, ⟨_, rfl⟩, by rw [req_no fun (hh : ReqT e r) => hh.need (by omega)]⟩
  repeat (first | rw [ko] | rw [kr] | simp -dsimp -implicitDefEqProofs only [go_sem, rq1, ra, rb, h13])
  refine pw_intro (l15Cells_ok (F := fun j => F (j + 14)) (F' := fun j => F' (j + 7)) (s := e.store) (t := r.table) hpl h8) ?_
  rintro _ n5 hn5 ⟨f5, rfl⟩
  try (rw [kq]; refine ⟨by simp -dsimp -implicitDefEqProofs only [go_sem, rq1, ra], ?_⟩)
  have hsc : smallC (cellsL e.store r.table r.table.pages.length) := cells_small s3 (by omega)
  repeat (first | rw [ko] | rw [kr] | simp -dsimp -implicitDefEqProofs only [go_sem, rq1])
  refine pw_intro (l18Cells_ok (F := F) (m := e.model) hwd hhd hsc) ?_
  rintro _ n6 hn6 rfl
  rw [hn_up] at hn6
  try (rw [kq]; refine ⟨zsm, ?_⟩)
  repeat (first | rw [ko] | rw [kr] | simp -dsimp -implicitDefEqProofs only [go_sem, rq1])
  refine ⟨le_up (le_up hle hn5) (by rw [hn_up]; exact hn6), ⟨_, rfl⟩, ?_⟩
  have hz : (1 : Int) ≤ r.prompt ∧ r.prompt ≤ 24 := by omega
  have hp : inI r.prompt 1 24 = true := by unfold inI; simp only [Bool.and_eq_true, decide_eq_true_eq]; omega
  have hl : inI r.tokens.length r.prompt (r.prompt + r.config.new) = true := by unfold inI; simp only [Bool.and_eq_true, decide_eq_true_eq]; omega
  cases hc : (cellsL e.store r.table r.table.pages.length).any fun c => !cellB c e.model
  ·rw [reqB_iff.2 ⟨h2, hp, h6, h7, hl, hfull, htoks, h8, h9, hdone, by omega, hc⟩]; rfl
  ·rw [req_no fun (hh : ReqT e r) => by have := hh.cells; rw [hc] at this; cases this]; rfl
end Go.Bi
end
section
set_option maxRecDepth 20000
namespace Go.Bi
open Go.Proofs
open Go.Ai (wrap_i64 wrap_u8 Heap)
variable {W0 : World} {P : Program}
set_option maxHeartbeats 4000000
theorem implModel_ok {F : Nat → Adr} {m : LModel} {g : H2} (hs : smallMod m) : PW Tryz.prog W0 48 [.st (xModel F m)] g (fun y => y = .raw (.bool (modelB m))) := by
 obtain ⟨s1, s2, s3, s4, s5, s6, s7, s8⟩ := hs
 refine PW.scalar ?_
 refine begins [[0], [1], [], [1], [], [1], [], [1]] Tryz.func48 rfl (rs := [.tmp 2]) rfl rfl ?_
 intro wf
 repeat (first | rw [ko] | rw [kr] | simp -dsimp -implicitDefEqProofs only [go_sem, hoo])
 refine dq_intro [(0, []), (1, []), (2, []), (3, []), (4, []), (5, []), (6, []), (7, []), (8, []), (9, []), (10, []), (11, []), (12, []), (13, []), (14, []), (15, []), (16, []), (17, []), (18, []), (19, []), (20, []), (21, [18]), (22, []), (23, []), (24, []), (25, []), (26, []), (27, []), (28, []), (29, []), (30, [])] (by kernel_rfl) ?_
 repeat (first | rw [ko] | rw [kr] | simp -dsimp -implicitDefEqProofs only [go_sem, hoo])
 refine wz_intro isWidth_ok ?_
 rintro _ _ ⟨rfl, rfl⟩
 cases h1 : widthB m.dim
 ·repeat (first | rw [ko] | rw [kr] | simp -dsimp -implicitDefEqProofs only [go_sem, rq1, hoo])
  exact ⟨le_push (H2.le.refl _), ⟨_, rfl⟩, by rw [modelB, h1]; rfl⟩
 repeat (first | rw [ko] | rw [kr] | simp -dsimp -implicitDefEqProofs only [go_sem, rq1, hoo])
 refine wz_intro in_ok ?_
 rintro _ _ ⟨rfl, rfl⟩
 cases h2 : inI m.heads 1 2
 ·repeat (first | rw [ko] | rw [kr] | simp -dsimp -implicitDefEqProofs only [go_sem, rq1, hoo])
  exact ⟨le_push (H2.le.refl _), ⟨_, rfl⟩, by rw [modelB, h1, h2]; rfl⟩
 repeat (first | rw [ko] | rw [kr] | simp -dsimp -implicitDefEqProofs only [go_sem, rq1, hoo])
 refine pw_intro (implMergesOk_ok s1) ?_
 rintro _ n1 hn1 rfl
 try (rw [kq]; refine ⟨zsm, ?_⟩)
 cases h3 : mergesB m.merges
 ·repeat (first | rw [ko] | rw [kr] | simp -dsimp -implicitDefEqProofs only [go_sem, rq1, hoo])
  exact ⟨zale, ⟨_, rfl⟩, by rw [modelB, h1, h2, h3]; rfl⟩
 repeat (first | rw [ko] | rw [kr] | simp -dsimp -implicitDefEqProofs only [go_sem, rq1, hoo])
 refine pw_intro (voc1_ok (F := F) (m := m) s1) ?_
 rintro _ n2 hn2 rfl
 try (rw [kq]; refine ⟨by simp -dsimp -implicitDefEqProofs only [go_sem, rq1, hoo], ?_⟩)
 by_cases h4 : (m.embed.length : Int) = vocI m
 rotate_left
 ·have e4 : decide (¬ (m.embed.length : Int) = vocI m) = true := decide_eq_true h4
  repeat (first | rw [ko] | rw [kr] | simp -dsimp -implicitDefEqProofs only [go_sem, rq1, hoo, e4])
  exact ⟨zale, ⟨_, rfl⟩, by rw [modelB, h1, h2, h3, decide_eq_false h4]; rfl⟩
 have e4 : decide (¬ (m.embed.length : Int) = vocI m) = false := decide_eq_false (fun h => h h4)
 repeat (first | rw [ko] | rw [kr] | simp -dsimp -implicitDefEqProofs only [go_sem, rq1, hoo, e4])
 refine wz_intro in_ok ?_
 rintro _ _ ⟨rfl, rfl⟩
 try (rw [kq]; refine ⟨zsm, ?_⟩)
 cases h5 : inI m.layers.length 1 2
 ·repeat (first | rw [ko] | rw [kr] | simp -dsimp -implicitDefEqProofs only [go_sem, rq1, hoo])
  exact ⟨zale, ⟨_, rfl⟩, by rw [modelB, h1, h2, h3, decide_eq_true h4, h5]; rfl⟩
 repeat (first | rw [ko] | rw [kr] | simp -dsimp -implicitDefEqProofs only [go_sem, rq1, hoo])
 simp only [hn_up, hn_push] at hn1 hn2
 refine pw_intro (containsR_ok (F := 125) (p := fun r => !embB m.dim r) (caps := [.pointer (some ⟨hn g .mk, 0, none⟩)]) s2.1 fun i hi f' h' hle => ?_) ?_
 ·exact emb1_ok ((hle.2 (hn g .mk) (by simp only [hn_up]; omega)).trans (by simp -dsimp -implicitDefEqProofs only [go_sem, hoo] <;> rfl)) (smallL_at s2 i)
 rintro _ n3 hn3 rfl
 simp only [hn_up] at hn3
 cases h6 : m.embed.any fun r => !embB m.dim r
 rotate_left
 ·repeat (first | rw [ko] | rw [kr] | simp -dsimp -implicitDefEqProofs only [go_sem, hoo])
  exact ⟨zale, ⟨_, rfl⟩, by rw [modelB, h1, h2, h3, decide_eq_true h4, h5, h6]; rfl⟩
 repeat (first | rw [ko] | rw [kr] | simp -dsimp -implicitDefEqProofs only [go_sem, rq1, hoo])
 refine pw_intro (containsY_ok (F := 127) (p := fun l => !layB l m.dim) (caps := [.pointer (some ⟨hn g .mk, 0, none⟩)]) s3 fun i hi F' h' hle => ?_) ?_
 ·refine lay1_ok ?_ ((hle.2 (hn g .mk) (by simp only [hn_up]; omega)).trans (by simp -dsimp -implicitDefEqProofs only [go_sem, hoo] <;> rfl)) (s4 i hi)
  have := hle.1
  simp only [hn_up] at this; omega
 rintro _ n4 hn4 rfl
 simp only [hn_up] at hn4
 cases h7 : m.layers.any fun l => !layB l m.dim
 rotate_left
 ·repeat (first | rw [ko] | rw [kr] | simp -dsimp -implicitDefEqProofs only [go_sem, hoo])
  exact ⟨zale, ⟨_, rfl⟩, by rw [modelB, h1, h2, h3, decide_eq_true h4, h5, h6, h7]; rfl⟩
 repeat (first | rw [ko] | rw [kr] | simp -dsimp -implicitDefEqProofs only [go_sem, rq1, hoo])
 refine dq_intro [(0, []), (1, []), (2, []), (3, []), (4, []), (5, []), (6, []), (7, []), (8, []), (9, []), (10, []), (11, [7, 9]), (12, []), (13, []), (14, []), (15, []), (16, []), (17, []), (18, []), (19, []), (20, []), (21, []), (22, []), (23, []), (24, []), (25, []), (26, []), (27, [])] (by kernel_rfl) ?_
 repeat (first | rw [ko] | rw [kr] | simp -dsimp -implicitDefEqProofs only [go_sem, rq1, hoo])
 refine pw_intro (implGain_ok s5) ?_
 rintro _ n5 hn5 rfl
 simp only [hn_up] at hn5
 try (rw [kq]; refine ⟨zsm, ?_⟩)
 cases h8 : gainB m.gainEnd m.dim
 ·repeat (first | rw [ko] | rw [kr] | simp -dsimp -implicitDefEqProofs only [go_sem, rq1, hoo])
  exact ⟨zale, ⟨_, rfl⟩, by rw [modelB, h1, h2, h3, decide_eq_true h4, h5, h6, h7, h8]; rfl⟩
 repeat (first | rw [ko] | rw [kr] | simp -dsimp -implicitDefEqProofs only [go_sem, rq1, hoo])
 refine pw_intro (voc1_ok (F := F) (m := m) s1) ?_
 rintro _ n6 hn6 rfl
 simp only [hn_up] at hn6
 try (rw [kq]; refine ⟨by simp -dsimp -implicitDefEqProofs only [go_sem, rq1, hoo], ?_⟩)
 repeat (first | rw [ko] | rw [kr] | simp -dsimp -implicitDefEqProofs only [go_sem, rq1, hoo])
 refine pw_intro (implWithin_ok (F := fun j => F (j + 7)) (m := m.head) s6) ?_
 rintro _ n7 hn7 rfl
 simp only [hn_up] at hn7
 try (rw [kq]; refine ⟨zsm, ?_⟩)
 cases h9 : withB m.head m.dim (vocI m)
 ·repeat (first | rw [ko] | rw [kr] | simp -dsimp -implicitDefEqProofs only [go_sem, rq1, hoo])
  exact ⟨zale, ⟨_, rfl⟩, by rw [modelB, h1, h2, h3, decide_eq_true h4, h5, h6, h7, h8, h9]; rfl⟩
 have hw := width_rng h1
 have hh : m.heads = 1 ∨ m.heads = 2 := by have := inI_tt h2; omega
 have z0 : (m.heads == 0) = false := zne
 have w1 : IntKind.i64.wrap (Int.tdiv m.dim m.heads) = Int.tdiv m.dim m.heads := by
  rcases hw with hw | hw <;> rcases hh with hh | hh <;> rw [hw, hh] <;> decide
 have w2 : IntKind.i64.wrap (Int.tdiv (Int.tdiv m.dim m.heads) 2) = Int.tdiv (Int.tdiv m.dim m.heads) 2 := by
  rcases hw with hw | hw <;> rcases hh with hh | hh <;> rw [hw, hh] <;> decide
 repeat (first | rw [ko] | rw [kr] | simp -dsimp -implicitDefEqProofs only [go_sem, rq1, rq7, hoo, z0, w1, w2])
 refine pw_intro (implTurns_ok (F := fun j => F (j + 12)) (t := m.turns) s7 s8) ?_
 rintro _ n8 hn8 rfl
 simp only [hn_up] at hn8
 try (rw [kq]; refine ⟨zsm, ?_⟩)
 repeat (first | rw [ko] | rw [kr] | simp -dsimp -implicitDefEqProofs only [go_sem, rq1, hoo])
 exact ⟨zale, ⟨_, rfl⟩, by rw [modelB, h1, h2, h3, decide_eq_true h4, h5, h6, h7, h8, h9]; rfl⟩
end Go.Bi
end
section
set_option maxRecDepth 20000
namespace Go.Bi
open Go.Proofs
open Go.Ai (wrap_i64 wrap_u8 Heap)
variable {W0 : World} {P : Program}
set_option maxHeartbeats 4000000
theorem get_W {l : List Int} {i : Nat} (h : i < l.length) : (l.map cI)[i]? = some (.raw (.int .i64 (l.getD i default))) := by
 rw [List.getElem?_map, List.getElem?_eq_getElem h, List.getD_eq_getElem?_getD, List.getElem?_eq_getElem h]; rfl
theorem wrt_W {l : List Int} {i : Nat} {v : Int} (h : i < l.length) : wrtL (l.map cI) i [.raw (.int .i64 v)] = some ((l.set i v).map cI) := by
 rw [wrt_set (by simpa using h), List.map_set]; rfl
theorem zeros_I {n : Nat} : (Go.Ai.repL n [.int .i64 0]).map X.raw = (List.replicate n (0 : Int)).map cI := by
 rw [Go.Ai.rep_one]; simp [cI]
theorem pw_same {f : FuncId} {xs : List X} {g : H2} {Q : X → Prop} (c : WC2 P W0 f xs g fun v g' => Q v ∧ g' = g) : PW P W0 f xs g Q :=
 WC2.mono c fun y g' ⟨h1, h2⟩ => by subst h2; exact ⟨rfl, Nat.le_refl _, h1⟩
theorem equalO_ok {f : Adr} {b n : Nat} {w l : List Int} {g : H2} (hb : hg g b .mk = some ⟨1, w.map cI⟩) (hn : w.length = n) (hl : n ≤ 1048576) : PW Tryz.prog W0 56 [.raw (.slice (some ⟨b, 0, none⟩) n n), .sl f 1 (ints l)] g (fun v => v = .raw (.bool (decide (w = l)))) := by
 subst hn
 have hf : ∃ f, Lent g (.raw (.slice (some ⟨b, 0, none⟩) w.length w.length)) (.sl f 1 (ints w)) := by
  have h2 : Lent g (.raw (.slice (some ⟨b, 0, none⟩) w.length w.length)) (.sl (litA b w.length 1 (w.map cI)) 1 (chunk 1 w.length (w.map fun n => T.v (.int .i64 n)))) :=
   Fz.own (cs' := w.map cI) hb trivial (by simp) rfl (fun i hi hi' => by rw [List.getElem_map]; exact .raw) toTs_ints
  rw [chunk_ints] at h2
  exact ⟨_, h2⟩
 obtain ⟨f1, hf⟩ := hf
 exact PW.lend (.cons hf (.cons (.sl (.sl (allT_true _ _))) .nil)) (pw_same (equalZ_ok (l' := l) hl)) (fun y h => by rw [h]; exact .raw)
theorem wants_in' {n i : Nat} {rs : List LRequest} (h : ∀ j, j < i → (rs.getD j default).table.pages.length ≤ 16) (hi : i ≤ rs.length) : inB (16 * i) (wantsL n (rs.take i)) := by
 have := wants_in (n := n) (rs := rs.take i) (fun j hj => by
  rw [List.length_take] at hj
  have h2 := h j (by omega)
  rwa [List.getD_eq_getElem?_getD, List.getElem?_take_of_lt (by omega), ← List.getD_eq_getElem?_getD]) i (by rw [List.length_take]; omega)
 rwa [List.take_take, Nat.min_self] at this
theorem implEngine_ok {F : Nat → Adr} {e : LEngine} {g : H2} (hs : smallEng e) : PW Tryz.prog W0 15 [.st (xEngine F e)] g (fun y => y = .raw (.bool (engB e))) := by
 obtain ⟨s1, s2, s3, s4, s5⟩ := id hs
 refine PW.scalar ?_
 refine begins [[0], [1], [], [1], [1, 3], [1, 3, 30, 31, 32], [1, 3, 30, 31, 32], [1, 3, 5, 30, 31, 32], [], [1, 3, 5, 30, 31, 32], [1, 3, 30, 31, 32, 42, 43, 44], [1, 3, 30, 31, 32, 42, 43, 44], [1, 3, 7, 30, 31, 32, 42, 43, 44], [1, 3, 30, 31, 32, 42, 43, 44], [1, 3, 30, 31, 32], [1, 3]] Tryz.func15 rfl (rs := [.tmp 2]) rfl rfl ?_
 intro wf
 repeat (first | rw [ko] | rw [kr] | simp -dsimp -implicitDefEqProofs only [go_sem, hoo])
 refine pw_intro (implModel_ok (F := F) (m := e.model) s1) ?_
 rintro _ n1 hn1 rfl
 simp only [hn_push] at hn1
 try (rw [kq]; refine ⟨by simp -dsimp -implicitDefEqProofs only [go_sem, rq1, rq2, rq3, rq4, rq5, rq6, rq7, hoo], ?_⟩)
 cases h1 : modelB e.model
 ·repeat (first | rw [ko] | rw [kr] | simp -dsimp -implicitDefEqProofs only [go_sem, hoo])
  exact ⟨zale, ⟨_, rfl⟩, by rw [engB, h1]; rfl⟩
 repeat (first | rw [ko] | rw [kr] | simp -dsimp -implicitDefEqProofs only [go_sem, rq1, hoo])
 refine pw_intro (implStore_ok (F := fun j => F (j + 14)) (s := e.store) s2) ?_
 rintro _ n2 hn2 rfl
 simp only [hn_up] at hn2
 try (rw [kq]; refine ⟨by simp -dsimp -implicitDefEqProofs only [go_sem, rq1, rq2, rq3, rq4, rq5, rq6, rq7, hoo], ?_⟩)
 cases h2 : storeB e.store
 ·repeat (first | rw [ko] | rw [kr] | simp -dsimp -implicitDefEqProofs only [go_sem, hoo])
  exact ⟨zale, ⟨_, rfl⟩, by rw [engB, h1, h2]; rfl⟩
 by_cases h3 : (e.requests.length : Int) > 10
 ·repeat (first | rw [ko] | rw [kr] | simp -dsimp -implicitDefEqProofs only [go_sem, rq1, hoo, h3])
  exact ⟨zale, ⟨_, rfl⟩, by rw [engB, h1, h2, decide_eq_false (by omega)]; rfl⟩
 obtain ⟨hpl, hrl⟩ := storeB_len h2
 have hB : engB e = (e.requests.all (reqB e) && decide (wantsL e.store.refs.length e.requests = e.store.refs)) := by rw [engB, h1, h2, decide_eq_true (by omega)]; rfl
 repeat (first | rw [ko] | rw [kr] | simp -dsimp -implicitDefEqProofs only [go_sem, rq1, hoo, h3])
 refine make_intro Ai.ty_el27 Ai.ty_zr3 (by decide) ⟨by omega, by simp only [Int.toNat_natCast]; have : Ai.most = 1099511627776 := rfl; omega⟩ ?_
 simp only [hn_up, Int.toNat_natCast]
 have hne0 : (hn g .mk == n2) = false := zne
 repeat (first | rw [ko] | rw [kr] | simp -dsimp -implicitDefEqProofs only [go_sem, rq1, hoo, hne0])
 refine lz_keep [1, 3, 30, 31] (fun mm s h' => ∃ (i : Nat), g.le h' ∧ n2 + 1 ≤ hn h' .mk ∧ hg h' (hn g .mk) .mk = some ⟨17, [.raw (.int .i64 e.model.dim), .raw (.int .i64 e.model.heads), .raw (.int .i64 e.model.context), .sl (F 3) 2 (rMergeS e.model.merges), .sl (F 4) 1 (rIntSS e.model.embed), .sl (F 5) 32 (rLayerS e.model.layers), .sl (F 6) 1 (ints e.model.gainEnd), .raw (.int .i64 e.model.head.width), .sl (F 8) 1 (rIntSS e.model.head.rows), .sl (F 9) 1 (rIntSS e.model.head.scales), .raw (.int .i64 e.model.head.mul), .raw (.int .i64 e.model.head.shift), .sl (F 12) 1 (rIntSS e.model.turns.cos), .sl (F 13) 1 (rIntSS e.model.turns.sin), .sl (F 14) 1 (ints e.store.refs), .sl (F 15) 1 (rCellSS e.store.pages), .sl (F 16) 10 (rRequestS e.requests)]⟩ ∧ hg h' n2 .mk = some ⟨1, (wantsL e.store.refs.length (e.requests.take i)).map cI⟩ ∧ look s 32 .mk = .raw (.int .i64 (i : Nat)) ∧ mm + i = e.requests.length ∧ ∀ j, j < i → reqB e (e.requests.getD j default) = true) e.requests.length ?_ ?_
 ·have hne : (hn g .mk == n2) = false := zne
  refine ⟨0, zale, by simp only [hn_push, hn_up]; omega, by simp -dsimp -implicitDefEqProofs only [go_sem, hoo, hne] <;> rfl, ?_, zsm, by omega, fun j hj => by omega⟩
  simp -dsimp -implicitDefEqProofs only [go_sem, hoo, zeros_I]
  rfl
 rintro mm s h' hks ⟨i, hle, hnn, ra, rw0, ei, hmm, hpre⟩
 simp -dsimp -implicitDefEqProofs only [go_sem, rq1] at hks
 by_cases q1 : (i : Int) < (e.requests.length : Int)
 ·have q2 : i < e.requests.length := by omega
  have w1 := zwrs i (by omega)
  have hne1 : (hn g .mk == hn h' .mk) = false := by simp; have := hle.1; omega
  repeat (first | rw [ko] | rw [kr] | simp -dsimp -implicitDefEqProofs only [go_sem, rq1, rq2, rq3, hks, ei, q1, q2, ra, hoo, hne1])
  refine pw_intro (implReq_ok (F := F) (F' := fun j => under (under (F 16) i) j) (r := e.requests.getD i default) h1 h2 hs (s5 i q2)) ?_
  rintro _ n3 hn3 rfl
  simp only [hn_push] at hn3
  cases h4 : reqB e (e.requests.getD i default)
  ·repeat (first | rw [ko] | rw [kr] | simp -dsimp -implicitDefEqProofs only [go_sem])
   refine ⟨le_up (le_push hle) (by rw [hn_push]; exact hn3), ⟨_, rfl⟩, ?_⟩
   rw [hB, Bool.and_eq_false_iff.2 (.inl ?_)]
   rw [List.all_eq_false]
   exact ⟨_, getD_memR q2, by rw [h4]; simp⟩
  have hwl : (wantsL e.store.refs.length (e.requests.take i)).length = e.store.refs.length := wants_len
  obtain ⟨hp16, htb⟩ := reqB_pages h4
  have hpg := (table_t htb).2.2.2
  have hne2 : (n2 == hn h' .mk) = false := zne
  repeat (first | rw [ko] | rw [kr] | simp -dsimp -implicitDefEqProofs only [go_sem, rq1, hoo])
  refine lz_keep [1, 3, 30, 31, 32, 42, 43] (fun m2 s2 h2' => ∃ (k : Nat), g.le h2' ∧ n2 + 1 ≤ hn h2' .mk ∧ hg h2' (hn g .mk) .mk = some ⟨17, [.raw (.int .i64 e.model.dim), .raw (.int .i64 e.model.heads), .raw (.int .i64 e.model.context), .sl (F 3) 2 (rMergeS e.model.merges), .sl (F 4) 1 (rIntSS e.model.embed), .sl (F 5) 32 (rLayerS e.model.layers), .sl (F 6) 1 (ints e.model.gainEnd), .raw (.int .i64 e.model.head.width), .sl (F 8) 1 (rIntSS e.model.head.rows), .sl (F 9) 1 (rIntSS e.model.head.scales), .raw (.int .i64 e.model.head.mul), .raw (.int .i64 e.model.head.shift), .sl (F 12) 1 (rIntSS e.model.turns.cos), .sl (F 13) 1 (rIntSS e.model.turns.sin), .sl (F 14) 1 (ints e.store.refs), .sl (F 15) 1 (rCellSS e.store.pages), .sl (F 16) 10 (rRequestS e.requests)]⟩ ∧ hg h2' n2 .mk = some ⟨1, (((e.requests.getD i default).table.pages.take k).foldl bump (wantsL e.store.refs.length (e.requests.take i))).map cI⟩ ∧ look s2 44 .mk = .raw (.int .i64 (k : Nat)) ∧ m2 + k = (e.requests.getD i default).table.pages.length) (e.requests.getD i default).table.pages.length ?_ ?_
  ·refine ⟨0, le_up (le_push hle) (by rw [hn_push]; exact hn3), by rw [hn_up]; omega, by simp -dsimp -implicitDefEqProofs only [go_sem, hne1, ra] <;> rfl, by simp -dsimp -implicitDefEqProofs only [go_sem, hne2, rw0] <;> rfl, zsm, by omega⟩
  rintro m2 s2 h2' hks2 ⟨k, hle2, hnn2, rb, rv, ek, hm2⟩
  simp -dsimp -implicitDefEqProofs only [go_sem, rq1] at hks2
  have hwi : inB (16 * i) (wantsL e.store.refs.length (e.requests.take i)) := wants_in' (fun j hj => (reqB_pages (hpre j hj)).1) (by omega)
  have hwk := bumps_in (ps := (e.requests.getD i default).table.pages.take k) (B := 16 * i) (by omega) hwi
  have hvl : (((e.requests.getD i default).table.pages.take k).foldl bump (wantsL e.store.refs.length (e.requests.take i))).length = e.store.refs.length := by rw [bumps_len, hwl]
  by_cases q3 : (k : Int) < ((e.requests.getD i default).table.pages.length : Int)
  ·have q4 : k < (e.requests.getD i default).table.pages.length := by omega
   have w2 := zwrs k (by omega)
   obtain ⟨p1, p2, p3⟩ := pgB_t (hpg k q4)
   obtain ⟨p, hp⟩ := Int.eq_ofNat_of_zero_le p1.1
   have k1 : p < e.store.refs.length := by omega
   have hsn := bumps_snoc (ps := (e.requests.getD i default).table.pages) (w := wantsL e.store.refs.length (e.requests.take i)) q4
   generalize hwdef : ((e.requests.getD i default).table.pages.take k).foldl bump (wantsL e.store.refs.length (e.requests.take i)) = w at *
   have hb := hwk p
   have hlk : (((e.requests.getD i default).table.pages.take k).length : Int) ≤ 16 := by rw [List.length_take]; omega
   have w3 : IntKind.i64.wrap (w.getD p default + 1) = w.getD p default + 1 := by rw [wrap_i64] <;> omega
   have gw := get_W (l := w) (i := p) (by omega)
   have ww := wrt_W (l := w) (i := p) (v := w.getD p default + 1) (by omega)
   have hi2 : (0 : Int) ≤ (p : Int) ∧ (p : Int) < (e.store.refs.length : Int) := by omega
   have hbump : bump w ((e.requests.getD i default).table.pages.getD k default) = w.set p (w.getD p default + 1) := by rw [hp]; rfl
   have hne3 : (hn g .mk == n2) = false := zne
   repeat (first | rw [ko] | rw [kr] | simp -dsimp -implicitDefEqProofs only [go_sem, rq1, hks2, ek, q3, q4, rv, hp, hi2, nat_nn, Int.toNat_natCast, gw, ww, w3, w2, hoo])
   refine nx_keep (m2 - 1) (by omega) zsm ⟨k + 1, le_set hle2 (by omega), by rw [hn_set]; omega, by simp -dsimp -implicitDefEqProofs only [go_sem, hne3, rb], ?_, zsm, by omega⟩
   rw [hsn, hbump]
   simp -dsimp -implicitDefEqProofs only [go_sem, hoo]
  ·repeat (first | rw [ko] | rw [kr] | simp -dsimp -implicitDefEqProofs only [go_sem, rq1, hks2, ek, q3, w1])
   have hkk : k = (e.requests.getD i default).table.pages.length := by omega
   refine nx_keep (mm - 1) (by omega) zsm ⟨i + 1, hle2, hnn2, by simp -dsimp -implicitDefEqProofs only [go_sem, rb], ?_, zsm, by omega, fun j hj => ?_⟩
   ·rw [rv, hkk, List.take_length, wants_snoc q2]
   ·by_cases hji : j = i
    ·subst hji; exact h4
    ·exact hpre j (by omega)
 repeat (first | rw [ko] | rw [kr] | simp -dsimp -implicitDefEqProofs only [go_sem, rq1, hks, ei, q1, ra])
 have hii : i = e.requests.length := by omega
 rw [hii, List.take_length] at rw0
 refine pw_intro (equalO_ok (f := F 14) (w := wantsL e.store.refs.length e.requests) (l := e.store.refs) rw0 wants_len (by omega)) ?_
 rintro _ n4 hn4 rfl
 repeat (first | rw [ko] | rw [kr] | simp -dsimp -implicitDefEqProofs only [go_sem])
 refine ⟨le_up hle hn4, ⟨_, rfl⟩, ?_⟩
 rw [hB, List.all_eq_true.2 fun x hx => ?_]
 ·rfl
 ·obtain ⟨j, hj, rfl⟩ := List.getElem_of_mem hx
  have := hpre j (by omega)
  rwa [List.getD_eq_getElem?_getD, List.getElem?_eq_getElem hj] at this
end Go.Bi
end
section
set_option maxRecDepth 20000
namespace Go.Bi
open Go.Proofs
open Go.Ai (wrap_i64 wrap_u8 Heap)
variable {W0 : World} {P : Program}
set_option maxHeartbeats 4000000
theorem specEngine_ok {F : Nat → Adr} {e : LEngine} {g : H2} (hs : smallEng e) (hrg : rngEngine e) : PW Tryz.prog W0 19 [.st (xEngine F e)] g (fun y => y = .raw (.bool (engB e))) := by
 obtain ⟨s1, s2, s3, s4, s5⟩ := id hs
 refine PW.scalar ?_
 refine begins [[0], [1], [], [1], [1, 3], [1, 3, 4], [1, 3, 4], [1, 3, 4], [], [1, 3, 4], [1, 3, 4, 5], [1, 3, 4, 5], [1, 3, 4, 5], [1, 3], [1, 3, 6], [1, 3, 6], [1, 3, 6], [], []] Tryz.func19 rfl (rs := [.tmp 2]) rfl rfl ?_
 intro wf
 repeat (first | rw [ko] | rw [kr] | simp -dsimp -implicitDefEqProofs only [go_sem, hoo])
 refine pw_intro (specModel_ok (F := F) (m := e.model) s1) ?_
 rintro _ n1 hn1 rfl
 simp only [hn_push] at hn1
 try (rw [kq]; refine ⟨by simp -dsimp -implicitDefEqProofs only [go_sem, rq1, rq2, rq3, rq4, rq5, rq6, rq7, hoo], ?_⟩)
 cases h1 : modelB e.model
 ·repeat (first | rw [ko] | rw [kr] | simp -dsimp -implicitDefEqProofs only [go_sem, hoo])
  exact ⟨zale, ⟨_, rfl⟩, by rw [engB, h1]; rfl⟩
 repeat (first | rw [ko] | rw [kr] | simp -dsimp -implicitDefEqProofs only [go_sem, rq1, hoo])
 refine pw_intro (specStore_ok (F := fun j => F (j + 14)) (s := e.store) s2) ?_
 rintro _ n2 hn2 rfl
 simp only [hn_up] at hn2
 try (rw [kq]; refine ⟨by simp -dsimp -implicitDefEqProofs only [go_sem, rq1, rq2, rq3, rq4, rq5, rq6, rq7, hoo], ?_⟩)
 cases h2 : storeB e.store
 ·repeat (first | rw [ko] | rw [kr] | simp -dsimp -implicitDefEqProofs only [go_sem, hoo])
  exact ⟨zale, ⟨_, rfl⟩, by rw [engB, h1, h2]; rfl⟩
 by_cases h3 : (e.requests.length : Int) > 10
 ·repeat (first | rw [ko] | rw [kr] | simp -dsimp -implicitDefEqProofs only [go_sem, rq1, hoo, h3])
  exact ⟨zale, ⟨_, rfl⟩, by rw [engB, h1, h2, decide_eq_false (by omega)]; rfl⟩
 obtain ⟨hpl, hrl⟩ := storeB_len h2
 have hB : engB e = (e.requests.all (reqB e) && decide (wantsL e.store.refs.length e.requests = e.store.refs)) := by rw [engB, h1, h2, decide_eq_true (by omega)]; rfl
 repeat (first | rw [ko] | rw [kr] | simp -dsimp -implicitDefEqProofs only [go_sem, rq1, hoo, h3])
 refine make_intro Ai.ty_el27 Ai.ty_zr3 (by decide) ⟨by omega, by simp only [Int.toNat_natCast]; have : Ai.most = 1099511627776 := rfl; omega⟩ ?_
 simp only [hn_up, Int.toNat_natCast]
 have hne0 : (hn g .mk == n2) = false := zne
 repeat (first | rw [ko] | rw [kr] | simp -dsimp -implicitDefEqProofs only [go_sem, rq1, hoo])
 refine lz_keep [1, 3] (fun mm s h' => ∃ (i : Nat), g.le h' ∧ n2 + 1 ≤ hn h' .mk ∧ hg h' (hn g .mk) .mk = some ⟨17, [.raw (.int .i64 e.model.dim), .raw (.int .i64 e.model.heads), .raw (.int .i64 e.model.context), .sl (F 3) 2 (rMergeS e.model.merges), .sl (F 4) 1 (rIntSS e.model.embed), .sl (F 5) 32 (rLayerS e.model.layers), .sl (F 6) 1 (ints e.model.gainEnd), .raw (.int .i64 e.model.head.width), .sl (F 8) 1 (rIntSS e.model.head.rows), .sl (F 9) 1 (rIntSS e.model.head.scales), .raw (.int .i64 e.model.head.mul), .raw (.int .i64 e.model.head.shift), .sl (F 12) 1 (rIntSS e.model.turns.cos), .sl (F 13) 1 (rIntSS e.model.turns.sin), .sl (F 14) 1 (ints e.store.refs), .sl (F 15) 1 (rCellSS e.store.pages), .sl (F 16) 10 (rRequestS e.requests)]⟩ ∧ hg h' n2 .mk = some ⟨1, (wantsL e.store.refs.length (e.requests.take i)).map cI⟩ ∧ look s 4 .mk = .raw (.int .i64 (i : Nat)) ∧ mm + i = e.requests.length ∧ ∀ j, j < i → reqB e (e.requests.getD j default) = true) e.requests.length ?_ ?_
 ·have hne : (hn g .mk == n2) = false := zne
  refine ⟨0, zale, by simp only [hn_push, hn_up]; omega, by simp -dsimp -implicitDefEqProofs only [go_sem, hoo, hne] <;> rfl, ?_, zsm, by omega, fun j hj => by omega⟩
  simp -dsimp -implicitDefEqProofs only [go_sem, hoo, zeros_I]
  rfl
 rintro mm s h' hks ⟨i, hle, hnn, ra, rw0, ei, hmm, hpre⟩
 simp -dsimp -implicitDefEqProofs only [go_sem] at hks
 have hwl : (wantsL e.store.refs.length (e.requests.take i)).length = e.store.refs.length := wants_len
 by_cases q1 : (i : Int) < (e.requests.length : Int)
 ·have q2 : i < e.requests.length := by omega
  have w1 := zwrs i (by omega)
  repeat (first | rw [ko] | rw [kr] | simp -dsimp -implicitDefEqProofs only [go_sem, rq1, hks, ei, q1, ra])
  refine dq_intro [(0, []), (1, []), (2, []), (3, []), (4, []), (5, []), (6, []), (7, [])] (by kernel_rfl) ?_
  repeat (first | rw [ko] | rw [kr] | simp -dsimp -implicitDefEqProofs only [go_sem, rq1, rq2, rq3, q2, ra])
  refine pw_intro (specReq_ok (F := F) (F' := fun j => under (under (F 16) i) j) (r := e.requests.getD i default) h1 h2 hs (s5 i q2) (hrg _ (getD_memR q2)).1) ?_
  rintro _ n3 hn3 rfl
  try (rw [kq]; refine ⟨zsm, ?_⟩)
  cases h4 : reqB e (e.requests.getD i default)
  ·repeat (first | rw [ko] | rw [kr] | simp -dsimp -implicitDefEqProofs only [go_sem])
   refine ⟨le_up hle hn3, ⟨_, rfl⟩, ?_⟩
   rw [hB, Bool.and_eq_false_iff.2 (.inl ?_)]
   rw [List.all_eq_false]
   exact ⟨_, getD_memR q2, by rw [h4]; simp⟩
  obtain ⟨hp16, htb⟩ := reqB_pages h4
  have hpg := (table_t htb).2.2.2
  repeat (first | rw [ko] | rw [kr] | simp -dsimp -implicitDefEqProofs only [go_sem, rq1])
  refine lz_keep [1, 3, 4] (fun m2 s2 h2' => ∃ (k : Nat), g.le h2' ∧ n2 + 1 ≤ hn h2' .mk ∧ hg h2' (hn g .mk) .mk = some ⟨17, [.raw (.int .i64 e.model.dim), .raw (.int .i64 e.model.heads), .raw (.int .i64 e.model.context), .sl (F 3) 2 (rMergeS e.model.merges), .sl (F 4) 1 (rIntSS e.model.embed), .sl (F 5) 32 (rLayerS e.model.layers), .sl (F 6) 1 (ints e.model.gainEnd), .raw (.int .i64 e.model.head.width), .sl (F 8) 1 (rIntSS e.model.head.rows), .sl (F 9) 1 (rIntSS e.model.head.scales), .raw (.int .i64 e.model.head.mul), .raw (.int .i64 e.model.head.shift), .sl (F 12) 1 (rIntSS e.model.turns.cos), .sl (F 13) 1 (rIntSS e.model.turns.sin), .sl (F 14) 1 (ints e.store.refs), .sl (F 15) 1 (rCellSS e.store.pages), .sl (F 16) 10 (rRequestS e.requests)]⟩ ∧ hg h2' n2 .mk = some ⟨1, (((e.requests.getD i default).table.pages.take k).foldl bump (wantsL e.store.refs.length (e.requests.take i))).map cI⟩ ∧ look s2 5 .mk = .raw (.int .i64 (k : Nat)) ∧ m2 + k = (e.requests.getD i default).table.pages.length) (e.requests.getD i default).table.pages.length ?_ ?_
  ·refine ⟨0, le_up hle hn3, by rw [hn_up]; omega, by simp -dsimp -implicitDefEqProofs only [go_sem, ra] <;> rfl, by simp -dsimp -implicitDefEqProofs only [go_sem, rw0] <;> rfl, zsm, by omega⟩
  rintro m2 s2 h2' hks2 ⟨k, hle2, hnn2, rb, rv, ek, hm2⟩
  simp -dsimp -implicitDefEqProofs only [go_sem] at hks2
  have hwi : inB (16 * i) (wantsL e.store.refs.length (e.requests.take i)) := wants_in' (fun j hj => (reqB_pages (hpre j hj)).1) (by omega)
  have hwk := bumps_in (ps := (e.requests.getD i default).table.pages.take k) (B := 16 * i) (by omega) hwi
  have hvl : (((e.requests.getD i default).table.pages.take k).foldl bump (wantsL e.store.refs.length (e.requests.take i))).length = e.store.refs.length := by rw [bumps_len, hwl]
  by_cases q3 : (k : Int) < ((e.requests.getD i default).table.pages.length : Int)
  ·have q4 : k < (e.requests.getD i default).table.pages.length := by omega
   have w2 := zwrs k (by omega)
   obtain ⟨p1, p2, p3⟩ := pgB_t (hpg k q4)
   obtain ⟨p, hp⟩ := Int.eq_ofNat_of_zero_le p1.1
   have k1 : p < e.store.refs.length := by omega
   have hsn := bumps_snoc (ps := (e.requests.getD i default).table.pages) (w := wantsL e.store.refs.length (e.requests.take i)) q4
   generalize hwdef : ((e.requests.getD i default).table.pages.take k).foldl bump (wantsL e.store.refs.length (e.requests.take i)) = w at *
   have hb := hwk p
   have hlk : (((e.requests.getD i default).table.pages.take k).length : Int) ≤ 16 := by rw [List.length_take]; omega
   have w3 : IntKind.i64.wrap (w.getD p default + 1) = w.getD p default + 1 := by rw [wrap_i64] <;> omega
   have gw := get_W (l := w) (i := p) (by omega)
   have ww := wrt_W (l := w) (i := p) (v := w.getD p default + 1) (by omega)
   have hi2 : (0 : Int) ≤ (p : Int) ∧ (p : Int) < (e.store.refs.length : Int) := by omega
   have hbump : bump w ((e.requests.getD i default).table.pages.getD k default) = w.set p (w.getD p default + 1) := by rw [hp]; rfl
   have hne3 : (hn g .mk == n2) = false := zne
   repeat (first | rw [ko] | rw [kr] | simp -dsimp -implicitDefEqProofs only [go_sem, rq1, rq2, rq3, hks2, ek, q2, q3, rb])
   refine dq_intro [(0, []), (1, []), (2, []), (3, []), (4, []), (5, []), (6, []), (7, []), (8, []), (9, []), (10, []), (11, []), (12, []), (13, []), (14, []), (15, []), (16, []), (17, []), (18, []), (19, []), (20, []), (21, []), (22, []), (23, []), (24, []), (25, []), (26, [])] (by kernel_rfl) ?_
   repeat (first | rw [ko] | rw [kr] | simp -dsimp -implicitDefEqProofs only [go_sem, rq1, rq2, rq3, q2, q4, rb, rv, hp, hi2, nat_nn, Int.toNat_natCast, gw, ww, w3, w2, hoo])
   refine nx_keep (m2 - 1) (by omega) zsm ⟨k + 1, le_set hle2 (by omega), by rw [hn_set]; omega, by simp -dsimp -implicitDefEqProofs only [go_sem, hne3, rb], ?_, zsm, by omega⟩
   rw [hsn, hbump]
   simp -dsimp -implicitDefEqProofs only [go_sem, hoo]
  ·repeat (first | rw [ko] | rw [kr] | simp -dsimp -implicitDefEqProofs only [go_sem, rq1, rq2, rq3, hks2, ek, q2, q3, rb, w1])
   have hkk : k = (e.requests.getD i default).table.pages.length := by omega
   refine nx_keep (mm - 1) (by omega) zsm ⟨i + 1, hle2, hnn2, by simp -dsimp -implicitDefEqProofs only [go_sem, rb], ?_, zsm, by omega, fun j hj => ?_⟩
   ·rw [rv, hkk, List.take_length, wants_snoc q2]
   ·by_cases hji : j = i
    ·subst hji; exact h4
    ·exact hpre j (by omega)
 repeat (first | rw [ko] | rw [kr] | simp -dsimp -implicitDefEqProofs only [go_sem, rq1, hks, ei, q1, ra])
 have hii : i = e.requests.length := by omega
 rw [hii, List.take_length] at rw0 hwl
 have hall : e.requests.all (reqB e) = true := by
  rw [List.all_eq_true]
  intro x hx
  obtain ⟨j, hj, rfl⟩ := List.getElem_of_mem hx
  have := hpre j (by omega)
  rwa [List.getD_eq_getElem?_getD, List.getElem?_eq_getElem hj] at this
 rw [hB, hall, Bool.true_and]
 generalize hwdef : wantsL e.store.refs.length e.requests = w at *
 refine lz_keep [1, 3] (fun m3 s3 h3' => ∃ (k : Nat), h3' = h' ∧ look s3 6 .mk = .raw (.int .i64 (k : Nat)) ∧ m3 + k = e.store.refs.length ∧ ∀ j, j < k → w.getD j default = e.store.refs.getD j default) e.store.refs.length ?_ ?_
 ·exact ⟨0, rfl, zsm, by omega, fun j hj => by omega⟩
 rintro m3 s3 _ hks3 ⟨k, rfl, ek, hm3, hpre3⟩
 simp -dsimp -implicitDefEqProofs only [go_sem, rq1] at hks3
 by_cases q3 : (k : Int) < (e.store.refs.length : Int)
 ·have q4 : k < e.store.refs.length := by omega
  have w2 := zwrs k (by omega)
  have gw := get_W (l := w) (i := k) (by omega)
  have hi2 : (0 : Int) ≤ (k : Int) ∧ (k : Int) < (e.store.refs.length : Int) := by omega
  by_cases q5 : w.getD k default = e.store.refs.getD k default
  ·have e5 : decide (¬ w.getD k default = e.store.refs.getD k default) = false := decide_eq_false (fun h => h q5)
   repeat (first | rw [ko] | rw [kr] | simp -dsimp -implicitDefEqProofs only [go_sem, rq1, hks3, ek, q3])
   refine dq_intro [(0, []), (1, []), (2, []), (3, []), (4, []), (5, []), (6, []), (7, []), (8, []), (9, []), (10, [])] (by kernel_rfl) ?_
   repeat (first | rw [ko] | rw [kr] | simp -dsimp -implicitDefEqProofs only [go_sem, rq1, q3, q4, ra, rw0, hi2, Int.toNat_natCast, gw, e5, w2])
   refine nx_keep (m3 - 1) (by omega) zsm ⟨k + 1, rfl, zsm, by omega, fun j hj => ?_⟩
   by_cases hji : j = k
   ·subst hji; exact q5
   ·exact hpre3 j (by omega)
  ·have e5 : decide (¬ w.getD k default = e.store.refs.getD k default) = true := decide_eq_true q5
   repeat (first | rw [ko] | rw [kr] | simp -dsimp -implicitDefEqProofs only [go_sem, rq1, hks3, ek, q3])
   refine dq_intro [(0, []), (1, []), (2, []), (3, []), (4, []), (5, []), (6, []), (7, []), (8, []), (9, []), (10, [])] (by kernel_rfl) ?_
   repeat (first | rw [ko] | rw [kr] | simp -dsimp -implicitDefEqProofs only [go_sem, rq1, q3, q4, ra, rw0, hi2, Int.toNat_natCast, gw, e5])
   exact ⟨hle, ⟨_, rfl⟩, by rw [decide_eq_false fun h => q5 (by rw [h])]⟩
 ·repeat (first | rw [ko] | rw [kr] | simp -dsimp -implicitDefEqProofs only [go_sem, rq1, hks3, ek, q3])
  refine ⟨hle, ⟨_, rfl⟩, ?_⟩
  rw [decide_eq_true]
  refine List.ext_getElem (by omega) fun j a b => ?_
  have := hpre3 j (by omega)
  rwa [List.getD_eq_getElem?_getD, List.getD_eq_getElem?_getD, List.getElem?_eq_getElem a, List.getElem?_eq_getElem b] at this
end Go.Bi
end
section
set_option maxRecDepth 20000
namespace Go.Bi
open Go.Proofs
open Go.Ai (wrap_i64 wrap_u8 Heap)
variable {W0 : World} {P : Program}
theorem hobE (b : Bool) : (b == b) = true := by simp
attribute [go_sem] hobE
theorem eqEngine_tree {g : H2} {c : LEngine} {bs bs' : List Nat} {ys ys' : List X} (o : OTs g bs ys (eEngine c)) (o' : OTs g bs' ys' (eEngine c)) (hf : fitEngine c) : PW Tryz.prog W0 21 [.st ys, .st ys'] g (fun y => y = .raw (.bool true)) := by
 obtain ⟨F, hF⟩ := o.lent
 obtain ⟨F', hF'⟩ := o'.lent
 exact PW.lend (.cons hF (.cons hF' .nil)) (eqEngine_ok (F := F) (F' := F') hf) (fun y h => by subst h; exact .raw)
end Go.Bi
end
section
set_option maxRecDepth 20000
namespace Go.Bi
open Go.Proofs
open Go.Ai (wrap_i64 wrap_u8 Heap)
variable {W0 : World} {P : Program}
set_option maxHeartbeats 8000000
theorem OT.israw {g : H2} {bs : List Nat} {x : X} {t : T} (o : OT g bs x t) : ∃ v, x = .raw v := by cases o <;> exact ⟨_, rfl⟩
theorem OTs.israw {g : H2} : ∀ {bs : List Nat} {xs : List X} {ts : List T}, OTs g bs xs ts → ∀ x ∈ xs, ∃ v, x = .raw v
 | _, _, _, .nil, x, hx => by cases hx
 | _, _, _, .cons a b, x, hx => by
  rcases List.mem_cons.1 hx with rfl | hx
  ·exact a.israw
  ·exact b.israw x hx
mutual
theorem OT.rows {g : H2} : ∀ {bs : List Nat} {x : X} {t : T}, OT g bs x t → ∀ b ∈ bs, ∃ k, g.get b = some k ∧ ∀ y ∈ k.cs, ∃ v, y = X.raw v
 | _, _, _, .raw h, b, hb => by cases hb
 | _, _, _, .nil, b, hb => by cases hb
 | _, _, _, .row h1 h2 h3 h4 h5, b, hb => by
  rcases List.mem_cons.1 hb with rfl | hb
  ·exact ⟨_, h1, h5.israw⟩
  ·exact h5.rows b hb
theorem OTs.rows {g : H2} : ∀ {bs : List Nat} {xs : List X} {ts : List T}, OTs g bs xs ts → ∀ b ∈ bs, ∃ k, g.get b = some k ∧ ∀ y ∈ k.cs, ∃ v, y = X.raw v
 | _, _, _, .nil, b, hb => by cases hb
 | _, _, _, .cons h1 h2, b, hb => by
  rcases List.mem_append.1 hb with hb | hb
  ·exact h1.rows b hb
  ·exact h2.rows b hb
end
theorem WC2.lendTree {g : H2} {f : FuncId} {xs ys : List X} {R : X → H2 → List Nat → Prop} (hl : Lents g xs ys)
    (c : WC2 P W0 f ys g.bare fun x g' => g.bare.le g' ∧ ∃ bs, R x g' bs ∧ Bl (hn g .mk) (hn g' .mk) bs)
    (hfr : ∀ x g' g2 bs, R x g' bs → (∀ b ∈ bs, g2.get b = g'.get b) → R x g2 bs)
    (hrow : ∀ x g' bs, R x g' bs → ∀ b ∈ bs, ∃ k, g'.get b = some k ∧ ∀ y ∈ k.cs, ∃ v, y = X.raw v)
    (hok : ∀ x g' bs, R x g' bs → ∀ h g2, Ok h g2 x) :
    WC2 P W0 f xs g fun x g' => g.le g' ∧ ∃ bs, R x g' bs ∧ Bl (hn g .mk) (hn g' .mk) bs := by
  intro h s o
  rw [← hl.er]
  refine (c h s.bare (hl.ok s o)).mono ?_
  rintro v h' ⟨y, g', rfl, s', x', o', le, bs, r, bl⟩
  have hn1 : hn g .mk = h.n := s.n
  have hn2 : hn g' .mk = h'.n := s'.n
  have hbn : ∀ c, c < h.n → c ∉ bs := fun c hc hb => by have := (bl.2 c hb).1; omega
  let g2 : H2 := ⟨h'.n, fun b => if b ∈ bs then g'.get b else g.get b⟩
  have hx2 : Ext g h g2 h' := ⟨x'.n, fun c hc _ => x'.keep c hc rfl, fun c hc hg => by
    show (if c ∈ bs then g'.get c else g.get c) = none
    rw [if_neg (hbn c hc)]; exact hg⟩
  refine ⟨_, g2, rfl, ⟨rfl, fun c k hk => ?_⟩, hx2, hok _ _ _ r _ _, ⟨?_, fun c hc => ?_⟩, bs, hfr _ _ _ _ r fun b hb => ?_, bl.wide (Nat.le_refl _) (Nat.le_of_eq hn2)⟩
  · by_cases hb : c ∈ bs
    · have hk' : g'.get c = some k := by
        have : (if c ∈ bs then g'.get c else g.get c) = some k := hk
        rwa [if_pos hb] at this
      obtain ⟨k2, e2, hr⟩ := hrow _ _ _ r c hb
      rw [e2] at hk'
      cases hk'
      obtain ⟨q1, q2, q3⟩ := s'.row c _ e2
      exact ⟨q1, q2, fun x hx => by obtain ⟨v, rfl⟩ := hr x hx; exact .raw⟩
    · have hk' : g.get c = some k := by
        have : (if c ∈ bs then g'.get c else g.get c) = some k := hk
        rwa [if_neg hb] at this
      obtain ⟨q1, q2, q3⟩ := s.row c k hk'
      exact ⟨Nat.lt_of_lt_of_le q1 x'.n, by rw [x'.keep c q1 rfl]; exact q2, fun y hy => (q3 y hy).mono hx2⟩
  · have := x'.n
    show hn g .mk ≤ h'.n
    omega
  · show (if c ∈ bs then g'.get c else g.get c) = g.get c
    rw [if_neg (hbn c (by omega))]
  · show (if b ∈ bs then g'.get b else g.get b) = g'.get b
    rw [if_pos hb]
end Go.Bi
end
section
set_option maxRecDepth 20000
namespace Go.Bi
open Go.Proofs
open Go.Ai (wrap_i64 wrap_u8)
variable {W0 : World} {P : Program}
set_option maxHeartbeats 8000000
theorem append_gr2 {D : Nat → Option (List Nat)} {g : H2} {K : KT} {t u U z y N n : Nat} {zs : List Value} {v w : X} {ys : List X} {ts us : List T} {bs b2 : List Nat} (he : Go.Ai.elt? P t = some (U, z + 1, y)) (hz : Go.Ai.zr? P U = some zs) (hl : zs.length = z + 1) (hu : Go.Ai.cls? P u = some .sl)
    (gr : Gr N g v (z + 1) n ts bs) (hs : srcX g (z + 1) w = some (1, ys)) (o : OTs g b2 ys us) (hyl : ys.length = z + 1) (hN : N ≤ hn g .mk) (hlo : ∀ b ∈ b2, N ≤ b ∧ b < hn g .mk) (hnd : b2.Nodup) (hdj : ∀ b ∈ bs, b ∉ b2) (hdv : ∀ b, blockOf v = some b → b ∉ b2) (hn0 : (n + 1) * (y + 1) ≤ Go.Ai.most)
    (hk : ∀ v' g', Gr N g' v' (z + 1) (n + 1) (ts ++ us) (bs ++ b2) → hn g .mk ≤ hn g' .mk → (∀ g0 : H2, hn g0 .mk ≤ N → g0.le g → g0.le g') → (∀ b, b < hn g .mk → blockOf v ≠ some b → hg g' b .mk = hg g b .mk) → (∀ b, blockOf v' = some b → hn g .mk ≤ b) → kz K v' g' .mk) :
    az (biz P g .append [t, u] [v, w] .mk) K .mk := by
  obtain ⟨cs, ⟨hlen0, hcase⟩, oc, bl, dv⟩ := gr
  have hok := OTs.okx o
  have hbl : Bl N (hn g .mk) (bs ++ b2) := ⟨List.nodup_append.2 ⟨bl.1, hnd, fun x hx y hy e => hdj x hx (e ▸ hy)⟩, fun x hx => by
    rcases List.mem_append.1 hx with hx | hx
    · exact bl.2 x hx
    · exact hlo x hx⟩
  have key : ∀ a, v = .raw (.slice a n n) → biz P g .append [t, u] [v, w] .mk = (match a with
        | none => some (.raw (.slice (some ⟨g.n, 0, none⟩) 1 1), g.push ⟨z + 1, ys⟩)
        | some a => match g.get a.block with
          | some k => if k.z = z + 1 ∧ a.off = 0 then (rdL k.cs 0 (n * (z + 1))).map fun olds => (.raw (.slice (some ⟨g.n, 0, none⟩) (n + 1) (n + 1)), (g.kill a.block).push ⟨z + 1, olds ++ ys⟩) else none
          | none => none) := by
    intro a ha
    subst ha
    simp only [biz, builtinX, hu, appendX, he, hs, hz]
    rw [if_pos ⟨hl, hn0, hok⟩, if_neg (by omega)]
    rfl
  have hmv : ∀ b : Nat, (b == b) = true := by simp
  rcases hcase with ⟨rfl, rfl⟩ | ⟨b, rfl, hNb, hbn, hb⟩
  · have hcs : cs = [] := List.eq_nil_of_length_eq_zero (by omega)
    subst hcs
    rw [key none rfl]
    have hle : ∀ b, b < hn g .mk → hg (g.push ⟨z + 1, ys⟩) b .mk = hg g b .mk := fun b' hb' => by
      rw [hg_push, show (b' == hn g .mk) = false by simp; omega]; rfl
    refine hk _ _ ⟨ys, ⟨by omega, .inr ⟨g.n, rfl, hN, by rw [hn_push]; exact Nat.lt_succ_self _, ?_⟩⟩, ?_, hbl.wide (Nat.le_refl _) (by rw [hn_push]; omega), ?_⟩ (by rw [hn_push]; omega) (fun g0 _ l0 => le_push l0) (fun b' h1 _ => hle b' h1) (fun b' e => by simp only [blockOf, Option.some.injEq] at e; unfold hn; omega)
    · rw [hg_push]; show Go.Bi.hk (g.n == g.n) _ _ _ _ = _; rw [hmv]; rfl
    · have := (oc.append o)
      rw [List.nil_append] at this
      exact this.frame fun x hx => hle x (hbl.2 x hx).2
    · intro b' e hx
      simp only [blockOf, Option.some.injEq] at e
      have := (hbl.2 b' hx).2
      unfold hn at this; omega
  · have hb' : g.get b = some ⟨z + 1, cs⟩ := hb
    rw [key _ rfl]
    simp only [hb']
    rw [if_pos ⟨trivial, trivial⟩, rd_all hlen0]
    have hle : ∀ b', b' < hn g .mk → b' ≠ b → hg ((g.kill b).push ⟨z + 1, cs ++ ys⟩) b' .mk = hg g b' .mk := fun b' h1 h2 => by
      rw [hg_push, hn_kill, show (b' == hn g .mk) = false by simp; omega, hk_f, hg_kill, show (b' == b) = false by simp [h2]]; rfl
    refine hk _ _ ⟨cs ++ ys, ⟨by simp [hlen0, hyl, Nat.add_mul], .inr ⟨g.n, rfl, hN, by rw [hn_push, hn_kill]; exact Nat.lt_succ_self _, ?_⟩⟩, ?_, hbl.wide (Nat.le_refl _) (by rw [hn_push, hn_kill]; omega), ?_⟩ (by rw [hn_push, hn_kill]; omega) (fun g0 h0 l0 => le_push (le_kill l0 (by omega))) (fun b' h1 h2 => hle b' h1 (fun e => h2 (by rw [e]; rfl))) (fun b' e => by simp only [blockOf, Option.some.injEq] at e; unfold hn; omega)
    · rw [hg_push, hn_kill]; show Go.Bi.hk (g.n == g.n) _ _ _ _ = _; rw [hmv]; rfl
    · exact (oc.append o).frame fun x hx => hle x (hbl.2 x hx).2 fun e => by
        rcases List.mem_append.1 hx with hx | hx
        · exact dv b rfl (e ▸ hx)
        · exact hdv b rfl (e ▸ hx)
    · intro b' e hx
      simp only [blockOf, Option.some.injEq] at e
      have := (hbl.2 b' hx).2
      unfold hn at this; omega
theorem OT.gr {g : H2} {bs : List Nat} {v : X} {z : Nat} {es : List (List T)} {N : Nat} (o : OT g bs v (.l z es)) (bl : Bl N (hn g .mk) bs) : ∃ bs', Gr N g v z es.length es.flatten bs' ∧ (∀ x ∈ bs', x ∈ bs) ∧ ∀ b, blockOf v = some b → b ∈ bs := by
 rcases o.inv with ⟨rfl, rfl, rfl⟩ | ⟨b, bs', cs, rfl, rfl, hb, hcs, hz, oc⟩
 ·exact ⟨[], Gr.nil, fun x h => h, fun b e => by cases e⟩
 ·have hb1 := bl.2 b (by simp)
  obtain ⟨n1, n2⟩ := List.nodup_cons.1 bl.1
  exact ⟨bs', ⟨cs, ⟨hcs, .inr ⟨b, rfl, hb1.1, hb1.2, hb⟩⟩, oc, ⟨n2, fun x hx => bl.2 x (by simp [hx])⟩, fun q e => by
   simp only [blockOf, Option.some.injEq] at e; subst e; exact n1⟩, fun x hx => by simp [hx], fun q e => by
   simp only [blockOf, Option.some.injEq] at e; subst e; simp⟩
theorem Gr.treeX {N : Nat} {g : H2} {v : X} {z n : Nat} {es : List (List T)} {bs : List Nat} (gr : Gr N g v z n es.flatten bs) (hn' : n = es.length) (hz : ∀ e ∈ es, e.length = z) : ∃ bs', OT g bs' v (.l z es) ∧ Bl N (hn g .mk) bs' ∧ ∀ x ∈ bs', x ∈ bs ∨ blockOf v = some x := by
  subst hn'
  obtain ⟨cs, ⟨hl, ho⟩, t, b, d⟩ := gr
  rcases ho with ⟨rfl, h0⟩ | ⟨q, rfl, h1, h2, h3⟩
  · have : es = [] := List.eq_nil_of_length_eq_zero h0
    subst this
    exact ⟨[], .nil, .nil, fun x h => by cases h⟩
  · exact ⟨q :: bs, .row h3 hl rfl hz t, ⟨List.nodup_cons.2 ⟨d q rfl, b.1⟩, fun x hx => by
      rcases List.mem_cons.1 hx with rfl | hx
      · exact ⟨h1, h2⟩
      · exact b.2 x hx⟩, fun x hx => by
      rcases List.mem_cons.1 hx with rfl | hx
      · exact .inr rfl
      · exact .inl hx⟩
theorem Bl.repl {N M M' : Nat} {A B B' : List Nat} (b : Bl N M (A ++ B)) (b' : Bl N M' B') (h : ∀ x ∈ B', x ∈ B ∨ M ≤ x) (hM : M ≤ M') : Bl N M' (A ++ B') := by
 obtain ⟨h1, h2⟩ := b
 obtain ⟨a1, a2, a3⟩ := List.nodup_append.1 h1
 refine ⟨List.nodup_append.2 ⟨a1, b'.1, fun x hx y hy e => ?_⟩, fun x hx => ?_⟩
 ·subst e
  rcases h x hy with h | h
  ·exact a3 x hx x h rfl
  ·have := (h2 x (by simp [hx])).2; omega
 ·rcases List.mem_append.1 hx with hx | hx
  ·have := h2 x (by simp [hx]); omega
  ·exact b'.2 x hx
def RTup3 (E : List T) (v w : Value) (x : X) (g : H2) (bs : List Nat) : Prop := ∃ ys, x = .tp [.st ys, .raw v, .raw w] ∧ OTs g bs ys E
theorem lend_tup3 {g : H2} {f : FuncId} {xs ys : List X} {E : List T} {v w : Value} (hl : Lents g xs ys)
  (c : WC2 P W0 f ys g.bare fun x g' => g.bare.le g' ∧ ∃ bs, RTup3 E v w x g' bs ∧ Bl (hn g .mk) (hn g' .mk) bs) :
  WC2 P W0 f xs g fun x g' => g.le g' ∧ ∃ bs, RTup3 E v w x g' bs ∧ Bl (hn g .mk) (hn g' .mk) bs := by
 refine WC2.lendTree hl c ?_ ?_ ?_
 ·rintro x g' g2 bs ⟨ys, rfl, o⟩ hb
  exact ⟨ys, rfl, o.frame hb⟩
 ·rintro x g' bs ⟨ys, rfl, o⟩
  exact o.rows
 ·rintro x g' bs ⟨ys, rfl, o⟩ h g2
  refine .tp fun x hx => ?_
  simp only [List.mem_cons, List.not_mem_nil, or_false] at hx
  rcases hx with rfl | rfl | rfl
  ·exact .st fun y hy => by obtain ⟨v, rfl⟩ := o.israw y hy; exact .raw
  ·exact .raw
  ·exact .raw
theorem implSeed_ok {s : Int} {g : H2} : WC2 Tryz.prog W0 193 [.raw (.int .i64 s)] g (fun v g' => v = .raw (.int .u64 (IntKind.u64.wrap s)) ∧ g' = g) := by
 refine begins [[0], [0]] Tryz.func193 rfl (rs := [.tmp 2]) rfl rfl ?_
 intro wf
 repeat (first | rw [ko] | rw [kr] | simp -dsimp -implicitDefEqProofs only [go_sem])
 exact ⟨rfl, rfl⟩
theorem specSeed_ok {s : Int} {g : H2} : WC2 Tryz.prog W0 111 [.raw (.int .i64 s)] g (fun v g' => v = .raw (.int .u64 (IntKind.u64.wrap s)) ∧ g' = g) := by
 refine begins [[0], [0]] Tryz.func111 rfl (rs := [.tmp 2]) rfl rfl ?_
 intro wf
 repeat (first | rw [ko] | rw [kr] | simp -dsimp -implicitDefEqProofs only [go_sem])
 exact ⟨rfl, rfl⟩
def newReq (p : List Int) (c : LConfig) : LRequest := ⟨p.length, p, c, IntKind.u64.wrap c.seed, ⟨[], 0⟩, 0⟩
def admE (e : LEngine) (p : List Int) (c : LConfig) : LEngine := if admitI e p c = 0 then ⟨e.model, e.store, e.requests ++ [newReq p c]⟩ else e
def admN (e : LEngine) (p : List Int) (c : LConfig) : Int := if admitI e p c = 0 then e.requests.length else 0
def subE (e : LEngine) (p : List Int) (c : LConfig) : LEngine := if engB e = true then admE e p c else e
def subN (e : LEngine) (p : List Int) (c : LConfig) : Int := if engB e = true then admN e p c else 0
def subK (e : LEngine) (p : List Int) (c : LConfig) : Int := if engB e = true then admitI e p c else 6
end Go.Bi
end
