/- Own lemmas that the theorem of this claim needs: the abstract machine and walks of functions. -/
import Derived.Test.YtjofbadmkigkjaaGreatRsLawAQ
set_option linter.unusedSimpArgs false
set_option linter.unusedVariables false
open Nat renaming reduceBEq → rq1, reduceAdd → rq2, reduceLeDiff → rq3, reduceMul → rq4
open Int renaming reduceLE → rq5, reduceLT → rq6, reduceBEq → rq7
section
set_option maxRecDepth 20000
namespace Go.Bi
open Go.Proofs
open Go.Ai (wrap_i64 wrap_u8 Heap)
variable {W0 : World} {P : Program}
set_option maxHeartbeats 4000000
structure ReqT (e : LEngine) (r : LRequest) : Prop where
 cfg : cfgOk r.config = true
 prompt : inI r.prompt 1 24 = true
 ctx : ¬ r.prompt + r.config.new > e.model.context
 status : inI r.status 0 4 = true
 len : inI r.tokens.length r.prompt (r.prompt + r.config.new) = true
 full : ¬ (r.status = 0 ∧ (r.tokens.length : Int) = r.prompt + r.config.new)
 toks : allI r.tokens 0 (vocI e.model - 1) = true
 table : tableB e.store r.table = true
 count : ¬ r.table.count > (r.tokens.length : Int)
 done : ¬ (¬ r.status = 0 ∧ (r.table.pages.length : Int) > 0)
 need : ¬ needI (r.prompt + r.config.new) > (e.store.refs.length : Int)
 cells : ((cellsL e.store r.table r.table.pages.length).any fun c => !cellB c e.model) = false
theorem reqB_iff {e : LEngine} {r : LRequest} : reqB e r = true ↔ ReqT e r := by
 unfold reqB
 simp only [Bool.and_eq_true, Bool.not_eq_true', Bool.and_eq_false_iff, decide_eq_false_iff_not]
 constructor
 ·rintro ⟨h1, h2, h3, h4, h5, h6, h7, h8, h9, h10, h11, h12⟩
  exact ⟨h1, h2, h3, h4, h5, fun hh => h6.elim (fun h => h hh.1) (fun h => h hh.2), h7, h8, h9, fun hh => h10.elim (fun h => h hh.1) (fun h => h hh.2), h11, h12⟩
 ·rintro ⟨h1, h2, h3, h4, h5, h6, h7, h8, h9, h10, h11, h12⟩
  refine ⟨h1, h2, h3, h4, h5, ?_, h7, h8, h9, ?_, h11, h12⟩
  ·by_cases hs : r.status = 0
   ·exact .inr fun hl => h6 ⟨hs, hl⟩
   ·exact .inl hs
  ·by_cases hs : ¬ r.status = 0
   ·exact .inr fun hl => h10 ⟨hs, hl⟩
   ·exact .inl hs
theorem req_no {e : LEngine} {r : LRequest} (h : ReqT e r → False) : reqB e r = false := by
 cases hb : reqB e r
 ·rfl
 ·exact (h (reqB_iff.1 hb)).elim
theorem token_ok {F : Nat → Adr} {m : LModel} {t : Int} {h : H2} (hm : m.merges.length ≤ 1048576) : PW Tryz.prog W0 160 [.st (xModel F m), .raw (.int .i64 t)] h (fun r => r = .raw (.bool (inI t 0 (vocI m - 1)))) := by
 refine PW.scalar ?_
 refine begins [[0, 1], [1, 2]] Tryz.func160 rfl (rs := [.tmp 4]) rfl rfl ?_
 intro wf
 have w : IntKind.i64.wrap (vocI m - 1) = vocI m - 1 := by unfold vocI; rw [wrap_i64] <;> omega
 repeat (first | rw [ko] | rw [kr] | simp -dsimp -implicitDefEqProofs only [go_sem, hoo])
 refine pw_intro (voc2_ok (F := F) hm) ?_
 rintro _ n1 hn1 rfl
 try (rw [kq]; refine ⟨by simp -dsimp -implicitDefEqProofs only [go_sem, rq1, rq2, rq3, rq4, rq5, rq6, rq7, hoo], ?_⟩)
 repeat (first | rw [ko] | rw [kr] | simp -dsimp -implicitDefEqProofs only [go_sem, hoo, w])
 refine wz_intro l01In_ok ?_
 rintro _ h2 ⟨rfl, rfl⟩
 repeat (first | rw [ko] | rw [kr] | simp -dsimp -implicitDefEqProofs only [go_sem])
 exact ⟨zale, ⟨_, rfl⟩, rfl⟩
theorem specReq_ok {F F' : Nat → Adr} {e : LEngine} {r : LRequest} {g : H2} (hm : modelB e.model = true) (hst : storeB e.store = true) (hs : smallEng e) (hr : smallReq r) (hct : i64R r.table.count) :
  PW Tryz.prog W0 65 [.st (xEngine F e), .st (xRequest F' r)] g (fun y => y = .raw (.bool (reqB e r))) := by
 obtain ⟨s1, s2, s3, s4, s5⟩ := hs
 obtain ⟨r1, r2, r3⟩ := hr
 have hwd := modelB_w hm
 have hhd := modelB_h hm
 obtain ⟨hpl, hrl⟩ := storeB_len hst
 have hmg : e.model.merges.length ≤ 1048576 := s1.1
 refine PW.scalar ?_
 refine begins [[0, 1], [2, 3], [2, 3, 5], [], [2, 3, 5], [2, 3, 5, 6], [2, 3, 5, 6], [2, 3, 5, 6], [], [2, 3]] Tryz.func65 rfl (rs := [.tmp 4]) rfl rfl ?_
 intro wf
 have hne : (hn g .mk == hn g .mk + 1) = false := by simp
 repeat (first | rw [ko] | rw [kr] | simp -dsimp -implicitDefEqProofs only [go_sem, rq1, hoo])
 generalize hap : List.append _ _ = oplist
 simp only [List.append_eq, List.cons_append, List.nil_append] at hap
 subst hap
 by_cases h1 : r.prompt < 1
 ·repeat (first | rw [ko] | rw [kr] | simp -dsimp -implicitDefEqProofs only [go_sem, rq1, hoo, h1])
  exact ⟨zale, ⟨_, rfl⟩, by rw [req_no fun (hh : ReqT e r) => by have := inI_tt hh.prompt; omega]⟩
 repeat (first | rw [ko] | rw [kr] | simp -dsimp -implicitDefEqProofs only [go_sem, rq1, hoo, h1])
 refine pw_intro (specConfigOk_ok (F := fun j => F' (j + 2)) (c := r.config) (by omega)) ?_
 rintro _ n1 hn1 rfl
 simp only [hn_push] at hn1
 try (rw [kq]; refine ⟨by simp -dsimp -implicitDefEqProofs only [go_sem, rq1, rq2, rq3, rq4, rq5, rq6, rq7, hoo, hne], ?_⟩)
 cases h2 : cfgOk r.config
 ·repeat (first | rw [ko] | rw [kr] | simp -dsimp -implicitDefEqProofs only [go_sem, rq1, hoo])
  exact ⟨zale, ⟨_, rfl⟩, by rw [req_no fun (hh : ReqT e r) => by have := hh.cfg; rw [h2] at this; cases this]⟩
 have hnew := cfg_new h2
 by_cases h3 : (r.tokens.length : Int) < r.prompt
 ·repeat (first | rw [ko] | rw [kr] | simp -dsimp -implicitDefEqProofs only [go_sem, rq1, hoo, h3])
  exact ⟨zale, ⟨_, rfl⟩, by rw [req_no fun (hh : ReqT e r) => by have := inI_tt hh.len; omega]⟩
 by_cases h4 : r.prompt > 24
 ·repeat (first | rw [ko] | rw [kr] | simp -dsimp -implicitDefEqProofs only [go_sem, rq1, hoo, h3, h4])
  exact ⟨zale, ⟨_, rfl⟩, by rw [req_no fun (hh : ReqT e r) => by have := inI_tt hh.prompt; omega]⟩
 have w1 : IntKind.i64.wrap (r.prompt + r.config.new) = r.prompt + r.config.new := by rw [wrap_i64] <;> omega
 by_cases h5 : (r.tokens.length : Int) > r.prompt + r.config.new
 ·repeat (first | rw [ko] | rw [kr] | simp -dsimp -implicitDefEqProofs only [go_sem, rq1, rq2, hoo, h3, h4, w1, h5])
  exact ⟨zale, ⟨_, rfl⟩, by rw [req_no fun (hh : ReqT e r) => by have := inI_tt hh.len; omega]⟩
 by_cases h6 : r.prompt + r.config.new > e.model.context
 ·repeat (first | rw [ko] | rw [kr] | simp -dsimp -implicitDefEqProofs only [go_sem, rq1, rq2, hoo, hne, h3, h4, w1, h5, h6])
  exact ⟨zale, ⟨_, rfl⟩, by rw [req_no fun (hh : ReqT e r) => hh.ctx h6]⟩
 repeat (first | rw [ko] | rw [kr] | simp -dsimp -implicitDefEqProofs only [go_sem, rq1, rq2, hoo, hne, h3, h4, w1, h5, h6])
 refine wz_intro l01In_ok ?_
 rintro _ _ ⟨rfl, rfl⟩
 try (rw [kq]; refine ⟨by simp -dsimp -implicitDefEqProofs only [go_sem, rq1, rq2, rq3, rq4, rq5, rq6, rq7, hoo, hne], ?_⟩)
 cases h7 : inI r.status 0 4
 ·repeat (first | rw [ko] | rw [kr] | simp -dsimp -implicitDefEqProofs only [go_sem, rq1, hoo])
  exact ⟨zale, ⟨_, rfl⟩, by rw [req_no fun (hh : ReqT e r) => by have := hh.status; rw [h7] at this; cases this]⟩
 repeat (first | rw [ko] | rw [kr] | simp -dsimp -implicitDefEqProofs only [go_sem, rq1, hoo, hne])
 refine pw_intro (specTable_ok (F := fun j => F (j + 14)) (F' := fun j => F' (j + 7)) (s := e.store) (t := r.table) (by omega) (by omega) hct.2) ?_
 rintro _ n2 hn2 rfl
 simp only [hn_up] at hn2
 try (rw [kq]; refine ⟨by simp -dsimp -implicitDefEqProofs only [go_sem, rq1, rq2, rq3, rq4, rq5, rq6, rq7, hoo, hne], ?_⟩)
 rw [tableC_eq hst]
 cases h8 : tableB e.store r.table
 ·repeat (first | rw [ko] | rw [kr] | simp -dsimp -implicitDefEqProofs only [go_sem, rq1, hoo])
  exact ⟨zale, ⟨_, rfl⟩, by rw [req_no fun (hh : ReqT e r) => by have := hh.table; rw [h8] at this; cases this]⟩
 obtain ⟨t1, t2, t3, t4⟩ := table_t h8
 have hpc : (0 < r.table.count ↔ (r.table.pages.length : Int) > 0) := by
  obtain ⟨c, hc⟩ := Int.eq_ofNat_of_zero_le t1
  rw [hc, need_nat] at t3
  omega
 have hp16 : r.table.pages.length ≤ 16 := by
  obtain ⟨c, hc⟩ := Int.eq_ofNat_of_zero_le t1
  rw [hc, need_nat] at t3
  omega
 by_cases h9 : r.table.count > (r.tokens.length : Int)
 ·repeat (first | rw [ko] | rw [kr] | simp -dsimp -implicitDefEqProofs only [go_sem, rq1, rq2, hoo, h9])
  exact ⟨zale, ⟨_, rfl⟩, by rw [req_no fun (hh : ReqT e r) => hh.count h9]⟩
 by_cases h10 : r.status = 0
 ·have e10 : decide (¬ r.status = 0) = false := decide_eq_false (fun h => h h10)
  have e10' : decide (r.status = 0) = true := decide_eq_true h10
  by_cases h11 : (r.tokens.length : Int) = r.prompt + r.config.new
  ·have e11 : decide ((r.tokens.length : Int) = r.prompt + r.config.new) = true := decide_eq_true h11
   repeat (first | rw [ko] | rw [kr] | simp -dsimp -implicitDefEqProofs only [go_sem, rq1, rq2, hoo, h9, e10, e10', w1, e11])
   exact ⟨zale, ⟨_, rfl⟩, by rw [req_no fun (hh : ReqT e r) => hh.full ⟨h10, h11⟩]⟩
  have e11 : decide ((r.tokens.length : Int) = r.prompt + r.config.new) = false := decide_eq_false h11
  have hfull : ¬ (r.status = 0 ∧ (r.tokens.length : Int) = r.prompt + r.config.new) := fun h => h11 h.2
  have hdone : ¬ (¬ r.status = 0 ∧ (r.table.pages.length : Int) > 0) := fun h => h.1 h10
  repeat (first | rw [ko] | rw [kr] | simp -dsimp -implicitDefEqProofs only [go_sem, rq1, rq2, hoo, h9, e10, e10', w1, e11])
  refine lz_keep [2, 3, 5] (fun mm s h' => ∃ (i : Nat), g.le h' ∧ hn g .mk + 2 ≤ hn h' .mk ∧ hg h' (hn g .mk) .mk = some ⟨17, [.raw (.int .i64 e.model.dim), .raw (.int .i64 e.model.heads), .raw (.int .i64 e.model.context), .sl (F 3) 2 (rMergeS e.model.merges), .sl (F 4) 1 (rIntSS e.model.embed), .sl (F 5) 32 (rLayerS e.model.layers), .sl (F 6) 1 (ints e.model.gainEnd), .raw (.int .i64 e.model.head.width), .sl (F 8) 1 (rIntSS e.model.head.rows), .sl (F 9) 1 (rIntSS e.model.head.scales), .raw (.int .i64 e.model.head.mul), .raw (.int .i64 e.model.head.shift), .sl (F 12) 1 (rIntSS e.model.turns.cos), .sl (F 13) 1 (rIntSS e.model.turns.sin), .sl (F 14) 1 (ints e.store.refs), .sl (F 15) 1 (rCellSS e.store.pages), .sl (F 16) 10 (rRequestS e.requests)]⟩ ∧ hg h' (hn g .mk + 1) .mk = some ⟨10, [.raw (.int .i64 r.prompt), .sl (F' 1) 1 (ints r.tokens), .raw (.int .i64 r.config.top), .raw (.int .i64 r.config.seed), .raw (.int .i64 r.config.new), .sl (F' 5) 1 (strs r.config.stops), .raw (.int .u64 r.state), .sl (F' 7) 1 (ints r.table.pages), .raw (.int .i64 r.table.count), .raw (.int .i64 r.status)]⟩ ∧ look s 6 .mk = .raw (.int .i64 (i : Nat)) ∧ mm + i = r.tokens.length ∧ ∀ j, j < i → inI (r.tokens.getD j default) 0 (vocI e.model - 1) = true) r.tokens.length ?_ ?_
  ·exact ⟨0, zale, by simp only [hn_up]; omega, by simp -dsimp -implicitDefEqProofs only [go_sem, hoo, hne] <;> rfl, by simp -dsimp -implicitDefEqProofs only [go_sem, hoo] <;> rfl, zsm, by omega, fun j hj => by omega⟩
  rintro mm s h' hks ⟨i, hle, hnn, ra, rb, ei, hmm, hpre⟩
  simp -dsimp -implicitDefEqProofs only [go_sem] at hks
  by_cases q1 : (i : Int) < (r.tokens.length : Int)
  ·have q2 : i < r.tokens.length := by omega
   have w3 := zwrs i (by omega)
   repeat (first | rw [ko] | rw [kr] | simp -dsimp -implicitDefEqProofs only [go_sem, rq1, hks, ei, q1])
   refine dq_intro [(0, []), (1, []), (2, []), (3, []), (4, []), (5, []), (6, []), (7, []), (8, [])] (by kernel_rfl) ?_
   repeat (first | rw [ko] | rw [kr] | simp -dsimp -implicitDefEqProofs only [go_sem, rq1, q2, ra, rb])
   refine pw_intro (token_ok (F := F) (m := e.model) hmg) ?_
   rintro _ n4 hn4 rfl
   try (rw [kq]; refine ⟨zsm, ?_⟩)
   cases q5 : inI (r.tokens.getD i default) 0 (vocI e.model - 1)
   ·repeat (first | rw [ko] | rw [kr] | simp -dsimp -implicitDefEqProofs only [go_sem])
    exact ⟨le_up hle hn4, ⟨_, rfl⟩, by rw [req_no fun (hh : ReqT e r) => by
     have := (List.all_eq_true.1 hh.toks) _ (getD_memR q2)
     rw [q5] at this; cases this]⟩
   ·repeat (first | rw [ko] | rw [kr] | simp -dsimp -implicitDefEqProofs only [go_sem, rq1, w3])
    refine nx_keep (mm - 1) (by omega) zsm ⟨i + 1, le_up hle hn4, by rw [hn_up]; omega, by simp -dsimp -implicitDefEqProofs only [go_sem, ra], by simp -dsimp -implicitDefEqProofs only [go_sem, rb], zsm, by omega, fun j hj => ?_⟩
    by_cases hji : j = i
    ·subst hji; exact q5
    ·exact hpre j (by omega)
  have htoks : allI r.tokens 0 (vocI e.model - 1) = true := by
   rw [allI, List.all_eq_true]
   intro x hx
   obtain ⟨j, hj, rfl⟩ := List.getElem_of_mem hx
   have := hpre j (by omega)
   rwa [List.getD_eq_getElem?_getD, List.getElem?_eq_getElem hj] at this
  repeat (first | rw [ko] | rw [kr] | simp -dsimp -implicitDefEqProofs only [go_sem, rq1, hks, ei, q1])
  refine dq_intro [(0, []), (1, []), (2, []), (3, []), (4, []), (5, []), (7, []), (8, []), (9, []), (10, []), (6, [9]), (11, []), (12, []), (13, []), (14, []), (15, []), (16, []), (17, []), (18, []), (19, [14]), (20, []), (21, []), (22, [])] (by kernel_rfl) ?_
  repeat (first | rw [ko] | rw [kr] | simp -dsimp -implicitDefEqProofs only [go_sem, rq1, rq2, ra, rb, w1])
  refine wz_intro (specNeed_ok (by omega)) ?_
  rintro _ _ ⟨rfl, rfl⟩
  try (rw [kq]; refine ⟨by simp -dsimp -implicitDefEqProofs only [go_sem, ra], ?_⟩)
  by_cases h13 : needI (r.prompt + r.config.new) ≤ (e.store.refs.length : Int)
  rotate_left
  ·repeat (first | rw [ko] | rw [kr] | simp -dsimp -implicitDefEqProofs only [go_sem, rq1, h13])
   exact ⟨hle, ⟨_, rfl⟩, by rw [req_no fun (hh : ReqT e r) => hh.need (by omega)]⟩
  repeat (first | rw [ko] | rw [kr] | simp -dsimp -implicitDefEqProofs only [go_sem, rq1, ra, rb, h13])
  refine pw_intro (l15Cells_ok (F := fun j => F (j + 14)) (F' := fun j => F' (j + 7)) (s := e.store) (t := r.table) hpl h8) ?_
  rintro _ n5 hn5 ⟨f5, rfl⟩
  try (rw [kq]; refine ⟨by simp -dsimp -implicitDefEqProofs only [go_sem, rq1, ra], ?_⟩)
  have hsc : smallC (cellsL e.store r.table r.table.pages.length) := cells_small s3 (by omega)
  repeat (first | rw [ko] | rw [kr] | simp -dsimp -implicitDefEqProofs only [go_sem, rq1])
  refine pw_intro (l18Cells_ok (F := F) (m := e.model) hwd hhd hsc) ?_
  rintro _ n6 hn6 rfl
  rw [hn_up] at hn6
  try (rw [kq]; refine ⟨zsm, ?_⟩)
  repeat (first | rw [ko] | rw [kr] | simp -dsimp -implicitDefEqProofs only [go_sem, rq1])
  refine ⟨le_up (le_up hle hn5) (by rw [hn_up]; exact hn6), ⟨_, rfl⟩, ?_⟩
  have hz : (1 : Int) ≤ r.prompt ∧ r.prompt ≤ 24 := by omega
  have hp : inI r.prompt 1 24 = true := by unfold inI; simp only [Bool.and_eq_true, decide_eq_true_eq]; omega
  have hl : inI r.tokens.length r.prompt (r.prompt + r.config.new) = true := by unfold inI; simp only [Bool.and_eq_true, decide_eq_true_eq]; omega
  cases hc : (cellsL e.store r.table r.table.pages.length).any fun c => !cellB c e.model
  ·rw [reqB_iff.2 ⟨h2, hp, h6, h7, hl, hfull, htoks, h8, h9, hdone, by omega, hc⟩]; rfl
  ·rw [req_no fun (hh : ReqT e r) => by have := hh.cells; rw [hc] at this; cases this]; rfl
 ·have e10 : decide (¬ r.status = 0) = true := decide_eq_true h10
  have e10' : decide (r.status = 0) = false := decide_eq_false h10
  by_cases h11 : r.table.count > 0
  ·repeat (first | rw [ko] | rw [kr] | simp -dsimp -implicitDefEqProofs only [go_sem, rq1, rq2, hoo, h9, e10, h11])
   exact ⟨zale, ⟨_, rfl⟩, by rw [req_no fun (hh : ReqT e r) => hh.done ⟨h10, hpc.1 h11⟩]⟩
  have hfull : ¬ (r.status = 0 ∧ (r.tokens.length : Int) = r.prompt + r.config.new) := fun h => h10 h.1
  have hdone : ¬ (¬ r.status = 0 ∧ (r.table.pages.length : Int) > 0) := fun h => h11 (hpc.2 h.2)
  repeat (first | rw [ko] | rw [kr] | simp -dsimp -implicitDefEqProofs only [go_sem, rq1, rq2, hoo, h9, e10, e10', h11])
  refine lz_keep [2, 3, 5] (fun mm s h' => ∃ (i : Nat), g.le h' ∧ hn g .mk + 2 ≤ hn h' .mk ∧ hg h' (hn g .mk) .mk = some ⟨17, [.raw (.int .i64 e.model.dim), .raw (.int .i64 e.model.heads), .raw (.int .i64 e.model.context), .sl (F 3) 2 (rMergeS e.model.merges), .sl (F 4) 1 (rIntSS e.model.embed), .sl (F 5) 32 (rLayerS e.model.layers), .sl (F 6) 1 (ints e.model.gainEnd), .raw (.int .i64 e.model.head.width), .sl (F 8) 1 (rIntSS e.model.head.rows), .sl (F 9) 1 (rIntSS e.model.head.scales), .raw (.int .i64 e.model.head.mul), .raw (.int .i64 e.model.head.shift), .sl (F 12) 1 (rIntSS e.model.turns.cos), .sl (F 13) 1 (rIntSS e.model.turns.sin), .sl (F 14) 1 (ints e.store.refs), .sl (F 15) 1 (rCellSS e.store.pages), .sl (F 16) 10 (rRequestS e.requests)]⟩ ∧ hg h' (hn g .mk + 1) .mk = some ⟨10, [.raw (.int .i64 r.prompt), .sl (F' 1) 1 (ints r.tokens), .raw (.int .i64 r.config.top), .raw (.int .i64 r.config.seed), .raw (.int .i64 r.config.new), .sl (F' 5) 1 (strs r.config.stops), .raw (.int .u64 r.state), .sl (F' 7) 1 (ints r.table.pages), .raw (.int .i64 r.table.count), .raw (.int .i64 r.status)]⟩ ∧ look s 6 .mk = .raw (.int .i64 (i : Nat)) ∧ mm + i = r.tokens.length ∧ ∀ j, j < i → inI (r.tokens.getD j default) 0 (vocI e.model - 1) = true) r.tokens.length ?_ ?_
  ·exact ⟨0, zale, by simp only [hn_up]; omega, by simp -dsimp -implicitDefEqProofs only [go_sem, hoo, hne] <;> rfl, by simp -dsimp -implicitDefEqProofs only [go_sem, hoo] <;> rfl, zsm, by omega, fun j hj => by omega⟩
  rintro mm s h' hks ⟨i, hle, hnn, ra, rb, ei, hmm, hpre⟩
  simp -dsimp -implicitDefEqProofs only [go_sem] at hks
  by_cases q1 : (i : Int) < (r.tokens.length : Int)
  ·have q2 : i < r.tokens.length := by omega
   have w3 := zwrs i (by omega)
   repeat (first | rw [ko] | rw [kr] | simp -dsimp -implicitDefEqProofs only [go_sem, rq1, hks, ei, q1])
   refine dq_intro [(0, []), (1, []), (2, []), (3, []), (4, []), (5, []), (6, []), (7, []), (8, [])] (by kernel_rfl) ?_
   repeat (first | rw [ko] | rw [kr] | simp -dsimp -implicitDefEqProofs only [go_sem, rq1, q2, ra, rb])
   refine pw_intro (token_ok (F := F) (m := e.model) hmg) ?_
   rintro _ n4 hn4 rfl
   try (rw [kq]; refine ⟨zsm, ?_⟩)
   cases q5 : inI (r.tokens.getD i default) 0 (vocI e.model - 1)
   ·repeat (first | rw [ko] | rw [kr] | simp -dsimp -implicitDefEqProofs only [go_sem])
    exact ⟨le_up hle hn4, ⟨_, rfl⟩, by rw [req_no fun (hh : ReqT e r) => by
     have := (List.all_eq_true.1 hh.toks) _ (getD_memR q2)
     rw [q5] at this; cases this]⟩
   ·repeat (first | rw [ko] | rw [kr] | simp -dsimp -implicitDefEqProofs only [go_sem, rq1, w3])
    refine nx_keep (mm - 1) (by omega) zsm ⟨i + 1, le_up hle hn4, by rw [hn_up]; omega, by simp -dsimp -implicitDefEqProofs only [go_sem, ra], by simp -dsimp -implicitDefEqProofs only [go_sem, rb], zsm, by omega, fun j hj => ?_⟩
    by_cases hji : j = i
    ·subst hji; exact q5
    ·exact hpre j (by omega)
  have htoks : allI r.tokens 0 (vocI e.model - 1) = true := by
   rw [allI, List.all_eq_true]
   intro x hx
   obtain ⟨j, hj, rfl⟩ := List.getElem_of_mem hx
   have := hpre j (by omega)
   rwa [List.getD_eq_getElem?_getD, List.getElem?_eq_getElem hj] at this
  repeat (first | rw [ko] | rw [kr] | simp -dsimp -implicitDefEqProofs only [go_sem, rq1, hks, ei, q1])
  refine dq_intro [(0, []), (1, []), (2, []), (3, []), (4, []), (5, []), (7, []), (8, []), (9, []), (10, []), (6, [9]), (11, []), (12, []), (13, []), (14, []), (15, []), (16, []), (17, []), (18, []), (19, [14]), (20, []), (21, []), (22, [])] (by kernel_rfl) ?_
  repeat (first | rw [ko] | rw [kr] | simp -dsimp -implicitDefEqProofs only [go_sem, rq1, rq2, ra, rb, w1])
  refine wz_intro (specNeed_ok (by omega)) ?_
  rintro _ _ ⟨rfl, rfl⟩
  try (rw [kq]; refine ⟨by simp -dsimp -implicitDefEqProofs only [go_sem, ra], ?_⟩)
  by_cases h13 : needI (r.prompt + r.config.new) ≤ (e.store.refs.length : Int)
  rotate_left
  ·repeat (first | rw [ko] | rw [kr] | simp -dsimp -implicitDefEqProofs only [go_sem, rq1, h13])
   exact ⟨hle, ⟨_, rfl⟩, by rw [req_no fun (hh : ReqT e r) => hh.need (by omega)]⟩
  repeat (first | rw [ko] | rw [kr] | simp -dsimp -implicitDefEqProofs only [go_sem, rq1, ra, rb, h13])
  refine pw_intro (l15Cells_ok (F := fun j => F (j + 14)) (F' := fun j => F' (j + 7)) (s := e.store) (t := r.table) hpl h8) ?_
  rintro _ n5 hn5 ⟨f5, rfl⟩
  try (rw [kq]; refine ⟨by simp -dsimp -implicitDefEqProofs only [go_sem, rq1, ra], ?_⟩)
  have hsc : smallC (cellsL e.store r.table r.table.pages.length) := cells_small s3 (by omega)
  repeat (first | rw [ko] | rw [kr] | simp -dsimp -implicitDefEqProofs only [go_sem, rq1])
  refine pw_intro (l18Cells_ok (F := F) (m := e.model) hwd hhd hsc) ?_
  rintro _ n6 hn6 rfl
  rw [hn_up] at hn6
  try (rw [kq]; refine ⟨zsm, ?_⟩)
  repeat (first | rw [ko] | rw [kr] | simp -dsimp -implicitDefEqProofs only [go_sem, rq1])
  refine ⟨le_up (le_up hle hn5) (by rw [hn_up]; exact hn6), ⟨_, rfl⟩, ?_⟩
  have hz : (1 : Int) ≤ r.prompt ∧ r.prompt ≤ 24 := by omega
  have hp : inI r.prompt 1 24 = true := by unfold inI; simp only [Bool.and_eq_true, decide_eq_true_eq]; omega
  have hl : inI r.tokens.length r.prompt (r.prompt + r.config.new) = true := by unfold inI; simp only [Bool.and_eq_true, decide_eq_true_eq]; omega
  cases hc : (cellsL e.store r.table r.table.pages.length).any fun c => !cellB c e.model
  ·rw [reqB_iff.2 ⟨h2, hp, h6, h7, hl, hfull, htoks, h8, h9, hdone, by omega, hc⟩]; rfl
  ·rw [req_no fun (hh : ReqT e r) => by have := hh.cells; rw [hc] at this; cases this]; rfl
end Go.Bi
end
section
set_option maxRecDepth 20000
namespace Go.Bi
open Go.Proofs
open Go.Ai (wrap_i64 wrap_u8 Heap)
variable {W0 : World} {P : Program}
set_option maxHeartbeats 4000000
theorem implModel_ok {F : Nat → Adr} {m : LModel} {g : H2} (hs : smallMod m) : PW Tryz.prog W0 48 [.st (xModel F m)] g (fun y => y = .raw (.bool (modelB m))) := by
 obtain ⟨s1, s2, s3, s4, s5, s6, s7, s8⟩ := hs
 refine PW.scalar ?_
 refine begins [[0], [1], [], [1], [], [1], [], [1]] Tryz.func48 rfl (rs := [.tmp 2]) rfl rfl ?_
 intro wf
 repeat (first | rw [ko] | rw [kr] | simp -dsimp -implicitDefEqProofs only [go_sem, hoo])
 refine dq_intro [(0, []), (1, []), (2, []), (3, []), (4, []), (5, []), (6, []), (7, []), (8, []), (9, []), (10, []), (11, []), (12, []), (13, []), (14, []), (15, []), (16, []), (17, []), (18, []), (19, []), (20, []), (21, [18]), (22, []), (23, []), (24, []), (25, []), (26, []), (27, []), (28, []), (29, []), (30, [])] (by kernel_rfl) ?_
 repeat (first | rw [ko] | rw [kr] | simp -dsimp -implicitDefEqProofs only [go_sem, hoo])
 refine wz_intro isWidth_ok ?_
 rintro _ _ ⟨rfl, rfl⟩
 cases h1 : widthB m.dim
 ·repeat (first | rw [ko] | rw [kr] | simp -dsimp -implicitDefEqProofs only [go_sem, rq1, hoo])
  exact ⟨le_push (H2.le.refl _), ⟨_, rfl⟩, by rw [modelB, h1]; rfl⟩
 repeat (first | rw [ko] | rw [kr] | simp -dsimp -implicitDefEqProofs only [go_sem, rq1, hoo])
 refine wz_intro in_ok ?_
 rintro _ _ ⟨rfl, rfl⟩
 cases h2 : inI m.heads 1 2
 ·repeat (first | rw [ko] | rw [kr] | simp -dsimp -implicitDefEqProofs only [go_sem, rq1, hoo])
  exact ⟨le_push (H2.le.refl _), ⟨_, rfl⟩, by rw [modelB, h1, h2]; rfl⟩
 repeat (first | rw [ko] | rw [kr] | simp -dsimp -implicitDefEqProofs only [go_sem, rq1, hoo])
 refine pw_intro (implMergesOk_ok s1) ?_
 rintro _ n1 hn1 rfl
 try (rw [kq]; refine ⟨zsm, ?_⟩)
 cases h3 : mergesB m.merges
 ·repeat (first | rw [ko] | rw [kr] | simp -dsimp -implicitDefEqProofs only [go_sem, rq1, hoo])
  exact ⟨zale, ⟨_, rfl⟩, by rw [modelB, h1, h2, h3]; rfl⟩
 repeat (first | rw [ko] | rw [kr] | simp -dsimp -implicitDefEqProofs only [go_sem, rq1, hoo])
 refine pw_intro (voc1_ok (F := F) (m := m) s1) ?_
 rintro _ n2 hn2 rfl
 try (rw [kq]; refine ⟨by simp -dsimp -implicitDefEqProofs only [go_sem, rq1, hoo], ?_⟩)
 by_cases h4 : (m.embed.length : Int) = vocI m
 rotate_left
 ·have e4 : decide (¬ (m.embed.length : Int) = vocI m) = true := decide_eq_true h4
  repeat (first | rw [ko] | rw [kr] | simp -dsimp -implicitDefEqProofs only [go_sem, rq1, hoo, e4])
  exact ⟨zale, ⟨_, rfl⟩, by rw [modelB, h1, h2, h3, decide_eq_false h4]; rfl⟩
 have e4 : decide (¬ (m.embed.length : Int) = vocI m) = false := decide_eq_false (fun h => h h4)
 repeat (first | rw [ko] | rw [kr] | simp -dsimp -implicitDefEqProofs only [go_sem, rq1, hoo, e4])
 refine wz_intro in_ok ?_
 rintro _ _ ⟨rfl, rfl⟩
 try (rw [kq]; refine ⟨zsm, ?_⟩)
 cases h5 : inI m.layers.length 1 2
 ·repeat (first | rw [ko] | rw [kr] | simp -dsimp -implicitDefEqProofs only [go_sem, rq1, hoo])
  exact ⟨zale, ⟨_, rfl⟩, by rw [modelB, h1, h2, h3, decide_eq_true h4, h5]; rfl⟩
 repeat (first | rw [ko] | rw [kr] | simp -dsimp -implicitDefEqProofs only [go_sem, rq1, hoo])
 simp only [hn_up, hn_push] at hn1 hn2
 refine pw_intro (containsR_ok (F := 125) (p := fun r => !embB m.dim r) (caps := [.pointer (some ⟨hn g .mk, 0, none⟩)]) s2.1 fun i hi f' h' hle => ?_) ?_
 ·exact emb1_ok ((hle.2 (hn g .mk) (by simp only [hn_up]; omega)).trans (by simp -dsimp -implicitDefEqProofs only [go_sem, hoo] <;> rfl)) (smallL_at s2 i)
 rintro _ n3 hn3 rfl
 simp only [hn_up] at hn3
 cases h6 : m.embed.any fun r => !embB m.dim r
 rotate_left
 ·repeat (first | rw [ko] | rw [kr] | simp -dsimp -implicitDefEqProofs only [go_sem, hoo])
  exact ⟨zale, ⟨_, rfl⟩, by rw [modelB, h1, h2, h3, decide_eq_true h4, h5, h6]; rfl⟩
 repeat (first | rw [ko] | rw [kr] | simp -dsimp -implicitDefEqProofs only [go_sem, rq1, hoo])
 refine pw_intro (containsY_ok (F := 127) (p := fun l => !layB l m.dim) (caps := [.pointer (some ⟨hn g .mk, 0, none⟩)]) s3 fun i hi F' h' hle => ?_) ?_
 ·refine lay1_ok ?_ ((hle.2 (hn g .mk) (by simp only [hn_up]; omega)).trans (by simp -dsimp -implicitDefEqProofs only [go_sem, hoo] <;> rfl)) (s4 i hi)
  have := hle.1
  simp only [hn_up] at this; omega
 rintro _ n4 hn4 rfl
 simp only [hn_up] at hn4
 cases h7 : m.layers.any fun l => !layB l m.dim
 rotate_left
 ·repeat (first | rw [ko] | rw [kr] | simp -dsimp -implicitDefEqProofs only [go_sem, hoo])
  exact ⟨zale, ⟨_, rfl⟩, by rw [modelB, h1, h2, h3, decide_eq_true h4, h5, h6, h7]; rfl⟩
 repeat (first | rw [ko] | rw [kr] | simp -dsimp -implicitDefEqProofs only [go_sem, rq1, hoo])
 refine dq_intro [(0, []), (1, []), (2, []), (3, []), (4, []), (5, []), (6, []), (7, []), (8, []), (9, []), (10, []), (11, [7, 9]), (12, []), (13, []), (14, []), (15, []), (16, []), (17, []), (18, []), (19, []), (20, []), (21, []), (22, []), (23, []), (24, []), (25, []), (26, []), (27, [])] (by kernel_rfl) ?_
 repeat (first | rw [ko] | rw [kr] | simp -dsimp -implicitDefEqProofs only [go_sem, rq1, hoo])
 refine pw_intro (implGain_ok s5) ?_
 rintro _ n5 hn5 rfl
 simp only [hn_up] at hn5
 try (rw [kq]; refine ⟨zsm, ?_⟩)
 cases h8 : gainB m.gainEnd m.dim
 ·repeat (first | rw [ko] | rw [kr] | simp -dsimp -implicitDefEqProofs only [go_sem, rq1, hoo])
  exact ⟨zale, ⟨_, rfl⟩, by rw [modelB, h1, h2, h3, decide_eq_true h4, h5, h6, h7, h8]; rfl⟩
 repeat (first | rw [ko] | rw [kr] | simp -dsimp -implicitDefEqProofs only [go_sem, rq1, hoo])
 refine pw_intro (voc1_ok (F := F) (m := m) s1) ?_
 rintro _ n6 hn6 rfl
 simp only [hn_up] at hn6
 try (rw [kq]; refine ⟨by simp -dsimp -implicitDefEqProofs only [go_sem, rq1, hoo], ?_⟩)
 repeat (first | rw [ko] | rw [kr] | simp -dsimp -implicitDefEqProofs only [go_sem, rq1, hoo])
 refine pw_intro (implWithin_ok (F := fun j => F (j + 7)) (m := m.head) s6) ?_
 rintro _ n7 hn7 rfl
 simp only [hn_up] at hn7
 try (rw [kq]; refine ⟨zsm, ?_⟩)
 cases h9 : withB m.head m.dim (vocI m)
 ·repeat (first | rw [ko] | rw [kr] | simp -dsimp -implicitDefEqProofs only [go_sem, rq1, hoo])
  exact ⟨zale, ⟨_, rfl⟩, by rw [modelB, h1, h2, h3, decide_eq_true h4, h5, h6, h7, h8, h9]; rfl⟩
 have hw := width_rng h1
 have hh : m.heads = 1 ∨ m.heads = 2 := by have := inI_tt h2; omega
 have z0 : (m.heads == 0) = false := zne
 have w1 : IntKind.i64.wrap (Int.tdiv m.dim m.heads) = Int.tdiv m.dim m.heads := by
  rcases hw with hw | hw <;> rcases hh with hh | hh <;> rw [hw, hh] <;> decide
 have w2 : IntKind.i64.wrap (Int.tdiv (Int.tdiv m.dim m.heads) 2) = Int.tdiv (Int.tdiv m.dim m.heads) 2 := by
  rcases hw with hw | hw <;> rcases hh with hh | hh <;> rw [hw, hh] <;> decide
 repeat (first | rw [ko] | rw [kr] | simp -dsimp -implicitDefEqProofs only [go_sem, rq1, rq7, hoo, z0, w1, w2])
 refine pw_intro (implTurns_ok (F := fun j => F (j + 12)) (t := m.turns) s7 s8) ?_
 rintro _ n8 hn8 rfl
 simp only [hn_up] at hn8
 try (rw [kq]; refine ⟨zsm, ?_⟩)
 repeat (first | rw [ko] | rw [kr] | simp -dsimp -implicitDefEqProofs only [go_sem, rq1, hoo])
 exact ⟨zale, ⟨_, rfl⟩, by rw [modelB, h1, h2, h3, decide_eq_true h4, h5, h6, h7, h8, h9]; rfl⟩
end Go.Bi
end
section
set_option maxRecDepth 20000
namespace Go.Bi
open Go.Proofs
open Go.Ai (wrap_i64 wrap_u8 Heap)
variable {W0 : World} {P : Program}
set_option maxHeartbeats 4000000
theorem get_W {l : List Int} {i : Nat} (h : i < l.length) : (l.map cI)[i]? = some (.raw (.int .i64 (l.getD i default))) := by
 rw [List.getElem?_map, List.getElem?_eq_getElem h, List.getD_eq_getElem?_getD, List.getElem?_eq_getElem h]; rfl
theorem wrt_W {l : List Int} {i : Nat} {v : Int} (h : i < l.length) : wrtL (l.map cI) i [.raw (.int .i64 v)] = some ((l.set i v).map cI) := by
 rw [wrt_set (by simpa using h), List.map_set]; rfl
theorem zeros_I {n : Nat} : (Go.Ai.repL n [.int .i64 0]).map X.raw = (List.replicate n (0 : Int)).map cI := by
 rw [Go.Ai.rep_one]; simp [cI]
theorem pw_same {f : FuncId} {xs : List X} {g : H2} {Q : X → Prop} (c : WC2 P W0 f xs g fun v g' => Q v ∧ g' = g) : PW P W0 f xs g Q :=
 WC2.mono c fun y g' ⟨h1, h2⟩ => by subst h2; exact ⟨rfl, Nat.le_refl _, h1⟩
theorem equalO_ok {f : Adr} {b n : Nat} {w l : List Int} {g : H2} (hb : hg g b .mk = some ⟨1, w.map cI⟩) (hn : w.length = n) (hl : n ≤ 1048576) : PW Tryz.prog W0 56 [.raw (.slice (some ⟨b, 0, none⟩) n n), .sl f 1 (ints l)] g (fun v => v = .raw (.bool (decide (w = l)))) := by
 subst hn
 have hf : ∃ f, Lent g (.raw (.slice (some ⟨b, 0, none⟩) w.length w.length)) (.sl f 1 (ints w)) := by
  have h2 : Lent g (.raw (.slice (some ⟨b, 0, none⟩) w.length w.length)) (.sl (litA b w.length 1 (w.map cI)) 1 (chunk 1 w.length (w.map fun n => T.v (.int .i64 n)))) :=
   Fz.own (cs' := w.map cI) hb trivial (by simp) rfl (fun i hi hi' => by rw [List.getElem_map]; exact .raw) toTs_ints
  rw [chunk_ints] at h2
  exact ⟨_, h2⟩
 obtain ⟨f1, hf⟩ := hf
 exact PW.lend (.cons hf (.cons (.sl (.sl (allT_true _ _))) .nil)) (pw_same (equalZ_ok (l' := l) hl)) (fun y h => by rw [h]; exact .raw)
theorem wants_in' {n i : Nat} {rs : List LRequest} (h : ∀ j, j < i → (rs.getD j default).table.pages.length ≤ 16) (hi : i ≤ rs.length) : inB (16 * i) (wantsL n (rs.take i)) := by
 have := wants_in (n := n) (rs := rs.take i) (fun j hj => by
  rw [List.length_take] at hj
  have h2 := h j (by omega)
  rwa [List.getD_eq_getElem?_getD, List.getElem?_take_of_lt (by omega), ← List.getD_eq_getElem?_getD]) i (by rw [List.length_take]; omega)
 rwa [List.take_take, Nat.min_self] at this
theorem implEngine_ok {F : Nat → Adr} {e : LEngine} {g : H2} (hs : smallEng e) : PW Tryz.prog W0 15 [.st (xEngine F e)] g (fun y => y = .raw (.bool (engB e))) := by
 obtain ⟨s1, s2, s3, s4, s5⟩ := id hs
 refine PW.scalar ?_
 refine begins [[0], [1], [], [1], [1, 3], [1, 3, 30, 31, 32], [1, 3, 30, 31, 32], [1, 3, 5, 30, 31, 32], [], [1, 3, 5, 30, 31, 32], [1, 3, 30, 31, 32, 42, 43, 44], [1, 3, 30, 31, 32, 42, 43, 44], [1, 3, 7, 30, 31, 32, 42, 43, 44], [1, 3, 30, 31, 32, 42, 43, 44], [1, 3, 30, 31, 32], [1, 3]] Tryz.func15 rfl (rs := [.tmp 2]) rfl rfl ?_
 intro wf
 repeat (first | rw [ko] | rw [kr] | simp -dsimp -implicitDefEqProofs only [go_sem, hoo])
 refine pw_intro (implModel_ok (F := F) (m := e.model) s1) ?_
 rintro _ n1 hn1 rfl
 simp only [hn_push] at hn1
 try (rw [kq]; refine ⟨by simp -dsimp -implicitDefEqProofs only [go_sem, rq1, rq2, rq3, rq4, rq5, rq6, rq7, hoo], ?_⟩)
 cases h1 : modelB e.model
 ·repeat (first | rw [ko] | rw [kr] | simp -dsimp -implicitDefEqProofs only [go_sem, hoo])
  exact ⟨zale, ⟨_, rfl⟩, by rw [engB, h1]; rfl⟩
 repeat (first | rw [ko] | rw [kr] | simp -dsimp -implicitDefEqProofs only [go_sem, rq1, hoo])
 refine pw_intro (implStore_ok (F := fun j => F (j + 14)) (s := e.store) s2) ?_
 rintro _ n2 hn2 rfl
 simp only [hn_up] at hn2
 try (rw [kq]; refine ⟨by simp -dsimp -implicitDefEqProofs only [go_sem, rq1, rq2, rq3, rq4, rq5, rq6, rq7, hoo], ?_⟩)
 cases h2 : storeB e.store
 ·repeat (first | rw [ko] | rw [kr] | simp -dsimp -implicitDefEqProofs only [go_sem, hoo])
  exact ⟨zale, ⟨_, rfl⟩, by rw [engB, h1, h2]; rfl⟩
 by_cases h3 : (e.requests.length : Int) > 10
 ·repeat (first | rw [ko] | rw [kr] | simp -dsimp -implicitDefEqProofs only [go_sem, rq1, hoo, h3])
  exact ⟨zale, ⟨_, rfl⟩, by rw [engB, h1, h2, decide_eq_false (by omega)]; rfl⟩
 obtain ⟨hpl, hrl⟩ := storeB_len h2
 have hB : engB e = (e.requests.all (reqB e) && decide (wantsL e.store.refs.length e.requests = e.store.refs)) := by rw [engB, h1, h2, decide_eq_true (by omega)]; rfl
 repeat (first | rw [ko] | rw [kr] | simp -dsimp -implicitDefEqProofs only [go_sem, rq1, hoo, h3])
 refine make_intro Ai.ty_el27 Ai.ty_zr3 (by decide) ⟨by omega, by simp only [Int.toNat_natCast]; have : Ai.most = 1099511627776 := rfl; omega⟩ ?_
 simp only [hn_up, Int.toNat_natCast]
 have hne0 : (hn g .mk == n2) = false := zne
 repeat (first | rw [ko] | rw [kr] | simp -dsimp -implicitDefEqProofs only [go_sem, rq1, hoo, hne0])
 refine lz_keep [1, 3, 30, 31] (fun mm s h' => ∃ (i : Nat), g.le h' ∧ n2 + 1 ≤ hn h' .mk ∧ hg h' (hn g .mk) .mk = some ⟨17, [.raw (.int .i64 e.model.dim), .raw (.int .i64 e.model.heads), .raw (.int .i64 e.model.context), .sl (F 3) 2 (rMergeS e.model.merges), .sl (F 4) 1 (rIntSS e.model.embed), .sl (F 5) 32 (rLayerS e.model.layers), .sl (F 6) 1 (ints e.model.gainEnd), .raw (.int .i64 e.model.head.width), .sl (F 8) 1 (rIntSS e.model.head.rows), .sl (F 9) 1 (rIntSS e.model.head.scales), .raw (.int .i64 e.model.head.mul), .raw (.int .i64 e.model.head.shift), .sl (F 12) 1 (rIntSS e.model.turns.cos), .sl (F 13) 1 (rIntSS e.model.turns.sin), .sl (F 14) 1 (ints e.store.refs), .sl (F 15) 1 (rCellSS e.store.pages), .sl (F 16) 10 (rRequestS e.requests)]⟩ ∧ hg h' n2 .mk = some ⟨1, (wantsL e.store.refs.length (e.requests.take i)).map cI⟩ ∧ look s 32 .mk = .raw (.int .i64 (i : Nat)) ∧ mm + i = e.requests.length ∧ ∀ j, j < i → reqB e (e.requests.getD j default) = true) e.requests.length ?_ ?_
 ·have hne : (hn g .mk == n2) = false := zne
  refine ⟨0, zale, by simp only [hn_push, hn_up]; omega, by simp -dsimp -implicitDefEqProofs only [go_sem, hoo, hne] <;> rfl, ?_, zsm, by omega, fun j hj => by omega⟩
  simp -dsimp -implicitDefEqProofs only [go_sem, hoo, zeros_I]
  rfl
 rintro mm s h' hks ⟨i, hle, hnn, ra, rw0, ei, hmm, hpre⟩
 simp -dsimp -implicitDefEqProofs only [go_sem, rq1] at hks
 by_cases q1 : (i : Int) < (e.requests.length : Int)
 ·have q2 : i < e.requests.length := by omega
  have w1 := zwrs i (by omega)
  have hne1 : (hn g .mk == hn h' .mk) = false := by simp; have := hle.1; omega
  repeat (first | rw [ko] | rw [kr] | simp -dsimp -implicitDefEqProofs only [go_sem, rq1, rq2, rq3, hks, ei, q1, q2, ra, hoo, hne1])
  refine pw_intro (implReq_ok (F := F) (F' := fun j => under (under (F 16) i) j) (r := e.requests.getD i default) h1 h2 hs (s5 i q2)) ?_
  rintro _ n3 hn3 rfl
  simp only [hn_push] at hn3
  cases h4 : reqB e (e.requests.getD i default)
  ·repeat (first | rw [ko] | rw [kr] | simp -dsimp -implicitDefEqProofs only [go_sem])
   refine ⟨le_up (le_push hle) (by rw [hn_push]; exact hn3), ⟨_, rfl⟩, ?_⟩
   rw [hB, Bool.and_eq_false_iff.2 (.inl ?_)]
   rw [List.all_eq_false]
   exact ⟨_, getD_memR q2, by rw [h4]; simp⟩
  have hwl : (wantsL e.store.refs.length (e.requests.take i)).length = e.store.refs.length := wants_len
  obtain ⟨hp16, htb⟩ := reqB_pages h4
  have hpg := (table_t htb).2.2.2
  have hne2 : (n2 == hn h' .mk) = false := zne
  repeat (first | rw [ko] | rw [kr] | simp -dsimp -implicitDefEqProofs only [go_sem, rq1, hoo])
  refine lz_keep [1, 3, 30, 31, 32, 42, 43] (fun m2 s2 h2' => ∃ (k : Nat), g.le h2' ∧ n2 + 1 ≤ hn h2' .mk ∧ hg h2' (hn g .mk) .mk = some ⟨17, [.raw (.int .i64 e.model.dim), .raw (.int .i64 e.model.heads), .raw (.int .i64 e.model.context), .sl (F 3) 2 (rMergeS e.model.merges), .sl (F 4) 1 (rIntSS e.model.embed), .sl (F 5) 32 (rLayerS e.model.layers), .sl (F 6) 1 (ints e.model.gainEnd), .raw (.int .i64 e.model.head.width), .sl (F 8) 1 (rIntSS e.model.head.rows), .sl (F 9) 1 (rIntSS e.model.head.scales), .raw (.int .i64 e.model.head.mul), .raw (.int .i64 e.model.head.shift), .sl (F 12) 1 (rIntSS e.model.turns.cos), .sl (F 13) 1 (rIntSS e.model.turns.sin), .sl (F 14) 1 (ints e.store.refs), .sl (F 15) 1 (rCellSS e.store.pages), .sl (F 16) 10 (rRequestS e.requests)]⟩ ∧ hg h2' n2 .mk = some ⟨1, (((e.requests.getD i default).table.pages.take k).foldl bump (wantsL e.store.refs.length (e.requests.take i))).map cI⟩ ∧ look s2 44 .mk = .raw (.int .i64 (k : Nat)) ∧ m2 + k = (e.requests.getD i default).table.pages.length) (e.requests.getD i default).table.pages.length ?_ ?_
  ·refine ⟨0, le_up (le_push hle) (by rw [hn_push]; exact hn3), by rw [hn_up]; omega, by simp -dsimp -implicitDefEqProofs only [go_sem, hne1, ra] <;> rfl, by simp -dsimp -implicitDefEqProofs only [go_sem, hne2, rw0] <;> rfl, zsm, by omega⟩
  rintro m2 s2 h2' hks2 ⟨k, hle2, hnn2, rb, rv, ek, hm2⟩
  simp -dsimp -implicitDefEqProofs only [go_sem, rq1] at hks2
  have hwi : inB (16 * i) (wantsL e.store.refs.length (e.requests.take i)) := wants_in' (fun j hj => (reqB_pages (hpre j hj)).1) (by omega)
  have hwk := bumps_in (ps := (e.requests.getD i default).table.pages.take k) (B := 16 * i) (by omega) hwi
  have hvl : (((e.requests.getD i default).table.pages.take k).foldl bump (wantsL e.store.refs.length (e.requests.take i))).length = e.store.refs.length := by rw [bumps_len, hwl]
  by_cases q3 : (k : Int) < ((e.requests.getD i default).table.pages.length : Int)
  ·have q4 : k < (e.requests.getD i default).table.pages.length := by omega
   have w2 := zwrs k (by omega)
   obtain ⟨p1, p2, p3⟩ := pgB_t (hpg k q4)
   obtain ⟨p, hp⟩ := Int.eq_ofNat_of_zero_le p1.1
   have k1 : p < e.store.refs.length := by omega
   have hsn := bumps_snoc (ps := (e.requests.getD i default).table.pages) (w := wantsL e.store.refs.length (e.requests.take i)) q4
   generalize hwdef : ((e.requests.getD i default).table.pages.take k).foldl bump (wantsL e.store.refs.length (e.requests.take i)) = w at *
   have hb := hwk p
   have hlk : (((e.requests.getD i default).table.pages.take k).length : Int) ≤ 16 := by rw [List.length_take]; omega
   have w3 : IntKind.i64.wrap (w.getD p default + 1) = w.getD p default + 1 := by rw [wrap_i64] <;> omega
   have gw := get_W (l := w) (i := p) (by omega)
   have ww := wrt_W (l := w) (i := p) (v := w.getD p default + 1) (by omega)
   have hi2 : (0 : Int) ≤ (p : Int) ∧ (p : Int) < (e.store.refs.length : Int) := by omega
   have hbump : bump w ((e.requests.getD i default).table.pages.getD k default) = w.set p (w.getD p default + 1) := by rw [hp]; rfl
   have hne3 : (hn g .mk == n2) = false := zne
   repeat (first | rw [ko] | rw [kr] | simp -dsimp -implicitDefEqProofs only [go_sem, rq1, hks2, ek, q3, q4, rv, hp, hi2, nat_nn, Int.toNat_natCast, gw, ww, w3, w2, hoo])
   refine nx_keep (m2 - 1) (by omega) zsm ⟨k + 1, le_set hle2 (by omega), by rw [hn_set]; omega, by simp -dsimp -implicitDefEqProofs only [go_sem, hne3, rb], ?_, zsm, by omega⟩
   rw [hsn, hbump]
   simp -dsimp -implicitDefEqProofs only [go_sem, hoo]
  ·repeat (first | rw [ko] | rw [kr] | simp -dsimp -implicitDefEqProofs only [go_sem, rq1, hks2, ek, q3, w1])
   have hkk : k = (e.requests.getD i default).table.pages.length := by omega
   refine nx_keep (mm - 1) (by omega) zsm ⟨i + 1, hle2, hnn2, by simp -dsimp -implicitDefEqProofs only [go_sem, rb], ?_, zsm, by omega, fun j hj => ?_⟩
   ·rw [rv, hkk, List.take_length, wants_snoc q2]
   ·by_cases hji : j = i
    ·subst hji; exact h4
    ·exact hpre j (by omega)
 repeat (first | rw [ko] | rw [kr] | simp -dsimp -implicitDefEqProofs only [go_sem, rq1, hks, ei, q1, ra])
 have hii : i = e.requests.length := by omega
 rw [hii, List.take_length] at rw0
 refine pw_intro (equalO_ok (f := F 14) (w := wantsL e.store.refs.length e.requests) (l := e.store.refs) rw0 wants_len (by omega)) ?_
 rintro _ n4 hn4 rfl
 repeat (first | rw [ko] | rw [kr] | simp -dsimp -implicitDefEqProofs only [go_sem])
 refine ⟨le_up hle hn4, ⟨_, rfl⟩, ?_⟩
 rw [hB, List.all_eq_true.2 fun x hx => ?_]
 ·rfl
 ·obtain ⟨j, hj, rfl⟩ := List.getElem_of_mem hx
  have := hpre j (by omega)
  rwa [List.getD_eq_getElem?_getD, List.getElem?_eq_getElem hj] at this
end Go.Bi
end
section
set_option maxRecDepth 20000
namespace Go.Bi
open Go.Proofs
open Go.Ai (wrap_i64 wrap_u8 Heap)
variable {W0 : World} {P : Program}
set_option maxHeartbeats 4000000
theorem specEngine_ok {F : Nat → Adr} {e : LEngine} {g : H2} (hs : smallEng e) (hrg : rngEngine e) : PW Tryz.prog W0 19 [.st (xEngine F e)] g (fun y => y = .raw (.bool (engB e))) := by
 obtain ⟨s1, s2, s3, s4, s5⟩ := id hs
 refine PW.scalar ?_
 refine begins [[0], [1], [], [1], [1, 3], [1, 3, 4], [1, 3, 4], [1, 3, 4], [], [1, 3, 4], [1, 3, 4, 5], [1, 3, 4, 5], [1, 3, 4, 5], [1, 3], [1, 3, 6], [1, 3, 6], [1, 3, 6], [], []] Tryz.func19 rfl (rs := [.tmp 2]) rfl rfl ?_
 intro wf
 repeat (first | rw [ko] | rw [kr] | simp -dsimp -implicitDefEqProofs only [go_sem, hoo])
 refine pw_intro (specModel_ok (F := F) (m := e.model) s1) ?_
 rintro _ n1 hn1 rfl
 simp only [hn_push] at hn1
 try (rw [kq]; refine ⟨by simp -dsimp -implicitDefEqProofs only [go_sem, rq1, rq2, rq3, rq4, rq5, rq6, rq7, hoo], ?_⟩)
 cases h1 : modelB e.model
 ·repeat (first | rw [ko] | rw [kr] | simp -dsimp -implicitDefEqProofs only [go_sem, hoo])
  exact ⟨zale, ⟨_, rfl⟩, by rw [engB, h1]; rfl⟩
 repeat (first | rw [ko] | rw [kr] | simp -dsimp -implicitDefEqProofs only [go_sem, rq1, hoo])
 refine pw_intro (specStore_ok (F := fun j => F (j + 14)) (s := e.store) s2) ?_
 rintro _ n2 hn2 rfl
 simp only [hn_up] at hn2
 try (rw [kq]; refine ⟨by simp -dsimp -implicitDefEqProofs only [go_sem, rq1, rq2, rq3, rq4, rq5, rq6, rq7, hoo], ?_⟩)
 cases h2 : storeB e.store
 ·repeat (first | rw [ko] | rw [kr] | simp -dsimp -implicitDefEqProofs only [go_sem, hoo])
  exact ⟨zale, ⟨_, rfl⟩, by rw [engB, h1, h2]; rfl⟩
 by_cases h3 : (e.requests.length : Int) > 10
 ·repeat (first | rw [ko] | rw [kr] | simp -dsimp -implicitDefEqProofs only [go_sem, rq1, hoo, h3])
  exact ⟨zale, ⟨_, rfl⟩, by rw [engB, h1, h2, decide_eq_false (by omega)]; rfl⟩
 obtain ⟨hpl, hrl⟩ := storeB_len h2
 have hB : engB e = (e.requests.all (reqB e) && decide (wantsL e.store.refs.length e.requests = e.store.refs)) := by rw [engB, h1, h2, decide_eq_true (by omega)]; rfl
 repeat (first | rw [ko] | rw [kr] | simp -dsimp -implicitDefEqProofs only [go_sem, rq1, hoo, h3])
 refine make_intro Ai.ty_el27 Ai.ty_zr3 (by decide) ⟨by omega, by simp only [Int.toNat_natCast]; have : Ai.most = 1099511627776 := rfl; omega⟩ ?_
 simp only [hn_up, Int.toNat_natCast]
 have hne0 : (hn g .mk == n2) = false := zne
 repeat (first | rw [ko] | rw [kr] | simp -dsimp -implicitDefEqProofs only [go_sem, rq1, hoo])
 refine lz_keep [1, 3] (fun mm s h' => ∃ (i : Nat), g.le h' ∧ n2 + 1 ≤ hn h' .mk ∧ hg h' (hn g .mk) .mk = some ⟨17, [.raw (.int .i64 e.model.dim), .raw (.int .i64 e.model.heads), .raw (.int .i64 e.model.context), .sl (F 3) 2 (rMergeS e.model.merges), .sl (F 4) 1 (rIntSS e.model.embed), .sl (F 5) 32 (rLayerS e.model.layers), .sl (F 6) 1 (ints e.model.gainEnd), .raw (.int .i64 e.model.head.width), .sl (F 8) 1 (rIntSS e.model.head.rows), .sl (F 9) 1 (rIntSS e.model.head.scales), .raw (.int .i64 e.model.head.mul), .raw (.int .i64 e.model.head.shift), .sl (F 12) 1 (rIntSS e.model.turns.cos), .sl (F 13) 1 (rIntSS e.model.turns.sin), .sl (F 14) 1 (ints e.store.refs), .sl (F 15) 1 (rCellSS e.store.pages), .sl (F 16) 10 (rRequestS e.requests)]⟩ ∧ hg h' n2 .mk = some ⟨1, (wantsL e.store.refs.length (e.requests.take i)).map cI⟩ ∧ look s 4 .mk = .raw (.int .i64 (i : Nat)) ∧ mm + i = e.requests.length ∧ ∀ j, j < i → reqB e (e.requests.getD j default) = true) e.requests.length ?_ ?_
 ·have hne : (hn g .mk == n2) = false := zne
  refine ⟨0, zale, by simp only [hn_push, hn_up]; omega, by simp -dsimp -implicitDefEqProofs only [go_sem, hoo, hne] <;> rfl, ?_, zsm, by omega, fun j hj => by omega⟩
  simp -dsimp -implicitDefEqProofs only [go_sem, hoo, zeros_I]
  rfl
 rintro mm s h' hks ⟨i, hle, hnn, ra, rw0, ei, hmm, hpre⟩
 simp -dsimp -implicitDefEqProofs only [go_sem] at hks
 have hwl : (wantsL e.store.refs.length (e.requests.take i)).length = e.store.refs.length := wants_len
 by_cases q1 : (i : Int) < (e.requests.length : Int)
 ·have q2 : i < e.requests.length := by omega
  have w1 := zwrs i (by omega)
  repeat (first | rw [ko] | rw [kr] | simp -dsimp -implicitDefEqProofs only [go_sem, rq1, hks, ei, q1, ra])
  refine dq_intro [(0, []), (1, []), (2, []), (3, []), (4, []), (5, []), (6, []), (7, [])] (by kernel_rfl) ?_
  repeat (first | rw [ko] | rw [kr] | simp -dsimp -implicitDefEqProofs only [go_sem, rq1, rq2, rq3, q2, ra])
  refine pw_intro (specReq_ok (F := F) (F' := fun j => under (under (F 16) i) j) (r := e.requests.getD i default) h1 h2 hs (s5 i q2) (hrg _ (getD_memR q2)).1) ?_
  rintro _ n3 hn3 rfl
  try (rw [kq]; refine ⟨zsm, ?_⟩)
  cases h4 : reqB e (e.requests.getD i default)
  ·repeat (first | rw [ko] | rw [kr] | simp -dsimp -implicitDefEqProofs only [go_sem])
   refine ⟨le_up hle hn3, ⟨_, rfl⟩, ?_⟩
   rw [hB, Bool.and_eq_false_iff.2 (.inl ?_)]
   rw [List.all_eq_false]
   exact ⟨_, getD_memR q2, by rw [h4]; simp⟩
  obtain ⟨hp16, htb⟩ := reqB_pages h4
  have hpg := (table_t htb).2.2.2
  repeat (first | rw [ko] | rw [kr] | simp -dsimp -implicitDefEqProofs only [go_sem, rq1])
  refine lz_keep [1, 3, 4] (fun m2 s2 h2' => ∃ (k : Nat), g.le h2' ∧ n2 + 1 ≤ hn h2' .mk ∧ hg h2' (hn g .mk) .mk = some ⟨17, [.raw (.int .i64 e.model.dim), .raw (.int .i64 e.model.heads), .raw (.int .i64 e.model.context), .sl (F 3) 2 (rMergeS e.model.merges), .sl (F 4) 1 (rIntSS e.model.embed), .sl (F 5) 32 (rLayerS e.model.layers), .sl (F 6) 1 (ints e.model.gainEnd), .raw (.int .i64 e.model.head.width), .sl (F 8) 1 (rIntSS e.model.head.rows), .sl (F 9) 1 (rIntSS e.model.head.scales), .raw (.int .i64 e.model.head.mul), .raw (.int .i64 e.model.head.shift), .sl (F 12) 1 (rIntSS e.model.turns.cos), .sl (F 13) 1 (rIntSS e.model.turns.sin), .sl (F 14) 1 (ints e.store.refs), .sl (F 15) 1 (rCellSS e.store.pages), .sl (F 16) 10 (rRequestS e.requests)]⟩ ∧ hg h2' n2 .mk = some ⟨1, (((e.requests.getD i default).table.pages.take k).foldl bump (wantsL e.store.refs.length (e.requests.take i))).map cI⟩ ∧ look s2 5 .mk = .raw (.int .i64 (k : Nat)) ∧ m2 + k = (e.requests.getD i default).table.pages.length) (e.requests.getD i default).table.pages.length ?_ ?_
  ·refine ⟨0, le_up hle hn3, by rw [hn_up]; omega, by simp -dsimp -implicitDefEqProofs only [go_sem, ra] <;> rfl, by simp -dsimp -implicitDefEqProofs only [go_sem, rw0] <;> rfl, zsm, by omega⟩
  rintro m2 s2 h2' hks2 ⟨k, hle2, hnn2, rb, rv, ek, hm2⟩
  simp -dsimp -implicitDefEqProofs only [go_sem] at hks2
  have hwi : inB (16 * i) (wantsL e.store.refs.length (e.requests.take i)) := wants_in' (fun j hj => (reqB_pages (hpre j hj)).1) (by omega)
  have hwk := bumps_in (ps := (e.requests.getD i default).table.pages.take k) (B := 16 * i) (by omega) hwi
  have hvl : (((e.requests.getD i default).table.pages.take k).foldl bump (wantsL e.store.refs.length (e.requests.take i))).length = e.store.refs.length := by rw [bumps_len, hwl]
  by_cases q3 : (k : Int) < ((e.requests.getD i default).table.pages.length : Int)
  ·have q4 : k < (e.requests.getD i default).table.pages.length := by omega
   have w2 := zwrs k (by omega)
   obtain ⟨p1, p2, p3⟩ := pgB_t (hpg k q4)
   obtain ⟨p, hp⟩ := Int.eq_ofNat_of_zero_le p1.1
   have k1 : p < e.store.refs.length := by omega
   have hsn := bumps_snoc (ps := (e.requests.getD i default).table.pages) (w := wantsL e.store.refs.length (e.requests.take i)) q4
   generalize hwdef : ((e.requests.getD i default).table.pages.take k).foldl bump (wantsL e.store.refs.length (e.requests.take i)) = w at *
   have hb := hwk p
   have hlk : (((e.requests.getD i default).table.pages.take k).length : Int) ≤ 16 := by rw [List.length_take]; omega
   have w3 : IntKind.i64.wrap (w.getD p default + 1) = w.getD p default + 1 := by rw [wrap_i64] <;> omega
   have gw := get_W (l := w) (i := p) (by omega)
   have ww := wrt_W (l := w) (i := p) (v := w.getD p default + 1) (by omega)
   have hi2 : (0 : Int) ≤ (p : Int) ∧ (p : Int) < (e.store.refs.length : Int) := by omega
   have hbump : bump w ((e.requests.getD i default).table.pages.getD k default) = w.set p (w.getD p default + 1) := by rw [hp]; rfl
   have hne3 : (hn g .mk == n2) = false := zne
   repeat (first | rw [ko] | rw [kr] | simp -dsimp -implicitDefEqProofs only [go_sem, rq1, rq2, rq3, hks2, ek, q2, q3, rb])
   refine dq_intro [(0, []), (1, []), (2, []), (3, []), (4, []), (5, []), (6, []), (7, []), (8, []), (9, []), (10, []), (11, []), (12, []), (13, []), (14, []), (15, []), (16, []), (17, []), (18, []), (19, []), (20, []), (21, []), (22, []), (23, []), (24, []), (25, []), (26, [])] (by kernel_rfl) ?_
   repeat (first | rw [ko] | rw [kr] | simp -dsimp -implicitDefEqProofs only [go_sem, rq1, rq2, rq3, q2, q4, rb, rv, hp, hi2, nat_nn, Int.toNat_natCast, gw, ww, w3, w2, hoo])
   refine nx_keep (m2 - 1) (by omega) zsm ⟨k + 1, le_set hle2 (by omega), by rw [hn_set]; omega, by simp -dsimp -implicitDefEqProofs only [go_sem, hne3, rb], ?_, zsm, by omega⟩
   rw [hsn, hbump]
   simp -dsimp -implicitDefEqProofs only [go_sem, hoo]
  ·repeat (first | rw [ko] | rw [kr] | simp -dsimp -implicitDefEqProofs only [go_sem, rq1, rq2, rq3, hks2, ek, q2, q3, rb, w1])
   have hkk : k = (e.requests.getD i default).table.pages.length := by omega
   refine nx_keep (mm - 1) (by omega) zsm ⟨i + 1, hle2, hnn2, by simp -dsimp -implicitDefEqProofs only [go_sem, rb], ?_, zsm, by omega, fun j hj => ?_⟩
   ·rw [rv, hkk, List.take_length, wants_snoc q2]
   ·by_cases hji : j = i
    ·subst hji; exact h4
    ·exact hpre j (by omega)
 repeat (first | rw [ko] | rw [kr] | simp -dsimp -implicitDefEqProofs only [go_sem, rq1, hks, ei, q1, ra])
 have hii : i = e.requests.length := by omega
 rw [hii, List.take_length] at rw0 hwl
 have hall : e.requests.all (reqB e) = true := by
  rw [List.all_eq_true]
  intro x hx
  obtain ⟨j, hj, rfl⟩ := List.getElem_of_mem hx
  have := hpre j (by omega)
  rwa [List.getD_eq_getElem?_getD, List.getElem?_eq_getElem hj] at this
 rw [hB, hall, Bool.true_and]
 generalize hwdef : wantsL e.store.refs.length e.requests = w at *
 refine lz_keep [1, 3] (fun m3 s3 h3' => ∃ (k : Nat), h3' = h' ∧ look s3 6 .mk = .raw (.int .i64 (k : Nat)) ∧ m3 + k = e.store.refs.length ∧ ∀ j, j < k → w.getD j default = e.store.refs.getD j default) e.store.refs.length ?_ ?_
 ·exact ⟨0, rfl, zsm, by omega, fun j hj => by omega⟩
 rintro m3 s3 _ hks3 ⟨k, rfl, ek, hm3, hpre3⟩
 simp -dsimp -implicitDefEqProofs only [go_sem, rq1] at hks3
 by_cases q3 : (k : Int) < (e.store.refs.length : Int)
 ·have q4 : k < e.store.refs.length := by omega
  have w2 := zwrs k (by omega)
  have gw := get_W (l := w) (i := k) (by omega)
  have hi2 : (0 : Int) ≤ (k : Int) ∧ (k : Int) < (e.store.refs.length : Int) := by omega
  by_cases q5 : w.getD k default = e.store.refs.getD k default
  ·have e5 : decide (¬ w.getD k default = e.store.refs.getD k default) = false := decide_eq_false (fun h => h q5)
   repeat (first | rw [ko] | rw [kr] | simp -dsimp -implicitDefEqProofs only [go_sem, rq1, hks3, ek, q3])
   refine dq_intro [(0, []), (1, []), (2, []), (3, []), (4, []), (5, []), (6, []), (7, []), (8, []), (9, []), (10, [])] (by kernel_rfl) ?_
   repeat (first | rw [ko] | rw [kr] | simp -dsimp -implicitDefEqProofs only [go_sem, rq1, q3, q4, ra, rw0, hi2, Int.toNat_natCast, gw, e5, w2])
   refine nx_keep (m3 - 1) (by omega) zsm ⟨k + 1, rfl, zsm, by omega, fun j hj => ?_⟩
   by_cases hji : j = k
   ·subst hji; exact q5
   ·exact hpre3 j (by omega)
  ·have e5 : decide (¬ w.getD k default = e.store.refs.getD k default) = true := decide_eq_true q5
   repeat (first | rw [ko] | rw [kr] | simp -dsimp -implicitDefEqProofs only [go_sem, rq1, hks3, ek, q3])
   refine dq_intro [(0, []), (1, []), (2, []), (3, []), (4, []), (5, []), (6, []), (7, []), (8, []), (9, []), (10, [])] (by kernel_rfl) ?_
   repeat (first | rw [ko] | rw [kr] | simp -dsimp -implicitDefEqProofs only [go_sem, rq1, q3, q4, ra, rw0, hi2, Int.toNat_natCast, gw, e5])
   exact ⟨hle, ⟨_, rfl⟩, by rw [decide_eq_false fun h => q5 (by rw [h])]⟩
 ·repeat (first | rw [ko] | rw [kr] | simp -dsimp -implicitDefEqProofs only [go_sem, rq1, hks3, ek, q3])
  refine ⟨hle, ⟨_, rfl⟩, ?_⟩
  rw [decide_eq_true]
  refine List.ext_getElem (by omega) fun j a b => ?_
  have := hpre3 j (by omega)
  rwa [List.getD_eq_getElem?_getD, List.getD_eq_getElem?_getD, List.getElem?_eq_getElem a, List.getElem?_eq_getElem b] at this
end Go.Bi
end
section
set_option maxRecDepth 20000
namespace Go.Bi
open Go.Proofs
open Go.Ai (wrap_i64 wrap_u8 Heap)
variable {W0 : World} {P : Program}
theorem hobE (b : Bool) : (b == b) = true := by simp
attribute [go_sem] hobE
theorem eqEngine_tree {g : H2} {c : LEngine} {bs bs' : List Nat} {ys ys' : List X} (o : OTs g bs ys (eEngine c)) (o' : OTs g bs' ys' (eEngine c)) (hf : fitEngine c) : PW Tryz.prog W0 21 [.st ys, .st ys'] g (fun y => y = .raw (.bool true)) := by
 obtain ⟨F, hF⟩ := o.lent
 obtain ⟨F', hF'⟩ := o'.lent
 exact PW.lend (.cons hF (.cons hF' .nil)) (eqEngine_ok (F := F) (F' := F') hf) (fun y h => by subst h; exact .raw)
end Go.Bi
end
section
set_option maxRecDepth 20000
namespace Go.Bi
open Go.Proofs
open Go.Ai (wrap_i64 wrap_u8 Heap)
variable {W0 : World} {P : Program}
set_option maxHeartbeats 8000000
theorem OT.israw {g : H2} {bs : List Nat} {x : X} {t : T} (o : OT g bs x t) : ∃ v, x = .raw v := by cases o <;> exact ⟨_, rfl⟩
theorem OTs.israw {g : H2} : ∀ {bs : List Nat} {xs : List X} {ts : List T}, OTs g bs xs ts → ∀ x ∈ xs, ∃ v, x = .raw v
 | _, _, _, .nil, x, hx => by cases hx
 | _, _, _, .cons a b, x, hx => by
  rcases List.mem_cons.1 hx with rfl | hx
  ·exact a.israw
  ·exact b.israw x hx
mutual
theorem OT.rows {g : H2} : ∀ {bs : List Nat} {x : X} {t : T}, OT g bs x t → ∀ b ∈ bs, ∃ k, g.get b = some k ∧ ∀ y ∈ k.cs, ∃ v, y = X.raw v
 | _, _, _, .raw h, b, hb => by cases hb
 | _, _, _, .nil, b, hb => by cases hb
 | _, _, _, .row h1 h2 h3 h4 h5, b, hb => by
  rcases List.mem_cons.1 hb with rfl | hb
  ·exact ⟨_, h1, h5.israw⟩
  ·exact h5.rows b hb
theorem OTs.rows {g : H2} : ∀ {bs : List Nat} {xs : List X} {ts : List T}, OTs g bs xs ts → ∀ b ∈ bs, ∃ k, g.get b = some k ∧ ∀ y ∈ k.cs, ∃ v, y = X.raw v
 | _, _, _, .nil, b, hb => by cases hb
 | _, _, _, .cons h1 h2, b, hb => by
  rcases List.mem_append.1 hb with hb | hb
  ·exact h1.rows b hb
  ·exact h2.rows b hb
end
theorem WC2.lendTree {g : H2} {f : FuncId} {xs ys : List X} {R : X → H2 → List Nat → Prop} (hl : Lents g xs ys)
    (c : WC2 P W0 f ys g.bare fun x g' => g.bare.le g' ∧ ∃ bs, R x g' bs ∧ Bl (hn g .mk) (hn g' .mk) bs)
    (hfr : ∀ x g' g2 bs, R x g' bs → (∀ b ∈ bs, g2.get b = g'.get b) → R x g2 bs)
    (hrow : ∀ x g' bs, R x g' bs → ∀ b ∈ bs, ∃ k, g'.get b = some k ∧ ∀ y ∈ k.cs, ∃ v, y = X.raw v)
    (hok : ∀ x g' bs, R x g' bs → ∀ h g2, Ok h g2 x) :
    WC2 P W0 f xs g fun x g' => g.le g' ∧ ∃ bs, R x g' bs ∧ Bl (hn g .mk) (hn g' .mk) bs := by
  intro h s o
  rw [← hl.er]
  refine (c h s.bare (hl.ok s o)).mono ?_
  rintro v h' ⟨y, g', rfl, s', x', o', le, bs, r, bl⟩
  have hn1 : hn g .mk = h.n := s.n
  have hn2 : hn g' .mk = h'.n := s'.n
  have hbn : ∀ c, c < h.n → c ∉ bs := fun c hc hb => by have := (bl.2 c hb).1; omega
  let g2 : H2 := ⟨h'.n, fun b => if b ∈ bs then g'.get b else g.get b⟩
  have hx2 : Ext g h g2 h' := ⟨x'.n, fun c hc _ => x'.keep c hc rfl, fun c hc hg => by
    show (if c ∈ bs then g'.get c else g.get c) = none
    rw [if_neg (hbn c hc)]; exact hg⟩
  refine ⟨_, g2, rfl, ⟨rfl, fun c k hk => ?_⟩, hx2, hok _ _ _ r _ _, ⟨?_, fun c hc => ?_⟩, bs, hfr _ _ _ _ r fun b hb => ?_, bl.wide (Nat.le_refl _) (Nat.le_of_eq hn2)⟩
  · by_cases hb : c ∈ bs
    · have hk' : g'.get c = some k := by
        have : (if c ∈ bs then g'.get c else g.get c) = some k := hk
        rwa [if_pos hb] at this
      obtain ⟨k2, e2, hr⟩ := hrow _ _ _ r c hb
      rw [e2] at hk'
      cases hk'
      obtain ⟨q1, q2, q3⟩ := s'.row c _ e2
      exact ⟨q1, q2, fun x hx => by obtain ⟨v, rfl⟩ := hr x hx; exact .raw⟩
    · have hk' : g.get c = some k := by
        have : (if c ∈ bs then g'.get c else g.get c) = some k := hk
        rwa [if_neg hb] at this
      obtain ⟨q1, q2, q3⟩ := s.row c k hk'
      exact ⟨Nat.lt_of_lt_of_le q1 x'.n, by rw [x'.keep c q1 rfl]; exact q2, fun y hy => (q3 y hy).mono hx2⟩
  · have := x'.n
    show hn g .mk ≤ h'.n
    omega
  · show (if c ∈ bs then g'.get c else g.get c) = g.get c
    rw [if_neg (hbn c (by omega))]
  · show (if b ∈ bs then g'.get b else g.get b) = g'.get b
    rw [if_pos hb]
def RTup (E : List T) (v : Value) (x : X) (g : H2) (bs : List Nat) : Prop := ∃ ys, x = .tp [.st ys, .raw v] ∧ OTs g bs ys E
theorem lend_tup {g : H2} {f : FuncId} {xs ys : List X} {E : List T} {v : Value} (hl : Lents g xs ys)
  (c : WC2 P W0 f ys g.bare fun x g' => g.bare.le g' ∧ ∃ bs, RTup E v x g' bs ∧ Bl (hn g .mk) (hn g' .mk) bs) :
  WC2 P W0 f xs g fun x g' => g.le g' ∧ ∃ bs, RTup E v x g' bs ∧ Bl (hn g .mk) (hn g' .mk) bs := by
 refine WC2.lendTree hl c ?_ ?_ ?_
 ·rintro x g' g2 bs ⟨ys, rfl, o⟩ hb
  exact ⟨ys, rfl, o.frame hb⟩
 ·rintro x g' bs ⟨ys, rfl, o⟩
  exact o.rows
 ·rintro x g' bs ⟨ys, rfl, o⟩ h g2
  refine .tp fun x hx => ?_
  simp only [List.mem_cons, List.not_mem_nil, or_false] at hx
  rcases hx with rfl | rfl
  ·exact .st fun y hy => by obtain ⟨v, rfl⟩ := o.israw y hy; exact .raw
  ·exact .raw
end Go.Bi
end
section
set_option maxRecDepth 20000
namespace Go.Bi
open Go.Proofs
open Go.Ai (wrap_i64 wrap_u8 Heap)
variable {W0 : World} {P : Program}
def drop1 (s : LStore) (p : Int) : LStore := ⟨s.refs.set p.toNat (s.refs.getD p.toNat default - 1), if s.refs.getD p.toNat default - 1 = 0 then s.pages.set p.toNat [] else s.pages⟩
def dropAll (s : LStore) (ps : List Int) : LStore := ps.foldl drop1 s
def liveB (e : LEngine) (k : Int) : Bool := engB e && (inI k 0 ((e.requests.length : Int) - 1) && decide ((e.requests.getD k.toNat default).status = 0))
def giveR (r : LRequest) : LRequest := ⟨r.prompt, r.tokens, r.config, r.state, ⟨[], 0⟩, r.status⟩
def evictE (e : LEngine) (k : Nat) : LEngine := ⟨e.model, dropAll e.store (e.requests.getD k default).table.pages, e.requests.set k (giveR (e.requests.getD k default))⟩
def evE (e : LEngine) (k : Int) : LEngine := if liveB e k = true then evictE e k.toNat else e
def evK (e : LEngine) (k : Int) : Int := if liveB e k = true then 0 else 6
def DropOk (s : LStore) (ps : List Int) : Prop := s.refs.length ≤ 16 ∧ s.pages.length = s.refs.length ∧ (∀ i, i < s.refs.length → 0 ≤ s.refs.getD i default ∧ s.refs.getD i default ≤ 20) ∧ ps.Nodup ∧ ∀ p ∈ ps, 0 ≤ p ∧ p < s.refs.length ∧ s.refs.getD p.toNat default ≠ 0
theorem getD_set {α : Type} [Inhabited α] {l : List α} {i j : Nat} {v : α} (hi : i < l.length) : (l.set i v).getD j default = if i = j then v else l.getD j default := by
 rw [List.getD_eq_getElem?_getD, List.getElem?_set, List.getD_eq_getElem?_getD]
 by_cases h : i = j
 ·subst h; rw [if_pos rfl, if_pos rfl, if_pos hi]; rfl
 ·rw [if_neg h, if_neg h]
theorem DropOk.step {s : LStore} {p : Int} {ps : List Int} (h : DropOk s (p :: ps)) : DropOk (drop1 s p) ps := by
 obtain ⟨h1, h2, h3, h4, h5⟩ := h
 obtain ⟨p0, p1, p2⟩ := h5 p (by simp)
 obtain ⟨n1, n2⟩ := List.nodup_cons.1 h4
 have hp : p.toNat < s.refs.length := by omega
 have hl : (drop1 s p).refs.length = s.refs.length := by simp [drop1]
 refine ⟨by rw [hl]; exact h1, ?_, ?_, n2, ?_⟩
 ·rw [hl]
  unfold drop1
  dsimp only
  split <;> simp [h2]
 ·intro i hi
  rw [hl] at hi
  show 0 ≤ (s.refs.set p.toNat _).getD i default ∧ (s.refs.set p.toNat _).getD i default ≤ 20
  rw [getD_set hp]
  have := h3 i hi
  have := h3 p.toNat hp
  split <;> omega
 ·intro q hq
  obtain ⟨q0, q1, q2⟩ := h5 q (by simp [hq])
  refine ⟨q0, by rw [hl]; exact q1, ?_⟩
  show (s.refs.set p.toNat _).getD q.toNat default ≠ 0
  rw [getD_set hp, if_neg (fun e => n1 (by rw [show p = q by omega]; exact hq))]
  exact q2
theorem dropAll_snoc {s : LStore} {ps : List Int} {k : Nat} (hk : k < ps.length) : dropAll s (ps.take (k + 1)) = drop1 (dropAll s (ps.take k)) (ps.getD k default) := by
 unfold dropAll
 rw [List.take_succ_eq_append_getElem hk, List.foldl_append, List.getD_eq_getElem?_getD, List.getElem?_eq_getElem hk]
 rfl
theorem DropOk.at {s : LStore} {ps : List Int} (h : DropOk s ps) : ∀ k, k ≤ ps.length → DropOk (dropAll s (ps.take k)) (ps.drop k) := by
 intro k
 induction k with
 | zero => intro _; exact h
 | succ k ih =>
  intro hk
  have hd : ps.drop k = ps.getD k default :: ps.drop (k + 1) := by rw [List.drop_eq_getElem_cons (by omega), List.getD_eq_getElem?_getD, List.getElem?_eq_getElem (by omega)]; rfl
  have := ih (by omega)
  rw [hd] at this
  rw [dropAll_snoc (by omega)]
  exact this.step
theorem DropOk.now {s : LStore} {ps : List Int} (h : DropOk s ps) {k : Nat} (hk : k < ps.length) : ∃ p : Nat, ps.getD k default = (p : Int) ∧ p < s.refs.length ∧ (dropAll s (ps.take k)).refs.length = s.refs.length ∧ (dropAll s (ps.take k)).pages.length = s.refs.length ∧ (dropAll s (ps.take k)).refs.getD p default ≠ 0 ∧ 1 ≤ (dropAll s (ps.take k)).refs.getD p default ∧ (dropAll s (ps.take k)).refs.getD p default ≤ 20 ∧ poolB (dropAll s (ps.take k)).refs = true ∧ poolB (dropAll s (ps.take (k + 1))).refs = true := by
 have hpool : ∀ {s : LStore} {ps : List Int}, DropOk s ps → poolB s.refs = true := fun {s ps} h => by
  obtain ⟨h1, _, h3, _⟩ := h
  rw [poolB, Bool.and_eq_true]
  refine ⟨decide_eq_true (by omega), ?_⟩
  rw [allI, List.all_eq_true]
  intro x hx
  obtain ⟨j, hj, rfl⟩ := List.getElem_of_mem hx
  have := h3 j hj
  rw [List.getD_eq_getElem?_getD, List.getElem?_eq_getElem hj] at this
  rw [inI]
  simp only [Option.getD_some] at this
  simp only [Bool.and_eq_true, decide_eq_true_eq]
  exact this
 have hlen : ∀ k, k ≤ ps.length → (dropAll s (ps.take k)).refs.length = s.refs.length := by
  intro k
  induction k with
  | zero => intro _; rfl
  | succ k ih => intro hk; rw [dropAll_snoc (by omega)]; show ((dropAll s (ps.take k)).refs.set _ _).length = _; rw [List.length_set, ih (by omega)]
 have hd : ps.drop k = ps.getD k default :: ps.drop (k + 1) := by rw [List.drop_eq_getElem_cons (by omega), List.getD_eq_getElem?_getD, List.getElem?_eq_getElem (by omega)]; rfl
 have h1 := h.at k (by omega)
 have h2 := h.at (k + 1) (by omega)
 have hp1 := hpool h1
 have hp2 := hpool h2
 rw [hd] at h1
 obtain ⟨a1, a2, a3, a4, a5⟩ := h1
 obtain ⟨b0, b1, b2⟩ := a5 _ (List.mem_cons_self ..)
 have hl := hlen k (by omega)
 have b3 := a3 (ps.getD k default).toNat (by omega)
 exact ⟨(ps.getD k default).toNat, by omega, by omega, hl, by omega, b2, by omega, b3.2, hp1, hp2⟩
theorem engB_drop {e : LEngine} {k : Int} (h : liveB e k = true) : 0 ≤ k ∧ k.toNat < e.requests.length ∧ (e.requests.getD k.toNat default).status = 0 ∧ storeB e.store = true ∧ tableB e.store (e.requests.getD k.toNat default).table = true ∧ DropOk e.store (e.requests.getD k.toNat default).table.pages := by
 unfold liveB at h
 simp only [Bool.and_eq_true, decide_eq_true_eq] at h
 obtain ⟨h1, h2, h3⟩ := h
 have hin := inI_tt h2
 unfold engB at h1
 simp only [Bool.and_eq_true, decide_eq_true_eq] at h1
 obtain ⟨_, hst, _, hreq, _⟩ := h1
 have hk : k.toNat < e.requests.length := by omega
 have hr : reqB e (e.requests.getD k.toNat default) = true := List.all_eq_true.1 hreq _ (getD_memR hk)
 have ht : tableB e.store (e.requests.getD k.toNat default).table = true := by
  unfold reqB at hr
  simp only [Bool.and_eq_true] at hr
  exact hr.2.2.2.2.2.2.2.1
 have hlen := storeB_len hst
 refine ⟨by omega, hk, h3, hst, ht, hlen.2, hlen.1, ?_, ?_, ?_⟩
 ·intro i hi
  unfold storeB poolB at hst
  simp only [Bool.and_eq_true] at hst
  have := List.all_eq_true.1 hst.1.2 _ (getD_memR hi)
  rw [inI] at this
  simp only [Bool.and_eq_true, decide_eq_true_eq] at this
  exact this
 ·unfold tableB at ht
  simp only [Bool.and_eq_true] at ht
  exact nodup_of_take fun i hi => (pgB_t (List.all_eq_true.1 ht.2.2.2 i (List.mem_range.2 hi))).2.1
 ·intro p hp
  unfold tableB at ht
  simp only [Bool.and_eq_true] at ht
  obtain ⟨i, hi, rfl⟩ := List.getElem_of_mem hp
  have hb := List.all_eq_true.1 ht.2.2.2 i (List.mem_range.2 hi)
  unfold pgB at hb
  simp only [Bool.and_eq_true, Bool.not_eq_true', decide_eq_false_iff_not] at hb
  rw [List.getD_eq_getElem?_getD, List.getElem?_eq_getElem hi, Option.getD_some] at hb
  have h2 := inI_tt hb.1
  exact ⟨h2.1, by omega, hb.2.1⟩
end Go.Bi
end
section
set_option maxRecDepth 20000
namespace Go.Bi
open Go.Proofs
open Go.Ai (wrap_i64 wrap_u8)
variable {W0 : World} {P : Program}
set_option maxHeartbeats 4000000
theorem OTs.setNil {g : H2} {z : Nat} : ∀ {ts : List T} {bs : List Nat} {xs : List X} {k : Nat}, OTs g bs xs ts → k < ts.length → ∃ bs', OTs g bs' (xs.set k (.raw (.slice none 0 0))) (ts.set k (.l z [])) ∧ bs'.Sublist bs
 | [], _, _, _, _, h => absurd h (by simp)
 | t :: ts, _, _, k, o, h => by
  obtain ⟨b1, b2, y, ys, rfl, rfl, oy, os⟩ := OTs.head o
  cases k with
  | zero => exact ⟨b2, OTs.cons (bs := []) .nil os, List.sublist_append_right _ _⟩
  | succ k =>
   obtain ⟨bs', o', sb⟩ := os.setNil (z := z) (k := k) (by simpa using h)
   exact ⟨b1 ++ bs', .cons oy o', sb.append_left b1⟩
theorem own_row {G : H2} {b : Nat} {zs : List Int} (h : hg G b .mk = some ⟨1, zs.map cI⟩) : OT G [b] (.raw (.slice (some ⟨b, 0, none⟩) zs.length zs.length)) (.l 1 (ints zs)) := by
 have := OT.flat (N := 0) (b := b) (vs := zs.map (Value.int .i64)) (g := G) (by rw [h, List.map_map]; rfl) (fun v hv => by obtain ⟨z, _, rfl⟩ := List.mem_map.1 hv; rfl)
 rw [List.length_map, List.map_map] at this
 exact this
theorem pages_flat : ∀ {l : List (List LCell)}, (rCellSS l).flatten = l.map fun c => T.l 2 (rCellS c)
 | [] => rfl
 | c :: l => by
  have h := pages_flat (l := l)
  show [T.l 2 (rCellS c)] ++ (rCellSS l).flatten = _
  rw [h]; rfl
theorem ints_row {g : H2} {bs : List Nat} {x : X} {zs : List Int} (o : OT g bs x (.l 1 (ints zs))) (hz : 0 < zs.length) : ∃ q, bs = [q] ∧ x = .raw (.slice (some ⟨q, 0, none⟩) zs.length zs.length) ∧ hg g q .mk = some ⟨1, zs.map cI⟩ := by
 rcases o.inv with ⟨_, _, h⟩ | ⟨q, bs', cs, rfl, rfl, hq, hc, hzz, oc⟩
 ·have : zs = [] := by simpa [ints] using h
  subst this; simp at hz
 ·have hl : (ints zs).length = zs.length := by simp [ints]
  have e : (ints zs).flatten = (zs.map (Value.int .i64)).map T.v := by
   clear oc hc hl hz hq o hzz
   induction zs with
   | nil => rfl
   | cons z zs ih => show [T.v (.int .i64 z)] ++ (ints zs).flatten = _; rw [ih]; rfl
  rw [e] at oc
  have hb := OTs.raws_bs oc
  subst hb
  have hx : cs = zs.map cI := by
   clear e hc hl hq o hz hzz
   induction zs generalizing cs with
   | nil => exact (OTs.tail0 oc).2
   | cons z zs ih =>
    obtain ⟨ys, rfl, oc'⟩ := OTs.headv oc
    rw [ih _ oc']; rfl
  subst hx
  exact ⟨q, rfl, by rw [hl], hq⟩
theorem drop_ok {b k : Nat} {cs : List X} {s14 s15 : X} {b14 b15 : List Nat} {s : LStore} {g : H2} (hb : hg g b .mk = some ⟨17, cs⟩) (c14 : cs[14]? = some s14) (c15 : cs[15]? = some s15)
  (o14 : OT g b14 s14 (.l 1 (ints s.refs))) (o15 : OT g b15 s15 (.l 1 (rCellSS s.pages))) (n15 : b15.Nodup) (dj : ∀ x ∈ b14, x ∉ b15) (h14 : b ∉ b14) (h15 : b ∉ b15)
  (hk : k < s.refs.length) (hl : s.pages.length = s.refs.length) (hsm : s.refs.length ≤ 16) (hr : 1 ≤ s.refs.getD k default ∧ s.refs.getD k default ≤ 20) :
  WC2 Tryz.prog W0 192 [.raw (.pointer (some ⟨b, 14, none⟩)), .raw (.int .i64 (k : Nat))] g (fun v g' => v = .tp [] ∧ hn g' .mk = hn g .mk ∧ (∀ x, x ∉ b14 → x ∉ b15 → g'.get x = g.get x) ∧ OT g' b14 s14 (.l 1 (ints (drop1 s k).refs)) ∧ ∃ b15', OT g' b15' s15 (.l 1 (rCellSS (drop1 s k).pages)) ∧ b15'.Sublist b15) := by
 obtain ⟨q, rfl, rfl, hq⟩ := ints_row o14 (by omega)
 rcases o15.inv with ⟨_, _, he⟩ | ⟨q2, bs2, cs2, rfl, rfl, hq2, hc2, hz2, oc2⟩
 ·have : s.pages = [] := by simpa [rCellSS] using he
  rw [this] at hl; simp at hl; omega
 have hlp : (rCellSS s.pages).length = s.pages.length := rCellSS_len
 have ebq : (b == q) = false := by simp; intro e; exact h14 (by simp [e])
 have eqq2 : (q2 == q) = false := by simp; intro e; exact dj q (by simp) (by simp [e])
 have eq2q : (q == q2) = false := by simp; intro e; exact dj q (by simp) (by simp [e])
 have ebq2 : (b == q2) = false := by simp; intro e; exact h15 (by simp [e])
 have hq2' : hg g q2 .mk = some ⟨1, cs2⟩ := hq2
 have hi2 : (0 : Int) ≤ (k : Int) ∧ (k : Int) < (s.refs.length : Int) := by omega
 have g1 := get_W hk
 have w1 : IntKind.i64.wrap (s.refs.getD k default - 1) = s.refs.getD k default - 1 := by rw [wrap_i64] <;> omega
 have w2 := wrt_W (v := s.refs.getD k default - 1) hk
 have hk2 : k < (s.refs.set k (s.refs.getD k default - 1)).length := by rw [List.length_set]; exact hk
 have g2 := get_W hk2
 rw [getD_set hk, if_pos rfl] at g2
 have hd : (drop1 s k).refs = s.refs.set k (s.refs.getD k default - 1) := by simp [drop1]
 refine begins [[0, 1], [0, 1], [0, 1]] Tryz.func192 rfl (rs := []) rfl rfl ?_
 intro wf
 repeat (first | rw [ko] | rw [kr] | simp -dsimp -implicitDefEqProofs only [go_sem, rq1, hb, c14, hq, hi2, Int.toNat_natCast, g1, w1, w2, g2, ebq, hoo])
 have o14' : ∀ {G : H2}, hg G q .mk = some ⟨1, (s.refs.set k (s.refs.getD k default - 1)).map cI⟩ → OT G [q] (.raw (.slice (some ⟨q, 0, none⟩) s.refs.length s.refs.length)) (.l 1 (ints (drop1 s k).refs)) := fun {G} h => by
  have := own_row h
  rw [List.length_set, ← hd] at this
  exact this
 have hn2 := (List.nodup_cons.1 n15).1
 refine gz_dec (fun z0 => ?_) (fun z0 => ?_)
 ·have hc2' : cs2.length = s.refs.length := by rw [hc2, hlp, hl]; omega
  have w3 : wrtL cs2 k [.raw (.slice none 0 0)] = some (cs2.set k (.raw (.slice none 0 0))) := wrt_set (by omega)
  have hi3 : (0 : Int) ≤ (k : Int) ∧ (k : Int) < (s.pages.length : Int) := by omega
  have e2 : (q == q2) = false := by simp; intro e; exact dj q (by simp) (by simp [e])
  repeat (first | rw [ko] | rw [kr] | simp -dsimp -implicitDefEqProofs only [go_sem, rq1, rq2, hb, c15, hq2', hi2, hi3, hlp, Int.toNat_natCast, w3, ebq, eqq2, hoo])
  have hdp : (drop1 s k).pages = s.pages.set k [] := by simp only [drop1, Int.toNat_natCast]; rw [if_pos z0]
  obtain ⟨bs', o', sb⟩ := OTs.setNil (z := 2) (k := k) oc2 (by rw [pages_flat, List.length_map]; omega)
  refine ⟨rfl, by simp only [hn_set], fun x h1 h2 => ?_, o14' (by simp -dsimp -implicitDefEqProofs only [go_sem, eq2q, hoo]), q2 :: bs', ?_, sb.cons_cons q2⟩
  ·have a1 : x ≠ q := fun e => h1 (by simp [e])
   have a2 : x ≠ q2 := fun e => h2 (by simp [e])
   simp only [H2.set]
   rw [if_neg a2, if_neg a1]
  ·rw [hdp, hlp]
   refine OT.row (cs := cs2.set k (.raw (.slice none 0 0))) (by simp [H2.set]) (by rw [List.length_set]; omega) (by rw [rCellSS_len, List.length_set]) (fun e he => by obtain ⟨x, _, rfl⟩ := List.mem_map.1 he; rfl) ?_
   have e3 : (rCellSS (s.pages.set k [])).flatten = ((rCellSS s.pages).flatten).set k (T.l 2 []) := by
    rw [pages_flat, pages_flat, List.map_set]; rfl
   rw [e3]
   refine o'.frame fun x hx => ?_
   have hx2 := sb.subset hx
   have a1 : x ≠ q := fun e => dj q (by simp) (by rw [← e]; simp [hx2])
   have a2 : x ≠ q2 := fun e => hn2 (by rw [← e]; exact hx2)
   simp only [H2.set]
   rw [if_neg a2, if_neg a1]
 ·repeat (first | rw [ko] | rw [kr] | simp -dsimp -implicitDefEqProofs only [go_sem])
  have hdp : (drop1 s k).pages = s.pages := by simp only [drop1, Int.toNat_natCast]; rw [if_neg z0]
  refine ⟨rfl, by simp only [hn_set], fun x h1 h2 => ?_, o14' (by simp -dsimp -implicitDefEqProofs only [go_sem, hoo]), q2 :: bs2, ?_, List.Sublist.refl _⟩
  ·have a1 : x ≠ q := fun e => h1 (by simp [e])
   simp only [H2.set]
   rw [if_neg a1]
  ·rw [hdp]
   refine o15.frame fun x hx => ?_
   have a1 : x ≠ q := fun e => dj q (by simp) (by rw [← e]; exact hx)
   simp only [H2.set]
   rw [if_neg a1]
end Go.Bi
end
section
set_option maxRecDepth 20000
namespace Go.Bi
open Go.Proofs
open Go.Ai (wrap_i64 wrap_u8)
variable {W0 : World} {P : Program}
set_option maxHeartbeats 8000000
theorem OT.shape {g : H2} {bs : List Nat} {x : X} {z : Nat} {es : List (List T)} (o : OT g bs x (.l z es)) : ∃ a, x = .raw (.slice a es.length es.length) := by
 rcases o.inv with ⟨_, rfl, rfl⟩ | ⟨b, bs', cs, rfl, rfl, _⟩
 ·exact ⟨none, rfl⟩
 ·exact ⟨_, rfl⟩
structure Open (g : H2) (q n k : Nat) (A R C : List X) (bA bR bC : List Nat) (rs : List LRequest) : Prop where
 row : hg g q .mk = some ⟨10, A ++ (R ++ C)⟩
 len : A.length = k * 10
 oA : OTs g bA A (((rs.take k).map eRequest).flatten)
 oR : OTs g bR R (eRequest (rs.getD k default))
 oC : OTs g bC C (((rs.drop (k + 1)).map eRequest).flatten)
theorem OT.open {g : H2} {bs : List Nat} {x : X} {rs : List LRequest} {k : Nat} (o : OT g bs x (.l 10 (rRequestS rs))) (hk : k < rs.length) : ∃ q A R C bA bR bC, bs = q :: (bA ++ (bR ++ bC)) ∧ x = .raw (.slice (some ⟨q, 0, none⟩) rs.length rs.length) ∧ Open g q rs.length k A R C bA bR bC rs := by
  rcases o.inv with ⟨_, _, he⟩ | ⟨q, bs', cs, rfl, rfl, hq, hc, hz, oc⟩
  · have : rs = [] := by simpa [rRequestS] using he
    subst this; simp at hk
  · have e1 : (rRequestS rs).flatten = ((rs.take k).map eRequest).flatten ++ (eRequest (rs.getD k default) ++ ((rs.drop (k + 1)).map eRequest).flatten) := by
      have hd : rs = rs.take k ++ (rs.getD k default :: rs.drop (k + 1)) := by
        rw [show rs.getD k default :: rs.drop (k + 1) = rs.drop k by rw [List.drop_eq_getElem_cons hk, List.getD_eq_getElem?_getD, List.getElem?_eq_getElem hk]; rfl, List.take_append_drop]
      show (rs.map eRequest).flatten = _
      conv => lhs; rw [hd]
      rw [List.map_append, List.flatten_append]
      rfl
    rw [e1] at oc
    obtain ⟨bA, b2, A, x2, rfl, rfl, oA, o2⟩ := oc.split
    obtain ⟨bR, bC, R, C, rfl, rfl, oR, oC⟩ := o2.split
    have hl : A.length = k * 10 := by
      rw [oA.len, flat_len (z := 10) (fun _ => rfl), List.length_take]
      rw [Nat.min_eq_left (by omega)]
    exact ⟨q, A, R, C, bA, bR, bC, rfl, by rw [rRequestS_len], hq, hl, oA, oR, oC⟩
theorem Open.shut {g : H2} {q k : Nat} {A R C : List X} {bA bR bC : List Nat} {rs : List LRequest} {r' : LRequest} (hrow : hg g q .mk = some ⟨10, A ++ (R ++ C)⟩) (hk : k < rs.length) (oA : OTs g bA A (((rs.take k).map eRequest).flatten)) (oR : OTs g bR R (eRequest r')) (oC : OTs g bC C (((rs.drop (k + 1)).map eRequest).flatten)) : OT g (q :: (bA ++ (bR ++ bC))) (.raw (.slice (some ⟨q, 0, none⟩) rs.length rs.length)) (.l 10 (rRequestS (rs.set k r'))) := by
 have e1 : (rRequestS (rs.set k r')).flatten = ((rs.take k).map eRequest).flatten ++ (eRequest r' ++ ((rs.drop (k + 1)).map eRequest).flatten) := by
  show ((rs.set k r').map eRequest).flatten = _
  rw [List.set_eq_take_append_cons_drop, if_pos hk, List.map_append, List.flatten_append]
  rfl
 have oo := oA.append (oR.append oC)
 rw [← e1] at oo
 have h1 := oA.len
 have h2 := oR.len
 have h3 := oC.len
 rw [flat_len (z := 10) (fun _ => rfl)] at h1 h3
 rw [List.length_take] at h1
 rw [List.length_drop] at h3
 refine OT.row hrow ?_ (by rw [rRequestS_len, List.length_set]) (fun e he => by obtain ⟨x, _, rfl⟩ := List.mem_map.1 he; rfl) oo
 rw [List.length_append, List.length_append, h1, h2, h3, show (eRequest r').length = 10 from rfl, Nat.min_eq_left (by omega), Nat.sub_mul]
 omega
theorem ap_R {A R C : List X} {k j : Nat} (hl : A.length = k * 10) (hj : j < R.length) : (A ++ (R ++ C))[k * 10 + j]? = R[j]? := by
 rw [List.getElem?_append_right (by omega), hl, Nat.add_sub_cancel_left, List.getElem?_append_left hj]
theorem wrt_R {A R C vs : List X} {R' : List X} {k j : Nat} (hl : A.length = k * 10) (hw : wrtL R j vs = some R') : wrtL (A ++ (R ++ C)) (k * 10 + j) vs = some (A ++ (R' ++ C)) := by
 unfold wrtL at hw ⊢
 split at hw
 ·rename_i h
  simp only [Option.some.injEq] at hw
  subst hw
  rw [if_pos (by simp only [List.length_append]; omega), ← hl]
  congr 1
  have e1 : (A ++ (R ++ C)).take (A.length + j) = A ++ R.take j := by
   rw [List.take_append, List.take_of_length_le (by omega), Nat.add_sub_cancel_left, List.take_append_of_le_length (by omega)]
  have e2 : (A ++ (R ++ C)).drop (A.length + j + vs.length) = R.drop (j + vs.length) ++ C := by
   rw [List.drop_append, List.drop_of_length_le (by omega), show A.length + j + vs.length - A.length = j + vs.length by omega, List.drop_append_of_le_length (by omega)]; rfl
  rw [e1, e2]
  simp only [List.append_assoc]
 ·cases hw
theorem empty_ok {b N k : Nat} {e : LEngine} {s3 s4 s5 s6 s8 s9 s12 s13 s14 s15 s16 : X} {bM b14 b15 b16 : List Nat} {g : H2} (hb : hg g b .mk = some ⟨17, [.raw (.int .i64 e.model.dim), .raw (.int .i64 e.model.heads), .raw (.int .i64 e.model.context), s3, s4, s5, s6, .raw (.int .i64 e.model.head.width), s8, s9, .raw (.int .i64 e.model.head.mul), .raw (.int .i64 e.model.head.shift), s12, s13, s14, s15, s16]⟩)
  (o14 : OT g b14 s14 (.l 1 (ints e.store.refs))) (o15 : OT g b15 s15 (.l 1 (rCellSS e.store.pages))) (o16 : OT g b16 s16 (.l 10 (rRequestS e.requests))) (bl : Bl N (hn g .mk) (bM ++ (b14 ++ (b15 ++ b16)))) (hbN : b ∉ bM ++ (b14 ++ (b15 ++ b16)))
  (hk : k < e.requests.length) (hd : DropOk e.store (e.requests.getD k default).table.pages) (hp : (e.requests.getD k default).table.pages.length ≤ 1048576) :
  WC2 Tryz.prog W0 107 [.raw (.pointer (some ⟨b, 0, none⟩)), .raw (.int .i64 (k : Nat))] g (fun v g' => v = .tp [] ∧ hn g' .mk = hn g .mk ∧ (∀ x, x ∉ b14 → x ∉ b15 → x ∉ b16 → g'.get x = g.get x) ∧ OT g' b14 s14 (.l 1 (ints (evictE e k).store.refs)) ∧ ∃ b15' b16', OT g' b15' s15 (.l 1 (rCellSS (evictE e k).store.pages)) ∧ OT g' b16' s16 (.l 10 (rRequestS (evictE e k).requests)) ∧ b15'.Sublist b15 ∧ b16'.Sublist b16) := by
 have n15 : b15.Nodup := bl.split.2.1.split.2.1.split.1.1
 have dj1 : ∀ x ∈ b14, x ∉ b15 := fun x h1 h2 => bl.split.2.1.split.2.2 x h1 (by simp [h2])
 have dj2 : ∀ x ∈ b14, x ∉ b16 := fun x h1 h2 => bl.split.2.1.split.2.2 x h1 (by simp [h2])
 have dj3 : ∀ x ∈ b15, x ∉ b16 := fun x h1 h2 => bl.split.2.1.split.2.1.split.2.2 x h1 h2
 have n16 : b16.Nodup := bl.split.2.1.split.2.1.split.2.1.1
 have hb14 : b ∉ b14 := fun h => hbN (by simp [h])
 have hb15 : b ∉ b15 := fun h => hbN (by simp [h])
 have hb16 : b ∉ b16 := fun h => hbN (by simp [h])
 obtain ⟨q, A, R, C, bA, bR, bC, rfl, rfl, op⟩ := o16.open hk
 obtain ⟨hrow, hlen, oA, oR, oC⟩ := op
 generalize hr : e.requests.getD k default = r at *
 obtain ⟨b1, s1, b5, s5, b7, s7, rfl, rfl, o1, o5, o7⟩ := invRequest oR
 have hqb : (q == b) = false := by simp; intro e; exact hb16 (by simp [e])
 have hbq : (b == q) = false := by simp; intro e; exact hb16 (by simp [e])
 have c7 := ap_R (C := C) (R := [.raw (.int .i64 r.prompt), s1, .raw (.int .i64 r.config.top), .raw (.int .i64 r.config.seed), .raw (.int .i64 r.config.new), s5, .raw (.int .u64 r.state), s7, .raw (.int .i64 r.table.count), .raw (.int .i64 r.status)]) (j := 7) hlen (by simp)
 have a7 : ([.raw (.int .i64 r.prompt), s1, .raw (.int .i64 r.config.top), .raw (.int .i64 r.config.seed), .raw (.int .i64 r.config.new), s5, .raw (.int .u64 r.state), s7, .raw (.int .i64 r.table.count), .raw (.int .i64 r.status)] : List X)[7]? = some s7 := rfl
 rw [a7] at c7
 obtain ⟨aa, rfl⟩ := o7.shape
 have wR : wrtL ([.raw (.int .i64 r.prompt), s1, .raw (.int .i64 r.config.top), .raw (.int .i64 r.config.seed), .raw (.int .i64 r.config.new), s5, .raw (.int .u64 r.state), (.raw (.slice aa r.table.pages.length r.table.pages.length)), .raw (.int .i64 r.table.count), .raw (.int .i64 r.status)] : List X) 7 [.raw (.slice none 0 0), .raw (.int .i64 0)] = some [.raw (.int .i64 r.prompt), s1, .raw (.int .i64 r.config.top), .raw (.int .i64 r.config.seed), .raw (.int .i64 r.config.new), s5, .raw (.int .u64 r.state), .raw (.slice none 0 0), .raw (.int .i64 0), .raw (.int .i64 r.status)] := rfl
 have w7 := wrt_R (C := C) hlen wR
 have hpl : (ints r.table.pages).length = r.table.pages.length := by simp [ints]
 rw [hpl] at c7 hrow
 generalize hcs : (A ++ ([.raw (.int .i64 r.prompt), s1, .raw (.int .i64 r.config.top), .raw (.int .i64 r.config.seed), .raw (.int .i64 r.config.new), s5, .raw (.int .u64 r.state), (.raw (.slice aa r.table.pages.length r.table.pages.length)), .raw (.int .i64 r.table.count), .raw (.int .i64 r.status)] ++ C) : List X) = cs at hrow c7 w7
 generalize hcs' : (A ++ ([.raw (.int .i64 r.prompt), s1, .raw (.int .i64 r.config.top), .raw (.int .i64 r.config.seed), .raw (.int .i64 r.config.new), s5, .raw (.int .u64 r.state), .raw (.slice none 0 0), .raw (.int .i64 0), .raw (.int .i64 r.status)] ++ C) : List X) = cs' at w7
 have hi2 : (0 : Int) ≤ (k : Int) ∧ (k : Int) < (e.requests.length : Int) := by omega
 refine begins [[0, 1], [0, 4], [0, 4, 17, 18, 19], [0, 4, 17, 18, 19], [0, 4, 6, 17, 18, 19], [0, 4, 17, 18, 19], [4]] Tryz.func107 rfl (rs := []) rfl rfl ?_
 intro wf
 repeat (first | rw [ko] | rw [kr] | simp -dsimp -implicitDefEqProofs only [go_sem, rq1, hb, hrow, c7, hi2, Int.toNat_natCast, hoo])
 refine lz_keep [0, 4, 17, 18] (fun m e2 h' => ∃ (i : Nat) (b15' : List Nat), look e2 19 .mk = .raw (.int .i64 (i : Nat)) ∧ m + i = r.table.pages.length ∧ hn h' .mk = hn g .mk ∧ (∀ x, x ∉ b14 → x ∉ b15 → h'.get x = g.get x) ∧ OT h' b14 s14 (.l 1 (ints (dropAll e.store (r.table.pages.take i)).refs)) ∧ OT h' b15' s15 (.l 1 (rCellSS (dropAll e.store (r.table.pages.take i)).pages)) ∧ b15'.Sublist b15) r.table.pages.length ?_ ?_
 ·exact ⟨0, b15, zsm, by omega, rfl, fun _ _ _ => rfl, o14, o15, List.Sublist.refl _⟩
 rintro m e2 h' hks ⟨i, b15', ei, hm, hn', fr, p14, p15, sb⟩
 simp -dsimp -implicitDefEqProofs only [go_sem, rq1] at hks
 have hb' : hg h' b .mk = _ := (fr b hb14 hb15).trans hb
 have hq16 : ∀ x ∈ q :: (bA ++ ((b1 ++ (b5 ++ b7)) ++ bC)), h'.get x = g.get x := fun x hx => fr x (fun h => dj2 x h hx) (fun h => dj3 x h hx)
 have hrow' : hg h' q .mk = _ := (hq16 q (by simp)).trans hrow
 by_cases q1 : (i : Int) < (r.table.pages.length : Int)
 ·have q2 : i < r.table.pages.length := by omega
  have w1 := wrap_succ q2 (by omega)
  obtain ⟨p, e1, e2', e3, e4, e5, e6, e7, _⟩ := hd.now q2
  have hd1 := hd.1
  obtain ⟨q7, rfl, hx7, hq7⟩ := ints_row o7 (by omega)
  simp only [X.raw.injEq, Value.slice.injEq, hpl, and_true] at hx7
  subst hx7
  have hq7' : hg h' q7 .mk = _ := (hq16 q7 (by simp)).trans hq7
  have hi3 : (0 : Int) ≤ (i : Int) ∧ (i : Int) < (r.table.pages.length : Int) := by omega
  have g1 := get_W q2
  rw [e1] at g1
  repeat (first | rw [ko] | rw [kr] | simp -dsimp -implicitDefEqProofs only [go_sem, rq1, hks, ei, q1, hq7', hi3, Int.toNat_natCast, hoo, g1])
  refine wz_intro (drop_ok (k := p) hb' rfl rfl p14 p15 (sb.nodup n15) (fun x h1 h2 => dj1 x h1 (sb.subset h2)) hb14 (fun h => hb15 (sb.subset h)) (by omega) (by omega) (by omega) ⟨e6, e7⟩) ?_
  rintro _ h2 ⟨rfl, nn, fr2, r14, b15'', r15, sb2⟩
  repeat (first | rw [ko] | rw [kr] | simp -dsimp -implicitDefEqProofs only [go_sem, rq1, w1])
  have hs : dropAll e.store (r.table.pages.take (i + 1)) = drop1 (dropAll e.store (r.table.pages.take i)) (p : Int) := by rw [dropAll_snoc q2, e1]
  exact nx_keep (m - 1) (by omega) zsm ⟨i + 1, b15'', zsm, by omega, nn.trans hn', fun x h1 h3 => (fr2 x h1 (fun h => h3 (sb.subset h))).trans (fr x h1 h3), by rw [hs]; exact r14, by rw [hs]; exact r15, sb2.trans sb⟩
 have hi : i = r.table.pages.length := by omega
 rw [hi, List.take_length] at p14 p15
 repeat (first | rw [ko] | rw [kr] | simp -dsimp -implicitDefEqProofs only [go_sem, rq1, rq2, hks, ei, q1, hrow', hoo, w7])
 have hev : evictE e k = ⟨e.model, dropAll e.store r.table.pages, e.requests.set k (giveR r)⟩ := by unfold evictE; rw [hr]
 have frq : ∀ x, x ≠ q → ∀ K, (h'.set q K).get x = h'.get x := fun x hx K => by simp only [H2.set]; rw [if_neg hx]
 have n16' := List.nodup_cons.1 n16
 refine ⟨rfl, by simp only [hn_set]; exact hn', fun x h1 h2 h3 => (frq x (fun e => h3 (by simp [e])) _).trans (fr x h1 h2), by rw [hev]; exact p14.frame fun x hx => frq x (fun e => dj2 x hx (by simp [e])) _, b15', q :: (bA ++ ((b1 ++ (b5 ++ [])) ++ bC)), by rw [hev]; exact p15.frame fun x hx => frq x (fun e => dj3 x (sb.subset hx) (by simp [e])) _, ?_, sb, ?_⟩
 ·rw [hev]
  have F : ∀ x ∈ bA ++ ((b1 ++ (b5 ++ b7)) ++ bC), ∀ K, (h'.set q K).get x = g.get x := fun x hx K => (frq x (fun e => n16'.1 (by rw [← e]; exact hx)) K).trans (hq16 x (by simp only [List.mem_cons]; exact .inr hx))
  refine Open.shut (r' := giveR r) ((show hg (h'.set q ⟨10, cs'⟩) q .mk = some ⟨10, cs'⟩ from by simp -dsimp -implicitDefEqProofs only [go_sem] <;> rfl).trans (by rw [← hcs']; rfl)) hk (oA.frame fun x hx => F x (by simp [hx]) _) (outRequest (c := giveR r) (o1.frame fun x hx => F x (by simp [hx]) _) (o5.frame fun x hx => F x (by simp [hx]) _) OT.nil) (oC.frame fun x hx => F x (by simp [hx]) _)
 ·exact List.Sublist.cons_cons q (List.Sublist.append_left (List.Sublist.append_right (List.Sublist.append_left (List.Sublist.append_left (List.nil_sublist _) _) _) _) _)
end Go.Bi
end
section
set_option maxRecDepth 20000
namespace Go.Bi
open Go.Proofs
open Go.Ai (wrap_i64 wrap_u8)
variable {W0 : World} {P : Program}
set_option maxHeartbeats 8000000
def RRow (t : T) (v : Value) (x : X) (g : H2) (bs : List Nat) : Prop := ∃ y, x = .tp [y, .raw v] ∧ OT g bs y t
theorem lend_row {g : H2} {f : FuncId} {xs ys : List X} {t : T} {v : Value} (hl : Lents g xs ys)
  (c : WC2 P W0 f ys g.bare fun x g' => g.bare.le g' ∧ ∃ bs, RRow t v x g' bs ∧ Bl (hn g .mk) (hn g' .mk) bs) :
  WC2 P W0 f xs g fun x g' => g.le g' ∧ ∃ bs, RRow t v x g' bs ∧ Bl (hn g .mk) (hn g' .mk) bs := by
 refine WC2.lendTree hl c ?_ ?_ ?_
 ·rintro x g' g2 bs ⟨y, rfl, o⟩ hb
  exact ⟨y, rfl, o.frame hb⟩
 ·rintro x g' bs ⟨y, rfl, o⟩
  exact o.rows
 ·rintro x g' bs ⟨y, rfl, o⟩ h g2
  refine .tp fun x hx => ?_
  simp only [List.mem_cons, List.not_mem_nil, or_false] at hx
  rcases hx with rfl | rfl
  ·obtain ⟨v, rfl⟩ := o.israw; exact .raw
  ·exact .raw
theorem specChange_ok {f : Adr} {refs : List Int} {k : Nat} {d : Int} {g : H2} (hp : poolB refs = true) (hk : k < refs.length) (hne : refs.getD k default ≠ 0) (hw : IntKind.i64.wrap (refs.getD k default + d) = refs.getD k default + d) (hp2 : poolB (refs.set k (refs.getD k default + d)) = true) :
  WC2 Tryz.prog W0 257 [.sl f 1 (ints refs), .raw (.int .i64 (k : Nat)), .raw (.int .i64 d)] g (fun x g' => g.le g' ∧ ∃ bs, RRow (.l 1 (ints (refs.set k (refs.getD k default + d)))) (.bool true) x g' bs ∧ Bl (hn g .mk) (hn g' .mk) bs) := by
 have hlen : refs.length ≤ 16 := by
  unfold poolB at hp
  simp only [Bool.and_eq_true, decide_eq_true_eq] at hp
  omega
 have w1 : IntKind.i64.wrap ((refs.length : Int) - 1) = (refs.length : Int) - 1 := by rw [wrap_i64] <;> omega
 have hi2 : (0 : Int) ≤ (k : Int) ∧ (k : Int) < (refs.length : Int) := by omega
 have hI : inI (k : Int) 0 ((refs.length : Int) - 1) = true := by rw [inI, Bool.and_eq_true]; exact ⟨decide_eq_true (by omega), decide_eq_true (by omega)⟩
 refine begins [[0, 1, 2], [0, 1, 2], [], [0, 1, 2], [1, 2, 8], [8], [], [8]] Tryz.func257 rfl (rs := [.tmp 6, .tmp 7]) rfl rfl ?_
 intro wf
 repeat (first | rw [ko] | rw [kr] | simp -dsimp -implicitDefEqProofs only [go_sem, rq1])
 refine pw_intro (specPool_ok (by omega)) ?_
 rintro _ n1 hn1 rfl
 repeat (first | rw [ko] | rw [kr] | simp -dsimp -implicitDefEqProofs only [go_sem, rq1, hp, w1])
 refine wz_intro l01In_ok ?_
 rintro _ h2 ⟨rfl, rfl⟩
 repeat (first | rw [ko] | rw [kr] | simp -dsimp -implicitDefEqProofs only [go_sem, rq1, rq3, hp, hI, hi2, hk, Int.toNat_natCast, hne])
 refine app_ints (by omega) ?_
 intro y g1 b1 l1 oy bl1
 obtain ⟨q, rfl, rfl, hq⟩ := ints_row oy (by omega)
 have hq1 := bl1.2 q (by simp)
 have g1' := get_W hk
 have w2 := wrt_W (v := refs.getD k default + d) hk
 have hll := l1.1
 try simp only [hn_up] at hll hq1
 repeat (first | rw [ko] | rw [kr] | simp -dsimp -implicitDefEqProofs only [go_sem, rq1, hi2, Int.toNat_natCast, hq, g1', w2, hw, hoo])
 have hq2 : hg (g1.set q ⟨1, (refs.set k (refs.getD k default + d)).map cI⟩) q .mk = some ⟨1, (refs.set k (refs.getD k default + d)).map cI⟩ := by simp -dsimp -implicitDefEqProofs only [go_sem, hoo] <;> rfl
 have oq := own_row hq2
 obtain ⟨f2, hf2⟩ := oq.lent
 rw [List.length_set] at hf2 oq
 refine pw_intro (PW.lend (.cons hf2 .nil) (specPool_ok (f := f2) (r := refs.set k (refs.getD k default + d)) (by rw [List.length_set]; omega)) (fun y h => by rw [h]; exact .raw)) ?_
 rintro _ n2 hn2 rfl
 repeat (first | rw [ko] | rw [kr] | simp -dsimp -implicitDefEqProofs only [go_sem, rq1, hp2])
 have L : g.le g1 := H2.le.trans (le_up (H2.le.refl _) hn1) l1
 refine ⟨le_up (le_set L (by omega)) (by first | exact hn2 | omega), [q], ⟨_, rfl, oq.frame fun _ _ => rfl⟩, ⟨by simp, fun x hx => by simp only [List.mem_singleton] at hx; subst hx; simp only [hn_up, hn_set] at *; omega⟩⟩
theorem specDropPage_ok {f : Adr} {refs : List Int} {k : Nat} {g : H2} (hp : poolB refs = true) (hk : k < refs.length) (hne : refs.getD k default ≠ 0) (hp2 : poolB (refs.set k (refs.getD k default - 1)) = true) :
  WC2 Tryz.prog W0 230 [.sl f 1 (ints refs), .raw (.int .i64 (k : Nat))] g (fun x g' => g.le g' ∧ ∃ bs, RRow (.l 1 (ints (refs.set k (refs.getD k default - 1)))) (.bool true) x g' bs ∧ Bl (hn g .mk) (hn g' .mk) bs) := by
 have hin : 0 ≤ refs.getD k default ∧ refs.getD k default ≤ 20 := by
  unfold poolB at hp
  rw [Bool.and_eq_true] at hp
  have := List.all_eq_true.1 hp.2 _ (getD_memR hk)
  rw [inI] at this
  simp only [Bool.and_eq_true, decide_eq_true_eq] at this
  exact this
 have hsub : refs.getD k default + -1 = refs.getD k default - 1 := by omega
 refine begins [[0, 1], [0, 1]] Tryz.func230 rfl (rs := [.tmp 4, .tmp 5]) rfl rfl ?_
 intro wf
 repeat (first | rw [ko] | rw [kr] | simp -dsimp -implicitDefEqProofs only [go_sem, rq1])
 refine wz_intro (specChange_ok (f := f) (d := -1) hp hk hne (by rw [wrap_i64] <;> omega) (by rw [hsub]; exact hp2)) ?_
 rintro _ g1 ⟨l1, bs, ⟨y, rfl, oy⟩, bl⟩
 have hy := oy.cell
 repeat (first | rw [ko] | rw [kr] | simp -dsimp -implicitDefEqProofs only [go_sem, rq1, hy])
 rw [hsub] at oy
 exact ⟨l1, bs, ⟨y, rfl, oy⟩, bl⟩
theorem specDropPage_tree {refs : List Int} {k : Nat} {g : H2} {b : List Nat} {y : X} (o : OT g b y (.l 1 (ints refs))) (hp : poolB refs = true) (hk : k < refs.length) (hne : refs.getD k default ≠ 0) (hp2 : poolB (refs.set k (refs.getD k default - 1)) = true) :
  WC2 Tryz.prog W0 230 [y, .raw (.int .i64 (k : Nat))] g (fun x g' => g.le g' ∧ ∃ bs, RRow (.l 1 (ints (refs.set k (refs.getD k default - 1)))) (.bool true) x g' bs ∧ Bl (hn g .mk) (hn g' .mk) bs) := by
 obtain ⟨f, hf⟩ := o.lent
 exact lend_row (.cons hf (.cons lent_raw .nil)) (specDropPage_ok (f := f) hp hk hne hp2)
end Go.Bi
end
