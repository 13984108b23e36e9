/- Own lemmas that the theorem of this claim needs: the abstract machine and walks of functions. -/
import Derived.Test.YtjofbadmkigkjaaGreatDoorVdLawAN
import Derived.Lib.IndexMore
import Derived.Test.YtjofbadmkigkjaaGreatDoorProg
import Derived.Shelf.Strings.Shaped
set_option linter.unusedSimpArgs false
set_option linter.unusedVariables false
open Nat renaming reduceBEq → rq1, reduceAdd → rq2, reduceLeDiff → rq3, reduceMul → rq4
open Int renaming reduceLE → rq5, reduceLT → rq6, reduceBEq → rq7
section
set_option maxRecDepth 20000
namespace Go.Bi
open Go.Proofs
open Go.Ai (wrap_i64 wrap_u8 Heap)
variable {W0 : World} {P : Program}
set_option maxHeartbeats 4000000
theorem specEngine_ok {F : Nat → Adr} {e : LEngine} {g : H2} (hs : smallEng e) (hrg : rngEngine e) : PW Tryz.prog W0 33 [.st (xEngine F e)] g (fun y => y = .raw (.bool (engB e))) := by
 obtain ⟨s1, s2, s3, s4, s5⟩ := id hs
 refine PW.scalar ?_
 refine begins [[0], [1], [], [1], [1, 3], [1, 3, 4], [1, 3, 4], [1, 3, 4], [], [1, 3, 4], [1, 3, 4, 5], [1, 3, 4, 5], [1, 3, 4, 5], [1, 3], [1, 3, 6], [1, 3, 6], [1, 3, 6], [], []] Tryz.func33 rfl (rs := [.tmp 2]) rfl rfl ?_
 intro wf
 repeat (first | rw [ko] | rw [kr] | simp -dsimp -implicitDefEqProofs only [go_sem, hoo])
 refine pw_intro (specModel_ok (F := F) (m := e.model) s1) ?_
 rintro _ n1 hn1 rfl
 simp only [hn_push] at hn1
 try (rw [kq]; refine ⟨by simp -dsimp -implicitDefEqProofs only [go_sem, rq1, rq2, rq3, rq4, rq5, rq6, rq7, hoo], ?_⟩)
 cases h1 : modelB e.model
 ·repeat (first | rw [ko] | rw [kr] | simp -dsimp -implicitDefEqProofs only [go_sem, hoo])
  exact ⟨zale, ⟨_, rfl⟩, by rw [engB, h1]; rfl⟩
 repeat (first | rw [ko] | rw [kr] | simp -dsimp -implicitDefEqProofs only [go_sem, rq1, hoo])
 refine pw_intro (specStore_ok (F := fun j => F (j + 14)) (s := e.store) s2) ?_
 rintro _ n2 hn2 rfl
 simp only [hn_up] at hn2
 try (rw [kq]; refine ⟨by simp -dsimp -implicitDefEqProofs only [go_sem, rq1, rq2, rq3, rq4, rq5, rq6, rq7, hoo], ?_⟩)
 cases h2 : storeB e.store
 ·repeat (first | rw [ko] | rw [kr] | simp -dsimp -implicitDefEqProofs only [go_sem, hoo])
  exact ⟨zale, ⟨_, rfl⟩, by rw [engB, h1, h2]; rfl⟩
 by_cases h3 : (e.requests.length : Int) > 10
 ·repeat (first | rw [ko] | rw [kr] | simp -dsimp -implicitDefEqProofs only [go_sem, rq1, hoo, h3])
  exact ⟨zale, ⟨_, rfl⟩, by rw [engB, h1, h2, decide_eq_false (by omega)]; rfl⟩
 obtain ⟨hpl, hrl⟩ := storeB_len h2
 have hB : engB e = (e.requests.all (reqB e) && decide (wantsL e.store.refs.length e.requests = e.store.refs)) := by rw [engB, h1, h2, decide_eq_true (by omega)]; rfl
 repeat (first | rw [ko] | rw [kr] | simp -dsimp -implicitDefEqProofs only [go_sem, rq1, hoo, h3])
 refine make_intro Ai.ty_el25 Ai.ty_zr3 (by decide) ⟨by omega, by simp only [Int.toNat_natCast]; have : Ai.most = 1099511627776 := rfl; omega⟩ ?_
 simp only [hn_up, Int.toNat_natCast]
 have hne0 : (hn g .mk == n2) = false := zne
 repeat (first | rw [ko] | rw [kr] | simp -dsimp -implicitDefEqProofs only [go_sem, rq1, hoo])
 refine lz_keep [1, 3] (fun mm s h' => ∃ (i : Nat), g.le h' ∧ n2 + 1 ≤ hn h' .mk ∧ hg h' (hn g .mk) .mk = some ⟨17, [.raw (.int .i64 e.model.dim), .raw (.int .i64 e.model.heads), .raw (.int .i64 e.model.context), .sl (F 3) 2 (rMergeS e.model.merges), .sl (F 4) 1 (rIntSS e.model.embed), .sl (F 5) 32 (rLayerS e.model.layers), .sl (F 6) 1 (ints e.model.gainEnd), .raw (.int .i64 e.model.head.width), .sl (F 8) 1 (rIntSS e.model.head.rows), .sl (F 9) 1 (rIntSS e.model.head.scales), .raw (.int .i64 e.model.head.mul), .raw (.int .i64 e.model.head.shift), .sl (F 12) 1 (rIntSS e.model.turns.cos), .sl (F 13) 1 (rIntSS e.model.turns.sin), .sl (F 14) 1 (ints e.store.refs), .sl (F 15) 1 (rCellSS e.store.pages), .sl (F 16) 10 (rRequestS e.requests)]⟩ ∧ hg h' n2 .mk = some ⟨1, (wantsL e.store.refs.length (e.requests.take i)).map cI⟩ ∧ look s 4 .mk = .raw (.int .i64 (i : Nat)) ∧ mm + i = e.requests.length ∧ ∀ j, j < i → reqB e (e.requests.getD j default) = true) e.requests.length ?_ ?_
 ·have hne : (hn g .mk == n2) = false := zne
  refine ⟨0, zale, by simp only [hn_push, hn_up]; omega, by simp -dsimp -implicitDefEqProofs only [go_sem, hoo, hne] <;> rfl, ?_, zsm, by omega, fun j hj => by omega⟩
  simp -dsimp -implicitDefEqProofs only [go_sem, hoo, zeros_I]
  rfl
 rintro mm s h' hks ⟨i, hle, hnn, ra, rw0, ei, hmm, hpre⟩
 simp -dsimp -implicitDefEqProofs only [go_sem] at hks
 have hwl : (wantsL e.store.refs.length (e.requests.take i)).length = e.store.refs.length := wants_len
 by_cases q1 : (i : Int) < (e.requests.length : Int)
 ·have q2 : i < e.requests.length := by omega
  have w1 := zwrs i (by omega)
  repeat (first | rw [ko] | rw [kr] | simp -dsimp -implicitDefEqProofs only [go_sem, rq1, hks, ei, q1, ra])
  refine dq_intro [(0, []), (1, []), (2, []), (3, []), (4, []), (5, []), (6, []), (7, [])] (by kernel_rfl) ?_
  repeat (first | rw [ko] | rw [kr] | simp -dsimp -implicitDefEqProofs only [go_sem, rq1, rq2, rq3, q2, ra])
  refine pw_intro (specReq_ok (F := F) (F' := fun j => under (under (F 16) i) j) (r := e.requests.getD i default) h1 h2 hs (s5 i q2) (hrg _ (getD_memR q2)).1) ?_
  rintro _ n3 hn3 rfl
  try (rw [kq]; refine ⟨zsm, ?_⟩)
  cases h4 : reqB e (e.requests.getD i default)
  ·repeat (first | rw [ko] | rw [kr] | simp -dsimp -implicitDefEqProofs only [go_sem])
   refine ⟨le_up hle hn3, ⟨_, rfl⟩, ?_⟩
   rw [hB, Bool.and_eq_false_iff.2 (.inl ?_)]
   rw [List.all_eq_false]
   exact ⟨_, getD_memR q2, by rw [h4]; simp⟩
  obtain ⟨hp16, htb⟩ := reqB_pages h4
  have hpg := (table_t htb).2.2.2
  repeat (first | rw [ko] | rw [kr] | simp -dsimp -implicitDefEqProofs only [go_sem, rq1])
  refine lz_keep [1, 3, 4] (fun m2 s2 h2' => ∃ (k : Nat), g.le h2' ∧ n2 + 1 ≤ hn h2' .mk ∧ hg h2' (hn g .mk) .mk = some ⟨17, [.raw (.int .i64 e.model.dim), .raw (.int .i64 e.model.heads), .raw (.int .i64 e.model.context), .sl (F 3) 2 (rMergeS e.model.merges), .sl (F 4) 1 (rIntSS e.model.embed), .sl (F 5) 32 (rLayerS e.model.layers), .sl (F 6) 1 (ints e.model.gainEnd), .raw (.int .i64 e.model.head.width), .sl (F 8) 1 (rIntSS e.model.head.rows), .sl (F 9) 1 (rIntSS e.model.head.scales), .raw (.int .i64 e.model.head.mul), .raw (.int .i64 e.model.head.shift), .sl (F 12) 1 (rIntSS e.model.turns.cos), .sl (F 13) 1 (rIntSS e.model.turns.sin), .sl (F 14) 1 (ints e.store.refs), .sl (F 15) 1 (rCellSS e.store.pages), .sl (F 16) 10 (rRequestS e.requests)]⟩ ∧ hg h2' n2 .mk = some ⟨1, (((e.requests.getD i default).table.pages.take k).foldl bump (wantsL e.store.refs.length (e.requests.take i))).map cI⟩ ∧ look s2 5 .mk = .raw (.int .i64 (k : Nat)) ∧ m2 + k = (e.requests.getD i default).table.pages.length) (e.requests.getD i default).table.pages.length ?_ ?_
  ·refine ⟨0, le_up hle hn3, by rw [hn_up]; omega, by simp -dsimp -implicitDefEqProofs only [go_sem, ra] <;> rfl, by simp -dsimp -implicitDefEqProofs only [go_sem, rw0] <;> rfl, zsm, by omega⟩
  rintro m2 s2 h2' hks2 ⟨k, hle2, hnn2, rb, rv, ek, hm2⟩
  simp -dsimp -implicitDefEqProofs only [go_sem] at hks2
  have hwi : inB (16 * i) (wantsL e.store.refs.length (e.requests.take i)) := wants_in' (fun j hj => (reqB_pages (hpre j hj)).1) (by omega)
  have hwk := bumps_in (ps := (e.requests.getD i default).table.pages.take k) (B := 16 * i) (by omega) hwi
  have hvl : (((e.requests.getD i default).table.pages.take k).foldl bump (wantsL e.store.refs.length (e.requests.take i))).length = e.store.refs.length := by rw [bumps_len, hwl]
  by_cases q3 : (k : Int) < ((e.requests.getD i default).table.pages.length : Int)
  ·have q4 : k < (e.requests.getD i default).table.pages.length := by omega
   have w2 := zwrs k (by omega)
   obtain ⟨p1, p2, p3⟩ := pgB_t (hpg k q4)
   obtain ⟨p, hp⟩ := Int.eq_ofNat_of_zero_le p1.1
   have k1 : p < e.store.refs.length := by omega
   have hsn := bumps_snoc (ps := (e.requests.getD i default).table.pages) (w := wantsL e.store.refs.length (e.requests.take i)) q4
   generalize hwdef : ((e.requests.getD i default).table.pages.take k).foldl bump (wantsL e.store.refs.length (e.requests.take i)) = w at *
   have hb := hwk p
   have hlk : (((e.requests.getD i default).table.pages.take k).length : Int) ≤ 16 := by rw [List.length_take]; omega
   have w3 : IntKind.i64.wrap (w.getD p default + 1) = w.getD p default + 1 := by rw [wrap_i64] <;> omega
   have gw := get_W (l := w) (i := p) (by omega)
   have ww := wrt_W (l := w) (i := p) (v := w.getD p default + 1) (by omega)
   have hi2 : (0 : Int) ≤ (p : Int) ∧ (p : Int) < (e.store.refs.length : Int) := by omega
   have hbump : bump w ((e.requests.getD i default).table.pages.getD k default) = w.set p (w.getD p default + 1) := by rw [hp]; rfl
   have hne3 : (hn g .mk == n2) = false := zne
   repeat (first | rw [ko] | rw [kr] | simp -dsimp -implicitDefEqProofs only [go_sem, rq1, rq2, rq3, hks2, ek, q2, q3, rb])
   refine dq_intro [(0, []), (1, []), (2, []), (3, []), (4, []), (5, []), (6, []), (7, []), (8, []), (9, []), (10, []), (11, []), (12, []), (13, []), (14, []), (15, []), (16, []), (17, []), (18, []), (19, []), (20, []), (21, []), (22, []), (23, []), (24, []), (25, []), (26, [])] (by kernel_rfl) ?_
   repeat (first | rw [ko] | rw [kr] | simp -dsimp -implicitDefEqProofs only [go_sem, rq1, rq2, rq3, q2, q4, rb, rv, hp, hi2, nat_nn, Int.toNat_natCast, gw, ww, w3, w2, hoo])
   refine nx_keep (m2 - 1) (by omega) zsm ⟨k + 1, le_set hle2 (by omega), by rw [hn_set]; omega, by simp -dsimp -implicitDefEqProofs only [go_sem, hne3, rb], ?_, zsm, by omega⟩
   rw [hsn, hbump]
   simp -dsimp -implicitDefEqProofs only [go_sem, hoo]
  ·repeat (first | rw [ko] | rw [kr] | simp -dsimp -implicitDefEqProofs only [go_sem, rq1, rq2, rq3, hks2, ek, q2, q3, rb, w1])
   have hkk : k = (e.requests.getD i default).table.pages.length := by omega
   refine nx_keep (mm - 1) (by omega) zsm ⟨i + 1, hle2, hnn2, by simp -dsimp -implicitDefEqProofs only [go_sem, rb], ?_, zsm, by omega, fun j hj => ?_⟩
   ·rw [rv, hkk, List.take_length, wants_snoc q2]
   ·by_cases hji : j = i
    ·subst hji; exact h4
    ·exact hpre j (by omega)
 repeat (first | rw [ko] | rw [kr] | simp -dsimp -implicitDefEqProofs only [go_sem, rq1, hks, ei, q1, ra])
 have hii : i = e.requests.length := by omega
 rw [hii, List.take_length] at rw0 hwl
 have hall : e.requests.all (reqB e) = true := by
  rw [List.all_eq_true]
  intro x hx
  obtain ⟨j, hj, rfl⟩ := List.getElem_of_mem hx
  have := hpre j (by omega)
  rwa [List.getD_eq_getElem?_getD, List.getElem?_eq_getElem hj] at this
 rw [hB, hall, Bool.true_and]
 generalize hwdef : wantsL e.store.refs.length e.requests = w at *
 refine lz_keep [1, 3] (fun m3 s3 h3' => ∃ (k : Nat), h3' = h' ∧ look s3 6 .mk = .raw (.int .i64 (k : Nat)) ∧ m3 + k = e.store.refs.length ∧ ∀ j, j < k → w.getD j default = e.store.refs.getD j default) e.store.refs.length ?_ ?_
 ·exact ⟨0, rfl, zsm, by omega, fun j hj => by omega⟩
 rintro m3 s3 _ hks3 ⟨k, rfl, ek, hm3, hpre3⟩
 simp -dsimp -implicitDefEqProofs only [go_sem, rq1] at hks3
 by_cases q3 : (k : Int) < (e.store.refs.length : Int)
 ·have q4 : k < e.store.refs.length := by omega
  have w2 := zwrs k (by omega)
  have gw := get_W (l := w) (i := k) (by omega)
  have hi2 : (0 : Int) ≤ (k : Int) ∧ (k : Int) < (e.store.refs.length : Int) := by omega
  by_cases q5 : w.getD k default = e.store.refs.getD k default
  ·have e5 : decide (¬ w.getD k default = e.store.refs.getD k default) = false := decide_eq_false (fun h => h q5)
   repeat (first | rw [ko] | rw [kr] | simp -dsimp -implicitDefEqProofs only [go_sem, rq1, hks3, ek, q3])
   refine dq_intro [(0, []), (1, []), (2, []), (3, []), (4, []), (5, []), (6, []), (7, []), (8, []), (9, []), (10, [])] (by kernel_rfl) ?_
   repeat (first | rw [ko] | rw [kr] | simp -dsimp -implicitDefEqProofs only [go_sem, rq1, q3, q4, ra, rw0, hi2, Int.toNat_natCast, gw, e5, w2])
   refine nx_keep (m3 - 1) (by omega) zsm ⟨k + 1, rfl, zsm, by omega, fun j hj => ?_⟩
   by_cases hji : j = k
   ·subst hji; exact q5
   ·exact hpre3 j (by omega)
  ·have e5 : decide (¬ w.getD k default = e.store.refs.getD k default) = true := decide_eq_true q5
   repeat (first | rw [ko] | rw [kr] | simp -dsimp -implicitDefEqProofs only [go_sem, rq1, hks3, ek, q3])
   refine dq_intro [(0, []), (1, []), (2, []), (3, []), (4, []), (5, []), (6, []), (7, []), (8, []), (9, []), (10, [])] (by kernel_rfl) ?_
   repeat (first | rw [ko] | rw [kr] | simp -dsimp -implicitDefEqProofs only [go_sem, rq1, q3, q4, ra, rw0, hi2, Int.toNat_natCast, gw, e5])
   exact ⟨hle, ⟨_, rfl⟩, by rw [decide_eq_false fun h => q5 (by rw [h])]⟩
 ·repeat (first | rw [ko] | rw [kr] | simp -dsimp -implicitDefEqProofs only [go_sem, rq1, hks3, ek, q3])
  refine ⟨hle, ⟨_, rfl⟩, ?_⟩
  rw [decide_eq_true]
  refine List.ext_getElem (by omega) fun j a b => ?_
  have := hpre3 j (by omega)
  rwa [List.getD_eq_getElem?_getD, List.getD_eq_getElem?_getD, List.getElem?_eq_getElem a, List.getElem?_eq_getElem b] at this
end Go.Bi
end
section
set_option maxRecDepth 20000
namespace Go.Bi
open Go.Proofs
open Go.Ai (wrap_i64 wrap_u8 Heap)
variable {W0 : World} {P : Program}
theorem hobE (b : Bool) : (b == b) = true := by simp
attribute [go_sem] hobE
theorem eqEngine_tree {g : H2} {c : LEngine} {bs bs' : List Nat} {ys ys' : List X} (o : OTs g bs ys (eEngine c)) (o' : OTs g bs' ys' (eEngine c)) (hf : fitEngine c) : PW Tryz.prog W0 8 [.st ys, .st ys'] g (fun y => y = .raw (.bool true)) := by
 obtain ⟨F, hF⟩ := o.lent
 obtain ⟨F', hF'⟩ := o'.lent
 exact PW.lend (.cons hF (.cons hF' .nil)) (eqEngine_ok (F := F) (F' := F') hf) (fun y h => by subst h; exact .raw)
end Go.Bi
end
section
namespace Go.Bi
open Go.Proofs
def occ (t s : ByteArray) (i : Nat) : Bool := Lib.occAt (lsb t) (lsb s) i
def ixB (t s : ByteArray) : Int := Lib.index t.data.toList s.data.toList
def FindP (t : ByteArray) (ss : List ByteArray) (r : Int) : Prop :=
 (r = -1 ∧ ∀ i, ∀ s ∈ ss, 0 < s.size → occ t s i = false) ∨ ∃ i : Nat, r = (i : Int) ∧ (∃ s ∈ ss, 0 < s.size ∧ occ t s i = true) ∧ ∀ j, j < i → ∀ s ∈ ss, 0 < s.size → occ t s j = false
theorem FindP.one {t : ByteArray} {ss : List ByteArray} {r r' : Int} (h : FindP t ss r) (h' : FindP t ss r') : r = r' := by
 rcases h with ⟨rfl, h⟩ | ⟨i, rfl, ⟨s, hs, h0, h1⟩, h⟩
 ·rcases h' with ⟨rfl, h'⟩ | ⟨i, rfl, ⟨s, hs, h0, h1⟩, h'⟩
  ·rfl
  ·rw [h i s hs h0] at h1; cases h1
 ·rcases h' with ⟨rfl, h'⟩ | ⟨i', rfl, ⟨s', hs', h0', h1'⟩, h'⟩
  ·rw [h' i s hs h0] at h1; cases h1
  ·by_cases hlt : i < i'
   ·rw [h' i hlt s hs h0] at h1; cases h1
   ·by_cases hgt : i' < i
    ·rw [h i' hgt s' hs' h0'] at h1'; cases h1'
    ·congr 1; omega
theorem occ_room {t s : ByteArray} {i : Nat} (h0 : 0 < s.size) (h : occ t s i = true) : i + s.size ≤ t.size := by
 have h1 : lsb s <+: (lsb t).drop i := List.isPrefixOf_iff_prefix.1 h
 have h2 := h1.length_le
 rw [List.length_drop] at h2
 have e1 : (lsb s).length = s.size := rfl
 have e2 : (lsb t).length = t.size := rfl
 omega
theorem lsb_extract {s : ByteArray} {a b : Nat} : lsb (s.extract a b) = ((lsb s).drop a).take (b - a) := by
 simp only [lsb, ByteArray.data_extract, Array.toList_extract, List.extract]
theorem occ_eq {t s : ByteArray} {i : Nat} (h : i + s.size ≤ t.size) : occ t s i = ((t.extract i (i + s.size)).toList == s.toList) := by
 have e0 : ∀ {x : ByteArray}, x.toList = lsb x := fun {x} => ByteArray.toList_eq x
 have e1 : lsb (t.extract i (i + s.size)) = ((lsb t).drop i).take s.size := by
  rw [lsb_extract]; congr 1; omega
 rw [e0, e0, e1, Bool.eq_iff_iff, beq_iff_eq]
 show (lsb s).isPrefixOf ((lsb t).drop i) = true ↔ _
 rw [List.isPrefixOf_iff_prefix, List.prefix_iff_eq_take]
 exact eq_comm
def stepF (t : ByteArray) (r : Int) (s : ByteArray) : Int := if 0 < s.size ∧ 0 ≤ ixB t s ∧ (r < 0 ∨ ixB t s < r) then ixB t s else r
def firstP (t : ByteArray) (ss : List ByteArray) : Int := ss.foldl (stepF t) (-1)
theorem firstP_take {t : ByteArray} {ss : List ByteArray} {k : Nat} (hk : k < ss.length) : firstP t (ss.take (k + 1)) = stepF t (firstP t (ss.take k)) (ss.getD k default) := by
 unfold firstP
 rw [List.take_succ_eq_append_getElem hk, List.foldl_append, List.getD_eq_getElem?_getD, List.getElem?_eq_getElem hk]; rfl
theorem find_step {t s : ByteArray} {ss : List ByteArray} {r : Int} (h : FindP t ss r) : FindP t (ss ++ [s]) (stepF t r s) := by
  have all : ∀ {i : Nat}, (∀ u ∈ ss, 0 < u.size → occ t u i = false) → (0 < s.size → occ t s i = false) → ∀ u ∈ ss ++ [s], 0 < u.size → occ t u i = false := fun h1 h2 u hu h0 => by
    rcases List.mem_append.1 hu with hu | hu
    · exact h1 u hu h0
    · simp at hu; subst hu; exact h2 h0
  by_cases h0 : 0 < s.size
  · have far : ∀ j, (lsb t).length < j → occ t s j = false := fun j hj => by
      cases ho : occ t s j
      · rfl
      · have := occ_room h0 ho
        have e : (lsb t).length = t.size := rfl
        omega
    rcases Lib.index_spec (lsb t) (lsb s) with ⟨hi, hno⟩ | ⟨i, hi, hle, ho, hno⟩
    · have hn : ∀ j, occ t s j = false := fun j => by
        by_cases hj : j ≤ (lsb t).length
        · exact hno j hj
        · exact far j (by omega)
      have e : stepF t r s = r := by
        unfold stepF
        rw [if_neg]
        intro hh
        have : ixB t s = -1 := hi
        omega
      rw [e]
      rcases h with ⟨rfl, h⟩ | ⟨i, rfl, ⟨u, hu, hu0, hu1⟩, h⟩
      · exact .inl ⟨rfl, fun i => all (h i) fun _ => hn i⟩
      · exact .inr ⟨i, rfl, ⟨u, List.mem_append_left _ hu, hu0, hu1⟩, fun j hj => all (h j hj) fun _ => hn j⟩
    · have hix : ixB t s = (i : Int) := hi
      have ho' : occ t s i = true := ho
      have hno' : ∀ j, j < i → occ t s j = false := fun j hj => hno j hj
      unfold stepF
      rw [hix]
      rcases h with ⟨rfl, h⟩ | ⟨k, rfl, ⟨u, hu, hu0, hu1⟩, h⟩
      · rw [if_pos ⟨h0, by omega, .inl (by omega)⟩]
        exact .inr ⟨i, rfl, ⟨s, by simp, h0, ho'⟩, fun j hj => all (h j) fun _ => hno' j hj⟩
      · by_cases hik : i < k
        · rw [if_pos ⟨h0, by omega, .inr (by omega)⟩]
          exact .inr ⟨i, rfl, ⟨s, by simp, h0, ho'⟩, fun j hj => all (h j (by omega)) fun _ => hno' j hj⟩
        · rw [if_neg (by omega)]
          exact .inr ⟨k, rfl, ⟨u, List.mem_append_left _ hu, hu0, hu1⟩, fun j hj => all (h j hj) fun _ => hno' j (by omega)⟩
  · have e : stepF t r s = r := by
      unfold stepF
      rw [if_neg (fun hh => h0 hh.1)]
    rw [e]
    rcases h with ⟨rfl, h⟩ | ⟨i, rfl, ⟨u, hu, hu0, hu1⟩, h⟩
    · exact .inl ⟨rfl, fun i => all (h i) fun h => absurd h h0⟩
    · exact .inr ⟨i, rfl, ⟨u, List.mem_append_left _ hu, hu0, hu1⟩, fun j hj => all (h j hj) fun h => absurd h h0⟩
theorem find_first {t : ByteArray} {ss : List ByteArray} : FindP t ss (firstP t ss) := by
 have key : ∀ k, k ≤ ss.length → FindP t (ss.take k) (firstP t (ss.take k)) := by
  intro k
  induction k with
  | zero => intro _; exact .inl ⟨rfl, fun i s hs => by simp at hs⟩
  | succ k ih =>
   intro hk
   rw [firstP_take (show k < ss.length by omega), List.take_succ_eq_append_getElem (show k < ss.length by omega)]
   have := find_step (s := ss[k]) (ih (by omega))
   rw [List.getD_eq_getElem?_getD, List.getElem?_eq_getElem (show k < ss.length by omega)]
   exact this
 have := key ss.length (Nat.le_refl _)
 rwa [List.take_length] at this
theorem first_rng {t : ByteArray} {ss : List ByteArray} : firstP t ss = -1 ∨ (0 ≤ firstP t ss ∧ firstP t ss ≤ t.size) := by
 rcases find_first (t := t) (ss := ss) with ⟨h, _⟩ | ⟨i, h, ⟨s, _, h0, h1⟩, _⟩
 ·exact .inl h
 ·have := occ_room h0 h1
  right; omega
def decT (l : List LMerge) (ts : List Int) : ByteArray := if tokB l ts = true then decS l ts else ⟨#[]⟩
theorem decR_eq {l : List LMerge} {ts : List Int} : decR l ts = .tp [.raw (.string (decT l ts)), .raw (.bool (tokB l ts))] := by
 unfold decR decT; cases tokB l ts <;> rfl
theorem decT_size {l : List LMerge} {ts : List Int} : (decT l ts).size ≤ 12800 := by
 unfold decT
 split
 ·rename_i h
  obtain ⟨⟨l16, hr⟩, h200, hts⟩ := tok_facts h
  have := decS_size hr hts
  omega
 ·show 0 ≤ _; omega
def stopT (t : ByteArray) (ss : List ByteArray) : ByteArray := if firstP t ss < 0 then t else t.extract 0 (firstP t ss).toNat
def stopR (t : ByteArray) (ss : List ByteArray) : X := .tp [.raw (.string (stopT t ss)), .raw (.bool (!decide (firstP t ss < 0)))]
end Go.Bi
end
section
set_option maxRecDepth 20000
namespace Go.Proofs
open Go.Shelf
def Tryz.lays143_ren : Go.Shelf.Ren := ⟨fun | 143 => 75 | 219 => 109 | 217 => 139 | 225 => 140 | 224 => 141 | 267 => 142 | 266 => 168 | 314 => 169 | n => n, fun | 9 => 9 | 3 => 3 | 4 => 4 | 5 => 5 | 46 => 104 | 146 => 210 | 51 => 209 | n => n, fun | 1 => 0 | n => n⟩
theorem Tryz.lays143 : Go.Proofs.LaysM.n143 Tryz.prog Tryz.lays143_ren := {
  mixed := by kernel_rfl
  f143 := Tryz.func75.trans (congrArg some (by kernel_rfl))
  f217 := Tryz.func139.trans (congrArg some (by kernel_rfl))
  f219 := Tryz.func109.trans (congrArg some (by kernel_rfl))
  f224 := Tryz.func141.trans (congrArg some (by kernel_rfl))
  f225 := Tryz.func140.trans (congrArg some (by kernel_rfl))
  f266 := Tryz.func168.trans (congrArg some (by kernel_rfl))
  f267 := Tryz.func142.trans (congrArg some (by kernel_rfl))
  f314 := Tryz.func169.trans (congrArg some (by kernel_rfl))
  t3 := Tryz.underlying3
  a3 := Tryz.isAgg3
  z3 := Tryz.sizeOf3
  v3 := Tryz.zeroValue3
  t4 := Tryz.underlying4
  a4 := Tryz.isAgg4
  z4 := Tryz.sizeOf4
  v4 := Tryz.zeroValue4
  t5 := Tryz.underlying5
  a5 := Tryz.isAgg5
  z5 := Tryz.sizeOf5
  v5 := Tryz.zeroValue5
  t9 := Tryz.underlying9
  a9 := Tryz.isAgg9
  z9 := Tryz.sizeOf9
  v9 := Tryz.zeroValue9
  t46 := Tryz.underlying104
  a46 := Tryz.isAgg104
  z46 := Tryz.sizeOf104
  v46 := Tryz.zeroValue104
  t51 := Tryz.underlying209
  a51 := Tryz.isAgg209
  z51 := Tryz.sizeOf209
  v51 := Tryz.zeroValue209
  t146 := Tryz.underlying210
  a146 := Tryz.isAgg210
  z146 := Tryz.sizeOf210
  v146 := Tryz.zeroValue210
  g1 := by kernel_rfl
  i3 := by kernel_rfl
  i4 := by kernel_rfl
  i5 := by kernel_rfl
  i9 := by kernel_rfl
  i46 := by kernel_rfl
  i51 := by kernel_rfl
  i146 := by kernel_rfl
  m1 := by kernel_rfl
  s1_3 := fun w h => Go.Proofs.cell_of_shapedOpen_int (zero := #[.int .i64 0]) (t := 3) h (of_decide_eq_true (by kernel_rfl)) (by kernel_rfl) rfl (by kernel_rfl) (by kernel_rfl) Tryz.underlying3 }
end Go.Proofs
namespace Go.Bi
open Go.Proofs
variable {W0 : World} {P : Program}
def Lng (W0 : World) : Prop := ∃ m, W0.cell? ⟨0, 0, none⟩ = some (.int .i64 m)
theorem lng_of {W : World} (h : W.ShapedOpen Tryz.prog) : Lng W := Tryz.lays143.s1_3 W h
theorem index_ok {s t : ByteArray} {g : H2} (hW : Lng W0) (hs : s.size < 4294967281) : WC2 Tryz.prog W0 75 [.raw (.string s), .raw (.string t)] g (fun x g' => x = .raw (.int .i64 (Lib.index s.data.toList t.data.toList)) ∧ g' = g) := by
  intro h sg _
  refine ⟨by kernel_rfl, fun ι w args' sim ha => ?_⟩
  obtain ⟨m, hm⟩ := hW
  obtain ⟨args'⟩ := args'
  have ha' : args' = [.string s, .string t] := by
    cases ha with
    | cons a b => cases b with
      | cons c d => cases d; 
                    have a' : _ = Value.string s := a
                    have c' : _ = Value.string t := c
                    rw [a', c']
  subst ha'
  have hm' : w.cell? ⟨0, 0, none⟩ = some (.int .i64 m) := by
    rw [← hm]
    unfold World.cell?
    have hlt : 0 < W0.heap.size := by
      by_cases hx : 0 < W0.heap.size
      · exact hx
      · exfalso
        unfold World.cell? at hm
        rw [Array.getElem?_eq_none (by omega)] at hm
        cases hm
    rw [(sim.base _ hlt).2.1]
  refine (Any.strings_Index { Tryz.lays143 with } s t m w hs hm').mono ?_
  rintro e w' ⟨rfl, rfl⟩
  exact ⟨.int .i64 (Lib.index s.data.toList t.data.toList), _, h, ι, rfl, Go.Ai.Ren.le_refl _, sim, rfl, .raw (.int .i64 (Lib.index s.data.toList t.data.toList)), g, rfl, sg, Ext.refl, .raw, rfl, rfl⟩
end Go.Bi
end
section
set_option maxRecDepth 20000
namespace Go.Bi
open Go.Proofs
open Go.Ai (wrap_i64 wrap_u8 Heap)
variable {W0 : World} {P : Program}
set_option maxHeartbeats 4000000
def strK (s : ByteArray) (hh l : Option Nat) : Option X := match hh, l with
 | some hh, some l => some (.raw (.string (s.extract l hh)))
 | _, _ => none
theorem strK_some {s : ByteArray} {hh l : Nat} : strK s (some hh) (some l) = some (.raw (.string (s.extract l hh))) := rfl
theorem slice_strK {t : TypeId} {h : H2} {s : ByteArray} {lo hi : Option X} (hc : Go.Ai.cls? P t = some .str) :
  slicez P h t (.raw (.string s)) lo hi none .mk = strK s (boundX s.size hi s.size) (bndL (boundX s.size hi s.size) lo) := by
 simp only [slicez, sliceX, hc, Option.isSome_none, Bool.false_eq_true, if_false, strK, bndL]
 cases boundX s.size hi s.size with
 | none => rfl
 | some hh => dsimp only; cases boundX hh lo 0 <;> rfl
attribute [go_sem] strK_some slice_strK
theorem find_ok {f : Adr} {t : ByteArray} {ss : List ByteArray} {g : H2} (ht : t.size ≤ 1048576) (hs : ss.length ≤ 1048576) (hz : ∀ s ∈ ss, s.size ≤ 1048576) : PW Tryz.prog W0 67 [.raw (.string t), .sl f 1 (strs ss)] g (fun y => y = .raw (.int .i64 (firstP t ss))) := by
 refine PW.scalar ((?_ : WC2 _ _ _ _ _ fun v g' => g' = g ∧ ∃ r, v = .raw (.int .i64 r) ∧ FindP t ss r).mono fun v g' ⟨h1, r, h2, h3⟩ => ⟨by rw [h1]; exact H2.le.refl _, ⟨_, h2⟩, by rw [h2, h3.one find_first]⟩)
 refine begins [[0, 1], [0, 1], [0, 1, 5], [0, 1, 5], [0, 1, 5], [0, 1, 5, 6], [0, 1, 5, 6], [0, 1, 5, 6], [0, 1, 5, 6, 7], [5], []] Tryz.func67 rfl (rs := [.tmp 4]) rfl rfl ?_
 intro wf
 repeat (first | rw [ko] | rw [kr] | simp -dsimp -implicitDefEqProofs only [go_sem])
 refine lz_keep [0, 1] (fun m e h' => ∃ (i : Nat), h' = g ∧ look e 5 .mk = .raw (.int .i64 (i : Nat)) ∧ m + i = t.size ∧ ∀ j, j < i → ∀ s ∈ ss, 0 < s.size → occ t s j = false) t.size ?_ ?_
 ·exact ⟨0, rfl, zsm, by omega, fun j hj => by omega⟩
 ·rintro m e h' hks ⟨i, rfl, e5, hm, hpre⟩
  simp -dsimp -implicitDefEqProofs only [go_sem, rq1] at hks
  by_cases h1 : (i : Int) < (t.size : Int)
  ·have w1 := zwrs i (by omega)
   repeat (first | rw [ko] | rw [kr] | simp -dsimp -implicitDefEqProofs only [go_sem, rq1, hks, e5, h1])
   refine lz_keep [0, 1, 5] (fun m2 e2 h2' => ∃ (k : Nat), h2' = h' ∧ look e2 6 .mk = .raw (.int .i64 (k : Nat)) ∧ m2 + k = ss.length ∧ ∀ q, q < k → 0 < (ss.getD q default).size → occ t (ss.getD q default) i = false) ss.length ?_ ?_
   ·exact ⟨0, rfl, zsm, by omega, fun j hj => by omega⟩
   ·rintro m2 e2 _ hks2 ⟨k, rfl, e6, hm2, hpre2⟩
    simp -dsimp -implicitDefEqProofs only [go_sem, rq1] at hks2
    by_cases h2 : (k : Int) < (ss.length : Int)
    ·have h3 : k < ss.length := by omega
     have w2 := zwrs k (by omega)
     have hmem : ss.getD k default ∈ ss := by rw [List.getD_eq_getElem?_getD, List.getElem?_eq_getElem h3]; exact List.getElem_mem h3
     have hkz := hz _ hmem
     repeat (first | rw [ko] | rw [kr] | simp -dsimp -implicitDefEqProofs only [go_sem, rq1, hks2, e6, h2, h3])
     refine dq_intro [(0, []), (1, []), (2, []), (3, []), (4, []), (5, []), (6, []), (7, []), (8, []), (9, []), (10, []), (11, []), (12, []), (13, []), (14, []), (15, []), (16, []), (17, []), (18, []), (19, []), (20, []), (21, []), (22, [])] (by kernel_rfl) ?_
     have w3 : IntKind.i64.wrap ((i : Int) + ((ss.getD k default).size : Int)) = ((i + (ss.getD k default).size : Nat) : Int) := by rw [wrap_i64] <;> omega
     have next : (0 < (ss.getD k default).size → occ t (ss.getD k default) i = false) → ∀ q, q < k + 1 → 0 < (ss.getD q default).size → occ t (ss.getD q default) i = false := fun hn q hq h0 => by
      by_cases hqk : q = k
      ·subst hqk; exact hn h0
      ·exact hpre2 q (by omega) h0
     by_cases h4 : ((ss.getD k default).size : Int) > 0
     ·by_cases h5 : ((i + (ss.getD k default).size : Nat) : Int) ≤ (t.size : Int)
      ·have b2 : (i : Int) ≤ ((i + (ss.getD k default).size : Nat) : Int) := by omega
       have ho := occ_eq (t := t) (s := ss.getD k default) (i := i) (by omega)
       repeat (first | rw [ko] | rw [kr] | simp -dsimp -implicitDefEqProofs only [go_sem, rq1, h3, h4, h5, w3, b2, ← ho])
       cases hoc : occ t (ss.getD k default) i
       ·repeat (first | rw [ko] | rw [kr] | simp -dsimp -implicitDefEqProofs only [go_sem, rq1, w2])
        exact nx_keep (m2 - 1) (by omega) zsm ⟨k + 1, rfl, zsm, by omega, next fun _ => hoc⟩
       ·repeat (first | rw [ko] | rw [kr] | simp -dsimp -implicitDefEqProofs only [go_sem, rq1])
        exact ⟨rfl, _, rfl, .inr ⟨i, rfl, ⟨_, hmem, by omega, hoc⟩, hpre⟩⟩
      ·repeat (first | rw [ko] | rw [kr] | simp -dsimp -implicitDefEqProofs only [go_sem, rq1, h4, h5, w3, w2])
       refine nx_keep (m2 - 1) (by omega) zsm ⟨k + 1, rfl, zsm, by omega, next fun h0 => ?_⟩
       cases ho : occ t (ss.getD k default) i
       ·rfl
       ·have := occ_room h0 ho; omega
     ·repeat (first | rw [ko] | rw [kr] | simp -dsimp -implicitDefEqProofs only [go_sem, rq1, h4, w2])
      exact nx_keep (m2 - 1) (by omega) zsm ⟨k + 1, rfl, zsm, by omega, next fun h0 => absurd h0 (by omega)⟩
    ·repeat (first | rw [ko] | rw [kr] | simp -dsimp -implicitDefEqProofs only [go_sem, rq1, hks2, e6, h2, w1])
     refine nx_keep (m - 1) (by omega) zsm ⟨i + 1, rfl, zsm, by omega, fun j hj s hs h0 => ?_⟩
     by_cases hji : j = i
     ·subst hji
      obtain ⟨q, hq, rfl⟩ := List.getElem_of_mem hs
      have := hpre2 q (by omega)
      rw [List.getD_eq_getElem?_getD, List.getElem?_eq_getElem hq] at this
      exact this h0
     ·exact hpre j (by omega) s hs h0
  ·repeat (first | rw [ko] | rw [kr] | simp -dsimp -implicitDefEqProofs only [go_sem, rq1, hks, e5, h1])
   refine ⟨rfl, _, rfl, .inl ⟨rfl, fun j s hs h0 => ?_⟩⟩
   by_cases hj : j < i
   ·exact hpre j hj s hs h0
   ·cases ho : occ t s j
    ·rfl
    ·have := occ_room h0 ho; omega
theorem implStopped_ok {F F' : Nat → Adr} {f : Adr} {m : LModel} {c : LConfig} {ts : List Int} {g : H2} (hW : Lng W0) (hl : m.merges.length ≤ 1048576) (ht : ts.length ≤ 1048576) (hs : c.stops.length ≤ 1048576) : PW Tryz.prog W0 47 [.st (xModel F m), .st (xConfig F' c), .sl f 1 (ints ts)] g (fun y => y = stopR (decT m.merges ts) c.stops) := by
  refine PW.plainK ?_
  refine begins [[0, 1, 2], [2, 3, 4], [4, 8], [4, 8, 10], [8, 10, 22, 23, 24], [8, 10, 22, 23, 24], [8, 10, 12, 22, 23, 24], [8, 10, 12, 13, 22, 23, 24], [8, 13, 22, 23, 24], [8, 10, 22, 23, 24], [8, 10], [8], [8, 10]] Tryz.func47 rfl (rs := [.tmp 6, .tmp 7]) rfl rfl ?_
  intro wf
  repeat (first | rw [ko] | rw [kr] | simp -dsimp -implicitDefEqProofs only [go_sem, rq1, hoo])
  refine pw_intro (implDecode_ok hl ht) ?_
  rintro _ n1 hn1 rfl
  simp only [hn_push] at hn1
  rw [decR_eq]
  repeat (first | rw [ko] | rw [kr] | simp -dsimp -implicitDefEqProofs only [go_sem, rq1, hoo])
  have hd := @decT_size m.merges ts
  generalize decT m.merges ts = t at *
  refine lz_keep [8, 22, 23] (fun mm e h' => ∃ (i : Nat), g.le h' ∧ look e 24 .mk = .raw (.int .i64 (i : Nat)) ∧ look e 10 .mk = .raw (.int .i64 (firstP t (c.stops.take i))) ∧ mm + i = c.stops.length) c.stops.length ?_ ?_
  · exact ⟨0, le_up (le_push (le_push (H2.le.refl _))) (by rw [hn_push, hn_push]; omega), zsm, by simp -dsimp -implicitDefEqProofs only [go_sem, rq1] <;> rfl, by omega⟩
  · rintro mm e h' hks ⟨i, lg, e24, e10, hm⟩
    simp -dsimp -implicitDefEqProofs only [go_sem, rq1] at hks
    by_cases h3 : (i : Int) < (c.stops.length : Int)
    · have h4 : i < c.stops.length := by omega
      have w1 := zwrs i (by omega)
      repeat (first | rw [ko] | rw [kr] | simp -dsimp -implicitDefEqProofs only [go_sem, rq1, hks, e24, e10, h3, h4])
      refine wz_intro (index_ok hW (by omega)) ?_
      rintro _ g1 ⟨rfl, rfl⟩
      have hft := firstP_take (t := t) h4
      unfold stepF ixB at hft
      generalize hss : c.stops.getD i default = s at *
      generalize hix : Lib.index t.data.toList s.data.toList = ix at *
      generalize hfr : firstP t (c.stops.take i) = r at *
      by_cases q0 : 0 < s.size
      · have e0 : (s.toList == (ByteArray.mk #[]).toList) = false := by
          cases hb : (s.toList == (ByteArray.mk #[]).toList)
          · rfl
          · rw [ByteArray.toList_eq, ByteArray.toList_eq, beq_iff_eq] at hb
            have := congrArg List.length hb
            have e : s.data.toList.length = s.size := rfl
            rw [e] at this
            have h2 : s.size = 0 := this
            omega
        by_cases q1 : 0 ≤ ix
        · by_cases q2 : r < 0
          · rw [if_pos ⟨q0, q1, .inl q2⟩] at hft
            repeat (first | rw [ko] | rw [kr] | simp -dsimp -implicitDefEqProofs only [go_sem, rq1, e0, q1, q2, w1])
            exact nx_keep (mm - 1) (by omega) zsm ⟨i + 1, lg, zsm, by simp -dsimp -implicitDefEqProofs only [go_sem, rq1, hft], by omega⟩
          · by_cases q3 : ix < r
            · rw [if_pos ⟨q0, q1, .inr q3⟩] at hft
              repeat (first | rw [ko] | rw [kr] | simp -dsimp -implicitDefEqProofs only [go_sem, rq1, e0, q1, q2, q3, w1])
              exact nx_keep (mm - 1) (by omega) zsm ⟨i + 1, lg, zsm, by simp -dsimp -implicitDefEqProofs only [go_sem, rq1, hft], by omega⟩
            · rw [if_neg (by omega)] at hft
              repeat (first | rw [ko] | rw [kr] | simp -dsimp -implicitDefEqProofs only [go_sem, rq1, e0, q1, q2, q3, w1])
              exact nx_keep (mm - 1) (by omega) zsm ⟨i + 1, lg, zsm, by simp -dsimp -implicitDefEqProofs only [go_sem, rq1, hft], by omega⟩
        · rw [if_neg (by omega)] at hft
          repeat (first | rw [ko] | rw [kr] | simp -dsimp -implicitDefEqProofs only [go_sem, rq1, e0, q1, w1])
          exact nx_keep (mm - 1) (by omega) zsm ⟨i + 1, lg, zsm, by simp -dsimp -implicitDefEqProofs only [go_sem, rq1, hft], by omega⟩
      · have e0 : (s.toList == (ByteArray.mk #[]).toList) = true := by
          rw [ByteArray.toList_eq, ByteArray.toList_eq, beq_iff_eq]
          have e : s.data.toList.length = s.size := rfl
          exact List.eq_nil_of_length_eq_zero (by omega)
        rw [if_neg (by omega)] at hft
        repeat (first | rw [ko] | rw [kr] | simp -dsimp -implicitDefEqProofs only [go_sem, rq1, e0, w1])
        exact nx_keep (mm - 1) (by omega) zsm ⟨i + 1, lg, zsm, by simp -dsimp -implicitDefEqProofs only [go_sem, rq1, hft], by omega⟩
    · obtain rfl : i = c.stops.length := by omega
      rw [List.take_length] at e10
      have hr := @first_rng t c.stops
      repeat (first | rw [ko] | rw [kr] | simp -dsimp -implicitDefEqProofs only [go_sem, rq1, hks, e24, e10, h3])
      refine gz_dec (fun h1 => ?_) (fun h1 => ?_)
      · repeat (first | rw [ko] | rw [kr] | simp -dsimp -implicitDefEqProofs only [go_sem, rq1])
        exact ⟨lg, .inr ⟨[_, _], rfl⟩, by rw [stopR, stopT, if_pos h1, decide_eq_true h1]; rfl⟩
      · obtain ⟨k, hk⟩ : ∃ k : Nat, firstP t c.stops = (k : Int) := ⟨(firstP t c.stops).toNat, by omega⟩
        have b1 : (k : Int) ≤ (t.size : Int) := by omega
        rw [stopR, stopT, if_neg h1, decide_eq_false h1]
        rw [hk] at h1 e10 ⊢
        repeat (first | rw [ko] | rw [kr] | simp -dsimp -implicitDefEqProofs only [go_sem, rq1, b1])
        exact ⟨lg, .inr ⟨[_, _], rfl⟩, rfl⟩
theorem specStopped_ok {F F' : Nat → Adr} {f : Adr} {m : LModel} {c : LConfig} {ts : List Int} {g : H2} (hl : m.merges.length ≤ 1048576) (ht : ts.length ≤ 1048576) (hs : c.stops.length ≤ 1048576) (hz : ∀ s ∈ c.stops, s.size ≤ 1048576) : PW Tryz.prog W0 35 [.st (xModel F m), .st (xConfig F' c), .sl f 1 (ints ts)] g (fun y => y = stopR (decT m.merges ts) c.stops) := by
 refine PW.plainK ?_
 refine begins [[0, 1, 2], [2, 3, 4], [4, 8], [8, 10], [8], [8, 10]] Tryz.func35 rfl (rs := [.tmp 6, .tmp 7]) rfl rfl ?_
 intro wf
 repeat (first | rw [ko] | rw [kr] | simp -dsimp -implicitDefEqProofs only [go_sem, rq1, hoo])
 refine pw_intro (specDecode_ok hl ht) ?_
 rintro _ n1 hn1 rfl
 simp only [hn_push] at hn1
 rw [decR_eq]
 repeat (first | rw [ko] | rw [kr] | simp -dsimp -implicitDefEqProofs only [go_sem, rq1, hoo])
 refine pw_intro (find_ok (by have := @decT_size m.merges ts; omega) hs hz) ?_
 rintro _ n2 hn2 rfl
 simp only [hn_up] at hn2
 have hd := @decT_size m.merges ts
 generalize decT m.merges ts = t at *
 have hr := @first_rng t c.stops
 repeat (first | rw [ko] | rw [kr] | simp -dsimp -implicitDefEqProofs only [go_sem, rq1, hoo])
 have LL : ∀ (k1 k2 : OB), g.le ((((g.push k1).push k2).up n1).up n2) := fun k1 k2 => le_up (le_up (le_push (le_push (H2.le.refl _))) (by rw [hn_push, hn_push]; omega)) (by rw [hn_up]; omega)
 refine gz_dec (fun h1 => ?_) (fun h1 => ?_)
 ·repeat (first | rw [ko] | rw [kr] | simp -dsimp -implicitDefEqProofs only [go_sem, rq1])
  exact ⟨LL _ _, .inr ⟨[_, _], rfl⟩, by rw [stopR, stopT, if_pos h1, decide_eq_true h1]; rfl⟩
 ·obtain ⟨k, hk⟩ : ∃ k : Nat, firstP t c.stops = (k : Int) := ⟨(firstP t c.stops).toNat, by omega⟩
  have b1 : (k : Int) ≤ (t.size : Int) := by omega
  rw [stopR, stopT, if_neg h1, decide_eq_false h1]
  rw [hk] at h1 ⊢
  repeat (first | rw [ko] | rw [kr] | simp -dsimp -implicitDefEqProofs only [go_sem, rq1, b1])
  exact ⟨LL _ _, .inr ⟨[_, _], rfl⟩, rfl⟩
end Go.Bi
end
section
set_option maxRecDepth 20000
namespace Go.Bi
open Go.Proofs
open Go.Ai (wrap_i64 wrap_u8 Heap)
variable {W0 : World} {P : Program}
theorem mem_sumL {ss : List ByteArray} : ∀ s ∈ ss, s.size ≤ sumL ss := by
 induction ss with
 | nil => intro s hs; cases hs
 | cons t ss ih =>
  intro s hs
  have e : sumL (t :: ss) = t.size + sumL ss := by simp [sumL]
  rcases List.mem_cons.1 hs with rfl | hs
  ·omega
  ·have := ih s hs; omega
end Go.Bi
end
section
set_option maxRecDepth 20000
namespace Go.Bi
open Go.Proofs
open Go.Ai (wrap_i64 wrap_u8 Heap)
variable {W0 : World} {P : Program}
set_option maxHeartbeats 4000000
def smallStops (e : LEngine) : Prop := ∀ r ∈ e.requests, ∀ s ∈ r.config.stops, s.size ≤ 1048576
theorem smallStops_of {e : LEngine} (h : szEngine e ≤ 1048576) : smallStops e := by
 intro r hr s hs
 have h1 : r.tokens.length + (r.config.stops.length + sumL r.config.stops) + r.table.pages.length ≤ sumN szRequest e.requests := sumN_mem (f := szRequest) hr
 have h2 := mem_sumL s hs
 unfold szEngine szRequestS at h
 omega
def streamB (e : LEngine) (at_ : Int) : Bool := engB e && inI at_ 0 ((e.requests.length : Int) - 1)
def streamR (e : LEngine) (at_ : Int) : LRequest := e.requests.getD at_.toNat default
def streamT (e : LEngine) (at_ : Int) : ByteArray := if streamB e at_ = true then stopT (decT e.model.merges (gotI (streamR e at_))) (streamR e at_).config.stops else ⟨#[]⟩
def zeroReq : List X := [.raw (.int .i64 0), .raw (.slice none 0 0), .raw (.int .i64 0), .raw (.int .i64 0), .raw (.int .i64 0), .raw (.slice none 0 0), .raw (.int .u64 0), .raw (.slice none 0 0), .raw (.int .i64 0), .raw (.int .i64 0)]
theorem zeroReq_def : zeroReq = [.raw (.int .i64 0), .raw (.slice none 0 0), .raw (.int .i64 0), .raw (.int .i64 0), .raw (.int .i64 0), .raw (.slice none 0 0), .raw (.int .u64 0), .raw (.slice none 0 0), .raw (.int .i64 0), .raw (.int .i64 0)] := rfl
def Told (x : X) : Prop := (∃ v, x = .raw v) ∨ ∃ f z es, x = .sl f z es
theorem Told.fz {p : Nat → Prop} {g : H2} {x : X} (h : Told x) : Fz p (fun _ => True) g x x := by
 rcases h with ⟨v, rfl⟩ | ⟨f, z, es, rfl⟩
 ·exact .raw
 ·exact .sl (.sl (allT_true _ _))
theorem told_st {p : Nat → Prop} {g : H2} {xs : List X} (h : ∀ x ∈ xs, Told x) : Fz p (fun _ => True) g (.st xs) (.st xs) := .st rfl fun i hi hi' => (h _ (List.getElem_mem hi)).fz
theorem told_2 {p : Nat → Prop} {g : H2} {xs : List X} {v : Value} (h : ∀ x ∈ xs, Told x) : Fz p (fun _ => True) g (.tp [.st xs, .raw v]) (.tp [.st xs, .raw v]) := .tp rfl fun i hi hi' => by
 match i, hi with
 | 0, _ => exact told_st h
 | 1, _ => exact .raw
theorem told_req {F : Nat → Adr} {r : LRequest} : ∀ x ∈ xRequest F r, Told x := fun x hx => by
 simp only [xRequest, List.mem_cons, List.not_mem_nil, or_false] at hx
 rcases hx with rfl | rfl | rfl | rfl | rfl | rfl | rfl | rfl | rfl | rfl
 all_goals first | exact .inl ⟨_, rfl⟩ | exact .inr ⟨_, _, _, rfl⟩
theorem told_zero : ∀ x ∈ zeroReq, Told x := fun x hx => by
 simp only [zeroReq, List.mem_cons, List.not_mem_nil, or_false] at hx
 rcases hx with rfl | rfl | rfl | rfl | rfl | rfl | rfl | rfl | rfl | rfl
 all_goals exact .inl ⟨_, rfl⟩
theorem requestOf_ok {F : Nat → Adr} {e : LEngine} {k : Int} {g : H2} (hs : smallEng e) : PW Tryz.prog W0 46 [.st (xEngine F e), .raw (.int .i64 k)] g (fun y => (streamB e k = true ∧ ∃ F', y = .tp [.st (xRequest F' (streamR e k)), .raw (.bool true)]) ∨ (streamB e k = false ∧ y = .tp [.st zeroReq, .raw (.bool false)])) := by
 have hlen := hs.2.2.2.1
 refine (PW.of (q := fun _ => True) (Q := fun y => (streamB e k = true ∧ ∃ F', y = .tp [.st (xRequest F' (streamR e k)), .raw (.bool true)]) ∨ (streamB e k = false ∧ y = .tp [.st zeroReq, .raw (.bool false)])) ?_).mono fun y h => h.1
 refine begins [[0, 1], [1, 2, 4], [4], [1, 2, 4]] Tryz.func46 rfl (rs := [.cell 4 68, .tmp 5]) rfl rfl ?_
 intro wf
 have hne : (hn g .mk == hn g .mk + 1) = false := by simp
 repeat (first | rw [ko] | rw [kr] | simp -dsimp -implicitDefEqProofs only [go_sem, hoo, hne])
 refine pw_intro (implEngine_ok (F := F) hs) ?_
 rintro _ n1 hn1 rfl
 simp only [hn_push] at hn1
 try (rw [kq]; refine ⟨by simp -dsimp -implicitDefEqProofs only [go_sem, rq1, rq2, rq3, rq4, rq5, rq6, rq7, hoo, hne], ?_⟩)
 cases h1 : engB e
 ·repeat (first | rw [ko] | rw [kr] | simp -dsimp -implicitDefEqProofs only [go_sem, rq1, rq2, hoo])
  refine ⟨zale, _, told_2 told_zero, .inr ⟨by rw [streamB, h1]; rfl, rfl⟩⟩
 have w1 : IntKind.i64.wrap ((e.requests.length : Int) - 1) = (e.requests.length : Int) - 1 := by rw [wrap_i64] <;> omega
 repeat (first | rw [ko] | rw [kr] | simp -dsimp -implicitDefEqProofs only [go_sem, rq1, hoo, hne, w1])
 refine wz_intro in_ok ?_
 rintro _ _ ⟨rfl, rfl⟩
 try (rw [kq]; refine ⟨by simp -dsimp -implicitDefEqProofs only [go_sem, rq1, rq2, rq3, rq4, rq5, rq6, rq7, hoo, hne], ?_⟩)
 cases h2 : inI k 0 ((e.requests.length : Int) - 1)
 ·repeat (first | rw [ko] | rw [kr] | simp -dsimp -implicitDefEqProofs only [go_sem, rq1, rq2, hoo])
  refine ⟨zale, _, told_2 told_zero, .inr ⟨by rw [streamB, h1, h2]; rfl, rfl⟩⟩
 have hr := inI_tt h2
 obtain ⟨i, rfl⟩ := Int.eq_ofNat_of_zero_le hr.1
 have q2 : i < e.requests.length := by omega
 repeat (first | rw [ko] | rw [kr] | simp -dsimp -implicitDefEqProofs only [go_sem, rq1, rq2, rq3, hoo, hne, q2])
 refine ⟨zale, _, told_2 (told_req (F := fun j => under (under (F 16) i) j) (r := e.requests.getD i default)), .inl ⟨by rw [streamB, h1, h2]; rfl, _, rfl⟩⟩
theorem stream_no {e : LEngine} {k : Int} (h : streamB e k = false) : X.tp [.raw (.string ⟨#[]⟩), .raw (.bool false)] = .tp [.raw (.string (streamT e k)), .raw (.bool (streamB e k))] := by
 unfold streamT; rw [h]; rfl
theorem stream_yes {e : LEngine} {k : Int} (h : streamB e k = true) : X.tp [.raw (.string (stopT (decT e.model.merges (gotI (streamR e k))) (streamR e k).config.stops)), .raw (.bool true)] = .tp [.raw (.string (streamT e k)), .raw (.bool (streamB e k))] := by
 unfold streamT; rw [h]; rfl
theorem stream_in {e : LEngine} {k : Int} (h : streamB e k = true) : 0 ≤ k ∧ k.toNat < e.requests.length := by
 unfold streamB at h
 rw [Bool.and_eq_true] at h
 have := inI_tt h.2
 omega
theorem implStream_ok {F : Nat → Adr} {e : LEngine} {k : Int} {g : H2} (hW : Lng W0) (hs : smallEng e) (hz : smallStops e) : PW Tryz.prog W0 18 [.st (xEngine F e), .raw (.int .i64 k)] g (fun y => y = .tp [.raw (.string (streamT e k)), .raw (.bool (streamB e k))]) := by
 obtain ⟨s1, s2, s3, s4, s5⟩ := id hs
 refine PW.plainK ?_
 refine begins [[0, 1], [1, 2], [2, 6, 7], [], [2, 6], [8]] Tryz.func18 rfl (rs := [.tmp 4, .tmp 5]) rfl rfl ?_
 intro wf
 repeat (first | rw [ko] | rw [kr] | simp -dsimp -implicitDefEqProofs only [go_sem, rq1, hoo])
 refine pw_intro (requestOf_ok (F := F) (k := k) hs) ?_
 rintro _ n1 hn1 (⟨h1, F', rfl⟩ | ⟨h1, rfl⟩)
 rotate_left
 ·simp only [hn_push] at hn1
  try (rw [kq]; refine ⟨by simp -dsimp -implicitDefEqProofs only [go_sem, rq1, rq2, rq3, rq4, rq5, rq6, rq7, hoo], ?_⟩)
  repeat (first | rw [ko] | rw [kr] | simp -dsimp -implicitDefEqProofs only [go_sem, rq1, rq2, hoo, zeroReq_def])
  exact ⟨zale, .inr ⟨[_, _], rfl⟩, stream_no h1⟩
 simp only [hn_push] at hn1
 have hin := stream_in h1
 have hr := s5 _ hin.2
 have hne : (hn g .mk == n1) = false := zne
 try (rw [kq]; refine ⟨by simp -dsimp -implicitDefEqProofs only [go_sem, rq1, rq2, rq3, rq4, rq5, rq6, rq7, hoo], ?_⟩)
 repeat (first | rw [ko] | rw [kr] | simp -dsimp -implicitDefEqProofs only [go_sem, rq1, rq2, hoo])
 refine dq_intro [(0, []), (1, []), (2, []), (3, []), (4, []), (5, [1, 3]), (6, []), (7, []), (8, []), (9, []), (10, []), (11, [])] (by kernel_rfl) ?_
 repeat (first | rw [ko] | rw [kr] | simp -dsimp -implicitDefEqProofs only [go_sem, rq1, hoo, hne])
 refine pw_intro (PI.pw (implGotOf_ok (F := F') (c := streamR e k) hr.1)) ?_
 rintro _ n2 hn2 ⟨⟨f2, rfl⟩, _⟩
 try simp only [hn_push, hn_up, hn_set] at hn2
 try (rw [kq]; refine ⟨by simp -dsimp -implicitDefEqProofs only [go_sem, rq1, hoo, hne], ?_⟩)
 repeat (first | rw [ko] | rw [kr] | simp -dsimp -implicitDefEqProofs only [go_sem, hoo])
 refine pw_intro (implStopped_ok (F := F) (F' := fun j => F' (j + 2)) (m := e.model) (c := (streamR e k).config) hW s1.1 (Nat.le_trans gotI_len hr.1) hr.2.1) ?_
 intro y n3 hn3 hy
 rw [stopR] at hy
 subst hy
 try simp only [hn_up] at hn3
 try (rw [kq]; refine ⟨zsm, ?_⟩)
 repeat (first | rw [ko] | rw [kr] | simp -dsimp -implicitDefEqProofs only [go_sem, rq1, hoo])
 exact ⟨zale, .inr ⟨[_, _], rfl⟩, stream_yes h1⟩
theorem specStream_ok {F : Nat → Adr} {e : LEngine} {k : Int} {g : H2} (hs : smallEng e) (hrg : rngEngine e) (hz : smallStops e) : PW Tryz.prog W0 12 [.st (xEngine F e), .raw (.int .i64 k)] g (fun y => y = .tp [.raw (.string (streamT e k)), .raw (.bool (streamB e k))]) := by
 obtain ⟨s1, s2, s3, s4, s5⟩ := id hs
 refine PW.plainK ?_
 refine begins [[0, 1], [1, 2], [], [1, 2], [6]] Tryz.func12 rfl (rs := [.tmp 4, .tmp 5]) rfl rfl ?_
 intro wf
 repeat (first | rw [ko] | rw [kr] | simp -dsimp -implicitDefEqProofs only [go_sem, hoo])
 refine pw_intro (specEngine_ok (F := F) hs hrg) ?_
 rintro _ n1 hn1 rfl
 simp only [hn_push] at hn1
 try (rw [kq]; refine ⟨by simp -dsimp -implicitDefEqProofs only [go_sem, rq1, rq2, rq3, rq4, rq5, rq6, rq7, hoo], ?_⟩)
 cases h1 : engB e
 ·repeat (first | rw [ko] | rw [kr] | simp -dsimp -implicitDefEqProofs only [go_sem, rq1, hoo])
  exact ⟨zale, .inr ⟨[_, _], rfl⟩, stream_no (by rw [streamB, h1]; rfl)⟩
 have w1 : IntKind.i64.wrap ((e.requests.length : Int) - 1) = (e.requests.length : Int) - 1 := by rw [wrap_i64] <;> omega
 repeat (first | rw [ko] | rw [kr] | simp -dsimp -implicitDefEqProofs only [go_sem, rq1, hoo, w1])
 refine wz_intro l01In_ok ?_
 rintro _ _ ⟨rfl, rfl⟩
 try (rw [kq]; refine ⟨by simp -dsimp -implicitDefEqProofs only [go_sem, rq1, rq2, rq3, rq4, rq5, rq6, rq7, hoo], ?_⟩)
 cases h2 : inI k 0 ((e.requests.length : Int) - 1)
 ·repeat (first | rw [ko] | rw [kr] | simp -dsimp -implicitDefEqProofs only [go_sem, rq1, hoo])
  exact ⟨zale, .inr ⟨[_, _], rfl⟩, stream_no (by rw [streamB, h1, h2]; rfl)⟩
 have h3 : streamB e k = true := by rw [streamB, h1, h2]; rfl
 have hr0 := inI_tt h2
 obtain ⟨i, rfl⟩ := Int.eq_ofNat_of_zero_le hr0.1
 have q2 : i < e.requests.length := by omega
 have hr := s5 _ q2
 have hR : streamR e (i : Int) = e.requests.getD i default := rfl
 have hyes := stream_yes h3
 rw [hR] at hyes
 have hzz := hz _ (getD_memR q2)
 generalize hrq : e.requests.getD i default = rq at *
 repeat (first | rw [ko] | rw [kr] | simp -dsimp -implicitDefEqProofs only [go_sem, rq1, hoo])
 refine dq_intro [(0, []), (1, []), (2, []), (3, []), (4, []), (5, []), (6, []), (7, []), (8, []), (9, []), (10, []), (11, []), (12, []), (13, [1, 3, 7]), (14, []), (15, []), (16, []), (17, []), (18, []), (19, [])] (by kernel_rfl) ?_
 repeat (first | rw [ko] | rw [kr] | simp -dsimp -implicitDefEqProofs only [go_sem, rq1, rq2, rq3, hoo, q2, hrq])
 refine pw_intro (PI.pw (specGotOf_ok (F := fun j => under (under (F 16) i) j) (c := rq) hr.1)) ?_
 rintro _ n2 hn2 ⟨⟨f2, rfl⟩, _⟩
 try simp only [hn_up] at hn2
 try (rw [kq]; refine ⟨by simp -dsimp -implicitDefEqProofs only [go_sem, rq1, rq2, rq3, hoo], ?_⟩)
 repeat (first | rw [ko] | rw [kr] | simp -dsimp -implicitDefEqProofs only [go_sem, rq1, hoo])
 refine pw_intro (specStopped_ok (F := F) (F' := fun j => under (under (F 16) i) (j + 2)) (m := e.model) (c := rq.config) s1.1 (Nat.le_trans gotI_len hr.1) hr.2.1 hzz) ?_
 intro y n3 hn3 hy
 rw [stopR] at hy
 subst hy
 try simp only [hn_up] at hn3
 try (rw [kq]; refine ⟨zsm, ?_⟩)
 repeat (first | rw [ko] | rw [kr] | simp -dsimp -implicitDefEqProofs only [go_sem, rq1, hoo])
 exact ⟨zale, .inr ⟨[_, _], rfl⟩, hyes⟩
end Go.Bi
end
section
set_option maxRecDepth 20000
namespace Go.Bi
open Go.Proofs
open Go.Ai (wrap_i64 wrap_u8 Heap)
variable {W0 : World} {P : Program}
set_option maxHeartbeats 4000000
def wordT : Nat → ByteArray
 | 0 => ⟨#[108, 105, 118, 101]⟩
 | 1 => ⟨#[97, 108, 108]⟩
 | 2 => ⟨#[101, 110, 100]⟩
 | 3 => ⟨#[115, 116, 111, 112]⟩
 | _ => ⟨#[99, 97, 110, 99, 101, 108, 108, 101, 100]⟩
def showOf (w d h : ByteArray) : ByteArray := (((w ++ ⟨#[32]⟩) ++ d) ++ ⟨#[32]⟩) ++ h
def showT (e : LEngine) (k : Int) : ByteArray := if streamB e k = true then showOf (wordT (streamR e k).status.toNat) (decN (gotI (streamR e k)).length) (hexT (streamT e k)) else ⟨#[]⟩
theorem hexT_size {s : ByteArray} : (hexT s).size ≤ 24000 := by
 unfold hexT
 split
 ·show 0 ≤ _; omega
 ·show (hexB s s.size).length ≤ _
  rw [hexB_len]; omega
theorem decN_size {n : Nat} (h : n < 100) : (decN n).size ≤ 2 := by
 have hD : ∀ k : Fin 100, (Lib.decDigits k.val).length ≤ 2 := by decide +kernel
 exact hD ⟨n, h⟩
theorem adds {w d h : ByteArray} (hw : w.size ≤ 9) (hd : d.size ≤ 2) (hh : h.size ≤ 24000) : Go.Ai.binS BinOp.add w ⟨#[32]⟩ = some (.string (w ++ ⟨#[32]⟩)) ∧ Go.Ai.binS BinOp.add (w ++ ⟨#[32]⟩) d = some (.string ((w ++ ⟨#[32]⟩) ++ d)) ∧ Go.Ai.binS BinOp.add ((w ++ ⟨#[32]⟩) ++ d) ⟨#[32]⟩ = some (.string (((w ++ ⟨#[32]⟩) ++ d) ++ ⟨#[32]⟩)) ∧ Go.Ai.binS BinOp.add (((w ++ ⟨#[32]⟩) ++ d) ++ ⟨#[32]⟩) h = some (.string (showOf w d h)) := by
 have h1 : (⟨#[32]⟩ : ByteArray).size = 1 := rfl
 refine ⟨Go.Ai.s_add ?_, Go.Ai.s_add ?_, Go.Ai.s_add ?_, Go.Ai.s_add ?_⟩ <;> simp only [ByteArray.size_append, h1] <;> omega
theorem req_shows {e : LEngine} {r : LRequest} (hr : reqB e r = true) : (0 ≤ r.status ∧ r.status ≤ 4) ∧ (gotI r).length < 100 ∧ (r.tokens.length : Int) - r.prompt = ((gotI r).length : Nat) := by
 unfold reqB at hr
 simp only [Bool.and_eq_true] at hr
 obtain ⟨hc, hp, _, hst, ht, _⟩ := hr
 have h1 := inI_tt hp
 have h2 := inI_tt hst
 have h3 := inI_tt ht
 have h4 : r.config.new ≤ 24 := by
  unfold cfgOk at hc
  simp only [Bool.and_eq_true] at hc
  exact (inI_tt hc.2.2.1).2
 have hg : gotI r = r.tokens.drop r.prompt.toNat := by
  unfold gotI
  rw [if_pos (by rw [inI, Bool.and_eq_true]; exact ⟨decide_eq_true (by omega), decide_eq_true (by omega)⟩)]
 rw [hg, List.length_drop]
 refine ⟨h2, by omega, by omega⟩
theorem implShow_ok {F : Nat → Adr} {e : LEngine} {k : Int} {g : H2} (hW : Lng W0) (hs : smallEng e) (hrg : rngEngine e) (hz : smallStops e) : PW Tryz.prog W0 7 [.st (xEngine F e), .raw (.int .i64 k)] g (fun y => y = .raw (.string (showT e k))) := by
 obtain ⟨s1, s2, s3, s4, s5⟩ := id hs
 refine PW.scalar ?_
 refine begins [[0, 1], [1, 2], [1, 2, 5, 6], [], [1, 2, 5], [5, 7], [7, 8]] Tryz.func7 rfl (rs := [.tmp 4]) rfl rfl ?_
 intro wf
 repeat (first | rw [ko] | rw [kr] | simp -dsimp -implicitDefEqProofs only [go_sem, rq1, hoo])
 refine pw_intro (implStream_ok (F := F) (k := k) hW hs hz) ?_
 rintro _ n1 hn1 rfl
 simp only [hn_push] at hn1
 try (rw [kq]; refine ⟨by simp -dsimp -implicitDefEqProofs only [go_sem, rq1, rq2, rq3, rq4, rq5, rq6, rq7, hoo], ?_⟩)
 cases h1 : streamB e k
 ·repeat (first | rw [ko] | rw [kr] | simp -dsimp -implicitDefEqProofs only [go_sem, rq1, hoo])
  exact ⟨zale, ⟨_, rfl⟩, by rw [showT, h1]; rfl⟩
 obtain ⟨k0, q2⟩ := stream_in h1
 obtain ⟨i, rfl⟩ := Int.eq_ofNat_of_zero_le k0
 rw [Int.toNat_natCast] at q2
 have hi2 : (0 : Int) ≤ (i : Int) ∧ (i : Int) < (e.requests.length : Int) := by omega
 have hE : engB e = true := by
  unfold streamB at h1
  rw [Bool.and_eq_true] at h1
  exact h1.1
 have hreq : reqB e (e.requests.getD i default) = true := by
  unfold engB at hE
  simp only [Bool.and_eq_true, decide_eq_true_eq] at hE
  exact List.all_eq_true.1 hE.2.2.2.1 _ (getD_memR q2)
 have hsh := req_shows hreq
 have hr := s5 _ q2
 have hR : streamR e (i : Int) = e.requests.getD i default := rfl
 have hy : showT e (i : Int) = showOf (wordT (e.requests.getD i default).status.toNat) (decN (gotI (e.requests.getD i default)).length) (hexT (streamT e (i : Int))) := by rw [showT, h1, if_pos rfl, hR]
 generalize hrq : e.requests.getD i default = rq at *
 generalize hT : streamT e (i : Int) = tx at *
 have hne : (hn g .mk == n1) = false := zne
 repeat (first | rw [ko] | rw [kr] | simp -dsimp -implicitDefEqProofs only [go_sem, rq1, rq2, rq3, hoo, q2, hi2, Int.toNat_natCast, hrq])
 refine pw_intro (implHex_ok (s := tx)) ?_
 rintro _ n2 hn2 rfl
 try simp only [hn_push, hn_up, hn_set] at hn2
 try (rw [kq]; refine ⟨by simp -dsimp -implicitDefEqProofs only [go_sem, rq1, rq2, rq3, rq4, rq5, rq6, rq7, hoo, hne, hrq], ?_⟩)
 have h5 : rq.status = 0 ∨ rq.status = 1 ∨ rq.status = 2 ∨ rq.status = 3 ∨ rq.status = 4 := by omega
 rcases h5 with h5 | h5 | h5 | h5 | h5
 ·obtain ⟨a1, a2, a3, a4⟩ := adds (w := ⟨#[108, 105, 118, 101]⟩) (d := decN (gotI rq).length) (h := hexT tx) (by decide) (decN_size hsh.2.1) hexT_size
  rw [h5] at hy
  have ix : ∀ f : Adr, indexAddrX Tryz.prog 60 (.sl f 1 [[T.v (.string ⟨#[108, 105, 118, 101]⟩)], [T.v (.string ⟨#[97, 108, 108]⟩)], [T.v (.string ⟨#[101, 110, 100]⟩)], [T.v (.string ⟨#[115, 116, 111, 112]⟩)], [T.v (.string ⟨#[99, 97, 110, 99, 101, 108, 108, 101, 100]⟩)]]) (.raw (.int .i64 0)) = some (.pr (idxV 0 1 (f [])) (under f 0) [T.v (.string ⟨#[108, 105, 118, 101]⟩)]) := fun f => (ia_sl (by rw [Go.Ai.ty_el60]; rfl) (by rw [Go.Ai.ty_el60]; rfl) (by omega) (by decide)).trans rfl
  repeat (first | rw [ko] | rw [kr] | simp -dsimp -implicitDefEqProofs only [go_sem, rq1, hoo])
  refine dt_intro (.op 1 [] (.op 2 [] (.op 6 [] (.op 12 [] (.alt (.op 0 [2, 6] (.op 3 [] (.op 4 [] (.op 5 [] (.op 7 [2, 4] (.op 8 [] (.op 9 [2, 4] (.op 10 [] (.op 11 [] (.op 13 [] (.op 14 [] .nil))))))))))) (.op 7 [2] (.op 8 [] (.alt (.op 0 [2, 6] (.op 3 [] (.op 4 [] (.op 5 [] (.op 9 [2, 4] (.op 10 [] (.op 11 [] (.op 13 [] (.op 14 [] .nil))))))))) (.op 9 [2] (.op 0 [2, 6] (.op 3 [] (.op 4 [] (.op 5 [] (.op 10 [] (.op 11 [] (.op 13 [] (.op 14 [] .nil))))))))))))))))) (by kernel_rfl) ?_
  repeat (first | rw [ko] | rw [kr] | simp -dsimp -implicitDefEqProofs only [go_sem, rq1, hoo, h5])
  rw [run_alt]
  refine ⟨?_, ?_⟩
  ·repeat (first | rw [ko] | rw [kr] | simp -dsimp -implicitDefEqProofs only [go_sem, rq1, rq2, rq3, hoo, h5, ix, a1])
   refine pw_intro (PI.pw (show PI _ _ _ _ _ (gotI rq) from implGotOf_ok (F := fun j => under (under (F 16) i) j) (c := ⟨rq.prompt, rq.tokens, rq.config, rq.state, rq.table, 0⟩) hr.1)) ?_
   rintro _ n3 hn3 ⟨⟨f3, rfl⟩, _⟩
   try simp only [hn_up] at hn3
   try (rw [kq]; refine ⟨by simp -dsimp -implicitDefEqProofs only [go_sem, rq1, hoo, h5], ?_⟩)
   repeat (first | rw [ko] | rw [kr] | simp -dsimp -implicitDefEqProofs only [go_sem, hoo, h5])
   refine pw_intro (implDec_ok (n := (gotI rq).length) hsh.2.1) ?_
   rintro _ n4 hn4 rfl
   try simp only [hn_up] at hn4
   try (rw [kq]; refine ⟨by simp -dsimp -implicitDefEqProofs only [go_sem, rq1, hoo], ?_⟩)
   repeat (first | rw [ko] | rw [kr] | simp -dsimp -implicitDefEqProofs only [go_sem, rq1, hoo, a2, a3, a4])
   exact ⟨zale, ⟨_, rfl⟩, by rw [hy]; rfl⟩
  ·repeat (first | rw [ko] | rw [kr] | simp -dsimp -implicitDefEqProofs only [go_sem, rq1, hoo])
   refine pw_intro (PI.pw (show PI _ _ _ _ _ (gotI rq) from implGotOf_ok (F := fun j => under (under (F 16) i) j) (c := ⟨rq.prompt, rq.tokens, rq.config, rq.state, rq.table, 0⟩) hr.1)) ?_
   rintro _ n3 hn3 ⟨⟨f3, rfl⟩, _⟩
   try simp only [hn_up] at hn3
   try (rw [kq]; refine ⟨by simp -dsimp -implicitDefEqProofs only [go_sem, rq1, hoo, h5], ?_⟩)
   repeat (first | rw [ko] | rw [kr] | simp -dsimp -implicitDefEqProofs only [go_sem, hoo, h5])
   rw [run_alt]
   refine ⟨?_, ?_⟩
   ·repeat (first | rw [ko] | rw [kr] | simp -dsimp -implicitDefEqProofs only [go_sem, rq1, rq2, rq3, hoo, ix, a1])
    refine pw_intro (implDec_ok (n := (gotI rq).length) hsh.2.1) ?_
    rintro _ n4 hn4 rfl
    try simp only [hn_up] at hn4
    try (rw [kq]; refine ⟨by simp -dsimp -implicitDefEqProofs only [go_sem, rq1, hoo], ?_⟩)
    repeat (first | rw [ko] | rw [kr] | simp -dsimp -implicitDefEqProofs only [go_sem, rq1, hoo, a2, a3, a4])
    exact ⟨zale, ⟨_, rfl⟩, by rw [hy]; rfl⟩
   ·repeat (first | rw [ko] | rw [kr] | simp -dsimp -implicitDefEqProofs only [go_sem, hoo])
    refine pw_intro (implDec_ok (n := (gotI rq).length) hsh.2.1) ?_
    rintro _ n4 hn4 rfl
    try simp only [hn_up] at hn4
    try (rw [kq]; refine ⟨by simp -dsimp -implicitDefEqProofs only [go_sem, rq1, hoo], ?_⟩)
    repeat (first | rw [ko] | rw [kr] | simp -dsimp -implicitDefEqProofs only [go_sem, rq1, rq2, rq3, hoo, ix, a1, a2, a3, a4])
    exact ⟨zale, ⟨_, rfl⟩, by rw [hy]; rfl⟩
 ·obtain ⟨a1, a2, a3, a4⟩ := adds (w := ⟨#[97, 108, 108]⟩) (d := decN (gotI rq).length) (h := hexT tx) (by decide) (decN_size hsh.2.1) hexT_size
  rw [h5] at hy
  have ix : ∀ f : Adr, indexAddrX Tryz.prog 60 (.sl f 1 [[T.v (.string ⟨#[108, 105, 118, 101]⟩)], [T.v (.string ⟨#[97, 108, 108]⟩)], [T.v (.string ⟨#[101, 110, 100]⟩)], [T.v (.string ⟨#[115, 116, 111, 112]⟩)], [T.v (.string ⟨#[99, 97, 110, 99, 101, 108, 108, 101, 100]⟩)]]) (.raw (.int .i64 1)) = some (.pr (idxV 1 1 (f [])) (under f 1) [T.v (.string ⟨#[97, 108, 108]⟩)]) := fun f => (ia_sl (by rw [Go.Ai.ty_el60]; rfl) (by rw [Go.Ai.ty_el60]; rfl) (by omega) (by decide)).trans rfl
  repeat (first | rw [ko] | rw [kr] | simp -dsimp -implicitDefEqProofs only [go_sem, rq1, hoo])
  refine dt_intro (.op 1 [] (.op 2 [] (.op 6 [] (.op 12 [] (.alt (.op 0 [2, 6] (.op 3 [] (.op 4 [] (.op 5 [] (.op 7 [2, 4] (.op 8 [] (.op 9 [2, 4] (.op 10 [] (.op 11 [] (.op 13 [] (.op 14 [] .nil))))))))))) (.op 7 [2] (.op 8 [] (.alt (.op 0 [2, 6] (.op 3 [] (.op 4 [] (.op 5 [] (.op 9 [2, 4] (.op 10 [] (.op 11 [] (.op 13 [] (.op 14 [] .nil))))))))) (.op 9 [2] (.op 0 [2, 6] (.op 3 [] (.op 4 [] (.op 5 [] (.op 10 [] (.op 11 [] (.op 13 [] (.op 14 [] .nil))))))))))))))))) (by kernel_rfl) ?_
  repeat (first | rw [ko] | rw [kr] | simp -dsimp -implicitDefEqProofs only [go_sem, rq1, hoo, h5])
  rw [run_alt]
  refine ⟨?_, ?_⟩
  ·repeat (first | rw [ko] | rw [kr] | simp -dsimp -implicitDefEqProofs only [go_sem, rq1, rq2, rq3, hoo, h5, ix, a1])
   refine pw_intro (PI.pw (show PI _ _ _ _ _ (gotI rq) from implGotOf_ok (F := fun j => under (under (F 16) i) j) (c := ⟨rq.prompt, rq.tokens, rq.config, rq.state, rq.table, 1⟩) hr.1)) ?_
   rintro _ n3 hn3 ⟨⟨f3, rfl⟩, _⟩
   try simp only [hn_up] at hn3
   try (rw [kq]; refine ⟨by simp -dsimp -implicitDefEqProofs only [go_sem, rq1, hoo, h5], ?_⟩)
   repeat (first | rw [ko] | rw [kr] | simp -dsimp -implicitDefEqProofs only [go_sem, hoo, h5])
   refine pw_intro (implDec_ok (n := (gotI rq).length) hsh.2.1) ?_
   rintro _ n4 hn4 rfl
   try simp only [hn_up] at hn4
   try (rw [kq]; refine ⟨by simp -dsimp -implicitDefEqProofs only [go_sem, rq1, hoo], ?_⟩)
   repeat (first | rw [ko] | rw [kr] | simp -dsimp -implicitDefEqProofs only [go_sem, rq1, hoo, a2, a3, a4])
   exact ⟨zale, ⟨_, rfl⟩, by rw [hy]; rfl⟩
  ·repeat (first | rw [ko] | rw [kr] | simp -dsimp -implicitDefEqProofs only [go_sem, rq1, hoo])
   refine pw_intro (PI.pw (show PI _ _ _ _ _ (gotI rq) from implGotOf_ok (F := fun j => under (under (F 16) i) j) (c := ⟨rq.prompt, rq.tokens, rq.config, rq.state, rq.table, 1⟩) hr.1)) ?_
   rintro _ n3 hn3 ⟨⟨f3, rfl⟩, _⟩
   try simp only [hn_up] at hn3
   try (rw [kq]; refine ⟨by simp -dsimp -implicitDefEqProofs only [go_sem, rq1, hoo, h5], ?_⟩)
   repeat (first | rw [ko] | rw [kr] | simp -dsimp -implicitDefEqProofs only [go_sem, hoo, h5])
   rw [run_alt]
   refine ⟨?_, ?_⟩
   ·repeat (first | rw [ko] | rw [kr] | simp -dsimp -implicitDefEqProofs only [go_sem, rq1, rq2, rq3, hoo, ix, a1])
    refine pw_intro (implDec_ok (n := (gotI rq).length) hsh.2.1) ?_
    rintro _ n4 hn4 rfl
    try simp only [hn_up] at hn4
    try (rw [kq]; refine ⟨by simp -dsimp -implicitDefEqProofs only [go_sem, rq1, hoo], ?_⟩)
    repeat (first | rw [ko] | rw [kr] | simp -dsimp -implicitDefEqProofs only [go_sem, rq1, hoo, a2, a3, a4])
    exact ⟨zale, ⟨_, rfl⟩, by rw [hy]; rfl⟩
   ·repeat (first | rw [ko] | rw [kr] | simp -dsimp -implicitDefEqProofs only [go_sem, hoo])
    refine pw_intro (implDec_ok (n := (gotI rq).length) hsh.2.1) ?_
    rintro _ n4 hn4 rfl
    try simp only [hn_up] at hn4
    try (rw [kq]; refine ⟨by simp -dsimp -implicitDefEqProofs only [go_sem, rq1, hoo], ?_⟩)
    repeat (first | rw [ko] | rw [kr] | simp -dsimp -implicitDefEqProofs only [go_sem, rq1, rq2, rq3, hoo, ix, a1, a2, a3, a4])
    exact ⟨zale, ⟨_, rfl⟩, by rw [hy]; rfl⟩
 ·obtain ⟨a1, a2, a3, a4⟩ := adds (w := ⟨#[101, 110, 100]⟩) (d := decN (gotI rq).length) (h := hexT tx) (by decide) (decN_size hsh.2.1) hexT_size
  rw [h5] at hy
  have ix : ∀ f : Adr, indexAddrX Tryz.prog 60 (.sl f 1 [[T.v (.string ⟨#[108, 105, 118, 101]⟩)], [T.v (.string ⟨#[97, 108, 108]⟩)], [T.v (.string ⟨#[101, 110, 100]⟩)], [T.v (.string ⟨#[115, 116, 111, 112]⟩)], [T.v (.string ⟨#[99, 97, 110, 99, 101, 108, 108, 101, 100]⟩)]]) (.raw (.int .i64 2)) = some (.pr (idxV 2 1 (f [])) (under f 2) [T.v (.string ⟨#[101, 110, 100]⟩)]) := fun f => (ia_sl (by rw [Go.Ai.ty_el60]; rfl) (by rw [Go.Ai.ty_el60]; rfl) (by omega) (by decide)).trans rfl
  repeat (first | rw [ko] | rw [kr] | simp -dsimp -implicitDefEqProofs only [go_sem, rq1, hoo])
  refine dt_intro (.op 1 [] (.op 2 [] (.op 6 [] (.op 12 [] (.alt (.op 0 [2, 6] (.op 3 [] (.op 4 [] (.op 5 [] (.op 7 [2, 4] (.op 8 [] (.op 9 [2, 4] (.op 10 [] (.op 11 [] (.op 13 [] (.op 14 [] .nil))))))))))) (.op 7 [2] (.op 8 [] (.alt (.op 0 [2, 6] (.op 3 [] (.op 4 [] (.op 5 [] (.op 9 [2, 4] (.op 10 [] (.op 11 [] (.op 13 [] (.op 14 [] .nil))))))))) (.op 9 [2] (.op 0 [2, 6] (.op 3 [] (.op 4 [] (.op 5 [] (.op 10 [] (.op 11 [] (.op 13 [] (.op 14 [] .nil))))))))))))))))) (by kernel_rfl) ?_
  repeat (first | rw [ko] | rw [kr] | simp -dsimp -implicitDefEqProofs only [go_sem, rq1, hoo, h5])
  rw [run_alt]
  refine ⟨?_, ?_⟩
  ·repeat (first | rw [ko] | rw [kr] | simp -dsimp -implicitDefEqProofs only [go_sem, rq1, rq2, rq3, hoo, h5, ix, a1])
   refine pw_intro (PI.pw (show PI _ _ _ _ _ (gotI rq) from implGotOf_ok (F := fun j => under (under (F 16) i) j) (c := ⟨rq.prompt, rq.tokens, rq.config, rq.state, rq.table, 2⟩) hr.1)) ?_
   rintro _ n3 hn3 ⟨⟨f3, rfl⟩, _⟩
   try simp only [hn_up] at hn3
   try (rw [kq]; refine ⟨by simp -dsimp -implicitDefEqProofs only [go_sem, rq1, hoo, h5], ?_⟩)
   repeat (first | rw [ko] | rw [kr] | simp -dsimp -implicitDefEqProofs only [go_sem, hoo, h5])
   refine pw_intro (implDec_ok (n := (gotI rq).length) hsh.2.1) ?_
   rintro _ n4 hn4 rfl
   try simp only [hn_up] at hn4
   try (rw [kq]; refine ⟨by simp -dsimp -implicitDefEqProofs only [go_sem, rq1, hoo], ?_⟩)
   repeat (first | rw [ko] | rw [kr] | simp -dsimp -implicitDefEqProofs only [go_sem, rq1, hoo, a2, a3, a4])
   exact ⟨zale, ⟨_, rfl⟩, by rw [hy]; rfl⟩
  ·repeat (first | rw [ko] | rw [kr] | simp -dsimp -implicitDefEqProofs only [go_sem, rq1, hoo])
   refine pw_intro (PI.pw (show PI _ _ _ _ _ (gotI rq) from implGotOf_ok (F := fun j => under (under (F 16) i) j) (c := ⟨rq.prompt, rq.tokens, rq.config, rq.state, rq.table, 2⟩) hr.1)) ?_
   rintro _ n3 hn3 ⟨⟨f3, rfl⟩, _⟩
   try simp only [hn_up] at hn3
   try (rw [kq]; refine ⟨by simp -dsimp -implicitDefEqProofs only [go_sem, rq1, hoo, h5], ?_⟩)
   repeat (first | rw [ko] | rw [kr] | simp -dsimp -implicitDefEqProofs only [go_sem, hoo, h5])
   rw [run_alt]
   refine ⟨?_, ?_⟩
   ·repeat (first | rw [ko] | rw [kr] | simp -dsimp -implicitDefEqProofs only [go_sem, rq1, rq2, rq3, hoo, ix, a1])
    refine pw_intro (implDec_ok (n := (gotI rq).length) hsh.2.1) ?_
    rintro _ n4 hn4 rfl
    try simp only [hn_up] at hn4
    try (rw [kq]; refine ⟨by simp -dsimp -implicitDefEqProofs only [go_sem, rq1, hoo], ?_⟩)
    repeat (first | rw [ko] | rw [kr] | simp -dsimp -implicitDefEqProofs only [go_sem, rq1, hoo, a2, a3, a4])
    exact ⟨zale, ⟨_, rfl⟩, by rw [hy]; rfl⟩
   ·repeat (first | rw [ko] | rw [kr] | simp -dsimp -implicitDefEqProofs only [go_sem, hoo])
    refine pw_intro (implDec_ok (n := (gotI rq).length) hsh.2.1) ?_
    rintro _ n4 hn4 rfl
    try simp only [hn_up] at hn4
    try (rw [kq]; refine ⟨by simp -dsimp -implicitDefEqProofs only [go_sem, rq1, hoo], ?_⟩)
    repeat (first | rw [ko] | rw [kr] | simp -dsimp -implicitDefEqProofs only [go_sem, rq1, rq2, rq3, hoo, ix, a1, a2, a3, a4])
    exact ⟨zale, ⟨_, rfl⟩, by rw [hy]; rfl⟩
 ·obtain ⟨a1, a2, a3, a4⟩ := adds (w := ⟨#[115, 116, 111, 112]⟩) (d := decN (gotI rq).length) (h := hexT tx) (by decide) (decN_size hsh.2.1) hexT_size
  rw [h5] at hy
  have ix : ∀ f : Adr, indexAddrX Tryz.prog 60 (.sl f 1 [[T.v (.string ⟨#[108, 105, 118, 101]⟩)], [T.v (.string ⟨#[97, 108, 108]⟩)], [T.v (.string ⟨#[101, 110, 100]⟩)], [T.v (.string ⟨#[115, 116, 111, 112]⟩)], [T.v (.string ⟨#[99, 97, 110, 99, 101, 108, 108, 101, 100]⟩)]]) (.raw (.int .i64 3)) = some (.pr (idxV 3 1 (f [])) (under f 3) [T.v (.string ⟨#[115, 116, 111, 112]⟩)]) := fun f => (ia_sl (by rw [Go.Ai.ty_el60]; rfl) (by rw [Go.Ai.ty_el60]; rfl) (by omega) (by decide)).trans rfl
  repeat (first | rw [ko] | rw [kr] | simp -dsimp -implicitDefEqProofs only [go_sem, rq1, hoo])
  refine dt_intro (.op 1 [] (.op 2 [] (.op 6 [] (.op 12 [] (.alt (.op 0 [2, 6] (.op 3 [] (.op 4 [] (.op 5 [] (.op 7 [2, 4] (.op 8 [] (.op 9 [2, 4] (.op 10 [] (.op 11 [] (.op 13 [] (.op 14 [] .nil))))))))))) (.op 7 [2] (.op 8 [] (.alt (.op 0 [2, 6] (.op 3 [] (.op 4 [] (.op 5 [] (.op 9 [2, 4] (.op 10 [] (.op 11 [] (.op 13 [] (.op 14 [] .nil))))))))) (.op 9 [2] (.op 0 [2, 6] (.op 3 [] (.op 4 [] (.op 5 [] (.op 10 [] (.op 11 [] (.op 13 [] (.op 14 [] .nil))))))))))))))))) (by kernel_rfl) ?_
  repeat (first | rw [ko] | rw [kr] | simp -dsimp -implicitDefEqProofs only [go_sem, rq1, hoo, h5])
  rw [run_alt]
  refine ⟨?_, ?_⟩
  ·repeat (first | rw [ko] | rw [kr] | simp -dsimp -implicitDefEqProofs only [go_sem, rq1, rq2, rq3, hoo, h5, ix, a1])
   refine pw_intro (PI.pw (show PI _ _ _ _ _ (gotI rq) from implGotOf_ok (F := fun j => under (under (F 16) i) j) (c := ⟨rq.prompt, rq.tokens, rq.config, rq.state, rq.table, 3⟩) hr.1)) ?_
   rintro _ n3 hn3 ⟨⟨f3, rfl⟩, _⟩
   try simp only [hn_up] at hn3
   try (rw [kq]; refine ⟨by simp -dsimp -implicitDefEqProofs only [go_sem, rq1, hoo, h5], ?_⟩)
   repeat (first | rw [ko] | rw [kr] | simp -dsimp -implicitDefEqProofs only [go_sem, hoo, h5])
   refine pw_intro (implDec_ok (n := (gotI rq).length) hsh.2.1) ?_
   rintro _ n4 hn4 rfl
   try simp only [hn_up] at hn4
   try (rw [kq]; refine ⟨by simp -dsimp -implicitDefEqProofs only [go_sem, rq1, hoo], ?_⟩)
   repeat (first | rw [ko] | rw [kr] | simp -dsimp -implicitDefEqProofs only [go_sem, rq1, hoo, a2, a3, a4])
   exact ⟨zale, ⟨_, rfl⟩, by rw [hy]; rfl⟩
  ·repeat (first | rw [ko] | rw [kr] | simp -dsimp -implicitDefEqProofs only [go_sem, rq1, hoo])
   refine pw_intro (PI.pw (show PI _ _ _ _ _ (gotI rq) from implGotOf_ok (F := fun j => under (under (F 16) i) j) (c := ⟨rq.prompt, rq.tokens, rq.config, rq.state, rq.table, 3⟩) hr.1)) ?_
   rintro _ n3 hn3 ⟨⟨f3, rfl⟩, _⟩
   try simp only [hn_up] at hn3
   try (rw [kq]; refine ⟨by simp -dsimp -implicitDefEqProofs only [go_sem, rq1, hoo, h5], ?_⟩)
   repeat (first | rw [ko] | rw [kr] | simp -dsimp -implicitDefEqProofs only [go_sem, hoo, h5])
   rw [run_alt]
   refine ⟨?_, ?_⟩
   ·repeat (first | rw [ko] | rw [kr] | simp -dsimp -implicitDefEqProofs only [go_sem, rq1, rq2, rq3, hoo, ix, a1])
    refine pw_intro (implDec_ok (n := (gotI rq).length) hsh.2.1) ?_
    rintro _ n4 hn4 rfl
    try simp only [hn_up] at hn4
    try (rw [kq]; refine ⟨by simp -dsimp -implicitDefEqProofs only [go_sem, rq1, hoo], ?_⟩)
    repeat (first | rw [ko] | rw [kr] | simp -dsimp -implicitDefEqProofs only [go_sem, rq1, hoo, a2, a3, a4])
    exact ⟨zale, ⟨_, rfl⟩, by rw [hy]; rfl⟩
   ·repeat (first | rw [ko] | rw [kr] | simp -dsimp -implicitDefEqProofs only [go_sem, hoo])
    refine pw_intro (implDec_ok (n := (gotI rq).length) hsh.2.1) ?_
    rintro _ n4 hn4 rfl
    try simp only [hn_up] at hn4
    try (rw [kq]; refine ⟨by simp -dsimp -implicitDefEqProofs only [go_sem, rq1, hoo], ?_⟩)
    repeat (first | rw [ko] | rw [kr] | simp -dsimp -implicitDefEqProofs only [go_sem, rq1, rq2, rq3, hoo, ix, a1, a2, a3, a4])
    exact ⟨zale, ⟨_, rfl⟩, by rw [hy]; rfl⟩
 ·obtain ⟨a1, a2, a3, a4⟩ := adds (w := ⟨#[99, 97, 110, 99, 101, 108, 108, 101, 100]⟩) (d := decN (gotI rq).length) (h := hexT tx) (by decide) (decN_size hsh.2.1) hexT_size
  rw [h5] at hy
  have ix : ∀ f : Adr, indexAddrX Tryz.prog 60 (.sl f 1 [[T.v (.string ⟨#[108, 105, 118, 101]⟩)], [T.v (.string ⟨#[97, 108, 108]⟩)], [T.v (.string ⟨#[101, 110, 100]⟩)], [T.v (.string ⟨#[115, 116, 111, 112]⟩)], [T.v (.string ⟨#[99, 97, 110, 99, 101, 108, 108, 101, 100]⟩)]]) (.raw (.int .i64 4)) = some (.pr (idxV 4 1 (f [])) (under f 4) [T.v (.string ⟨#[99, 97, 110, 99, 101, 108, 108, 101, 100]⟩)]) := fun f => (ia_sl (by rw [Go.Ai.ty_el60]; rfl) (by rw [Go.Ai.ty_el60]; rfl) (by omega) (by decide)).trans rfl
  repeat (first | rw [ko] | rw [kr] | simp -dsimp -implicitDefEqProofs only [go_sem, rq1, hoo])
  refine dt_intro (.op 1 [] (.op 2 [] (.op 6 [] (.op 12 [] (.alt (.op 0 [2, 6] (.op 3 [] (.op 4 [] (.op 5 [] (.op 7 [2, 4] (.op 8 [] (.op 9 [2, 4] (.op 10 [] (.op 11 [] (.op 13 [] (.op 14 [] .nil))))))))))) (.op 7 [2] (.op 8 [] (.alt (.op 0 [2, 6] (.op 3 [] (.op 4 [] (.op 5 [] (.op 9 [2, 4] (.op 10 [] (.op 11 [] (.op 13 [] (.op 14 [] .nil))))))))) (.op 9 [2] (.op 0 [2, 6] (.op 3 [] (.op 4 [] (.op 5 [] (.op 10 [] (.op 11 [] (.op 13 [] (.op 14 [] .nil))))))))))))))))) (by kernel_rfl) ?_
  repeat (first | rw [ko] | rw [kr] | simp -dsimp -implicitDefEqProofs only [go_sem, rq1, hoo, h5])
  rw [run_alt]
  refine ⟨?_, ?_⟩
  ·repeat (first | rw [ko] | rw [kr] | simp -dsimp -implicitDefEqProofs only [go_sem, rq1, rq2, rq3, hoo, h5, ix, a1])
   refine pw_intro (PI.pw (show PI _ _ _ _ _ (gotI rq) from implGotOf_ok (F := fun j => under (under (F 16) i) j) (c := ⟨rq.prompt, rq.tokens, rq.config, rq.state, rq.table, 4⟩) hr.1)) ?_
   rintro _ n3 hn3 ⟨⟨f3, rfl⟩, _⟩
   try simp only [hn_up] at hn3
   try (rw [kq]; refine ⟨by simp -dsimp -implicitDefEqProofs only [go_sem, rq1, hoo, h5], ?_⟩)
   repeat (first | rw [ko] | rw [kr] | simp -dsimp -implicitDefEqProofs only [go_sem, hoo, h5])
   refine pw_intro (implDec_ok (n := (gotI rq).length) hsh.2.1) ?_
   rintro _ n4 hn4 rfl
   try simp only [hn_up] at hn4
   try (rw [kq]; refine ⟨by simp -dsimp -implicitDefEqProofs only [go_sem, rq1, hoo], ?_⟩)
   repeat (first | rw [ko] | rw [kr] | simp -dsimp -implicitDefEqProofs only [go_sem, rq1, hoo, a2, a3, a4])
   exact ⟨zale, ⟨_, rfl⟩, by rw [hy]; rfl⟩
  ·repeat (first | rw [ko] | rw [kr] | simp -dsimp -implicitDefEqProofs only [go_sem, rq1, hoo])
   refine pw_intro (PI.pw (show PI _ _ _ _ _ (gotI rq) from implGotOf_ok (F := fun j => under (under (F 16) i) j) (c := ⟨rq.prompt, rq.tokens, rq.config, rq.state, rq.table, 4⟩) hr.1)) ?_
   rintro _ n3 hn3 ⟨⟨f3, rfl⟩, _⟩
   try simp only [hn_up] at hn3
   try (rw [kq]; refine ⟨by simp -dsimp -implicitDefEqProofs only [go_sem, rq1, hoo, h5], ?_⟩)
   repeat (first | rw [ko] | rw [kr] | simp -dsimp -implicitDefEqProofs only [go_sem, hoo, h5])
   rw [run_alt]
   refine ⟨?_, ?_⟩
   ·repeat (first | rw [ko] | rw [kr] | simp -dsimp -implicitDefEqProofs only [go_sem, rq1, rq2, rq3, hoo, ix, a1])
    refine pw_intro (implDec_ok (n := (gotI rq).length) hsh.2.1) ?_
    rintro _ n4 hn4 rfl
    try simp only [hn_up] at hn4
    try (rw [kq]; refine ⟨by simp -dsimp -implicitDefEqProofs only [go_sem, rq1, hoo], ?_⟩)
    repeat (first | rw [ko] | rw [kr] | simp -dsimp -implicitDefEqProofs only [go_sem, rq1, hoo, a2, a3, a4])
    exact ⟨zale, ⟨_, rfl⟩, by rw [hy]; rfl⟩
   ·repeat (first | rw [ko] | rw [kr] | simp -dsimp -implicitDefEqProofs only [go_sem, hoo])
    refine pw_intro (implDec_ok (n := (gotI rq).length) hsh.2.1) ?_
    rintro _ n4 hn4 rfl
    try simp only [hn_up] at hn4
    try (rw [kq]; refine ⟨by simp -dsimp -implicitDefEqProofs only [go_sem, rq1, hoo], ?_⟩)
    repeat (first | rw [ko] | rw [kr] | simp -dsimp -implicitDefEqProofs only [go_sem, rq1, rq2, rq3, hoo, ix, a1, a2, a3, a4])
    exact ⟨zale, ⟨_, rfl⟩, by rw [hy]; rfl⟩
theorem specShow_ok {F : Nat → Adr} {e : LEngine} {k : Int} {g : H2} (hW : Lng W0) (hs : smallEng e) (hrg : rngEngine e) (hz : smallStops e) : PW Tryz.prog W0 5 [.st (xEngine F e), .raw (.int .i64 k)] g (fun y => y = .raw (.string (showT e k))) := by
 obtain ⟨s1, s2, s3, s4, s5⟩ := id hs
 refine PW.scalar ?_
 refine begins [[0, 1], [1, 2], [1, 2, 5, 6], [], [1, 2, 5], [1, 2, 5, 7], [1, 2, 7, 8], [7, 8, 10]] Tryz.func5 rfl (rs := [.tmp 4]) rfl rfl ?_
 intro wf
 repeat (first | rw [ko] | rw [kr] | simp -dsimp -implicitDefEqProofs only [go_sem, rq1, hoo])
 refine pw_intro (specStream_ok (F := F) (k := k) hs hrg hz) ?_
 rintro _ n1 hn1 rfl
 simp only [hn_push] at hn1
 try (rw [kq]; refine ⟨by simp -dsimp -implicitDefEqProofs only [go_sem, rq1, rq2, rq3, rq4, rq5, rq6, rq7, hoo], ?_⟩)
 cases h1 : streamB e k
 ·repeat (first | rw [ko] | rw [kr] | simp -dsimp -implicitDefEqProofs only [go_sem, rq1, hoo])
  exact ⟨zale, ⟨_, rfl⟩, by rw [showT, h1]; rfl⟩
 obtain ⟨k0, q2⟩ := stream_in h1
 obtain ⟨i, rfl⟩ := Int.eq_ofNat_of_zero_le k0
 rw [Int.toNat_natCast] at q2
 have hi2 : (0 : Int) ≤ (i : Int) ∧ (i : Int) < (e.requests.length : Int) := by omega
 have hE : engB e = true := by
  unfold streamB at h1
  rw [Bool.and_eq_true] at h1
  exact h1.1
 have hreq : reqB e (e.requests.getD i default) = true := by
  unfold engB at hE
  simp only [Bool.and_eq_true, decide_eq_true_eq] at hE
  exact List.all_eq_true.1 hE.2.2.2.1 _ (getD_memR q2)
 have hsh := req_shows hreq
 have hr := s5 _ q2
 have hR : streamR e (i : Int) = e.requests.getD i default := rfl
 have hy : showT e (i : Int) = showOf (wordT (e.requests.getD i default).status.toNat) (decN (gotI (e.requests.getD i default)).length) (hexT (streamT e (i : Int))) := by rw [showT, h1, if_pos rfl, hR]
 generalize hrq : e.requests.getD i default = rq at *
 generalize hT : streamT e (i : Int) = tx at *
 have hne : (hn g .mk == n1) = false := zne
 repeat (first | rw [ko] | rw [kr] | simp -dsimp -implicitDefEqProofs only [go_sem, rq1, rq2, rq3, hoo])
 refine pw_intro (specHex_ok (s := tx)) ?_
 rintro _ n2 hn2 rfl
 try simp only [hn_up] at hn2
 try (rw [kq]; refine ⟨by simp -dsimp -implicitDefEqProofs only [go_sem, rq1, rq2, rq3, rq4, rq5, rq6, rq7, hoo, hne, hrq], ?_⟩)
 have h5 : rq.status = 0 ∨ rq.status = 1 ∨ rq.status = 2 ∨ rq.status = 3 ∨ rq.status = 4 := by omega
 rcases h5 with h5 | h5 | h5 | h5 | h5
 ·obtain ⟨a1, a2, a3, a4⟩ := adds (w := ⟨#[108, 105, 118, 101]⟩) (d := decN (gotI rq).length) (h := hexT tx) (by decide) (decN_size hsh.2.1) hexT_size
  rw [h5] at hy
  have ix : ∀ f : Adr, indexAddrX Tryz.prog 60 (.sl f 1 [[T.v (.string ⟨#[108, 105, 118, 101]⟩)], [T.v (.string ⟨#[97, 108, 108]⟩)], [T.v (.string ⟨#[101, 110, 100]⟩)], [T.v (.string ⟨#[115, 116, 111, 112]⟩)], [T.v (.string ⟨#[99, 97, 110, 99, 101, 108, 108, 101, 100]⟩)]]) (.raw (.int .i64 0)) = some (.pr (idxV 0 1 (f [])) (under f 0) [T.v (.string ⟨#[108, 105, 118, 101]⟩)]) := fun f => (ia_sl (by rw [Go.Ai.ty_el60]; rfl) (by rw [Go.Ai.ty_el60]; rfl) (by omega) (by decide)).trans rfl
  have w1 : IntKind.i64.wrap ((rq.tokens.length : Int) - rq.prompt) = ((gotI rq).length : Nat) := by rw [hsh.2.2, wrap_i64] <;> omega
  repeat (first | rw [ko] | rw [kr] | simp -dsimp -implicitDefEqProofs only [go_sem, rq1, rq2, rq3, hoo, q2, hi2, Int.toNat_natCast, hrq, h5])
  refine dq_intro [(0, []), (1, []), (2, []), (3, []), (4, []), (5, []), (6, []), (7, []), (8, []), (9, []), (10, []), (11, []), (15, []), (12, [2, 4]), (13, []), (14, []), (16, []), (17, [])] (by kernel_rfl) ?_
  repeat (first | rw [ko] | rw [kr] | simp -dsimp -implicitDefEqProofs only [go_sem, rq1, hoo, ix, a1, w1])
  refine pw_intro (specDec_ok (n := (gotI rq).length) hsh.2.1) ?_
  rintro _ n4 hn4 rfl
  try simp only [hn_push, hn_up, hn_set] at hn4
  try (rw [kq]; refine ⟨by simp -dsimp -implicitDefEqProofs only [go_sem, rq1, hoo], ?_⟩)
  repeat (first | rw [ko] | rw [kr] | simp -dsimp -implicitDefEqProofs only [go_sem, rq1, hoo, a2, a3, a4])
  exact ⟨zale, ⟨_, rfl⟩, by rw [hy]; rfl⟩
 ·obtain ⟨a1, a2, a3, a4⟩ := adds (w := ⟨#[97, 108, 108]⟩) (d := decN (gotI rq).length) (h := hexT tx) (by decide) (decN_size hsh.2.1) hexT_size
  rw [h5] at hy
  have ix : ∀ f : Adr, indexAddrX Tryz.prog 60 (.sl f 1 [[T.v (.string ⟨#[108, 105, 118, 101]⟩)], [T.v (.string ⟨#[97, 108, 108]⟩)], [T.v (.string ⟨#[101, 110, 100]⟩)], [T.v (.string ⟨#[115, 116, 111, 112]⟩)], [T.v (.string ⟨#[99, 97, 110, 99, 101, 108, 108, 101, 100]⟩)]]) (.raw (.int .i64 1)) = some (.pr (idxV 1 1 (f [])) (under f 1) [T.v (.string ⟨#[97, 108, 108]⟩)]) := fun f => (ia_sl (by rw [Go.Ai.ty_el60]; rfl) (by rw [Go.Ai.ty_el60]; rfl) (by omega) (by decide)).trans rfl
  have w1 : IntKind.i64.wrap ((rq.tokens.length : Int) - rq.prompt) = ((gotI rq).length : Nat) := by rw [hsh.2.2, wrap_i64] <;> omega
  repeat (first | rw [ko] | rw [kr] | simp -dsimp -implicitDefEqProofs only [go_sem, rq1, rq2, rq3, hoo, q2, hi2, Int.toNat_natCast, hrq, h5])
  refine dq_intro [(0, []), (1, []), (2, []), (3, []), (4, []), (5, []), (6, []), (7, []), (8, []), (9, []), (10, []), (11, []), (15, []), (12, [2, 4]), (13, []), (14, []), (16, []), (17, [])] (by kernel_rfl) ?_
  repeat (first | rw [ko] | rw [kr] | simp -dsimp -implicitDefEqProofs only [go_sem, rq1, hoo, ix, a1, w1])
  refine pw_intro (specDec_ok (n := (gotI rq).length) hsh.2.1) ?_
  rintro _ n4 hn4 rfl
  try simp only [hn_push, hn_up, hn_set] at hn4
  try (rw [kq]; refine ⟨by simp -dsimp -implicitDefEqProofs only [go_sem, rq1, hoo], ?_⟩)
  repeat (first | rw [ko] | rw [kr] | simp -dsimp -implicitDefEqProofs only [go_sem, rq1, hoo, a2, a3, a4])
  exact ⟨zale, ⟨_, rfl⟩, by rw [hy]; rfl⟩
 ·obtain ⟨a1, a2, a3, a4⟩ := adds (w := ⟨#[101, 110, 100]⟩) (d := decN (gotI rq).length) (h := hexT tx) (by decide) (decN_size hsh.2.1) hexT_size
  rw [h5] at hy
  have ix : ∀ f : Adr, indexAddrX Tryz.prog 60 (.sl f 1 [[T.v (.string ⟨#[108, 105, 118, 101]⟩)], [T.v (.string ⟨#[97, 108, 108]⟩)], [T.v (.string ⟨#[101, 110, 100]⟩)], [T.v (.string ⟨#[115, 116, 111, 112]⟩)], [T.v (.string ⟨#[99, 97, 110, 99, 101, 108, 108, 101, 100]⟩)]]) (.raw (.int .i64 2)) = some (.pr (idxV 2 1 (f [])) (under f 2) [T.v (.string ⟨#[101, 110, 100]⟩)]) := fun f => (ia_sl (by rw [Go.Ai.ty_el60]; rfl) (by rw [Go.Ai.ty_el60]; rfl) (by omega) (by decide)).trans rfl
  have w1 : IntKind.i64.wrap ((rq.tokens.length : Int) - rq.prompt) = ((gotI rq).length : Nat) := by rw [hsh.2.2, wrap_i64] <;> omega
  repeat (first | rw [ko] | rw [kr] | simp -dsimp -implicitDefEqProofs only [go_sem, rq1, rq2, rq3, hoo, q2, hi2, Int.toNat_natCast, hrq, h5])
  refine dq_intro [(0, []), (1, []), (2, []), (3, []), (4, []), (5, []), (6, []), (7, []), (8, []), (9, []), (10, []), (11, []), (15, []), (12, [2, 4]), (13, []), (14, []), (16, []), (17, [])] (by kernel_rfl) ?_
  repeat (first | rw [ko] | rw [kr] | simp -dsimp -implicitDefEqProofs only [go_sem, rq1, hoo, ix, a1, w1])
  refine pw_intro (specDec_ok (n := (gotI rq).length) hsh.2.1) ?_
  rintro _ n4 hn4 rfl
  try simp only [hn_push, hn_up, hn_set] at hn4
  try (rw [kq]; refine ⟨by simp -dsimp -implicitDefEqProofs only [go_sem, rq1, hoo], ?_⟩)
  repeat (first | rw [ko] | rw [kr] | simp -dsimp -implicitDefEqProofs only [go_sem, rq1, hoo, a2, a3, a4])
  exact ⟨zale, ⟨_, rfl⟩, by rw [hy]; rfl⟩
 ·obtain ⟨a1, a2, a3, a4⟩ := adds (w := ⟨#[115, 116, 111, 112]⟩) (d := decN (gotI rq).length) (h := hexT tx) (by decide) (decN_size hsh.2.1) hexT_size
  rw [h5] at hy
  have ix : ∀ f : Adr, indexAddrX Tryz.prog 60 (.sl f 1 [[T.v (.string ⟨#[108, 105, 118, 101]⟩)], [T.v (.string ⟨#[97, 108, 108]⟩)], [T.v (.string ⟨#[101, 110, 100]⟩)], [T.v (.string ⟨#[115, 116, 111, 112]⟩)], [T.v (.string ⟨#[99, 97, 110, 99, 101, 108, 108, 101, 100]⟩)]]) (.raw (.int .i64 3)) = some (.pr (idxV 3 1 (f [])) (under f 3) [T.v (.string ⟨#[115, 116, 111, 112]⟩)]) := fun f => (ia_sl (by rw [Go.Ai.ty_el60]; rfl) (by rw [Go.Ai.ty_el60]; rfl) (by omega) (by decide)).trans rfl
  have w1 : IntKind.i64.wrap ((rq.tokens.length : Int) - rq.prompt) = ((gotI rq).length : Nat) := by rw [hsh.2.2, wrap_i64] <;> omega
  repeat (first | rw [ko] | rw [kr] | simp -dsimp -implicitDefEqProofs only [go_sem, rq1, rq2, rq3, hoo, q2, hi2, Int.toNat_natCast, hrq, h5])
  refine dq_intro [(0, []), (1, []), (2, []), (3, []), (4, []), (5, []), (6, []), (7, []), (8, []), (9, []), (10, []), (11, []), (15, []), (12, [2, 4]), (13, []), (14, []), (16, []), (17, [])] (by kernel_rfl) ?_
  repeat (first | rw [ko] | rw [kr] | simp -dsimp -implicitDefEqProofs only [go_sem, rq1, hoo, ix, a1, w1])
  refine pw_intro (specDec_ok (n := (gotI rq).length) hsh.2.1) ?_
  rintro _ n4 hn4 rfl
  try simp only [hn_push, hn_up, hn_set] at hn4
  try (rw [kq]; refine ⟨by simp -dsimp -implicitDefEqProofs only [go_sem, rq1, hoo], ?_⟩)
  repeat (first | rw [ko] | rw [kr] | simp -dsimp -implicitDefEqProofs only [go_sem, rq1, hoo, a2, a3, a4])
  exact ⟨zale, ⟨_, rfl⟩, by rw [hy]; rfl⟩
 ·obtain ⟨a1, a2, a3, a4⟩ := adds (w := ⟨#[99, 97, 110, 99, 101, 108, 108, 101, 100]⟩) (d := decN (gotI rq).length) (h := hexT tx) (by decide) (decN_size hsh.2.1) hexT_size
  rw [h5] at hy
  have ix : ∀ f : Adr, indexAddrX Tryz.prog 60 (.sl f 1 [[T.v (.string ⟨#[108, 105, 118, 101]⟩)], [T.v (.string ⟨#[97, 108, 108]⟩)], [T.v (.string ⟨#[101, 110, 100]⟩)], [T.v (.string ⟨#[115, 116, 111, 112]⟩)], [T.v (.string ⟨#[99, 97, 110, 99, 101, 108, 108, 101, 100]⟩)]]) (.raw (.int .i64 4)) = some (.pr (idxV 4 1 (f [])) (under f 4) [T.v (.string ⟨#[99, 97, 110, 99, 101, 108, 108, 101, 100]⟩)]) := fun f => (ia_sl (by rw [Go.Ai.ty_el60]; rfl) (by rw [Go.Ai.ty_el60]; rfl) (by omega) (by decide)).trans rfl
  have w1 : IntKind.i64.wrap ((rq.tokens.length : Int) - rq.prompt) = ((gotI rq).length : Nat) := by rw [hsh.2.2, wrap_i64] <;> omega
  repeat (first | rw [ko] | rw [kr] | simp -dsimp -implicitDefEqProofs only [go_sem, rq1, rq2, rq3, hoo, q2, hi2, Int.toNat_natCast, hrq, h5])
  refine dq_intro [(0, []), (1, []), (2, []), (3, []), (4, []), (5, []), (6, []), (7, []), (8, []), (9, []), (10, []), (11, []), (15, []), (12, [2, 4]), (13, []), (14, []), (16, []), (17, [])] (by kernel_rfl) ?_
  repeat (first | rw [ko] | rw [kr] | simp -dsimp -implicitDefEqProofs only [go_sem, rq1, hoo, ix, a1, w1])
  refine pw_intro (specDec_ok (n := (gotI rq).length) hsh.2.1) ?_
  rintro _ n4 hn4 rfl
  try simp only [hn_push, hn_up, hn_set] at hn4
  try (rw [kq]; refine ⟨by simp -dsimp -implicitDefEqProofs only [go_sem, rq1, hoo], ?_⟩)
  repeat (first | rw [ko] | rw [kr] | simp -dsimp -implicitDefEqProofs only [go_sem, rq1, hoo, a2, a3, a4])
  exact ⟨zale, ⟨_, rfl⟩, by rw [hy]; rfl⟩
end Go.Bi
end
section
set_option maxRecDepth 20000
namespace Go.Bi
open Go.Proofs
open Go.Ai (wrap_i64 wrap_u8)
variable {W0 : World} {P : Program}
theorem implShow_tree {e : LEngine} {k : Int} {g : H2} {bs : List Nat} {ys : List X} (o : OTs g bs ys (eEngine e)) (hW : Lng W0) (hs : smallEng e) (hr : rngEngine e) (hz : smallStops e) :
  WC2 Tryz.prog W0 7 [.st ys, .raw (.int .i64 k)] g (fun x g' => g.le g' ∧ x = .raw (.string (showT e k))) := by
 obtain ⟨F, hF⟩ := o.lent
 have c1 : PW Tryz.prog W0 7 [.st ys, .raw (.int .i64 k)] g (fun r => r = .raw (.string (showT e k))) := PW.lend (.cons hF (.cons lent_raw .nil)) (implShow_ok (F := F) hW hs hr hz) (fun y h => by rw [h]; exact .raw)
 refine WC2.mono c1 ?_
 rintro x g' ⟨h1, h2, h3⟩
 exact ⟨by rw [h1]; exact le_up (H2.le.refl _) h2, h3⟩
theorem specShow_tree {e : LEngine} {k : Int} {g : H2} {bs : List Nat} {ys : List X} (o : OTs g bs ys (eEngine e)) (hW : Lng W0) (hs : smallEng e) (hr : rngEngine e) (hz : smallStops e) :
  WC2 Tryz.prog W0 5 [.st ys, .raw (.int .i64 k)] g (fun x g' => g.le g' ∧ x = .raw (.string (showT e k))) := by
 obtain ⟨F, hF⟩ := o.lent
 have c1 : PW Tryz.prog W0 5 [.st ys, .raw (.int .i64 k)] g (fun r => r = .raw (.string (showT e k))) := PW.lend (.cons hF (.cons lent_raw .nil)) (specShow_ok (F := F) hW hs hr hz) (fun y h => by rw [h]; exact .raw)
 refine WC2.mono c1 ?_
 rintro x g' ⟨h1, h2, h3⟩
 exact ⟨by rw [h1]; exact le_up (H2.le.refl _) h2, h3⟩
theorem shEngine {g : H2} {bs : List Nat} {ys : List X} {c : LEngine} (o : OTs g bs ys (eEngine c)) : ∃ s3 s4 s5 s6 s8 s9 s12 s13 s14 s15 s16 , ys = [.raw (.int .i64 c.model.dim), .raw (.int .i64 c.model.heads), .raw (.int .i64 c.model.context), s3, s4, s5, s6, .raw (.int .i64 c.model.head.width), s8, s9, .raw (.int .i64 c.model.head.mul), .raw (.int .i64 c.model.head.shift), s12, s13, s14, s15, s16] ∧ (cellsX s3 = some [s3] ∧ okX s3 = true ∧ isTpX s3 = false) ∧ (cellsX s4 = some [s4] ∧ okX s4 = true ∧ isTpX s4 = false) ∧ (cellsX s5 = some [s5] ∧ okX s5 = true ∧ isTpX s5 = false) ∧ (cellsX s6 = some [s6] ∧ okX s6 = true ∧ isTpX s6 = false) ∧ (cellsX s8 = some [s8] ∧ okX s8 = true ∧ isTpX s8 = false) ∧ (cellsX s9 = some [s9] ∧ okX s9 = true ∧ isTpX s9 = false) ∧ (cellsX s12 = some [s12] ∧ okX s12 = true ∧ isTpX s12 = false) ∧ (cellsX s13 = some [s13] ∧ okX s13 = true ∧ isTpX s13 = false) ∧ (cellsX s14 = some [s14] ∧ okX s14 = true ∧ isTpX s14 = false) ∧ (cellsX s15 = some [s15] ∧ okX s15 = true ∧ isTpX s15 = false) ∧ (cellsX s16 = some [s16] ∧ okX s16 = true ∧ isTpX s16 = false) := by
 obtain ⟨b3, s3, b4, s4, b5, s5, b6, s6, b8, s8, b9, s9, b12, s12, b13, s13, b14, s14, b15, s15, b16, s16, rfl, rfl, o3, o4, o5, o6, o8, o9, o12, o13, o14, o15, o16⟩ := invEngine o
 exact ⟨s3, s4, s5, s6, s8, s9, s12, s13, s14, s15, s16, rfl, o3.cell, o4.cell, o5.cell, o6.cell, o8.cell, o9.cell, o12.cell, o13.cell, o14.cell, o15.cell, o16.cell⟩
end Go.Bi
end
section
set_option maxRecDepth 20000
set_option maxHeartbeats 8000000
namespace Go.Bi
open Go.Proofs
open Go.Ai (wrap_i64 wrap_u8)
variable {W0 : World}
theorem FnExactShowRequest_ok {F0 : Nat → Adr} {e : LEngine} {k : Int} {h : H2} (hW : Lng W0) (hf0 : fitEngine e)  (hrg : rngEngine e) : WC2 Tryz.prog W0 3 [.st (xEngine F0 e), .raw (.int .i64 k)] h (fun v h' => v = .raw (.bool true)) := by
 refine begins [[0, 1], [1, 2], [1, 2, 5], [1, 2, 5], [], [1, 2], [1, 2, 6], [1, 2, 6, 7], [2, 6, 7, 8], [], [2, 7], [], []] Tryz.func3 rfl (rs := [.tmp 4]) rfl rfl ?_
 intro wf
 repeat (first | rw [ko] | rw [kr] | simp -dsimp -implicitDefEqProofs only [go_sem])
 refine pw_intro (szEngine_ok hf0 ⟨by omega, by omega⟩) ?_
 rintro _ n1 hn1 ⟨k1, rfl, hk1⟩
 have hm1 := hn1
 try simp only [hn_push] at hm1
 repeat (first | rw [ko] | rw [kr] | simp -dsimp -implicitDefEqProofs only [go_sem, rq1, hoo])
 refine gz_dec (fun q2 => ?_) (fun q2 => ?_)
 ·repeat (first | rw [ko] | rw [kr] | simp -dsimp -implicitDefEqProofs only [go_sem])
  rfl
 have hsz_e : szEngine e ≤ 1048576 := by omega
 have hsm := smallEng_of hsz_e
 have hst := smallStops_of hsz_e
 repeat (first | rw [ko] | rw [kr] | simp -dsimp -implicitDefEqProofs only [go_sem, rq1, hoo])
 refine wz_intro (toEngine_ok (by omega)) ?_
 rintro _ g3 ⟨l3, ys3, b3, rfl, o3, bl3⟩
 try simp only [hn_up] at bl3
 have nn3 := l3.n
 try simp only [hn_up] at nn3
 have LL3 : h.le g3 := H2.le.trans zale l3
 have ln3 := LL3.n
 have row0 := l3.2 (hn h .mk) zau
 simp -dsimp -implicitDefEqProofs only [go_sem, hoo] at row0
 obtain ⟨s3_3, s3_4, s3_5, s3_6, s3_8, s3_9, s3_12, s3_13, s3_14, s3_15, s3_16, rfl, ce3⟩ := shEngine o3
 repeat (first | rw [ko] | rw [kr] | simp -dsimp -implicitDefEqProofs only [go_sem, rq1, hoo])
 refine wz_intro (specShow_tree (o3.keep zale (bl3.wide (Nat.le_refl _) (by omega))) hW hsm hrg hst) ?_
 rintro _ g4 ⟨l4, rfl⟩
 have nn4 := l4.n
 try simp only [hn_push, hn_up] at nn4
 have LL4 : g3.le g4 := H2.le.trans zale l4
 have ln4 := LL4.n
 replace row0 := (LL4.2 (hn h .mk) (by omega)).trans row0
 repeat (first | rw [ko] | rw [kr] | simp -dsimp -implicitDefEqProofs only [go_sem, rq1, row0, hoo])
 refine wz_intro (toEngine_ok (by omega)) ?_
 rintro _ g5 ⟨l5, ys5, b5, rfl, o5, bl5⟩
 try simp only [hn_push, hn_up] at bl5
 have nn5 := l5.n
 try simp only [hn_push, hn_up] at nn5
 have LL5 : g4.le g5 := H2.le.trans zale l5
 have ln5 := LL5.n
 replace row0 := (LL5.2 (hn h .mk) (by omega)).trans row0
 obtain ⟨s5_3, s5_4, s5_5, s5_6, s5_8, s5_9, s5_12, s5_13, s5_14, s5_15, s5_16, rfl, ce5⟩ := shEngine o5
 have ne6 : ((hn h .mk) == (hn g5 .mk)) = false := zne
 have nf6 : ((hn g5 .mk) == (hn h .mk)) = false := zne
 repeat (first | rw [ko] | rw [kr] | simp -dsimp -implicitDefEqProofs only [go_sem, rq1, rq2, ce5, hoo])
 refine wz_intro (implShow_tree (o5.keep zale (bl5.wide (Nat.le_refl _) (by omega))) hW hsm hrg hst) ?_
 rintro _ g7 ⟨l7, rfl⟩
 have nn7 := l7.n
 try simp only [hn_push] at nn7
 have LL7 : g5.le g7 := H2.le.trans zale l7
 have ln7 := LL7.n
 replace o5 := o5.keep LL7 (bl5.wide (Nat.le_refl _) (by omega))
 replace row0 := (LL7.2 (hn h .mk) (by omega)).trans row0
 have row1 := l7.2 (hn g5 .mk) zau
 simp -dsimp -implicitDefEqProofs only [go_sem, hoo] at row1
 repeat (first | rw [ko] | rw [kr] | simp -dsimp -implicitDefEqProofs only [go_sem, rq1, hoo])
 refine dq_intro [(0, []), (1, []), (2, [0]), (3, []), (4, [])] (by kernel_rfl) ?_
 repeat (first | rw [ko] | rw [kr] | simp -dsimp -implicitDefEqProofs only [go_sem, rq1, row0, row1, hoo])
 refine wz_intro (toEngine_ok (by omega)) ?_
 rintro _ g8 ⟨l8, ys8, b8, rfl, o8, bl8⟩
 try simp only [hn_push, hn_up] at bl8
 have nn8 := l8.n
 try simp only [hn_push, hn_up] at nn8
 have LL8 : g7.le g8 := H2.le.trans zale l8
 have ln8 := LL8.n
 replace o5 := o5.keep LL8 (bl5.wide (Nat.le_refl _) (by omega))
 replace row0 := (LL8.2 (hn h .mk) (by omega)).trans row0
 replace row1 := (LL8.2 (hn g5 .mk) (by omega)).trans row1
 obtain ⟨s8_3, s8_4, s8_5, s8_6, s8_8, s8_9, s8_12, s8_13, s8_14, s8_15, s8_16, rfl, ce8⟩ := shEngine o8
 rw [kq]
 refine ⟨by simp -dsimp -implicitDefEqProofs only [go_sem, rq1, row1, hoo], ?_⟩
 repeat (first | rw [ko] | rw [kr] | simp -dsimp -implicitDefEqProofs only [go_sem, hoo])
 refine pw_intro (eqEngine_tree (o5.keep zale (bl5.wide (Nat.le_refl _) (by omega))) (o8.keep zale (bl8.wide (Nat.le_refl _) (by omega))) hf0) ?_
 rintro _ n9 hn9 rfl
 have hm9 := hn9
 try simp only [hn_push, hn_up] at hm9
 repeat (first | rw [ko] | rw [kr] | simp -dsimp -implicitDefEqProofs only [go_sem, hoo])
 rfl
end Go.Bi
end
