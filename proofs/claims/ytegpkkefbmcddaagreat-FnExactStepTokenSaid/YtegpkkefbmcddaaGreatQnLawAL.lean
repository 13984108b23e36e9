/- Own lemmas that the theorem of this claim needs: the abstract machine and walks of functions. -/
import Derived.Test.YtegpkkefbmcddaaGreatQnLawAK
set_option linter.unusedSimpArgs false
set_option linter.unusedVariables false
open Nat renaming reduceBEq → sQ1, reduceAdd → sQ2, reduceLeDiff → sQ3, reduceMul → sQ4
open Int renaming reduceLE → sQ5, reduceLT → sQ6, reduceBEq → sQ7
section
namespace Go.Bi
theorem with_t {m : LMatrix} {w n : Int} (h : withB m w n = true) : matB m = true ∧ m.width = w ∧ (m.rows.length : Int) = n := by
 unfold withB at h
 simp only [Bool.and_eq_true, decide_eq_true_eq] at h
 exact ⟨h.1, h.2.1, h.2.2.1⟩
theorem gain_t {g : List Int} {n : Int} (h : gainB g n = true) : (g.length : Int) = n ∧ allI g 0 127 = true ∧ absB 127 g := by
 unfold gainB at h
 simp only [Bool.and_eq_true, decide_eq_true_eq] at h
 exact ⟨h.1, h.2, allI_abs h.2 (by omega) (by omega)⟩
theorem lay_t {l : LLayer} {d : Int} (h : layB l d = true) : gainB l.gain1 d = true ∧ gainB l.gain2 d = true ∧ (l.up.rows.length = 4 ∨ l.up.rows.length = 8) ∧ withB l.q d d = true ∧ withB l.k d d = true ∧ withB l.v d d = true ∧ withB l.o d d = true ∧ withB l.up d l.up.rows.length = true ∧ withB l.down l.up.rows.length d = true := by
 unfold layB at h
 simp only [Bool.and_eq_true] at h
 obtain ⟨a1, a2, a3, a4, a5, a6, a7, a8, a9⟩ := h
 have a3 := width_t a3
 exact ⟨a1, a2, by omega, a4, a5, a6, a7, a8, a9⟩
theorem turnsL_t {l : List (List Int)} {c n : Int} (h : turnsL l c n = true) : (l.length : Int) = c ∧ ∀ i, i < l.length → ((l.getD i default).length : Int) = n ∧ allI (l.getD i default) (-128) 128 = true := by
 unfold turnsL at h
 simp only [Bool.and_eq_true, decide_eq_true_eq, Bool.not_eq_true'] at h
 refine ⟨h.1, fun i hi => ?_⟩
 have h2 := List.any_eq_false.1 h.2 (l.getD i default) (by rw [List.getD_eq_getElem?_getD, List.getElem?_eq_getElem hi]; exact List.getElem_mem hi)
 unfold turnB at h2
 simp only [Bool.not_eq_true', Bool.not_eq_false, Bool.and_eq_true, decide_eq_true_eq] at h2
 exact h2
theorem turns_t {t : LTurns} {c n : Int} (h : turnsB t c n = true) : (4 ≤ c ∧ c ≤ 24) ∧ (1 ≤ n ∧ n ≤ 4) ∧ (t.cos.length : Int) = c ∧ (t.sin.length : Int) = c ∧
  ∀ i : Nat, (i : Int) < c → (((t.cos.getD i default).length : Int) = n ∧ allI (t.cos.getD i default) (-128) 128 = true) ∧ ((t.sin.getD i default).length : Int) = n ∧ allI (t.sin.getD i default) (-128) 128 = true := by
 unfold turnsB at h
 simp only [Bool.and_eq_true] at h
 obtain ⟨a1, a2, a3, a4⟩ := h
 have b3 := turnsL_t a3
 have b4 := turnsL_t a4
 exact ⟨inI_tt a1, inI_tt a2, b3.1, b4.1, fun i hi => ⟨b3.2 i (by omega), b4.2 i (by omega)⟩⟩
theorem anyL_t {α : Type} [Inhabited α] {l : List α} {p : α → Bool} (h : (l.any fun x => !p x) = false) {i : Nat} (hi : i < l.length) : p (l.getD i default) = true := by
 have h2 := List.any_eq_false.1 h (l.getD i default) (by rw [List.getD_eq_getElem?_getD, List.getElem?_eq_getElem hi]; exact List.getElem_mem hi)
 simpa using h2
structure ModT (m : LModel) : Prop where
 dim : m.dim = 4 ∨ m.dim = 8
 heads : m.heads = 1 ∨ m.heads = 2
 emb : (m.embed.length : Int) = vocI m
 nl : 1 ≤ m.layers.length ∧ m.layers.length ≤ 2
 row : ∀ i, i < m.embed.length → ((m.embed.getD i default).length : Int) = m.dim ∧ absB 127 (m.embed.getD i default)
 lay : ∀ i, i < m.layers.length → layB (m.layers.getD i default) m.dim = true
 gain : gainB m.gainEnd m.dim = true
 head : withB m.head m.dim (vocI m) = true
 turns : turnsB m.turns m.context (Int.tdiv (Int.tdiv m.dim m.heads) 2) = true
 mer : mergesB m.merges = true
theorem model_t {m : LModel} (h : modelB m = true) : ModT m := by
 unfold modelB at h
 simp only [Bool.and_eq_true, decide_eq_true_eq, Bool.not_eq_true'] at h
 obtain ⟨a1, a2, a3, a4, a5, a6, a7, a8, a9, b1⟩ := h
 have a2 := inI_tt a2
 have a5 := inI_tt a5
 refine ⟨width_t a1, by omega, a4, by omega, fun i hi => ?_, fun i hi => anyL_t (p := fun l => layB l m.dim) a7 hi, a8, a9, b1, a3⟩
 have := anyL_t (p := fun r => embB m.dim r) a6 hi
 unfold embB at this
 simp only [Bool.and_eq_true, decide_eq_true_eq] at this
 exact ⟨this.1, allI_abs this.2 (by omega) (by omega)⟩
theorem size_t {m : LModel} (h : ModT m) : (sizeH m = 2 ∨ sizeH m = 4 ∨ sizeH m = 8) ∧ m.heads.toNat * sizeH m = m.dim.toNat ∧ Int.tdiv m.dim m.heads = (sizeH m : Int) ∧ Int.tdiv (Int.tdiv m.dim m.heads) 2 = ((sizeH m / 2 : Nat) : Int) ∧ m.heads.toNat * sizeH m ≤ 8 ∧ 1 ≤ m.heads.toNat ∧ m.heads.toNat ≤ 2 := by
 unfold sizeH
 rcases h.dim with e | e <;> rcases h.heads with e2 | e2 <;> rw [e, e2] <;> decide
def VecM (m : LModel) (b : Int) (x : List Int) : Prop := x.length = m.dim.toNat ∧ absB b x
theorem VecM.mono {m : LModel} {b c : Int} {x : List Int} (h : VecM m b x) (hc : b ≤ c) : VecM m c x := ⟨h.1, absB_mono h.2 hc⟩
theorem VecM.len {m : LModel} {b : Int} {x : List Int} (h : VecM m b x) (ht : ModT m) : (x.length = 4 ∨ x.length = 8) ∧ (x.length : Int) = m.dim := by
 have := h.1
 rcases ht.dim with e | e <;> rw [e] at this ⊢ <;> omega
theorem VecM.norm {m : LModel} {b : Int} {x g : List Int} (h : VecM m b x) : VecM m 127 (normI x g) := ⟨by rw [normI_len]; exact h.1, normI_abs⟩
theorem VecM.app {m : LModel} {a : LMatrix} {w : Int} {x : List Int} (h : withB a w m.dim = true) (ht : ModT m) : VecM m 127 (applyI a x) := by
 refine ⟨?_, applyI_abs⟩
 rw [applyI_len]
 have := (with_t h).2.2
 omega
theorem VecM.turn {m : LModel} {b : Int} {p : Nat} {x : List Int} (h : VecM m b x) : VecM m 127 (turnM m p x) := ⟨by unfold turnM; rw [turnsI_len]; exact h.1, turnsI_abs⟩
theorem head_t {m : LModel} {b : Int} {x : List Int} {h : Nat} (hx : VecM m b x) (ht : ModT m) (hh : h < m.heads.toNat) : (headI x (sizeH m) h).length = sizeH m ∧ absB b (headI x (sizeH m) h) := by
 refine ⟨?_, fun y hy => hx.2 y (List.mem_of_mem_drop (List.mem_of_mem_take hy))⟩
 unfold headI
 rw [List.length_take, List.length_drop, hx.1]
 obtain ⟨h1, h2, _, _, h3, h4, h5⟩ := size_t ht
 rw [← h2]
 have : h = 0 ∨ h = 1 := by omega
 rcases this with rfl | rfl
 ·have : sizeH m ≤ m.heads.toNat * sizeH m := Nat.le_mul_of_pos_left _ h4
  omega
 ·have : m.heads.toNat = 2 := by omega
  rw [this]; omega
theorem partN_cut {m : LModel} {x : List Int} (ht : ModT m) (h : x.length = sizeH m) : partN (Int.tdiv m.dim m.heads) (cutI x) = true := by
 obtain ⟨h1, _, h3, _⟩ := size_t ht
 unfold partN
 rw [Bool.and_eq_true]
 refine ⟨cutI_ok (by omega) (by omega), decide_eq_true ?_⟩
 rw [h3]
 have : (cutI x).values.length = x.length := by simp [cutI, cutV]
 omega
theorem parts_cut {m : LModel} {f : Nat → List Int} (ht : ModT m) (h : ∀ i, i < m.heads.toNat → (f i).length = sizeH m) : partsB ((List.range m.heads.toNat).map fun i => cutI (f i)) m.heads (Int.tdiv m.dim m.heads) = true := by
 unfold partsB
 rw [Bool.and_eq_true, Bool.not_eq_true', List.any_eq_false]
 refine ⟨decide_eq_true ?_, fun p hp => ?_⟩
 ·rw [List.length_map, List.length_range]
  rcases ht.heads with e | e <;> rw [e] <;> rfl
 ·obtain ⟨i, hi, rfl⟩ := List.mem_map.1 hp
  rw [partN_cut ht (h i (List.mem_range.1 hi))]
  simp
theorem keys_ok {m : LModel} {l : LLayer} {p : Nat} {x : List Int} {b : Int} (ht : ModT m) (hl : layB l m.dim = true) (hx : VecM m b x) : partsB (keysI m l p x) m.heads (Int.tdiv m.dim m.heads) = true :=
 parts_cut ht fun i hi => (head_t (VecM.turn (p := p) (VecM.app (lay_t hl).2.2.2.2.1 ht)) ht hi).1
theorem vals_ok {m : LModel} {l : LLayer} {x : List Int} {b : Int} (ht : ModT m) (hl : layB l m.dim = true) (hx : VecM m b x) : partsB (valsI m l x) m.heads (Int.tdiv m.dim m.heads) = true :=
 parts_cut ht fun i hi => (head_t (VecM.app (lay_t hl).2.2.2.2.2.1 ht) ht hi).1
theorem parts_t {m : LModel} {l : List LPart} (ht : ModT m) (h : partsB l m.heads (Int.tdiv m.dim m.heads) = true) : l.length = m.heads.toNat ∧ ∀ i, i < l.length → partB (l.getD i default) = true ∧ (l.getD i default).values.length = sizeH m := by
 unfold partsB at h
 rw [Bool.and_eq_true, Bool.not_eq_true', decide_eq_true_eq] at h
 refine ⟨by omega, fun i hi => ?_⟩
 have := anyL_t (p := fun p => partN (Int.tdiv m.dim m.heads) p) h.2 hi
 unfold partN at this
 rw [Bool.and_eq_true, decide_eq_true_eq, (size_t ht).2.2.1] at this
 exact ⟨this.1, by omega⟩
def PartsM (m : LModel) (l : List (List LPart)) : Prop := ∀ i, i < l.length → partsB (l.getD i default) m.heads (Int.tdiv m.dim m.heads) = true
theorem ofHead_t {m : LModel} {l : List (List LPart)} {h : Nat} (ht : ModT m) (hl : PartsM m l) (hh : h < m.heads.toNat) : (ofHeadI l h).length = l.length ∧ (∀ v ∈ ofHeadI l h, absB 127 v) ∧ ∀ v ∈ ofHeadI l h, v.length = sizeH m := by
 unfold ofHeadI
 refine ⟨by simp, fun v hv => ?_, fun v hv => ?_⟩
 ·obtain ⟨p, _, rfl⟩ := List.mem_map.1 hv; exact backI_abs
 ·obtain ⟨p, hp, rfl⟩ := List.mem_map.1 hv
  obtain ⟨i, hi, rfl⟩ := List.getElem_of_mem hp
  have h1 := hl i hi
  rw [List.getD_eq_getElem?_getD, List.getElem?_eq_getElem hi, Option.getD_some] at h1
  have h2 := parts_t ht h1
  rw [backI_len]
  exact (h2.2 h (by omega)).2
theorem attend_len {q : List Int} {ks vs : List (List Int)} : (attendI q ks vs).length = q.length := mixI_len
theorem flatL_len {α : Type} {f : Nat → List α} {s : Nat} : ∀ {n : Nat}, (∀ i, i < n → (f i).length = s) → ((List.range n).flatMap f).length = n * s
 | 0, _ => by simp
 | n + 1, h => by
  rw [List.range_succ, List.flatMap_append, List.length_append, flatL_len fun i hi => h i (by omega), List.flatMap_cons, List.flatMap_nil, List.append_nil, h n (by omega), Nat.succ_mul]
theorem all_ok {m : LModel} {b : Int} {q : List Int} {ks vs : List (List LPart)} (ht : ModT m) (hq : VecM m b q) : VecM m 127 (allHI m q ks vs) := by
 unfold allHI
 refine ⟨?_, fun y hy => ?_⟩
 ·rw [flatL_len (s := sizeH m) fun i hi => by rw [attend_len]; exact (head_t hq ht hi).1]
  exact (size_t ht).2.1
 ·obtain ⟨i, _, h⟩ := List.mem_flatMap.1 hy
  exact mixI_abs y h
theorem mid_ok {m : LModel} {l : LLayer} {p : Nat} {b : Int} {x : List Int} {ks vs : List (List LPart)} (hx : VecM m b x) : VecM m 500 (midI m l p x ks vs) := ⟨by unfold midI; rw [addI_len]; exact hx.1, addI_abs⟩
theorem step_ok {m : LModel} {l : LLayer} {p : Nat} {b : Int} {x : List Int} {ks vs : List (List LPart)} (hx : VecM m b x) : VecM m 500 (stepI m l p x ks vs) := ⟨by unfold stepI; rw [addI_len]; exact (mid_ok hx).1, addI_abs⟩
theorem tok_ok {m : LModel} {past : List LCell} {t : Nat} (ht : ModT m) (h : t < m.embed.length) : ∀ {n : Nat}, n ≤ m.layers.length → VecM m 500 (tokX m past t n).1
 | 0, _ => by
  have := ht.row t h
  refine ⟨?_, absB_mono this.2 (by omega)⟩
  show (m.embed.getD t default).length = _
  rcases ht.dim with e | e <;> rw [e] at this ⊢ <;> omega
 | n + 1, hn => step_ok (tok_ok ht h (n := n) (by omega))
theorem tokX_cell {m : LModel} {past : List LCell} {t : Nat} (ht : ModT m) (h : t < m.embed.length) : ∀ {n : Nat}, n ≤ m.layers.length → (tokX m past t n).2.keys.length = n ∧ (tokX m past t n).2.values.length = n ∧ PartsM m (tokX m past t n).2.keys ∧ PartsM m (tokX m past t n).2.values
 | 0, _ => ⟨rfl, rfl, fun i hi => absurd hi (Nat.not_lt_zero _), fun i hi => absurd hi (Nat.not_lt_zero _)⟩
 | n + 1, hn => by
  obtain ⟨a1, a2, a3, a4⟩ := tokX_cell (past := past) ht h (n := n) (by omega)
  have hv := tok_ok (past := past) ht h (n := n) (by omega)
  have hl := ht.lay n (by omega)
  have app {l : List (List LPart)} {k : List LPart} (hl : PartsM m l) (hk : partsB k m.heads (Int.tdiv m.dim m.heads) = true) : PartsM m (l ++ [k]) := fun i hi => by
   rw [List.getD_eq_getElem?_getD]
   by_cases e : i < l.length
   ·rw [List.getElem?_append_left e, ← List.getD_eq_getElem?_getD]; exact hl i e
   ·have : i = l.length := by simp at hi; omega
    subst this
    simp [hk]
  refine ⟨by simp [tokX, a1], by simp [tokX, a2], ?_, ?_⟩
  ·exact app a3 (keys_ok ht hl hv)
  ·exact app a4 (vals_ok ht hl hv)
def CellT (m : LModel) (c : LCell) : Prop := c.keys.length = m.layers.length ∧ c.values.length = m.layers.length ∧ PartsM m c.keys ∧ PartsM m c.values
theorem cellI_t {m : LModel} {past : List LCell} {t : Nat} (ht : ModT m) (h : t < m.embed.length) : CellT m (cellI m past t) := tokX_cell ht h (Nat.le_refl _)
theorem keysAt_ok {m : LModel} {past : List LCell} {n : Nat} {k : List LPart} (ht : ModT m) (hp : ∀ c ∈ past, CellT m c) (hn : n < m.layers.length) (hk : partsB k m.heads (Int.tdiv m.dim m.heads) = true) : PartsM m (past.map (fun c => c.keys.getD n default) ++ [k]) := fun i hi => by
 rw [List.getD_eq_getElem?_getD]
 by_cases e : i < past.length
 ·rw [List.getElem?_append_left (by simpa using e), List.getElem?_map, List.getElem?_eq_getElem e]
  have := hp _ (List.getElem_mem e)
  exact this.2.2.1 n (by rw [this.1]; exact hn)
 ·have : i = past.length := by simp at hi; omega
  subst this
  simp [hk]
theorem valsAt_ok {m : LModel} {past : List LCell} {n : Nat} {k : List LPart} (ht : ModT m) (hp : ∀ c ∈ past, CellT m c) (hn : n < m.layers.length) (hk : partsB k m.heads (Int.tdiv m.dim m.heads) = true) : PartsM m (past.map (fun c => c.values.getD n default) ++ [k]) := fun i hi => by
 rw [List.getD_eq_getElem?_getD]
 by_cases e : i < past.length
 ·rw [List.getElem?_append_left (by simpa using e), List.getElem?_map, List.getElem?_eq_getElem e]
  have := hp _ (List.getElem_mem e)
  exact this.2.2.2 n (by rw [this.2.1]; exact hn)
 ·have : i = past.length := by simp at hi; omega
  subst this
  simp [hk]
end Go.Bi
end
section
set_option maxRecDepth 20000
namespace Go.Bi
open Go.Proofs
open Go.Ai (wrap_i64 Heap)
variable {W0 : World} {P : Program}
set_option maxHeartbeats 4000000
theorem floor_t {a b : Int} (hb : 0 < b) : (if a.tmod b < 0 then a.tdiv b - 1 else a.tdiv b) = a / b := by
 have h1 := Int.tmod_add_mul_tdiv a b
 have h2 := Int.tmod_lt_of_pos a hb
 have h3 := Int.lt_tmod_of_pos a hb
 split
 ·refine ((Int.ediv_emod_unique (r := a.tmod b + b) hb).2 ⟨?_, by omega, by omega⟩).1.symm
  rw [Int.mul_sub]; omega
 ·exact ((Int.ediv_emod_unique (r := a.tmod b) hb).2 ⟨h1, by omega, by omega⟩).1.symm
theorem tdiv_abs {a b : Int} {n : Int} (h : -n ≤ a ∧ a ≤ n) : -n ≤ a.tdiv b ∧ a.tdiv b ≤ n := by
 have h1 : (a.tdiv b).natAbs ≤ a.natAbs := by rw [Int.natAbs_tdiv]; exact Nat.div_le_self _ _
 omega
theorem wrapS {x : Int} (h : -4611686018427387904 ≤ x ∧ x ≤ 4611686018427387904) : IntKind.i64.wrap x = x := by rw [wrap_i64] <;> omega
theorem floorA_ok {a b : Int} {g : H2} (hb : 0 < b) (ha : -1000000000000 ≤ a ∧ a ≤ 1000000000000) : WC2 Tryz.prog W0 188 [.raw (.int .i64 a), .raw (.int .i64 b)] g (fun v g' => v = .raw (.int .i64 (a / b)) ∧ g' = g) := by
 refine begins [[0, 1], [0, 1], [], [0, 1], [0, 1, 5], [5], [5]] Tryz.func188 rfl (rs := [.tmp 4]) rfl rfl ?_
 intro wf
 have h1 : ¬ b ≤ 0 := by omega
 have h2 : inI a (-1000000000000) 1000000000000 = true := by rw [inI, Bool.and_eq_true]; exact ⟨decide_eq_true ha.1, decide_eq_true ha.2⟩
 have hb2 : (b == 0) = false := zne
 have w := wrapS (x := a.tdiv b) (by have := tdiv_abs (b := b) ha; omega)
 have w2 := wrapS (x := a.tdiv b - 1) (by have := tdiv_abs (b := b) ha; omega)
 repeat (first | rw [ko] | rw [kr] | simp -dsimp -implicitDefEqProofs only [go_sem, sQ1, h1])
 refine wz_intro in_ok ?_
 rintro _ g ⟨rfl, rfl⟩
 rw [h2]
 repeat (first | rw [ko] | rw [kr] | simp -dsimp -implicitDefEqProofs only [go_sem, sQ1, hb2, w])
 refine gz_dec (fun h3 => ?_) (fun h3 => ?_)
 ·repeat (first | rw [ko] | rw [kr] | simp -dsimp -implicitDefEqProofs only [go_sem, sQ1, w2])
  exact ⟨by rw [← floor_t hb, if_pos h3], rfl⟩
 ·repeat (first | rw [ko] | rw [kr] | simp -dsimp -implicitDefEqProofs only [go_sem, sQ1])
  exact ⟨by rw [← floor_t hb, if_neg h3], rfl⟩
theorem floorB_ok {a b : Int} {g : H2} (hb : 0 < b) (ha : -1000000000000 ≤ a ∧ a ≤ 1000000000000) : WC2 Tryz.prog W0 165 [.raw (.int .i64 a), .raw (.int .i64 b)] g (fun v g' => v = .raw (.int .i64 (a / b)) ∧ g' = g) := by
 refine begins [[0, 1], [0, 1], [0, 1, 5], [5], [5]] Tryz.func165 rfl (rs := [.tmp 4]) rfl rfl ?_
 intro wf
 have hb2 : (b == 0) = false := zne
 have w := wrapS (x := a.tdiv b) (by have := tdiv_abs (b := b) ha; omega)
 have w2 := wrapS (x := a.tdiv b - 1) (by have := tdiv_abs (b := b) ha; omega)
 repeat (first | rw [ko] | rw [kr] | simp -dsimp -implicitDefEqProofs only [go_sem, sQ1, hb2, w])
 refine gz_dec (fun h3 => ?_) (fun h3 => ?_)
 ·repeat (first | rw [ko] | rw [kr] | simp -dsimp -implicitDefEqProofs only [go_sem, sQ1, w2])
  exact ⟨by rw [← floor_t hb, if_pos h3], rfl⟩
 ·repeat (first | rw [ko] | rw [kr] | simp -dsimp -implicitDefEqProofs only [go_sem, sQ1])
  exact ⟨by rw [← floor_t hb, if_neg h3], rfl⟩
theorem mxI_eq {a b : Int} : Go.Ai.mxI a b = max a b := by unfold Go.Ai.mxI; split <;> omega
theorem mnI_eq {a b : Int} : Go.Ai.mnI a b = min a b := by unfold Go.Ai.mnI; split <;> omega
theorem clp_max {x m : Int} (h : 0 ≤ m) : max (-m) (min x m) = clp x m := by
 unfold clp
 split
 ·omega
 ·split <;> omega
theorem clamp1_ok {x m : Int} {g : H2} (h : 0 ≤ m) (hm : m ≤ 1000000) : WC2 Tryz.prog W0 190 [.raw (.int .i64 x), .raw (.int .i64 m)] g (fun v g' => v = .raw (.int .i64 (clp x m)) ∧ g' = g) := by
 refine begins [[0, 1], [0, 1], [], [0, 1]] Tryz.func190 rfl (rs := [.tmp 4]) rfl rfl ?_
 intro wf
 have h0 : ¬ m < 0 := by omega
 have w : IntKind.i64.wrap (0 - m) = -m := by rw [wrapS (by omega)]; omega
 repeat (first | rw [ko] | rw [kr] | simp -dsimp -implicitDefEqProofs only [go_sem, sQ1, h0, w])
 exact ⟨by rw [← clp_max h, mxI_eq, mnI_eq], rfl⟩
theorem clamp2_ok {x m : Int} {g : H2} (h : 0 ≤ m) (hm : m ≤ 1000000) : WC2 Tryz.prog W0 167 [.raw (.int .i64 x), .raw (.int .i64 m)] g (fun v g' => v = .raw (.int .i64 (clp x m)) ∧ g' = g) := by
 refine begins [[0, 1], [0, 1], [1], [0, 1], [1], [0]] Tryz.func167 rfl (rs := [.tmp 4]) rfl rfl ?_
 intro wf
 have w : IntKind.i64.wrap (0 - m) = -m := by rw [wrapS (by omega)]; omega
 repeat (first | rw [ko] | rw [kr] | simp -dsimp -implicitDefEqProofs only [go_sem])
 refine gz_dec (fun h1 => ?_) (fun h1 => ?_)
 ·repeat (first | rw [ko] | rw [kr] | simp -dsimp -implicitDefEqProofs only [go_sem, sQ1])
  exact ⟨by rw [clp, if_pos h1], rfl⟩
 repeat (first | rw [ko] | rw [kr] | simp -dsimp -implicitDefEqProofs only [go_sem, sQ1, w])
 refine gz_dec (fun h2 => ?_) (fun h2 => ?_)
 ·repeat (first | rw [ko] | rw [kr] | simp -dsimp -implicitDefEqProofs only [go_sem, sQ1, w])
  exact ⟨by rw [clp, if_neg h1, if_pos h2], rfl⟩
 ·repeat (first | rw [ko] | rw [kr] | simp -dsimp -implicitDefEqProofs only [go_sem, sQ1])
  exact ⟨by rw [clp, if_neg h1, if_neg h2], rfl⟩
theorem pow_bd (m : Nat) (hm : m ≤ 60) : 0 < (2 : Int) ^ m ∧ (2 : Int) ^ m ≤ 1152921504606846976 := by
 have e : (2 : Int) ^ m = ((2 ^ m : Nat) : Int) := by norm_cast
 have h1 : 0 < 2 ^ m := Nat.pow_pos (by decide)
 have h2 : 2 ^ m ≤ 2 ^ 60 := Nat.pow_le_pow_right (by decide) hm
 rw [e]
 have h3 : 2 ^ 60 = 1152921504606846976 := by decide
 omega
theorem pow_24 {m : Nat} (hm : m ≤ 24) : 0 < (2 : Int) ^ m ∧ (2 : Int) ^ m ≤ 16777216 := by
 have e : (2 : Int) ^ m = ((2 ^ m : Nat) : Int) := by norm_cast
 have h1 : 0 < 2 ^ m := Nat.pow_pos (by decide)
 have h2 : 2 ^ m ≤ 2 ^ 24 := Nat.pow_le_pow_right (by decide) hm
 rw [e]
 have h3 : 2 ^ 24 = 16777216 := by decide
 omega
theorem pow_ok {n : Nat} {g : H2} (hn0 : n ≤ 60) : WC2 Tryz.prog W0 234 [.raw (.int .i64 n)] g (fun v g' => v = .raw (.int .i64 (2 ^ n)) ∧ g' = g) := by
 refine begins [[0], [0], [0, 3], [0, 3, 4], [0, 3, 4], [0, 3, 4], [3]] Tryz.func234 rfl (rs := [.tmp 2]) rfl rfl ?_
 intro wf
 repeat (first | rw [ko] | rw [kr] | simp -dsimp -implicitDefEqProofs only [go_sem])
 refine lz_keep [0] (fun m e h' => ∃ (i : Nat), h' = g ∧ look e 4 .mk = .raw (.int .i64 (i : Nat)) ∧ look e 3 .mk = .raw (.int .i64 (2 ^ i)) ∧ m + i = n) n ?_ ?_
 ·exact ⟨0, rfl, zsm, by simp -dsimp -implicitDefEqProofs only [go_sem] <;> rfl, by omega⟩
 rintro m e h' hks ⟨i, rfl, e4, e3, hm⟩
 simp -dsimp -implicitDefEqProofs only [go_sem] at hks
 by_cases q1 : (i : Int) < (n : Int)
 ·have w1 := zwrs i (by omega)
  have hb := pow_bd (i + 1) (by omega)
  have hp : (2 : Int) * 2 ^ i = 2 ^ (i + 1) := by rw [Int.pow_succ]; omega
  have w2 := wrapS (x := 2 ^ (i + 1)) (by omega)
  repeat (first | rw [ko] | rw [kr] | simp -dsimp -implicitDefEqProofs only [go_sem, sQ1, hks, e4, e3, q1, w1, hp, w2])
  exact nx_keep (m - 1) (by omega) zsm ⟨i + 1, rfl, zsm, zsm, by omega⟩
 ·repeat (first | rw [ko] | rw [kr] | simp -dsimp -implicitDefEqProofs only [go_sem, sQ1, hks, e4, e3, q1])
  have : i = n := by omega
  subst this
  exact ⟨rfl, rfl⟩
theorem mulsh_in {x mul : Int} {sh : Nat} (hx : -10000000 ≤ x ∧ x ≤ 10000000) (hm : 0 ≤ mul ∧ mul ≤ 65536) (hs : sh ≤ 24) : (-655360000000 ≤ x * mul ∧ x * mul ≤ 655360000000) ∧ (0 ≤ (2 : Int) ^ sh / 2 ∧ (2 : Int) ^ sh / 2 ≤ 8388608) := by
 have h1 := mul_abs hx (show -65536 ≤ mul ∧ mul ≤ 65536 by omega)
 have h2 := pow_24 hs
 omega
theorem inI_mk {x a b : Int} (h1 : a ≤ x) (h2 : x ≤ b) : inI x a b = true := by rw [inI, Bool.and_eq_true]; exact ⟨decide_eq_true h1, decide_eq_true h2⟩
theorem shl_pow {sh : Nat} (hs : sh ≤ 24) : Go.Ai.shlI .i64 1 (sh : Int) = 2 ^ sh := by
 have hp := pow_24 hs
 unfold Go.Ai.shlI
 have : min ((sh : Int)).toNat IntKind.i64.bits = sh := by simp only [IntKind.bits]; omega
 rw [this, Int.one_mul, wrapS (by omega)]
theorem mulA_ok {x mul : Int} {sh : Nat} {g : H2} (hx : -10000000 ≤ x ∧ x ≤ 10000000) (hm : 0 ≤ mul ∧ mul ≤ 65536) (hs : sh ≤ 24) : WC2 Tryz.prog W0 239 [.raw (.int .i64 x), .raw (.int .i64 mul), .raw (.int .i64 sh)] g (fun v g' => v = .raw (.int .i64 (mulSh x mul sh)) ∧ g' = g) := by
 refine begins [[0, 1, 2], [0, 1, 2], [], [0, 1, 2], [0, 1, 7]] Tryz.func239 rfl (rs := [.tmp 6]) rfl rfl ?_
 intro wf
 repeat (first | rw [ko] | rw [kr] | simp -dsimp -implicitDefEqProofs only [go_sem, sQ1])
 refine wz_intro in_ok ?_
 rintro _ g ⟨rfl, rfl⟩
 rw [inI_mk hx.1 hx.2]
 repeat (first | rw [ko] | rw [kr] | simp -dsimp -implicitDefEqProofs only [go_sem, sQ1])
 refine wz_intro in_ok ?_
 rintro _ g ⟨rfl, rfl⟩
 rw [inI_mk hm.1 hm.2]
 repeat (first | rw [ko] | rw [kr] | simp -dsimp -implicitDefEqProofs only [go_sem, sQ1])
 refine wz_intro in_ok ?_
 rintro _ g ⟨rfl, rfl⟩
 rw [inI_mk (by omega) (by omega)]
 have b := mulsh_in hx hm hs
 have hp := pow_24 hs
 have w1 := wrapS (x := x * mul) (by omega)
 have e1 : Int.tdiv ((2 : Int) ^ sh) 2 = 2 ^ sh / 2 := Int.tdiv_eq_ediv_of_nonneg (by omega)
 have w2 := wrapS (x := (2 : Int) ^ sh / 2) (by omega)
 have w3 := wrapS (x := x * mul + (2 : Int) ^ sh / 2) (by omega)
 have w4 := wrapS (x := (2 : Int) ^ sh) (by omega)
 have hsh : (0 : Int) ≤ (sh : Int) := by omega
 have e0 := shl_pow hs
 have e2 : ((2 : Int) ^ sh == 0) = false := zne
 repeat (first | rw [ko] | rw [kr] | simp -dsimp -implicitDefEqProofs only [go_sem, sQ1, sQ7, hsh, e0, w1, e1, w2, w3])
 refine wz_intro (floorA_ok hp.1 (by omega)) ?_
 rintro _ g ⟨rfl, rfl⟩
 repeat (first | rw [ko] | rw [kr] | simp -dsimp -implicitDefEqProofs only [go_sem])
 exact ⟨rfl, rfl⟩
theorem mulB_ok {x mul : Int} {sh : Nat} {g : H2} (hx : -10000000 ≤ x ∧ x ≤ 10000000) (hm : 0 ≤ mul ∧ mul ≤ 65536) (hs : sh ≤ 24) : WC2 Tryz.prog W0 204 [.raw (.int .i64 x), .raw (.int .i64 mul), .raw (.int .i64 sh)] g (fun v g' => v = .raw (.int .i64 (mulSh x mul sh)) ∧ g' = g) := by
 refine begins [[0, 1, 2], [0, 1, 2], [], [0, 1, 2]] Tryz.func204 rfl (rs := [.tmp 6]) rfl rfl ?_
 intro wf
 repeat (first | rw [ko] | rw [kr] | simp -dsimp -implicitDefEqProofs only [go_sem, sQ1])
 refine wz_intro l01In_ok ?_
 rintro _ g ⟨rfl, rfl⟩
 rw [inI_mk hx.1 hx.2]
 repeat (first | rw [ko] | rw [kr] | simp -dsimp -implicitDefEqProofs only [go_sem, sQ1])
 refine wz_intro l01In_ok ?_
 rintro _ g ⟨rfl, rfl⟩
 rw [inI_mk hm.1 hm.2]
 repeat (first | rw [ko] | rw [kr] | simp -dsimp -implicitDefEqProofs only [go_sem, sQ1])
 refine wz_intro l01In_ok ?_
 rintro _ g ⟨rfl, rfl⟩
 rw [inI_mk (by omega) (by omega)]
 have b := mulsh_in hx hm hs
 have hp := pow_24 hs
 have w1 := wrapS (x := x * mul) (by omega)
 have e1 : Int.tdiv ((2 : Int) ^ sh) 2 = 2 ^ sh / 2 := Int.tdiv_eq_ediv_of_nonneg (by omega)
 have w2 := wrapS (x := (2 : Int) ^ sh / 2) (by omega)
 have w3 := wrapS (x := x * mul + (2 : Int) ^ sh / 2) (by omega)
 repeat (first | rw [ko] | rw [kr] | simp -dsimp -implicitDefEqProofs only [go_sem, sQ1, w1])
 refine wz_intro (pow_ok (by omega)) ?_
 rintro _ g ⟨rfl, rfl⟩
 repeat (first | rw [ko] | rw [kr] | simp -dsimp -implicitDefEqProofs only [go_sem, sQ1, sQ7, e1, w2, w3])
 refine wz_intro (pow_ok (by omega)) ?_
 rintro _ g ⟨rfl, rfl⟩
 repeat (first | rw [ko] | rw [kr] | simp -dsimp -implicitDefEqProofs only [go_sem])
 refine wz_intro (floorB_ok hp.1 (by omega)) ?_
 rintro _ g ⟨rfl, rfl⟩
 repeat (first | rw [ko] | rw [kr] | simp -dsimp -implicitDefEqProofs only [go_sem])
 exact ⟨rfl, rfl⟩
theorem mid_t {lo hi : Int} (h0 : 0 ≤ lo) (h1 : lo < hi) (h2 : hi ≤ 1000001) : IntKind.i64.wrap (lo + hi) = lo + hi ∧ Int.tdiv (lo + hi) 2 = (lo + hi) / 2 ∧ IntKind.i64.wrap ((lo + hi) / 2) = (lo + hi) / 2 ∧ IntKind.i64.wrap ((lo + hi) / 2 * ((lo + hi) / 2)) = (lo + hi) / 2 * ((lo + hi) / 2) := by
 refine ⟨wrapS (by omega), Int.tdiv_eq_ediv_of_nonneg (by omega), wrapS (by omega), wrapS ?_⟩
 have := mul_abs (x := (lo + hi) / 2) (y := (lo + hi) / 2) (a := 1000001) (b := 1000001) (by omega) (by omega)
 omega
theorem root1_ok {n : Int} {g : H2} (h0 : 0 ≤ n) (h1 : n ≤ 1000000000000) : WC2 Tryz.prog W0 189 [.raw (.int .i64 n)] g (fun v g' => v = .raw (.int .i64 (rootI n)) ∧ g' = g) := by
 refine begins [[0], [0], [], [0], [0, 3, 4], [0, 3, 4], [0, 3, 4, 5], [0, 4, 5], [0, 3, 5], [3]] Tryz.func189 rfl (rs := [.tmp 2]) rfl rfl ?_
 intro wf
 repeat (first | rw [ko] | rw [kr] | simp -dsimp -implicitDefEqProofs only [go_sem])
 refine wz_intro in_ok ?_
 rintro _ g ⟨rfl, rfl⟩
 rw [inI_mk h0 h1]
 repeat (first | rw [ko] | rw [kr] | simp -dsimp -implicitDefEqProofs only [go_sem, sQ1])
 refine lz_keep [0] (fun m e h' => ∃ (lo hi : Int), h' = g ∧ look e 3 .mk = .raw (.int .i64 lo) ∧ look e 4 .mk = .raw (.int .i64 hi) ∧ (m : Int) = hi - lo ∧ 0 ≤ lo ∧ lo < hi ∧ hi ≤ 1000001 ∧ lo * lo ≤ n ∧ n < hi * hi) 1000001 ?_ ?_
 ·exact ⟨0, 1000001, rfl, zsm, zsm, by omega, by omega, by omega, by omega, by omega, by omega⟩
 rintro m e h' hks ⟨lo, hi, rfl, e3, e4, hm, l0, l1, l2, l3, l4⟩
 simp -dsimp -implicitDefEqProofs only [go_sem] at hks
 have w0 := wrapS (x := hi - lo) (by omega)
 by_cases q1 : hi - lo > 1
 ·obtain ⟨m1, m2, m3, m4⟩ := mid_t l0 l1 l2
  by_cases q2 : (lo + hi) / 2 * ((lo + hi) / 2) ≤ n
  ·repeat (first | rw [ko] | rw [kr] | simp -dsimp -implicitDefEqProofs only [go_sem, sQ1, sQ7, hks, e3, e4, w0, q1, m1, m2, m3, m4, q2])
   exact nx_keep (hi - (lo + hi) / 2).toNat (by omega) zsm ⟨(lo + hi) / 2, hi, rfl, zsm, zsm, by omega, by omega, by omega, by omega, q2, l4⟩
  ·repeat (first | rw [ko] | rw [kr] | simp -dsimp -implicitDefEqProofs only [go_sem, sQ1, sQ7, hks, e3, e4, w0, q1, m1, m2, m3, m4, q2])
   exact nx_keep ((lo + hi) / 2 - lo).toNat (by omega) zsm ⟨lo, (lo + hi) / 2, rfl, zsm, zsm, by omega, by omega, by omega, by omega, l3, by omega⟩
 ·repeat (first | rw [ko] | rw [kr] | simp -dsimp -implicitDefEqProofs only [go_sem, sQ1, hks, e3, e4, w0, q1])
  have : hi = lo + 1 := by omega
  subst this
  exact ⟨by rw [rootI_is h0 h1 l0 l3 l4], rfl⟩
theorem root2_ok {n : Int} {g : H2} (h0 : 0 ≤ n) (h1 : n ≤ 1000000000000) : WC2 Tryz.prog W0 166 [.raw (.int .i64 n)] g (fun v g' => v = .raw (.int .i64 (rootI n)) ∧ g' = g) := by
 refine begins [[0], [0], [], [0], [0, 3], [0, 3, 4], [0, 3, 4], [0, 3, 4, 5], [0, 4, 5], [0, 3, 5], [3]] Tryz.func166 rfl (rs := [.tmp 2]) rfl rfl ?_
 intro wf
 repeat (first | rw [ko] | rw [kr] | simp -dsimp -implicitDefEqProofs only [go_sem])
 refine wz_intro l01In_ok ?_
 rintro _ g ⟨rfl, rfl⟩
 rw [inI_mk h0 h1]
 repeat (first | rw [ko] | rw [kr] | simp -dsimp -implicitDefEqProofs only [go_sem, sQ1])
 refine lz_keep [0] (fun m e h' => ∃ (lo hi : Int), h' = g ∧ look e 3 .mk = .raw (.int .i64 lo) ∧ look e 4 .mk = .raw (.int .i64 hi) ∧ (m : Int) = hi - lo ∧ 0 ≤ lo ∧ lo < hi ∧ hi ≤ 1000001 ∧ lo * lo ≤ n ∧ n < hi * hi) 1000001 ?_ ?_
 ·exact ⟨0, 1000001, rfl, zsm, zsm, by omega, by omega, by omega, by omega, by omega, by omega⟩
 rintro m e h' hks ⟨lo, hi, rfl, e3, e4, hm, l0, l1, l2, l3, l4⟩
 simp -dsimp -implicitDefEqProofs only [go_sem] at hks
 have w0 := wrapS (x := hi - lo) (by omega)
 by_cases q1 : hi - lo > 1
 ·obtain ⟨m1, m2, m3, m4⟩ := mid_t l0 l1 l2
  by_cases q2 : (lo + hi) / 2 * ((lo + hi) / 2) ≤ n
  ·repeat (first | rw [ko] | rw [kr] | simp -dsimp -implicitDefEqProofs only [go_sem, sQ1, sQ7, hks, e3, e4, w0, q1, m1, m2, m3, m4, q2])
   exact nx_keep (hi - (lo + hi) / 2).toNat (by omega) zsm ⟨(lo + hi) / 2, hi, rfl, zsm, zsm, by omega, by omega, by omega, by omega, q2, l4⟩
  ·repeat (first | rw [ko] | rw [kr] | simp -dsimp -implicitDefEqProofs only [go_sem, sQ1, sQ7, hks, e3, e4, w0, q1, m1, m2, m3, m4, q2])
   exact nx_keep ((lo + hi) / 2 - lo).toNat (by omega) zsm ⟨lo, (lo + hi) / 2, rfl, zsm, zsm, by omega, by omega, by omega, by omega, l3, by omega⟩
 ·repeat (first | rw [ko] | rw [kr] | simp -dsimp -implicitDefEqProofs only [go_sem, sQ1, hks, e3, e4, w0, q1])
  have : hi = lo + 1 := by omega
  subst this
  exact ⟨by rw [rootI_is h0 h1 l0 l3 l4], rfl⟩
end Go.Bi
end
section
set_option maxRecDepth 20000
namespace Go.Bi
open Go.Proofs
open Go.Ai (wrap_i64 Heap)
variable {W0 : World} {P : Program}
set_option maxHeartbeats 4000000
theorem exp_body {r : Int} (hr : 0 ≤ r ∧ r ≤ 176) : IntKind.i64.wrap (IntKind.i64.wrap (256 - r) + IntKind.i64.wrap ((IntKind.i64.wrap (r * r)).tdiv 512)) = 256 - r + r * r / 512 ∧ 0 ≤ 256 - r + r * r / 512 ∧ 256 - r + r * r / 512 ≤ 400 := by
 have h1 : 0 ≤ r * r := Int.mul_nonneg hr.1 hr.1
 have h2 : r * r ≤ 176 * 176 := Int.mul_le_mul hr.2 hr.2 hr.1 (by decide)
 rw [wrap_i64 (x := r * r) (by omega) (by omega), Int.tdiv_eq_ediv_of_nonneg h1, wrap_i64 (x := 256 - r) (by omega) (by omega)]
 generalize r * r = q at *
 rw [wrap_i64 (x := q / 512) (by omega) (by omega), wrap_i64 (by omega) (by omega)]
 omega
theorem shr_div {x k : Int} (hk : 0 ≤ k ∧ k ≤ 60) : Go.Ai.shrI .i64 x k = x / 2 ^ k.toNat := by
 unfold Go.Ai.shrI
 have : min k.toNat IntKind.i64.bits = k.toNat := by simp only [IntKind.bits]; omega
 rw [this, Int.fdiv_eq_ediv_of_nonneg _ (by have := pow_bd k.toNat (by omega); omega)]
theorem exp1_ok {x : Int} {g : H2} : WC2 Tryz.prog W0 199 [.raw (.int .i64 x)] g (fun v g' => v = .raw (.int .i64 (expN x)) ∧ g' = g) := by
 refine begins [[0], [0], [], [0], [], [0], [3, 4]] Tryz.func199 rfl (rs := [.tmp 2]) rfl rfl ?_
 intro wf
 repeat (first | rw [ko] | rw [kr] | simp -dsimp -implicitDefEqProofs only [go_sem])
 refine gz_dec (fun h1 => ?_) (fun h1 => ?_)
 ·repeat (first | rw [ko] | rw [kr] | simp -dsimp -implicitDefEqProofs only [go_sem])
  exact ⟨by rw [expN, if_pos h1], rfl⟩
 ·repeat (first | rw [ko] | rw [kr] | simp -dsimp -implicitDefEqProofs only [go_sem, sQ1])
  refine gz_dec (fun h2 => ?_) (fun h2 => ?_)
  ·repeat (first | rw [ko] | rw [kr] | simp -dsimp -implicitDefEqProofs only [go_sem])
   exact ⟨by rw [expN, if_neg h1, if_pos h2], rfl⟩
  ·have hneg : IntKind.i64.wrap (0 - x) = -x := by rw [wrap_i64] <;> omega
   have hq : (-x).tdiv 177 = (-x) / 177 := Int.tdiv_eq_ediv_of_nonneg (by omega)
   have hr : (-x).tmod 177 = (-x) % 177 := Int.tmod_eq_emod_of_nonneg (by omega)
   have hq2 : IntKind.i64.wrap ((-x) / 177) = (-x) / 177 := by rw [wrap_i64] <;> omega
   have hk0 : 0 ≤ (-x) / 177 := by omega
   have hr0 : 0 ≤ (-x) % 177 ∧ (-x) % 177 ≤ 176 := by omega
   repeat (first | rw [ko] | rw [kr] | simp -dsimp -implicitDefEqProofs only [go_sem, sQ1, sQ7, hneg, hq, hr, hq2, hk0])
   refine ⟨?_, rfl⟩
   rw [expN, if_neg h1, if_neg h2]
   rw [(exp_body hr0).1, shr_div (by omega)]
theorem exp2_ok {x : Int} {g : H2} : WC2 Tryz.prog W0 231 [.raw (.int .i64 x)] g (fun v g' => v = .raw (.int .i64 (expN x)) ∧ g' = g) := by
 refine begins [[0], [0], [], [0], [], [0], [0, 3], [3, 4]] Tryz.func231 rfl (rs := [.tmp 2]) rfl rfl ?_
 intro wf
 repeat (first | rw [ko] | rw [kr] | simp -dsimp -implicitDefEqProofs only [go_sem])
 refine gz_dec (fun h2 => ?_) (fun h2 => ?_)
 ·repeat (first | rw [ko] | rw [kr] | simp -dsimp -implicitDefEqProofs only [go_sem])
  exact ⟨by rw [expN, if_neg (by omega), if_pos h2], rfl⟩
 ·repeat (first | rw [ko] | rw [kr] | simp -dsimp -implicitDefEqProofs only [go_sem, sQ1])
  refine gz_dec (fun h1 => ?_) (fun h1 => ?_)
  ·repeat (first | rw [ko] | rw [kr] | simp -dsimp -implicitDefEqProofs only [go_sem])
   exact ⟨by rw [expN, if_pos h1], rfl⟩
  ·have hneg : IntKind.i64.wrap (0 - x) = -x := by rw [wrap_i64] <;> omega
   have hq : (-x).tdiv 177 = (-x) / 177 := Int.tdiv_eq_ediv_of_nonneg (by omega)
   have hr : (-x).tmod 177 = (-x) % 177 := Int.tmod_eq_emod_of_nonneg (by omega)
   have hq2 : IntKind.i64.wrap ((-x) / 177) = (-x) / 177 := by rw [wrap_i64] <;> omega
   obtain ⟨k, hk⟩ := Int.eq_ofNat_of_zero_le (show 0 ≤ (-x) / 177 by omega)
   have hk60 : k ≤ 60 := by omega
   have hr0 : 0 ≤ (-x) % 177 ∧ (-x) % 177 ≤ 176 := by omega
   rw [expN, if_neg h1, if_neg h2]
   rw [hk] at hq2 hq ⊢
   repeat (first | rw [ko] | rw [kr] | simp -dsimp -implicitDefEqProofs only [go_sem, sQ1, sQ7, hneg, hq, hr, hq2])
   refine wz_intro (pow_ok hk60) ?_
   rintro _ g ⟨rfl, rfl⟩
   have hpb := pow_bd k hk60
   have hp0 : ((2 : Int) ^ k == 0) = false := by simp only [beq_eq_false_iff_ne]; omega
   repeat (first | rw [ko] | rw [kr] | simp -dsimp -implicitDefEqProofs only [go_sem, hp0])
   refine ⟨?_, rfl⟩
   obtain ⟨e1, e2, e3⟩ := exp_body hr0
   rw [e1, Int.tdiv_eq_ediv_of_nonneg e2]
   show X.raw (Value.int .i64 (IntKind.i64.wrap ((256 - -x % 177 + -x % 177 * (-x % 177) / 512) / 2 ^ k))) = _
   rw [show ((k : Int)).toNat = k by omega]
   generalize (2 : Int) ^ k = p at *
   generalize 256 - -x % 177 + -x % 177 * (-x % 177) / 512 = t at *
   have d1 : 0 ≤ t / p := Int.ediv_nonneg e2 (by omega)
   have d2 : t / p ≤ t := Int.ediv_le_self _ e2
   rw [wrap_i64 (by omega) (by omega)]
end Go.Bi
end
section
set_option maxRecDepth 20000
namespace Go.Bi
open Go.Proofs
open Go.Ai (wrap_i64 Heap)
variable {W0 : World} {P : Program}
set_option maxHeartbeats 4000000
theorem OwnI.wide {N M : Nat} {g : H2} {v : X} {zs : List Int} (o : OwnI N g v zs) (h : M ≤ N) : OwnI M g v zs := by
 obtain ⟨h1, h2⟩ := o
 exact ⟨h1, h2.imp_right fun ⟨b, e1, e2, e3, e4⟩ => ⟨b, e1, by omega, e3, e4⟩⟩
theorem app1 {D : Nat → Option (List Nat)} {g0 g : H2} {K : KT} {t u U y N : Nat} {xs : List Int} {x : X} {f : Adr} {s : Int} (he : Go.Ai.elt? P t = some (U, 1, y)) (hz : Go.Ai.zr? P U = some [.int .i64 0]) (hu : Go.Ai.cls? P u = some .sl)
  (hy : y ≤ 1000) (hx : OwnI N g x xs) (hle : g0.le g) (h0 : hn g0 .mk ≤ N) (hN : N ≤ hn g .mk) (hn0 : xs.length ≤ 1048576)
  (hk : ∀ v' g', OwnI N g' v' (xs ++ [s]) → g0.le g' → N ≤ hn g' .mk → (∀ c, c < N → hg g' c .mk = hg g c .mk) → kz K v' g' .mk) :
  az (biz P (g.up (hn g .mk + 1)) .append [t, u] [x, .sl f 1 [[.v (.int .i64 s)]]] .mk) K .mk := by
 refine append_i3 (D := D) (N := N) he hz hu (Own.keep hx (le_up (H2.le.refl _) (Nat.le_succ _))) (by rw [hn_up]; omega) ?_ ?_
 ·have : Go.Ai.most = 1099511627776 := rfl
  have : (xs.length + 1) * (y + 1) ≤ 1048577 * 1001 := Nat.mul_le_mul (by omega) (by omega)
  omega
 intro v4 g4 o4 n4 l4 k4
 rw [hn_up] at n4
 refine hk v4 g4 o4 (l4 g0 h0 (le_up hle (Nat.le_succ _))) (by omega) fun c hc => (k4 c (by rw [hn_up]; omega) fun e => ?_)
 obtain ⟨_, h⟩ := hx
 rcases h with ⟨rfl, _⟩ | ⟨q, rfl, a1, _⟩
 ·cases e
 ·simp only [blockOf, Option.some.injEq] at e; omega
theorem mapR_snoc {α : Type} {f : Nat → α} {n i : Nat} (h : i < n) : ((List.range n).map f).take (i + 1) = ((List.range n).map f).take i ++ [f i] := by
 rw [List.take_succ_eq_append_getElem (by simpa using h)]
 simp
theorem mapL_snoc {α β : Type} [Inhabited α] {f : α → β} {l : List α} {i : Nat} (h : i < l.length) : (l.map f).take (i + 1) = (l.map f).take i ++ [f (l.getD i default)] := by
 rw [List.take_succ_eq_append_getElem (by simpa using h)]
 simp [List.getD_eq_getElem?_getD, List.getElem?_eq_getElem h]
theorem mat_small {m : LMatrix} (h : matB m = true) : smallM m := by
 obtain ⟨m1, m2, m3, m4, m5, m6⟩ := mat_t h
 refine ⟨⟨by omega, fun r hr => ?_⟩, by omega, fun r hr => ?_⟩
 ·obtain ⟨i, hi, rfl⟩ := List.getElem_of_mem hr
  have := (m6 i hi).1
  rw [List.getD_eq_getElem?_getD, List.getElem?_eq_getElem hi, Option.getD_some] at this
  omega
 ·obtain ⟨i, hi, rfl⟩ := List.getElem_of_mem hr
  have := row_t (m6 i (by omega)).2
  rw [List.getD_eq_getElem?_getD (l := m.scales), List.getElem?_eq_getElem hi, Option.getD_some] at this
  omega
theorem rowSumA_ok {f1 f2 f3 : Adr} {r s x : List Int} {g : H2} (h : rowB r s = true) (hx : absB 127 x) (hl : x.length = r.length) : WC2 Tryz.prog W0 191 [.sl f1 1 (ints r), .sl f2 1 (ints s), .sl f3 1 (ints x)] g (fun v g' => v = .raw (.int .i64 (rowI r s x)) ∧ g' = g) := by
 obtain ⟨h1, h2, h3, h4⟩ := row_t h
 have e : r.length / 4 * 4 = r.length := by rcases h1 with e | e <;> rw [e]
 refine begins [[0, 1, 2], [0, 1, 2], [0, 1, 2, 7], [1, 2, 7, 10, 11, 12], [1, 2, 7, 10, 11, 12], [1, 2, 7, 8, 9, 10, 11, 12], [1, 2, 7, 10, 11, 12], [7]] Tryz.func191 rfl (rs := [.tmp 6]) rfl rfl ?_
 intro wf
 repeat (first | rw [ko] | rw [kr] | simp -dsimp -implicitDefEqProofs only [go_sem, sQ1])
 refine lz_keep [1, 2, 10, 11] (fun m e h' => ∃ (i : Nat), h' = g ∧ look e 12 .mk = .raw (.int .i64 (i : Nat)) ∧ look e 7 .mk = .raw (.int .i64 (sumF (fun i => s.getD (i / 4) default * r.getD i default * x.getD i default) i)) ∧ m + i = r.length) r.length ?_ ?_
 ·exact ⟨0, rfl, zsm, by simp -dsimp -implicitDefEqProofs only [go_sem, sQ1] <;> rfl, by omega⟩
 rintro m e h' hks ⟨i, rfl, ei, es, hm⟩
 simp -dsimp -implicitDefEqProofs only [go_sem, sQ1] at hks
 by_cases q1 : (i : Int) < (r.length : Int)
 ·have q2 : i < r.length := by omega
  have q3 : i / 4 < s.length := by omega
  have q4 : i < x.length := by omega
  have w1 := zwrs i (by omega)
  have e2 : Int.tdiv (i : Int) 4 = ((i / 4 : Nat) : Int) := rfl
  have w2 : IntKind.i64.wrap ((i / 4 : Nat) : Int) = ((i / 4 : Nat) : Int) := by rw [wrap_i64] <;> omega
  have a := row_at h hx i
  have b := row_to h hx (n := i) (by omega)
  have b2 := row_to h hx (n := i + 1) (by omega)
  have w3 := wrapS (x := s.getD (i / 4) default * r.getD i default) (by omega)
  have w4 := wrapS (x := s.getD (i / 4) default * r.getD i default * x.getD i default) (by omega)
  have w5 : IntKind.i64.wrap (sumF (fun i => s.getD (i / 4) default * r.getD i default * x.getD i default) i + s.getD (i / 4) default * r.getD i default * x.getD i default) = sumF (fun i => s.getD (i / 4) default * r.getD i default * x.getD i default) (i + 1) := wrapS (x := sumF (fun i => s.getD (i / 4) default * r.getD i default * x.getD i default) (i + 1)) (by omega)
  repeat (first | rw [ko] | rw [kr] | simp -dsimp -implicitDefEqProofs only [go_sem, sQ1, hks, ei, es, q1, q2])
  refine dq_intro [(0, []), (1, []), (2, []), (3, []), (4, []), (5, []), (6, []), (7, []), (8, []), (9, []), (10, []), (11, []), (12, []), (13, []), (14, [])] (by kernel_rfl) ?_
  repeat (first | rw [ko] | rw [kr] | simp -dsimp -implicitDefEqProofs only [go_sem, sQ1, sQ7, q3, q4, e2, w1, w2, w3, w4, w5])
  exact nx_keep (m - 1) (by omega) zsm ⟨i + 1, rfl, zsm, zsm, by omega⟩
 ·repeat (first | rw [ko] | rw [kr] | simp -dsimp -implicitDefEqProofs only [go_sem, sQ1, hks, ei, es, q1])
  have : i = r.length := by omega
  subst this
  exact ⟨rfl, rfl⟩
theorem rowSumB_ok {f1 f2 f3 : Adr} {r s x : List Int} {g : H2} (h : rowB r s = true) (hx : absB 127 x) (hl : x.length = r.length) : WC2 Tryz.prog W0 168 [.sl f1 1 (ints r), .sl f2 1 (ints s), .sl f3 1 (ints x)] g (fun v g' => v = .raw (.int .i64 (rowI r s x)) ∧ g' = g) := by
 obtain ⟨h1, h2, h3, h4⟩ := row_t h
 have e : r.length / 4 * 4 = r.length := by rcases h1 with e | e <;> rw [e]
 refine begins [[0, 1, 2], [0, 1, 2], [0, 1, 2, 7], [0, 1, 2, 7, 8], [0, 1, 2, 7, 8], [0, 1, 2, 7, 8], [7]] Tryz.func168 rfl (rs := [.tmp 6]) rfl rfl ?_
 intro wf
 repeat (first | rw [ko] | rw [kr] | simp -dsimp -implicitDefEqProofs only [go_sem, sQ1])
 refine lz_keep [0, 1, 2] (fun m e h' => ∃ (i : Nat), h' = g ∧ look e 8 .mk = .raw (.int .i64 (i : Nat)) ∧ look e 7 .mk = .raw (.int .i64 (sumF (fun i => s.getD (i / 4) default * r.getD i default * x.getD i default) i)) ∧ m + i = r.length) r.length ?_ ?_
 ·exact ⟨0, rfl, zsm, by simp -dsimp -implicitDefEqProofs only [go_sem] <;> rfl, by omega⟩
 rintro m e h' hks ⟨i, rfl, ei, es, hm⟩
 simp -dsimp -implicitDefEqProofs only [go_sem, sQ1] at hks
 by_cases q1 : (i : Int) < (r.length : Int)
 ·have q2 : i < r.length := by omega
  have q3 : i / 4 < s.length := by omega
  have q4 : i < x.length := by omega
  have w1 := zwrs i (by omega)
  have e2 : Int.tdiv (i : Int) 4 = ((i / 4 : Nat) : Int) := rfl
  have w2 : IntKind.i64.wrap ((i / 4 : Nat) : Int) = ((i / 4 : Nat) : Int) := by rw [wrap_i64] <;> omega
  have a := row_at h hx i
  have b := row_to h hx (n := i) (by omega)
  have b2 := row_to h hx (n := i + 1) (by omega)
  have w3 := wrapS (x := s.getD (i / 4) default * r.getD i default) (by omega)
  have w4 := wrapS (x := s.getD (i / 4) default * r.getD i default * x.getD i default) (by omega)
  have w5 : IntKind.i64.wrap (sumF (fun i => s.getD (i / 4) default * r.getD i default * x.getD i default) i + s.getD (i / 4) default * r.getD i default * x.getD i default) = sumF (fun i => s.getD (i / 4) default * r.getD i default * x.getD i default) (i + 1) := wrapS (x := sumF (fun i => s.getD (i / 4) default * r.getD i default * x.getD i default) (i + 1)) (by omega)
  repeat (first | rw [ko] | rw [kr] | simp -dsimp -implicitDefEqProofs only [go_sem, sQ1, hks, ei, es, q1])
  refine dq_intro [(0, []), (1, []), (2, []), (3, []), (4, []), (5, []), (6, []), (7, []), (8, []), (9, []), (10, []), (11, []), (12, []), (13, []), (14, []), (15, []), (16, []), (17, [])] (by kernel_rfl) ?_
  repeat (first | rw [ko] | rw [kr] | simp -dsimp -implicitDefEqProofs only [go_sem, sQ1, sQ7, q2, q3, q4, e2, w1, w2, w3, w4, w5])
  exact nx_keep (m - 1) (by omega) zsm ⟨i + 1, rfl, zsm, zsm, by omega⟩
 ·repeat (first | rw [ko] | rw [kr] | simp -dsimp -implicitDefEqProofs only [go_sem, sQ1, hks, ei, es, q1])
  have : i = r.length := by omega
  subst this
  exact ⟨rfl, rfl⟩
theorem wideA_ok {F : Nat → Adr} {m : LMatrix} {f : Adr} {x : List Int} {g : H2} (hm : matB m = true) (h0 : 0 < m.rows.length) (hl : (x.length : Int) = m.width) (hx : absB 127 x) : WC2 Tryz.prog W0 136 [.st (xMatrix F m), .sl f 1 (ints x)] g (fun y g' => g.le g' ∧ ∃ v, y = .tp [v, .raw (.bool true)] ∧ OwnI (hn g .mk) g' v (wideI m x)) := by
 obtain ⟨m1, m2, m3, m4, m5, m6⟩ := mat_t hm
 refine begins [[0, 1], [1, 2], [], [1, 2], [1, 2, 6], [1, 2, 6, 27, 28, 29], [1, 2, 6, 27, 28, 29], [1, 2, 6, 7, 8, 27, 28, 29], [1, 2, 6, 27, 28, 29], [6]] Tryz.func136 rfl (rs := [.tmp 4, .tmp 5]) rfl rfl ?_
 intro wf
 have e0 : (m.rows.length : Int) > 0 := by omega
 have e1 : decide (¬ (x.length : Int) = m.width) = false := decide_eq_false (fun h => h hl)
 have e2 : allI x (-127) 127 = true := allI_absB hx (by omega)
 repeat (first | rw [ko] | rw [kr] | simp -dsimp -implicitDefEqProofs only [go_sem, sQ1, hoo, e0, e1])
 refine pw_intro (allIn_ok (by omega)) ?_
 rintro _ n1 hn1 rfl
 rw [hn_push] at hn1
 rw [e2]
 have hne : (hn g .mk == n1) = false := zne
 repeat (first | rw [ko] | rw [kr] | simp -dsimp -implicitDefEqProofs only [go_sem, sQ1, sQ3, hoo, hne])
 refine lz_keep [1, 2, 27, 28] (fun mm e h' => ∃ (i : Nat) (v : X), g.le h' ∧ n1 ≤ hn h' .mk ∧ hg h' (hn g .mk) .mk = some ⟨5, [.raw (.int .i64 m.width), .sl (F 1) 1 (rIntSS m.rows), .sl (F 2) 1 (rIntSS m.scales), .raw (.int .i64 m.mul), .raw (.int .i64 m.shift)]⟩ ∧ look e 29 .mk = .raw (.int .i64 (i : Nat)) ∧ look e 6 .mk = v ∧ mm + i = m.rows.length ∧ OwnI n1 h' v ((wideI m x).take i)) m.rows.length ?_ ?_
 ·exact ⟨0, _, le_push (le_up (le_push (H2.le.refl _)) (by rw [hn_push]; exact hn1)), by simp only [hn_push, hn_up]; omega, by simp -dsimp -implicitDefEqProofs only [go_sem, hoo, hne], zsm, by simp -dsimp -implicitDefEqProofs only [go_sem, sQ1] <;> rfl, by omega, Own.new (by rw [hn_up]; exact Nat.le_refl _) rfl⟩
 rintro mm e h' hks ⟨i, v, hle, nn, row, ei, ev, hmm, ow⟩
 simp -dsimp -implicitDefEqProofs only [go_sem, sQ1] at hks
 have c0 := ownI_cell ow
 by_cases q1 : (i : Int) < (m.rows.length : Int)
 ·have q2 : i < m.rows.length := by omega
  have q3 : i < m.scales.length := by omega
  have w1 := zwrs i (by omega)
  have hl2 : ((wideI m x).take i).length ≤ 1048576 := by rw [List.length_take, wideI_len]; omega
  repeat (first | rw [ko] | rw [kr] | simp -dsimp -implicitDefEqProofs only [go_sem, sQ1, hks, ei, ev, q1, q2, q3, row])
  refine wz_intro (rowSumA_ok (m6 i q2).2 hx (by have := (m6 i q2).1; omega)) ?_
  rintro _ _ ⟨rfl, rfl⟩
  repeat (first | rw [ko] | rw [kr] | simp -dsimp -implicitDefEqProofs only [go_sem, sQ1, sQ3])
  refine app1 (P := Tryz.prog) (D := fun _ => none) Go.Ai.ty_el25 Go.Ai.ty_zr3 Go.Ai.ty_cl25 (by omega) ow hle (by omega) nn hl2 ?_
  intro v4 g4 ow4 le4 nn4 on4
  have row4 := (on4 (hn g .mk) (by omega)).trans row
  repeat (first | rw [ko] | rw [kr] | simp -dsimp -implicitDefEqProofs only [go_sem, sQ1, w1])
  exact nx_keep (mm - 1) (by omega) zsm ⟨i + 1, v4, le4, nn4, row4, zsm, zsm, by omega, (mapR_snoc q2).symm ▸ ow4⟩
 ·repeat (first | rw [ko] | rw [kr] | simp -dsimp -implicitDefEqProofs only [go_sem, sQ1, hks, ei, ev, q1, c0])
  have hi : i = (wideI m x).length := by rw [wideI_len]; omega
  rw [hi, List.take_length] at ow
  exact ⟨hle, v, rfl, ow.wide (by omega)⟩
theorem narrowA_ok {F : Nat → Adr} {m : LMatrix} {f : Adr} {l : List Int} {g : H2} (hm : matB m = true) (hl : l.length ≤ 1048576) (hx : absB 1032256 l) : PI Tryz.prog W0 223 [.st (xMatrix F m), .sl f 1 (ints l)] g (narrowI m l) := by
 obtain ⟨m1, m2, m3, m4, m5, m6⟩ := mat_t hm
 obtain ⟨sh, hsh⟩ := Int.eq_ofNat_of_zero_le m5.1
 refine begins [[0, 1], [1, 2], [1, 2, 5], [2, 5, 9, 10, 11], [2, 5, 9, 10, 11], [2, 5, 7, 9, 10, 11], [2, 5, 9, 10, 11], [5]] Tryz.func223 rfl (rs := [.tmp 4]) rfl rfl ?_
 intro wf
 repeat (first | rw [ko] | rw [kr] | simp -dsimp -implicitDefEqProofs only [go_sem, sQ1, sQ3, hoo])
 refine lz_keep [2, 9, 10] (fun mm e h' => ∃ (i : Nat) (v : X), g.le h' ∧ hn g .mk + 1 ≤ hn h' .mk ∧ hg h' (hn g .mk) .mk = some ⟨5, [.raw (.int .i64 m.width), .sl (F 1) 1 (rIntSS m.rows), .sl (F 2) 1 (rIntSS m.scales), .raw (.int .i64 m.mul), .raw (.int .i64 m.shift)]⟩ ∧ look e 11 .mk = .raw (.int .i64 (i : Nat)) ∧ look e 5 .mk = v ∧ mm + i = l.length ∧ OwnI (hn g .mk + 1) h' v ((narrowI m l).take i)) l.length ?_ ?_
 ·exact ⟨0, _, le_push (le_push (H2.le.refl _)), by simp only [hn_push]; omega, by simp -dsimp -implicitDefEqProofs only [go_sem, hoo], zsm, by simp -dsimp -implicitDefEqProofs only [go_sem, sQ1] <;> rfl, by omega, Own.new (by simp only [hn_push]; omega) rfl⟩
 rintro mm e h' hks ⟨i, v, hle, nn, row, ei, ev, hmm, ow⟩
 simp -dsimp -implicitDefEqProofs only [go_sem, sQ1] at hks
 have c0 := ownI_cell ow
 by_cases q1 : (i : Int) < (l.length : Int)
 ·have q2 : i < l.length := by omega
  have w1 := zwrs i (by omega)
  have hl2 : ((narrowI m l).take i).length ≤ 1048576 := by rw [List.length_take]; omega
  have hxi := getD_abs (by omega) hx i
  repeat (first | rw [ko] | rw [kr] | simp -dsimp -implicitDefEqProofs only [go_sem, sQ1, hks, ei, ev, q1, q2, row, hsh])
  refine wz_intro (mulA_ok (by omega) m4 (by omega)) ?_
  rintro _ _ ⟨rfl, rfl⟩
  repeat (first | rw [ko] | rw [kr] | simp -dsimp -implicitDefEqProofs only [go_sem])
  refine wz_intro (clamp1_ok (by omega) (by omega)) ?_
  rintro _ _ ⟨rfl, rfl⟩
  repeat (first | rw [ko] | rw [kr] | simp -dsimp -implicitDefEqProofs only [go_sem, sQ1, sQ3])
  refine app1 (P := Tryz.prog) (D := fun _ => none) Go.Ai.ty_el25 Go.Ai.ty_zr3 Go.Ai.ty_cl25 (by omega) ow hle (by omega) nn hl2 ?_
  intro v4 g4 ow4 le4 nn4 on4
  have row4 := (on4 (hn g .mk) (by omega)).trans row
  repeat (first | rw [ko] | rw [kr] | simp -dsimp -implicitDefEqProofs only [go_sem, sQ1, w1])
  refine nx_keep (mm - 1) (by omega) zsm ⟨i + 1, v4, le4, nn4, row4, zsm, zsm, by omega, ?_⟩
  have := mapL_snoc (f := fun n => clp (mulSh n m.mul m.shift.toNat) 127) q2
  rw [show m.shift.toNat = sh by omega] at this
  unfold narrowI
  rw [show m.shift.toNat = sh by omega, this]
  unfold narrowI at ow4
  rw [show m.shift.toNat = sh by omega] at ow4
  exact ow4
 ·repeat (first | rw [ko] | rw [kr] | simp -dsimp -implicitDefEqProofs only [go_sem, sQ1, hks, ei, ev, q1])
  have hi : i = (narrowI m l).length := by unfold narrowI; rw [List.length_map]; omega
  rw [hi, List.take_length] at ow
  exact ⟨hle, ow.wide (by omega)⟩
end Go.Bi
end
section
set_option maxRecDepth 20000
namespace Go.Bi
open Go.Proofs
open Go.Ai (wrap_i64 Heap)
variable {W0 : World} {P : Program}
set_option maxHeartbeats 4000000
theorem normI_take {x gn : List Int} {i : Nat} (h : i < x.length) : (normI x gn).take (i + 1) = (normI x gn).take i ++ [clp ((x.getD i default - meanI x) * gn.getD i default / rootI (spreadI x + 1)) 127] := mapR_snoc h
theorem normA_ok {f f' : Adr} {x gn : List Int} {g : H2} (hx : absB 1000 x) (h1 : 1 ≤ x.length) (h8 : x.length ≤ 8) (hl : gn.length = x.length) (hgn : allI gn 0 127 = true) : WC2 Tryz.prog W0 135 [.sl f 1 (ints x), .sl f' 1 (ints gn)] g (fun y g' => g.le g' ∧ ∃ v, y = .tp [v, .raw (.bool true)] ∧ OwnI (hn g .mk) g' v (normI x gn)) := by
 refine begins [[0, 1], [0, 1], [], [0, 1], [0, 1, 6], [0, 1, 6, 38, 39, 40], [0, 1, 6, 38, 39, 40], [0, 1, 6, 8, 38, 39, 40], [0, 1, 6, 38, 39, 40], [0, 1, 6], [0, 1, 9], [0, 1, 9, 10], [0, 1, 9, 10, 52, 53, 54], [0, 1, 9, 10, 52, 53, 54], [0, 1, 9, 10, 12, 52, 53, 54], [0, 1, 9, 10, 52, 53, 54], [0, 1, 9, 10], [0, 1, 9, 13], [0, 1, 9, 13, 14], [1, 9, 13, 14, 75, 76, 77], [1, 9, 13, 14, 75, 76, 77], [1, 9, 13, 14, 15, 16, 75, 76, 77], [1, 9, 13, 14, 75, 76, 77], [14]] Tryz.func135 rfl (rs := [.tmp 4, .tmp 5]) rfl rfl ?_
 intro wf
 have hga := allI_abs hgn (n := 127) (by omega) (by omega)
 have hle : (gn.length : Int) = (x.length : Int) := by omega
 have e1 : decide (¬ (gn.length : Int) = (x.length : Int)) = false := decide_eq_false (fun h => h hle)
 repeat (first | rw [ko] | rw [kr] | simp -dsimp -implicitDefEqProofs only [go_sem, sQ1])
 refine wz_intro in_ok ?_
 rintro _ g ⟨rfl, rfl⟩
 rw [inI_mk (by omega) (by omega)]
 repeat (first | rw [ko] | rw [kr] | simp -dsimp -implicitDefEqProofs only [go_sem, sQ1, e1])
 refine pw_intro (allIn_ok (by omega)) ?_
 rintro _ n1 hn1 rfl
 rw [allI_absB hx (by omega)]
 repeat (first | rw [ko] | rw [kr] | simp -dsimp -implicitDefEqProofs only [go_sem, sQ1])
 refine pw_intro (allIn_ok (by omega)) ?_
 rintro _ n2 hn2 rfl
 rw [hgn]
 repeat (first | rw [ko] | rw [kr] | simp -dsimp -implicitDefEqProofs only [go_sem, sQ1])
 refine lz_keep [0, 1, 38, 39] (fun m e h' => ∃ (i : Nat), g.le h' ∧ look e 40 .mk = .raw (.int .i64 (i : Nat)) ∧ look e 6 .mk = .raw (.int .i64 (sumF (fun i => x.getD i default) i)) ∧ m + i = x.length) x.length ?_ ?_
 ·exact ⟨0, by first | exact le_up (le_up (H2.le.refl _) hn1) hn2 | exact le_up (H2.le.refl _) (Nat.le_trans hn1 hn2), zsm, by simp -dsimp -implicitDefEqProofs only [go_sem, sQ1] <;> rfl, by omega⟩
 rintro m e h' hks ⟨i, hle1, ei, es, hm⟩
 simp -dsimp -implicitDefEqProofs only [go_sem, sQ1] at hks
 by_cases q1 : (i : Int) < (x.length : Int)
 ·have q2 : i < x.length := by omega
  have w1 := zwrs i (by omega)
  have b := sum_to hx (i + 1)
  have w2 : IntKind.i64.wrap (sumF (fun i => x.getD i default) i + x.getD i default) = sumF (fun i => x.getD i default) (i + 1) := wrapS (x := sumF (fun i => x.getD i default) (i + 1)) (by omega)
  repeat (first | rw [ko] | rw [kr] | simp -dsimp -implicitDefEqProofs only [go_sem, sQ1, hks, ei, es, q1, q2, w1, w2])
  exact nx_keep (m - 1) (by omega) zsm ⟨i + 1, hle1, zsm, zsm, by omega⟩
 repeat (first | rw [ko] | rw [kr] | simp -dsimp -implicitDefEqProofs only [go_sem, sQ1, hks, ei, es, q1])
 obtain rfl : i = x.length := by omega
 refine wz_intro (floorA_ok (by omega) (by have := sum_to hx x.length; omega)) ?_
 rintro y _ ⟨hy, rfl⟩
 obtain rfl : y = .raw (.int .i64 (meanI x)) := hy
 repeat (first | rw [ko] | rw [kr] | simp -dsimp -implicitDefEqProofs only [go_sem, sQ1])
 refine lz_keep [0, 1, 9, 52, 53] (fun m e h' => ∃ (i : Nat), g.le h' ∧ look e 54 .mk = .raw (.int .i64 (i : Nat)) ∧ look e 10 .mk = .raw (.int .i64 (sumF (fun i => (x.getD i default - meanI x) * (x.getD i default - meanI x)) i)) ∧ m + i = x.length) x.length ?_ ?_
 ·exact ⟨0, hle1, zsm, by simp -dsimp -implicitDefEqProofs only [go_sem, sQ1] <;> rfl, by omega⟩
 rintro m2 e2 h2 hks2 ⟨i, hle2, ei2, es2, hm2⟩
 simp -dsimp -implicitDefEqProofs only [go_sem, sQ1] at hks2
 by_cases q1 : (i : Int) < (x.length : Int)
 ·have q2 : i < x.length := by omega
  have w1 := zwrs i (by omega)
  have b0 := less_abs hx h1 h8 i
  have b1 := sqs_at hx h1 h8 i
  have b := sqs_to hx h1 h8 (i + 1)
  have w3 := wrapS (x := x.getD i default - meanI x) (by omega)
  have w4 := wrapS (x := (x.getD i default - meanI x) * (x.getD i default - meanI x)) (by omega)
  have w2 : IntKind.i64.wrap (sumF (fun i => (x.getD i default - meanI x) * (x.getD i default - meanI x)) i + (x.getD i default - meanI x) * (x.getD i default - meanI x)) = sumF (fun i => (x.getD i default - meanI x) * (x.getD i default - meanI x)) (i + 1) := wrapS (x := sumF (fun i => (x.getD i default - meanI x) * (x.getD i default - meanI x)) (i + 1)) (by omega)
  repeat (first | rw [ko] | rw [kr] | simp -dsimp -implicitDefEqProofs only [go_sem, sQ1, hks2, ei2, es2, q1, q2, w1, w3, w4, w2])
  exact nx_keep (m2 - 1) (by omega) zsm ⟨i + 1, hle2, zsm, zsm, by omega⟩
 have sp := spread_in hx h1 h8
 have rs := rootS_in hx h1 h8
 have ws := wrapS (x := spreadI x + 1) (by omega)
 obtain rfl : i = x.length := by omega
 repeat (first | rw [ko] | rw [kr] | simp -dsimp -implicitDefEqProofs only [go_sem, sQ1, hks2, ei2, es2, q1])
 refine wz_intro (floorA_ok (by omega) (by have := sqs_to hx h1 h8 x.length; omega)) ?_
 rintro y _ ⟨hy, rfl⟩
 obtain rfl : y = .raw (.int .i64 (spreadI x)) := hy
 repeat (first | rw [ko] | rw [kr] | simp -dsimp -implicitDefEqProofs only [go_sem, ws])
 refine wz_intro (root1_ok (by omega) (by omega)) ?_
 rintro _ _ ⟨rfl, rfl⟩
 repeat (first | rw [ko] | rw [kr] | simp -dsimp -implicitDefEqProofs only [go_sem, sQ1, sQ3])
 refine lz_keep [1, 9, 13, 75, 76] (fun m e h' => ∃ (i : Nat) (v : X), g.le h' ∧ hn g .mk ≤ hn h' .mk ∧ look e 77 .mk = .raw (.int .i64 (i : Nat)) ∧ look e 14 .mk = v ∧ m + i = x.length ∧ OwnI (hn g .mk) h' v ((normI x gn).take i)) x.length ?_ ?_
 ·exact ⟨0, _, le_push hle2, (le_push hle2).1, zsm, by simp -dsimp -implicitDefEqProofs only [go_sem, sQ1] <;> rfl, by omega, Own.new hle2.1 rfl⟩
 rintro m3 e3 h3 hks3 ⟨i, v, hle3, nn3, ei3, ev, hm3, ow⟩
 simp -dsimp -implicitDefEqProofs only [go_sem, sQ1] at hks3
 have c0 := ownI_cell ow
 by_cases q1 : (i : Int) < (x.length : Int)
 ·have q2 : i < x.length := by omega
  have q3 : i < gn.length := by omega
  have w1 := zwrs i (by omega)
  have b0 := less_abs hx h1 h8 i
  have b1 := norm_at hx hga h1 h8 i
  have w3 := wrapS (x := x.getD i default - meanI x) (by omega)
  have w4 := wrapS (x := (x.getD i default - meanI x) * gn.getD i default) (by omega)
  have hl2 : ((normI x gn).take i).length ≤ 1048576 := by rw [List.length_take, normI_len]; omega
  repeat (first | rw [ko] | rw [kr] | simp -dsimp -implicitDefEqProofs only [go_sem, sQ1, hks3, ei3, ev, q1, q2, q3, w3, w4])
  refine wz_intro (floorA_ok (by omega) (by omega)) ?_
  rintro _ _ ⟨rfl, rfl⟩
  repeat (first | rw [ko] | rw [kr] | simp -dsimp -implicitDefEqProofs only [go_sem])
  refine wz_intro (clamp1_ok (by omega) (by omega)) ?_
  rintro _ _ ⟨rfl, rfl⟩
  repeat (first | rw [ko] | rw [kr] | simp -dsimp -implicitDefEqProofs only [go_sem, sQ1, sQ3])
  refine app1 (P := Tryz.prog) (D := fun _ => none) Go.Ai.ty_el25 Go.Ai.ty_zr3 Go.Ai.ty_cl25 (by omega) ow hle3 (by omega) nn3 hl2 ?_
  intro v4 g4 ow4 le4 nn4 on4
  repeat (first | rw [ko] | rw [kr] | simp -dsimp -implicitDefEqProofs only [go_sem, sQ1, w1])
  exact nx_keep (m3 - 1) (by omega) zsm ⟨i + 1, v4, le4, nn4, zsm, zsm, by omega, (normI_take q2).symm ▸ ow4⟩
 ·repeat (first | rw [ko] | rw [kr] | simp -dsimp -implicitDefEqProofs only [go_sem, sQ1, hks3, ei3, ev, q1, c0])
  have hi : i = (normI x gn).length := by rw [normI_len]; omega
  rw [hi, List.take_length] at ow
  exact ⟨hle3, v, rfl, ow⟩
theorem normB_ok {f f' : Adr} {x gn : List Int} {g : H2} (hx : absB 1000 x) (h1 : 1 ≤ x.length) (h8 : x.length ≤ 8) (hl : gn.length = x.length) (hgn : allI gn 0 127 = true) : WC2 Tryz.prog W0 110 [.sl f 1 (ints x), .sl f' 1 (ints gn)] g (fun y g' => g.le g' ∧ ∃ v, y = .tp [v, .raw (.bool true)] ∧ OwnI (hn g .mk) g' v (normI x gn)) := by
 refine begins [[0, 1], [0, 1], [0, 1, 6], [0, 1, 6, 7], [6], [0, 1, 6, 7], [0, 1, 6, 7, 8], [0, 1, 6, 7, 8, 9], [0, 1, 6, 7, 8, 9], [0, 1, 6, 7, 8, 9], [0, 1, 6, 7, 8], [0, 1, 6, 7, 10], [0, 1, 6, 7, 10, 11], [0, 1, 6, 7, 10, 11, 12], [0, 1, 6, 7, 10, 11, 12], [0, 1, 6, 7, 10, 11, 12], [0, 1, 6, 7, 10, 11], [0, 1, 6, 7, 10, 13], [0, 1, 6, 7, 10, 13, 14], [0, 1, 6, 7, 10, 13, 14], [0, 1, 6, 7, 10, 13, 14], [6]] Tryz.func110 rfl (rs := [.tmp 4, .tmp 5]) rfl rfl ?_
 intro wf
 have hga := allI_abs hgn (n := 127) (by omega) (by omega)
 have hle : (gn.length : Int) = (x.length : Int) := by omega
 have e1 : decide (¬ (gn.length : Int) = (x.length : Int)) = false := decide_eq_false (fun h => h hle)
 repeat (first | rw [ko] | rw [kr] | simp -dsimp -implicitDefEqProofs only [go_sem, sQ1, sQ3])
 refine wz_intro l01In_ok ?_
 rintro _ g ⟨rfl, rfl⟩
 rw [inI_mk (by omega) (by omega)]
 repeat (first | rw [ko] | rw [kr] | simp -dsimp -implicitDefEqProofs only [go_sem, sQ1, e1])
 refine pw_intro (l05All_ok (by omega)) ?_
 rintro _ n1 hn1 rfl
 rw [allI_absB hx (by omega)]
 repeat (first | rw [ko] | rw [kr] | simp -dsimp -implicitDefEqProofs only [go_sem, sQ1])
 refine pw_intro (l05All_ok (by omega)) ?_
 rintro _ n2 hn2 rfl
 rw [hgn]
 repeat (first | rw [ko] | rw [kr] | simp -dsimp -implicitDefEqProofs only [go_sem, sQ1])
 refine lz_keep [0, 1, 6, 7] (fun m e h' => ∃ (i : Nat), (g.push ⟨1, []⟩).le h' ∧ look e 9 .mk = .raw (.int .i64 (i : Nat)) ∧ look e 8 .mk = .raw (.int .i64 (sumF (fun i => x.getD i default) i)) ∧ m + i = x.length) x.length ?_ ?_
 ·exact ⟨0, by first | exact le_up (le_up (H2.le.refl _) hn1) hn2 | exact le_up (H2.le.refl _) (Nat.le_trans hn1 hn2), zsm, by simp -dsimp -implicitDefEqProofs only [go_sem] <;> rfl, by omega⟩
 rintro m e h' hks ⟨i, hle1, ei, es, hm⟩
 simp -dsimp -implicitDefEqProofs only [go_sem, sQ1] at hks
 by_cases q1 : (i : Int) < (x.length : Int)
 ·have q2 : i < x.length := by omega
  have w1 := zwrs i (by omega)
  have b := sum_to hx (i + 1)
  have w2 : IntKind.i64.wrap (sumF (fun i => x.getD i default) i + x.getD i default) = sumF (fun i => x.getD i default) (i + 1) := wrapS (x := sumF (fun i => x.getD i default) (i + 1)) (by omega)
  repeat (first | rw [ko] | rw [kr] | simp -dsimp -implicitDefEqProofs only [go_sem, sQ1, hks, ei, es, q1, q2, w1, w2])
  exact nx_keep (m - 1) (by omega) zsm ⟨i + 1, hle1, zsm, zsm, by omega⟩
 repeat (first | rw [ko] | rw [kr] | simp -dsimp -implicitDefEqProofs only [go_sem, sQ1, hks, ei, es, q1])
 obtain rfl : i = x.length := by omega
 refine wz_intro (floorB_ok (by omega) (by have := sum_to hx x.length; omega)) ?_
 rintro y _ ⟨hy, rfl⟩
 obtain rfl : y = .raw (.int .i64 (meanI x)) := hy
 repeat (first | rw [ko] | rw [kr] | simp -dsimp -implicitDefEqProofs only [go_sem, sQ1])
 refine lz_keep [0, 1, 6, 7, 10] (fun m e h' => ∃ (i : Nat), (g.push ⟨1, []⟩).le h' ∧ look e 12 .mk = .raw (.int .i64 (i : Nat)) ∧ look e 11 .mk = .raw (.int .i64 (sumF (fun i => (x.getD i default - meanI x) * (x.getD i default - meanI x)) i)) ∧ m + i = x.length) x.length ?_ ?_
 ·exact ⟨0, hle1, zsm, by simp -dsimp -implicitDefEqProofs only [go_sem] <;> rfl, by omega⟩
 rintro m2 e2 h2 hks2 ⟨i, hle2, ei2, es2, hm2⟩
 simp -dsimp -implicitDefEqProofs only [go_sem, sQ1] at hks2
 by_cases q1 : (i : Int) < (x.length : Int)
 ·have q2 : i < x.length := by omega
  have w1 := zwrs i (by omega)
  have b0 := less_abs hx h1 h8 i
  have b1 := sqs_at hx h1 h8 i
  have b := sqs_to hx h1 h8 (i + 1)
  have w3 := wrapS (x := x.getD i default - meanI x) (by omega)
  have w4 := wrapS (x := (x.getD i default - meanI x) * (x.getD i default - meanI x)) (by omega)
  have w2 : IntKind.i64.wrap (sumF (fun i => (x.getD i default - meanI x) * (x.getD i default - meanI x)) i + (x.getD i default - meanI x) * (x.getD i default - meanI x)) = sumF (fun i => (x.getD i default - meanI x) * (x.getD i default - meanI x)) (i + 1) := wrapS (x := sumF (fun i => (x.getD i default - meanI x) * (x.getD i default - meanI x)) (i + 1)) (by omega)
  repeat (first | rw [ko] | rw [kr] | simp -dsimp -implicitDefEqProofs only [go_sem, sQ1, hks2, ei2, es2, q1])
  refine dq_intro [(0, []), (1, []), (2, []), (3, []), (4, []), (5, []), (6, []), (7, []), (8, []), (9, []), (10, []), (11, []), (12, []), (13, []), (14, []), (15, [])] (by kernel_rfl) ?_
  repeat (first | rw [ko] | rw [kr] | simp -dsimp -implicitDefEqProofs only [go_sem, sQ1, q2, w1, w3, w4, w2])
  exact nx_keep (m2 - 1) (by omega) zsm ⟨i + 1, hle2, zsm, zsm, by omega⟩
 have sp := spread_in hx h1 h8
 have rs := rootS_in hx h1 h8
 have ws := wrapS (x := spreadI x + 1) (by omega)
 obtain rfl : i = x.length := by omega
 have sq := sqs_to hx h1 h8 x.length
 have hb0 : ((x.length : Int) == 0) = false := by rw [beq_eq_false_iff_ne]; omega
 have ed : Int.tdiv (sumF (fun i => (x.getD i default - meanI x) * (x.getD i default - meanI x)) x.length) (x.length : Int) = spreadI x := Int.tdiv_eq_ediv_of_nonneg sq.1
 have wd := wrapS (x := spreadI x) (by omega)
 repeat (first | rw [ko] | rw [kr] | simp -dsimp -implicitDefEqProofs only [go_sem, sQ1, hks2, ei2, es2, q1, hb0, ed, wd, ws])
 refine wz_intro (root2_ok (by omega) (by omega)) ?_
 rintro _ _ ⟨rfl, rfl⟩
 repeat (first | rw [ko] | rw [kr] | simp -dsimp -implicitDefEqProofs only [go_sem, sQ1])
 refine lz_keep [0, 1, 7, 10, 13] (fun m e h' => ∃ (i : Nat) (v : X), g.le h' ∧ hn g .mk ≤ hn h' .mk ∧ look e 14 .mk = .raw (.int .i64 (i : Nat)) ∧ look e 6 .mk = v ∧ m + i = x.length ∧ OwnI (hn g .mk) h' v ((normI x gn).take i)) x.length ?_ ?_
 ·exact ⟨0, _, H2.le.trans (le_push (H2.le.refl _)) hle2, (H2.le.trans (le_push (H2.le.refl _)) hle2).1, zsm, by simp -dsimp -implicitDefEqProofs only [go_sem, sQ1] <;> rfl, by omega, Own.keep (Own.new (Nat.le_refl _) rfl) hle2⟩
 rintro m3 e3 h3 hks3 ⟨i, v, hle3, nn3, ei3, ev, hm3, ow⟩
 simp -dsimp -implicitDefEqProofs only [go_sem, sQ1] at hks3
 have c0 := ownI_cell ow
 by_cases q1 : (i : Int) < (x.length : Int)
 ·have q2 : i < x.length := by omega
  have q3 : i < gn.length := by omega
  have w1 := zwrs i (by omega)
  have b0 := less_abs hx h1 h8 i
  have b1 := norm_at hx hga h1 h8 i
  have w3 := wrapS (x := x.getD i default - meanI x) (by omega)
  have w4 := wrapS (x := (x.getD i default - meanI x) * gn.getD i default) (by omega)
  have hl2 : ((normI x gn).take i).length ≤ 1048576 := by rw [List.length_take, normI_len]; omega
  repeat (first | rw [ko] | rw [kr] | simp -dsimp -implicitDefEqProofs only [go_sem, sQ1, hks3, ei3, ev, q1])
  refine dq_intro [(0, []), (1, []), (2, []), (3, []), (4, []), (5, []), (6, []), (7, []), (8, []), (9, []), (10, []), (11, []), (12, []), (13, []), (14, []), (15, []), (16, []), (17, [])] (by kernel_rfl) ?_
  repeat (first | rw [ko] | rw [kr] | simp -dsimp -implicitDefEqProofs only [go_sem, sQ1, q2, q3, w3, w4])
  refine wz_intro (floorB_ok (by omega) (by omega)) ?_
  rintro _ _ ⟨rfl, rfl⟩
  repeat (first | rw [ko] | rw [kr] | simp -dsimp -implicitDefEqProofs only [go_sem])
  refine wz_intro (clamp2_ok (by omega) (by omega)) ?_
  rintro _ _ ⟨rfl, rfl⟩
  repeat (first | rw [ko] | rw [kr] | simp -dsimp -implicitDefEqProofs only [go_sem, sQ1, sQ3])
  refine app1 (P := Tryz.prog) (D := fun _ => none) Go.Ai.ty_el25 Go.Ai.ty_zr3 Go.Ai.ty_cl25 (by omega) ow hle3 (by omega) nn3 hl2 ?_
  intro v4 g4 ow4 le4 nn4 on4
  repeat (first | rw [ko] | rw [kr] | simp -dsimp -implicitDefEqProofs only [go_sem, sQ1, w1])
  exact nx_keep (m3 - 1) (by omega) zsm ⟨i + 1, v4, le4, nn4, zsm, zsm, by omega, (normI_take q2).symm ▸ ow4⟩
 ·repeat (first | rw [ko] | rw [kr] | simp -dsimp -implicitDefEqProofs only [go_sem, sQ1, hks3, ei3, ev, q1, c0])
  have hi : i = (normI x gn).length := by rw [normI_len]; omega
  rw [hi, List.take_length] at ow
  exact ⟨hle3, v, rfl, ow⟩
end Go.Bi
end
section
set_option maxRecDepth 20000
namespace Go.Bi
open Go.Proofs
open Go.Ai (wrap_i64 Heap)
variable {W0 : World} {P : Program}
set_option maxHeartbeats 4000000
theorem app2 {D : Nat → Option (List Nat)} {g0 g : H2} {K : KT} {t u U y N : Nat} {xs : List Int} {x : X} {f : Adr} {s s2 : Int} (he : Go.Ai.elt? P t = some (U, 1, y)) (hz : Go.Ai.zr? P U = some [.int .i64 0]) (hu : Go.Ai.cls? P u = some .sl)
  (hy : y ≤ 1000) (hx : OwnI N g x xs) (hle : g0.le g) (h0 : hn g0 .mk ≤ N) (hN : N ≤ hn g .mk) (hn0 : xs.length ≤ 1048576)
  (hk : ∀ v' g', OwnI N g' v' (xs ++ [s, s2]) → g0.le g' → N ≤ hn g' .mk → (∀ c, c < N → hg g' c .mk = hg g c .mk) → kz K v' g' .mk) :
  az (biz P (g.up (hn g .mk + 1)) .append [t, u] [x, .sl f 1 [[.v (.int .i64 s)], [.v (.int .i64 s2)]]] .mk) K .mk := by
 refine append_own (z := 0) (m := 2) (news := [cI s, cI s2]) (N := N) he hz rfl hu (Own.keep hx (le_up (H2.le.refl _) (Nat.le_succ _))) (by rw [hn_up]; omega) rfl rfl rfl ?_ ?_
 ·have : Go.Ai.most = 1099511627776 := rfl
  have : (xs.length + 2) * (y + 1) ≤ 1048578 * 1001 := Nat.mul_le_mul (by omega) (by omega)
  omega
 intro v4 g4 o4 n4 l4 k4
 rw [hn_up] at n4
 refine hk v4 g4 ?_ (l4 g0 h0 (le_up hle (Nat.le_succ _))) (by omega) fun c hc => (k4 c (by rw [hn_up]; omega) fun e => ?_)
 ·unfold OwnI
  rw [List.map_append, List.length_append]
  exact o4
 obtain ⟨_, h⟩ := hx
 rcases h with ⟨rfl, _⟩ | ⟨q, rfl, a1, _⟩
 ·cases e
 ·simp only [blockOf, Option.some.injEq] at e; omega
theorem turns_snoc {c s : List Int} {hd i : Nat} {x : List Int} (he : i % 2 = 0) (h : i + 1 < x.length) : (turnsI c s hd x).take (i + 2) = (turnsI c s hd x).take i ++ [turnA (x.getD i default) (x.getD (i + 1) default) (c.getD (i % hd / 2) default) (s.getD (i % hd / 2) default), turnC (x.getD i default) (x.getD (i + 1) default) (c.getD (i % hd / 2) default) (s.getD (i % hd / 2) default)] := by
 unfold turnsI
 rw [mapR_snoc (i := i + 1) h, mapR_snoc (i := i) (by omega), if_pos he, if_neg (by omega), Nat.add_sub_cancel, List.append_assoc]
 rfl
theorem pair_lt {hd i : Nat} (h3 : hd = 2 ∨ hd = 4 ∨ hd = 8) : i % hd / 2 < hd / 2 := by rcases h3 with rfl | rfl | rfl <;> omega
theorem even_len {hd n : Nat} (h3 : hd = 2 ∨ hd = 4 ∨ hd = 8) (h : n % hd = 0) : n % 2 = 0 := by rcases h3 with rfl | rfl | rfl <;> omega
theorem turnable_ok {a b c s : Int} {g : H2} (ha : -127 ≤ a ∧ a ≤ 127) (hb : -127 ≤ b ∧ b ≤ 127) (hc : -128 ≤ c ∧ c ≤ 128) (hs : -128 ≤ s ∧ s ≤ 128) : WC2 Tryz.prog W0 237 [.raw (.int .i64 a), .raw (.int .i64 b), .raw (.int .i64 c), .raw (.int .i64 s)] g (fun v g' => v = .raw (.bool true) ∧ g' = g) := by
 refine begins [[0, 1, 2, 3], [0, 1, 2, 3]] Tryz.func237 rfl (rs := [.tmp 8]) rfl rfl ?_
 intro wf
 repeat (first | rw [ko] | rw [kr] | simp -dsimp -implicitDefEqProofs only [go_sem, sQ1])
 refine wz_intro in_ok ?_
 rintro _ g ⟨rfl, rfl⟩
 rw [inI_mk ha.1 ha.2]
 repeat (first | rw [ko] | rw [kr] | simp -dsimp -implicitDefEqProofs only [go_sem, sQ1])
 refine wz_intro in_ok ?_
 rintro _ g ⟨rfl, rfl⟩
 rw [inI_mk hb.1 hb.2]
 repeat (first | rw [ko] | rw [kr] | simp -dsimp -implicitDefEqProofs only [go_sem, sQ1])
 refine wz_intro in_ok ?_
 rintro _ g ⟨rfl, rfl⟩
 rw [inI_mk hc.1 hc.2]
 repeat (first | rw [ko] | rw [kr] | simp -dsimp -implicitDefEqProofs only [go_sem, sQ1])
 refine wz_intro in_ok ?_
 rintro _ g ⟨rfl, rfl⟩
 rw [inI_mk hs.1 hs.2]
 repeat (first | rw [ko] | rw [kr] | simp -dsimp -implicitDefEqProofs only [go_sem])
 exact ⟨rfl, rfl⟩
theorem turnA_ok {a b c s : Int} {g : H2} (ha : -127 ≤ a ∧ a ≤ 127) (hb : -127 ≤ b ∧ b ≤ 127) (hc : -128 ≤ c ∧ c ≤ 128) (hs : -128 ≤ s ∧ s ≤ 128) : WC2 Tryz.prog W0 238 [.raw (.int .i64 a), .raw (.int .i64 b), .raw (.int .i64 c), .raw (.int .i64 s)] g (fun v g' => v = .tp [.raw (.int .i64 (turnA a b c s)), .raw (.int .i64 (turnC a b c s))] ∧ g' = g) := by
 refine begins [[0, 1, 2, 3], [0, 1, 2, 3], [], [0, 1, 2, 3]] Tryz.func238 rfl (rs := [.tmp 8, .tmp 9]) rfl rfl ?_
 intro wf
 obtain ⟨t1, t2, t3, t4⟩ := turn_in ha hb hc hs
 have w1 := wrapS (x := a * c) (by omega)
 have w2 := wrapS (x := b * s) (by omega)
 have w3 := wrapS (x := a * s) (by omega)
 have w4 := wrapS (x := b * c) (by omega)
 have w5 := wrapS (x := a * c - b * s) (by omega)
 have w6 := wrapS (x := a * s + b * c) (by omega)
 repeat (first | rw [ko] | rw [kr] | simp -dsimp -implicitDefEqProofs only [go_sem, sQ1])
 refine wz_intro (turnable_ok ha hb hc hs) ?_
 rintro _ g ⟨rfl, rfl⟩
 repeat (first | rw [ko] | rw [kr] | simp -dsimp -implicitDefEqProofs only [go_sem, sQ1, w1, w2, w5])
 refine wz_intro (floorA_ok (by omega) (by omega)) ?_
 rintro _ g ⟨rfl, rfl⟩
 repeat (first | rw [ko] | rw [kr] | simp -dsimp -implicitDefEqProofs only [go_sem])
 refine wz_intro (clamp1_ok (by omega) (by omega)) ?_
 rintro _ g ⟨rfl, rfl⟩
 repeat (first | rw [ko] | rw [kr] | simp -dsimp -implicitDefEqProofs only [go_sem, sQ1, w3, w4, w6])
 refine wz_intro (floorA_ok (by omega) (by omega)) ?_
 rintro _ g ⟨rfl, rfl⟩
 repeat (first | rw [ko] | rw [kr] | simp -dsimp -implicitDefEqProofs only [go_sem])
 refine wz_intro (clamp1_ok (by omega) (by omega)) ?_
 rintro _ g ⟨rfl, rfl⟩
 repeat (first | rw [ko] | rw [kr] | simp -dsimp -implicitDefEqProofs only [go_sem, sQ1])
 exact ⟨rfl, rfl⟩
theorem turnB_ok {a b c s : Int} {g : H2} (ha : -127 ≤ a ∧ a ≤ 127) (hb : -127 ≤ b ∧ b ≤ 127) (hc : -128 ≤ c ∧ c ≤ 128) (hs : -128 ≤ s ∧ s ≤ 128) : WC2 Tryz.prog W0 205 [.raw (.int .i64 a), .raw (.int .i64 b), .raw (.int .i64 c), .raw (.int .i64 s)] g (fun v g' => v = .tp [.raw (.int .i64 (turnA a b c s)), .raw (.int .i64 (turnC a b c s))] ∧ g' = g) := by
 refine begins [[0, 1, 2, 3], [0, 1, 2, 3], [], [0, 1, 2, 3]] Tryz.func205 rfl (rs := [.tmp 8, .tmp 9]) rfl rfl ?_
 intro wf
 obtain ⟨t1, t2, t3, t4⟩ := turn_in ha hb hc hs
 have w1 := wrapS (x := a * c) (by omega)
 have w2 := wrapS (x := b * s) (by omega)
 have w3 := wrapS (x := a * s) (by omega)
 have w4 := wrapS (x := b * c) (by omega)
 have w5 := wrapS (x := a * c - b * s) (by omega)
 have w6 := wrapS (x := a * s + b * c) (by omega)
 repeat (first | rw [ko] | rw [kr] | simp -dsimp -implicitDefEqProofs only [go_sem, sQ1])
 refine wz_intro l01In_ok ?_
 rintro _ g ⟨rfl, rfl⟩
 rw [inI_mk ha.1 ha.2]
 repeat (first | rw [ko] | rw [kr] | simp -dsimp -implicitDefEqProofs only [go_sem, sQ1])
 refine wz_intro l01In_ok ?_
 rintro _ g ⟨rfl, rfl⟩
 rw [inI_mk hb.1 hb.2]
 repeat (first | rw [ko] | rw [kr] | simp -dsimp -implicitDefEqProofs only [go_sem, sQ1])
 refine wz_intro l01In_ok ?_
 rintro _ g ⟨rfl, rfl⟩
 rw [inI_mk hc.1 hc.2]
 repeat (first | rw [ko] | rw [kr] | simp -dsimp -implicitDefEqProofs only [go_sem, sQ1])
 refine wz_intro l01In_ok ?_
 rintro _ g ⟨rfl, rfl⟩
 rw [inI_mk hs.1 hs.2]
 repeat (first | rw [ko] | rw [kr] | simp -dsimp -implicitDefEqProofs only [go_sem, sQ1, w1, w2, w5])
 refine wz_intro (floorB_ok (by omega) (by omega)) ?_
 rintro _ g ⟨rfl, rfl⟩
 repeat (first | rw [ko] | rw [kr] | simp -dsimp -implicitDefEqProofs only [go_sem])
 refine wz_intro (clamp2_ok (by omega) (by omega)) ?_
 rintro _ g ⟨rfl, rfl⟩
 repeat (first | rw [ko] | rw [kr] | simp -dsimp -implicitDefEqProofs only [go_sem, sQ1, w3, w4, w6])
 refine wz_intro (floorB_ok (by omega) (by omega)) ?_
 rintro _ g ⟨rfl, rfl⟩
 repeat (first | rw [ko] | rw [kr] | simp -dsimp -implicitDefEqProofs only [go_sem])
 refine wz_intro (clamp2_ok (by omega) (by omega)) ?_
 rintro _ g ⟨rfl, rfl⟩
 repeat (first | rw [ko] | rw [kr] | simp -dsimp -implicitDefEqProofs only [go_sem, sQ1])
 exact ⟨rfl, rfl⟩
theorem turnAllA_ok {F : Nat → Adr} {t : LTurns} {f : Adr} {p hd : Nat} {x : List Int} {g : H2} (h3 : hd = 2 ∨ hd = 4 ∨ hd = 8) (hm : x.length % hd = 0) (h8 : x.length ≤ 8) (hx : absB 127 x)
  (hp : p < t.cos.length) (hcs : t.sin.length = t.cos.length) (hL : t.cos.length ≤ 100) (hc : (t.cos.getD p default).length = hd / 2) (hs : (t.sin.getD p default).length = hd / 2) (hca : allI (t.cos.getD p default) (-128) 128 = true) (hsa : allI (t.sin.getD p default) (-128) 128 = true) :
  WC2 Tryz.prog W0 221 [.st (xTurns F t), .raw (.int .i64 p), .raw (.int .i64 hd), .sl f 1 (ints x)] g (fun y g' => g.le g' ∧ ∃ v, y = .tp [v, .raw (.bool true)] ∧ OwnI (hn g .mk) g' v (turnsI (t.cos.getD p default) (t.sin.getD p default) hd x)) := by
 refine begins [[0, 1, 2, 3], [1, 2, 3, 4], [], [1, 2, 3, 4], [2, 3, 10, 11], [], [2, 3, 10, 11], [2, 3, 10, 11, 12], [2, 3, 10, 11, 12, 13], [2, 3, 10, 11, 12, 13], [2, 3, 10, 11, 12, 13], [2, 3, 10, 11, 12, 13, 14], [], [2, 3, 10, 11, 12, 13, 14], [2, 3, 10, 11, 12, 13, 15, 16], [12]] Tryz.func221 rfl (rs := [.tmp 8, .tmp 9]) rfl rfl ?_
 intro wf
 have hca2 := allI_abs hca (n := 128) (by omega) (by omega)
 have hsa2 := allI_abs hsa (n := 128) (by omega) (by omega)
 have hev := even_len h3 hm
 have hp2 : p < t.sin.length := by omega
 have z1 : decide ((0 : Int) = 1) = false := by decide
 have z2 : decide (¬ ((0 : Int) = 0)) = false := by decide
 have t1 : Int.tmod (hd : Int) 2 = 0 := by show ((hd % 2 : Nat) : Int) = 0; omega
 have t2 : Int.tmod (x.length : Int) (hd : Int) = 0 := by show ((x.length % hd : Nat) : Int) = 0; omega
 have t3 : ((hd : Int) == 0) = false := zne
 have t41 : Int.tdiv (hd : Int) 2 = ((hd / 2 : Nat) : Int) := rfl
 have t4 : IntKind.i64.wrap ((hd / 2 : Nat) : Int) = ((hd / 2 : Nat) : Int) := by rw [wrap_i64] <;> omega
 have t5 : ¬ (x.length : Int) > 8 := by omega
 have t6 : Go.Ai.mnI (t.cos.length : Int) (t.sin.length : Int) = t.cos.length := by rw [mnI_eq]; omega
 have t7 := wrapS (x := (t.cos.length : Int) - 1) (by omega)
 have t8 : decide (¬ (((t.cos.getD p default).length : Nat) : Int) = ((hd / 2 : Nat) : Int)) = false := decide_eq_false (fun h => h (by omega))
 have t9 : decide (¬ (((t.sin.getD p default).length : Nat) : Int) = ((hd / 2 : Nat) : Int)) = false := decide_eq_false (fun h => h (by omega))
 have t0 : ¬ (p : Int) ≥ (t.sin.length : Int) := by omega
 repeat (first | rw [ko] | rw [kr] | simp -dsimp -implicitDefEqProofs only [go_sem, sQ1, hoo])
 refine wz_intro in_ok ?_
 rintro _ _ ⟨rfl, rfl⟩
 rw [inI_mk (by omega) (by omega)]
 repeat (first | rw [ko] | rw [kr] | simp -dsimp -implicitDefEqProofs only [go_sem, sQ1, sQ7, hoo, z1, t1, t2, t3, t5, t6, t7])
 refine wz_intro in_ok ?_
 rintro _ _ ⟨rfl, rfl⟩
 rw [inI_mk (by omega) (by omega)]
 repeat (first | rw [ko] | rw [kr] | simp -dsimp -implicitDefEqProofs only [go_sem, sQ1, hoo])
 refine dq_intro [(0, []), (1, []), (2, []), (3, []), (4, []), (5, []), (6, []), (7, []), (8, []), (9, []), (10, []), (11, [])] (by kernel_rfl) ?_
 repeat (first | rw [ko] | rw [kr] | simp -dsimp -implicitDefEqProofs only [go_sem, sQ1, sQ3, sQ7, hoo, hp, hp2, t41, t4, t8, t9])
 refine lz_keep [2, 3, 10, 11] (fun m e h' => ∃ (i : Nat) (v : X), g.le h' ∧ hn g .mk + 1 ≤ hn h' .mk ∧ look e 13 .mk = .raw (.int .i64 (i : Nat)) ∧ look e 12 .mk = v ∧ m + i = x.length ∧ i % 2 = 0 ∧ OwnI (hn g .mk + 1) h' v ((turnsI (t.cos.getD p default) (t.sin.getD p default) hd x).take i)) x.length ?_ ?_
 ·exact ⟨0, _, le_push (le_push (H2.le.refl _)), by simp only [hn_push]; omega, zsm, by simp -dsimp -implicitDefEqProofs only [go_sem] <;> rfl, by omega, rfl, Own.new (by simp only [hn_push]; omega) rfl⟩
 rintro m e h' hks ⟨i, v, hle, nn, ei, ev, hmm, hi2, ow⟩
 simp -dsimp -implicitDefEqProofs only [go_sem, sQ1] at hks
 have c0 := ownI_cell ow
 by_cases q1 : (i : Int) < (x.length : Int)
 ·have q2 : i < x.length := by omega
  have q3 : i + 1 < x.length := by omega
  have q4 : i % hd / 2 < (t.cos.getD p default).length := by rw [hc]; exact pair_lt h3
  have q5 : i % hd / 2 < (t.sin.getD p default).length := by rw [hs]; exact pair_lt h3
  have w1 := zwrs i (by omega)
  have w2 : IntKind.i64.wrap ((i : Int) + 2) = ((i + 2 : Nat) : Int) := by rw [wrap_i64] <;> omega
  have k1 : Int.tmod (i : Int) (hd : Int) = ((i % hd : Nat) : Int) := rfl
  have k3 : i % hd ≤ 8 := by have := Nat.mod_lt i (show 0 < hd by omega); omega
  have k21 : Int.tdiv ((i % hd : Nat) : Int) 2 = ((i % hd / 2 : Nat) : Int) := rfl
  have k2 : IntKind.i64.wrap ((i % hd / 2 : Nat) : Int) = ((i % hd / 2 : Nat) : Int) := by rw [wrap_i64] <;> omega
  have hl2 : ((turnsI (t.cos.getD p default) (t.sin.getD p default) hd x).take i).length ≤ 1048576 := by rw [List.length_take, turnsI_len]; omega
  have A := getD_abs (by omega) hx i
  have B := getD_abs (by omega) hx (i + 1)
  have C := getD_abs (by omega) hca2 (i % hd / 2)
  have S := getD_abs (by omega) hsa2 (i % hd / 2)
  repeat (first | rw [ko] | rw [kr] | simp -dsimp -implicitDefEqProofs only [go_sem, sQ1, sQ7, hks, ei, ev, q1, t3, k1, k21, k2])
  refine dq_intro [(0, []), (1, []), (2, []), (3, []), (4, []), (5, []), (6, []), (7, []), (8, []), (9, []), (10, []), (11, []), (12, []), (13, []), (14, []), (15, []), (16, []), (17, []), (18, [])] (by kernel_rfl) ?_
  repeat (first | rw [ko] | rw [kr] | simp -dsimp -implicitDefEqProofs only [go_sem, sQ1, q2, q3, q4, q5, w1])
  refine wz_intro (turnable_ok A B C S) ?_
  rintro _ _ ⟨rfl, rfl⟩
  repeat (first | rw [ko] | rw [kr] | simp -dsimp -implicitDefEqProofs only [go_sem, sQ1])
  refine dq_intro [(0, []), (1, []), (2, []), (3, []), (4, []), (5, []), (6, []), (7, []), (8, []), (9, []), (10, []), (11, []), (12, []), (13, []), (14, []), (15, []), (16, []), (17, []), (18, []), (19, []), (20, []), (21, []), (22, [])] (by kernel_rfl) ?_
  repeat (first | rw [ko] | rw [kr] | simp -dsimp -implicitDefEqProofs only [go_sem, sQ1, q2, q3, q4, q5, w1])
  refine wz_intro (turnA_ok A B C S) ?_
  rintro _ _ ⟨rfl, rfl⟩
  repeat (first | rw [ko] | rw [kr] | simp -dsimp -implicitDefEqProofs only [go_sem, sQ1, sQ2, sQ3])
  refine app2 (P := Tryz.prog) (D := fun _ => none) Go.Ai.ty_el25 Go.Ai.ty_zr3 Go.Ai.ty_cl25 (by omega) ow hle (by omega) nn hl2 ?_
  intro v4 g4 ow4 le4 nn4 on4
  skip
  repeat (first | rw [ko] | rw [kr] | simp -dsimp -implicitDefEqProofs only [go_sem, sQ1, w2])
  exact nx_keep (m - 2) (by omega) zsm ⟨i + 2, v4, le4, nn4, zsm, zsm, by omega, by omega, (turns_snoc hi2 q3).symm ▸ ow4⟩
 ·repeat (first | rw [ko] | rw [kr] | simp -dsimp -implicitDefEqProofs only [go_sem, sQ1, hks, ei, ev, q1, c0])
  have hi : i = (turnsI (t.cos.getD p default) (t.sin.getD p default) hd x).length := by rw [turnsI_len]; omega
  rw [hi, List.take_length] at ow
  exact ⟨hle, v, rfl, ow.wide (by omega)⟩
theorem turnAllB_ok {F : Nat → Adr} {t : LTurns} {f : Adr} {p hd : Nat} {x : List Int} {g : H2} (h3 : hd = 2 ∨ hd = 4 ∨ hd = 8) (hm : x.length % hd = 0) (h8 : x.length ≤ 8) (hx : absB 127 x)
  (hp : p < t.cos.length) (hcs : t.sin.length = t.cos.length) (hL : t.cos.length ≤ 100) (hc : (t.cos.getD p default).length = hd / 2) (hs : (t.sin.getD p default).length = hd / 2) (hca : allI (t.cos.getD p default) (-128) 128 = true) (hsa : allI (t.sin.getD p default) (-128) 128 = true) :
  WC2 Tryz.prog W0 156 [.st (xTurns F t), .raw (.int .i64 p), .raw (.int .i64 hd), .sl f 1 (ints x)] g (fun y g' => g.le g' ∧ ∃ v, y = .tp [v, .raw (.bool true)] ∧ OwnI (hn g .mk) g' v (turnsI (t.cos.getD p default) (t.sin.getD p default) hd x)) := by
 refine begins [[0, 1, 2, 3], [1, 2, 3, 4], [1, 2, 3, 4, 10], [10], [1, 2, 3, 4, 10], [10], [1, 2, 3, 4, 10], [1, 2, 3, 4, 10, 11], [1, 2, 3, 4, 10, 11], [1, 2, 3, 4, 10, 11], [1, 2, 3, 4, 10, 11, 12], [1, 2, 3, 4, 10, 11, 13, 14], [10]] Tryz.func156 rfl (rs := [.tmp 8, .tmp 9]) rfl rfl ?_
 intro wf
 have hca2 := allI_abs hca (n := 128) (by omega) (by omega)
 have hsa2 := allI_abs hsa (n := 128) (by omega) (by omega)
 have hev := even_len h3 hm
 have hp2 : p < t.sin.length := by omega
 have z1 : decide ((0 : Int) = 1) = false := by decide
 have z2 : decide (¬ ((0 : Int) = 0)) = false := by decide
 have t1 : Int.tmod (hd : Int) 2 = 0 := by show ((hd % 2 : Nat) : Int) = 0; omega
 have t2 : Int.tmod (x.length : Int) (hd : Int) = 0 := by show ((x.length % hd : Nat) : Int) = 0; omega
 have t3 : ((hd : Int) == 0) = false := zne
 have t41 : Int.tdiv (hd : Int) 2 = ((hd / 2 : Nat) : Int) := rfl
 have t4 : IntKind.i64.wrap ((hd / 2 : Nat) : Int) = ((hd / 2 : Nat) : Int) := by rw [wrap_i64] <;> omega
 have t5 : ¬ (x.length : Int) > 8 := by omega
 have t6 : Go.Ai.mnI (t.cos.length : Int) (t.sin.length : Int) = t.cos.length := by rw [mnI_eq]; omega
 have t7 := wrapS (x := (t.cos.length : Int) - 1) (by omega)
 have t8 : decide (¬ (((t.cos.getD p default).length : Nat) : Int) = ((hd / 2 : Nat) : Int)) = false := decide_eq_false (fun h => h (by omega))
 have t9 : decide (¬ (((t.sin.getD p default).length : Nat) : Int) = ((hd / 2 : Nat) : Int)) = false := decide_eq_false (fun h => h (by omega))
 have t0 : ¬ (p : Int) ≥ (t.sin.length : Int) := by omega
 repeat (first | rw [ko] | rw [kr] | simp -dsimp -implicitDefEqProofs only [go_sem, sQ1, sQ3, hoo])
 refine wz_intro l01In_ok ?_
 rintro _ _ ⟨rfl, rfl⟩
 rw [inI_mk (by omega) (by omega)]
 repeat (first | rw [ko] | rw [kr] | simp -dsimp -implicitDefEqProofs only [go_sem, sQ1, sQ7, hoo, t1, t2, t3, t5, t7])
 refine wz_intro l01In_ok ?_
 rintro _ _ ⟨rfl, rfl⟩
 rw [inI_mk (by omega) (by omega)]
 have hne : (hn g .mk == hn g .mk + 1) = false := by simp
 repeat (first | rw [ko] | rw [kr] | simp -dsimp -implicitDefEqProofs only [go_sem, sQ1, sQ7, hoo, hne, hp, hp2, t0, t41, t4, t8, t9])
 refine pw_intro (l05All_ok (by omega)) ?_
 rintro _ n1 hn1 rfl
 rw [allI_absB hx (by omega)]
 repeat (first | rw [ko] | rw [kr] | simp -dsimp -implicitDefEqProofs only [go_sem, sQ1, hoo, hne, hp])
 refine pw_intro (l05All_ok (by omega)) ?_
 rintro _ n2 hn2 rfl
 rw [hca]
 repeat (first | rw [ko] | rw [kr] | simp -dsimp -implicitDefEqProofs only [go_sem, sQ1, hoo, hne, hp2])
 refine pw_intro (l05All_ok (by omega)) ?_
 rintro _ n3 hn3 rfl
 rw [hsa]
 simp only [hn_push, hn_up] at hn1 hn2 hn3
 repeat (first | rw [ko] | rw [kr] | simp -dsimp -implicitDefEqProofs only [go_sem, sQ1, hoo])
 refine lz_keep [1, 2, 3, 4] (fun m e h' => ∃ (i : Nat) (v : X), g.le h' ∧ hn g .mk + 1 ≤ hn h' .mk ∧ hg h' (hn g .mk) .mk = some ⟨2, [.sl (F 0) 1 (rIntSS t.cos), .sl (F 1) 1 (rIntSS t.sin)]⟩ ∧ look e 11 .mk = .raw (.int .i64 (i : Nat)) ∧ look e 10 .mk = v ∧ m + i = x.length ∧ i % 2 = 0 ∧ OwnI (hn g .mk + 1) h' v ((turnsI (t.cos.getD p default) (t.sin.getD p default) hd x).take i)) x.length ?_ ?_
 ·refine ⟨0, _, ?_, by simp only [hn_up]; omega, by simp -dsimp -implicitDefEqProofs only [go_sem, hoo, hne], zsm, by simp -dsimp -implicitDefEqProofs only [go_sem] <;> rfl, by omega, rfl, ?_⟩
  ·exact le_up (le_up (le_up (le_push (le_push (H2.le.refl _))) (by simp only [hn_push]; omega)) (by simp only [hn_up]; omega)) (by simp only [hn_up]; omega)
  ·exact Own.keep (Own.new (g := g.push _) (by rw [hn_push]; exact Nat.le_refl _) rfl) (le_up (le_up (le_up (H2.le.refl _) (by simp only [hn_push]; omega)) (by simp only [hn_up]; omega)) (by simp only [hn_up]; omega))
 rintro m e h' hks ⟨i, v, hle, nn, row, ei, ev, hmm, hi2, ow⟩
 simp -dsimp -implicitDefEqProofs only [go_sem, sQ1] at hks
 have c0 := ownI_cell ow
 by_cases q1 : (i : Int) < (x.length : Int)
 ·have q2 : i < x.length := by omega
  have q3 : i + 1 < x.length := by omega
  have q4 : i % hd / 2 < (t.cos.getD p default).length := by rw [hc]; exact pair_lt h3
  have q5 : i % hd / 2 < (t.sin.getD p default).length := by rw [hs]; exact pair_lt h3
  have w1 := zwrs i (by omega)
  have w2 : IntKind.i64.wrap ((i : Int) + 2) = ((i + 2 : Nat) : Int) := by rw [wrap_i64] <;> omega
  have k1 : Int.tmod (i : Int) (hd : Int) = ((i % hd : Nat) : Int) := rfl
  have k3 : i % hd ≤ 8 := by have := Nat.mod_lt i (show 0 < hd by omega); omega
  have k21 : Int.tdiv ((i % hd : Nat) : Int) 2 = ((i % hd / 2 : Nat) : Int) := rfl
  have k2 : IntKind.i64.wrap ((i % hd / 2 : Nat) : Int) = ((i % hd / 2 : Nat) : Int) := by rw [wrap_i64] <;> omega
  have hl2 : ((turnsI (t.cos.getD p default) (t.sin.getD p default) hd x).take i).length ≤ 1048576 := by rw [List.length_take, turnsI_len]; omega
  have A := getD_abs (by omega) hx i
  have B := getD_abs (by omega) hx (i + 1)
  have C := getD_abs (by omega) hca2 (i % hd / 2)
  have S := getD_abs (by omega) hsa2 (i % hd / 2)
  repeat (first | rw [ko] | rw [kr] | simp -dsimp -implicitDefEqProofs only [go_sem, sQ1, sQ7, hks, ei, ev, q1, t3, k1, k21, k2])
  refine dq_intro [(0, []), (1, []), (2, []), (3, []), (4, []), (5, []), (6, []), (7, []), (8, []), (9, []), (10, []), (11, []), (12, []), (13, []), (14, []), (15, []), (16, []), (17, []), (18, []), (19, []), (20, []), (21, []), (22, []), (23, []), (24, []), (25, []), (26, []), (27, []), (28, []), (29, []), (30, [])] (by kernel_rfl) ?_
  repeat (first | rw [ko] | rw [kr] | simp -dsimp -implicitDefEqProofs only [go_sem, sQ1, q2, q3, q4, q5, row, hp, hp2, w1])
  refine wz_intro (turnB_ok A B C S) ?_
  rintro _ _ ⟨rfl, rfl⟩
  repeat (first | rw [ko] | rw [kr] | simp -dsimp -implicitDefEqProofs only [go_sem, sQ1, sQ2, sQ3])
  refine app2 (P := Tryz.prog) (D := fun _ => none) Go.Ai.ty_el25 Go.Ai.ty_zr3 Go.Ai.ty_cl25 (by omega) ow hle (by omega) nn hl2 ?_
  intro v4 g4 ow4 le4 nn4 on4
  have row4 := (on4 (hn g .mk) (by omega)).trans row
  repeat (first | rw [ko] | rw [kr] | simp -dsimp -implicitDefEqProofs only [go_sem, sQ1, w2])
  exact nx_keep (m - 2) (by omega) zsm ⟨i + 2, v4, le4, nn4, row4, zsm, zsm, by omega, by omega, (turns_snoc hi2 q3).symm ▸ ow4⟩
 ·repeat (first | rw [ko] | rw [kr] | simp -dsimp -implicitDefEqProofs only [go_sem, sQ1, hks, ei, ev, q1, c0])
  have hi : i = (turnsI (t.cos.getD p default) (t.sin.getD p default) hd x).length := by rw [turnsI_len]; omega
  rw [hi, List.take_length] at ow
  exact ⟨hle, v, rfl, ow.wide (by omega)⟩
end Go.Bi
end
section
set_option maxRecDepth 20000
namespace Go.Bi
open Go.Proofs
open Go.Ai (wrap_i64 Heap)
variable {W0 : World} {P : Program}
set_option maxHeartbeats 4000000
theorem l14Parts_ok {f : Adr} {F : Nat → Adr} {l : List (List LPart)} {m : LModel} {g : H2} (hd : m.dim = 4 ∨ m.dim = 8) (hk : m.heads = 1 ∨ m.heads = 2) (hs : smallPP l) : PW Tryz.prog W0 154 [.sl f 1 (rPartSS l), .st (xModel F m)] g (fun y => y = .raw (.bool (layersB l m))) := by
 obtain ⟨s1, s2⟩ := id hs
 refine PW.scalar ?_
 refine begins [[0, 1], [0, 3], [], [0, 3], [0, 3, 5], [0, 3, 5], [0, 3, 5], [], [0, 3, 5], [0, 3, 5, 6], [0, 3, 5, 6], [0, 3, 5, 6], [], []] Tryz.func154 rfl (rs := [.tmp 4]) rfl rfl ?_
 intro wf
 have z0 : (m.heads == 0) = false := zne
 have w0 : IntKind.i64.wrap (Int.tdiv m.dim m.heads) = Int.tdiv m.dim m.heads := by
  rcases hd with hd | hd <;> rcases hk with hk | hk <;> rw [hd, hk] <;> decide
 by_cases h1 : (l.length : Int) = m.layers.length
 rotate_left
 ·have e1 : decide (¬ (l.length : Int) = m.layers.length) = true := decide_eq_true h1
  repeat (first | rw [ko] | rw [kr] | simp -dsimp -implicitDefEqProofs only [go_sem, sQ1, hoo, e1])
  exact ⟨le_push (H2.le.refl _), ⟨_, rfl⟩, by rw [layersB, decide_eq_false h1]; rfl⟩
 have e1 : decide (¬ (l.length : Int) = m.layers.length) = false := decide_eq_false (fun h => h h1)
 have hB : layersB l m = !(l.any fun x => !partsB x m.heads (Int.tdiv m.dim m.heads)) := by rw [layersB, decide_eq_true h1]; rfl
 repeat (first | rw [ko] | rw [kr] | simp -dsimp -implicitDefEqProofs only [go_sem, sQ1, hoo, e1])
 refine lz_keep [0, 3] (fun mm e h' => ∃ (i : Nat), g.le h' ∧ hg h' (hn g .mk) .mk = some ⟨14, [.raw (.int .i64 m.dim), .raw (.int .i64 m.heads), .raw (.int .i64 m.context), .sl (F 3) 2 (rMergeS m.merges), .sl (F 4) 1 (rIntSS m.embed), .sl (F 5) 32 (rLayerS m.layers), .sl (F 6) 1 (ints m.gainEnd), .raw (.int .i64 m.head.width), .sl (F 8) 1 (rIntSS m.head.rows), .sl (F 9) 1 (rIntSS m.head.scales), .raw (.int .i64 m.head.mul), .raw (.int .i64 m.head.shift), .sl (F 12) 1 (rIntSS m.turns.cos), .sl (F 13) 1 (rIntSS m.turns.sin)]⟩ ∧ look e 5 .mk = .raw (.int .i64 (i : Nat)) ∧ mm + i = l.length ∧ ∀ j, j < i → partsB (l.getD j default) m.heads (Int.tdiv m.dim m.heads) = true) l.length ?_ ?_
 ·exact ⟨0, le_push (H2.le.refl _), by simp -dsimp -implicitDefEqProofs only [go_sem, hoo], zsm, by omega, fun j hj => by omega⟩
 rintro mm e h' hks ⟨i, hle, row, ei, hm, hpre⟩
 simp -dsimp -implicitDefEqProofs only [go_sem, sQ1] at hks
 by_cases q1 : (i : Int) < (l.length : Int)
 rotate_left
 ·repeat (first | rw [ko] | rw [kr] | simp -dsimp -implicitDefEqProofs only [go_sem, sQ1, hks, ei, q1])
  exact ⟨hle, ⟨_, rfl⟩, by rw [hB, any_none fun j hj => by rw [hpre j (by omega)]; rfl]; rfl⟩
 have q2 : i < l.length := by omega
 have s3 := s2 i q2
 have w1 := zwrs i (by omega)
 have bad : partsB (l.getD i default) m.heads (Int.tdiv m.dim m.heads) = false → layersB l m = false := fun h => by
  rw [hB, any_getD (p := fun x => !partsB x m.heads (Int.tdiv m.dim m.heads)) q2 (by simp only [h]; rfl)]; rfl
 by_cases q4 : ((l.getD i default).length : Int) = m.heads
 rotate_left
 ·have e4 : decide (¬ ((l.getD i default).length : Int) = m.heads) = true := decide_eq_true q4
  repeat (first | rw [ko] | rw [kr] | simp -dsimp -implicitDefEqProofs only [go_sem, sQ1, hks, ei, q1])
  refine dq_intro [(0, []), (1, []), (2, []), (3, []), (4, []), (5, []), (6, []), (7, [])] (by kernel_rfl) ?_
  repeat (first | rw [ko] | rw [kr] | simp -dsimp -implicitDefEqProofs only [go_sem, sQ1, q2, row, e4])
  exact ⟨hle, ⟨_, rfl⟩, by rw [bad (by rw [partsB, decide_eq_false q4]; rfl)]⟩
 have e4 : decide (¬ ((l.getD i default).length : Int) = m.heads) = false := decide_eq_false (fun h => h q4)
 repeat (first | rw [ko] | rw [kr] | simp -dsimp -implicitDefEqProofs only [go_sem, sQ1, hks, ei, q1])
 refine dq_intro [(0, []), (1, []), (2, []), (3, []), (4, []), (5, []), (6, []), (7, [])] (by kernel_rfl) ?_
 repeat (first | rw [ko] | rw [kr] | simp -dsimp -implicitDefEqProofs only [go_sem, sQ1, q2, row, e4])
 refine lz_keep [0, 3, 5] (fun m2 e2 h2' => ∃ (k : Nat), g.le h2' ∧ hg h2' (hn g .mk) .mk = some ⟨14, [.raw (.int .i64 m.dim), .raw (.int .i64 m.heads), .raw (.int .i64 m.context), .sl (F 3) 2 (rMergeS m.merges), .sl (F 4) 1 (rIntSS m.embed), .sl (F 5) 32 (rLayerS m.layers), .sl (F 6) 1 (ints m.gainEnd), .raw (.int .i64 m.head.width), .sl (F 8) 1 (rIntSS m.head.rows), .sl (F 9) 1 (rIntSS m.head.scales), .raw (.int .i64 m.head.mul), .raw (.int .i64 m.head.shift), .sl (F 12) 1 (rIntSS m.turns.cos), .sl (F 13) 1 (rIntSS m.turns.sin)]⟩ ∧ look e2 6 .mk = .raw (.int .i64 (k : Nat)) ∧ m2 + k = (l.getD i default).length ∧ ∀ j, j < k → partN (Int.tdiv m.dim m.heads) ((l.getD i default).getD j default) = true) (l.getD i default).length ?_ ?_
 ·exact ⟨0, hle, row, zsm, by omega, fun j hj => by omega⟩
 rintro m2 e2 h2' hks2 ⟨k, hle2, row2, ek, hm2, hpre2⟩
 simp -dsimp -implicitDefEqProofs only [go_sem, sQ1] at hks2
 by_cases q5 : (k : Int) < ((l.getD i default).length : Int)
 ·have q6 : k < (l.getD i default).length := by omega
  have w2 : IntKind.i64.wrap ((k : Int) + 1) = ((k + 1 : Nat) : Int) := by rw [wrap_i64] <;> have := s3.1 <;> omega
  repeat (first | rw [ko] | rw [kr] | simp -dsimp -implicitDefEqProofs only [go_sem, sQ1, hks2, ek, q2, q5])
  refine dq_intro [(0, []), (1, []), (2, []), (3, []), (4, []), (5, []), (6, []), (7, []), (8, []), (9, []), (10, []), (11, []), (12, []), (13, [])] (by kernel_rfl) ?_
  repeat (first | rw [ko] | rw [kr] | simp -dsimp -implicitDefEqProofs only [go_sem, sQ1, sQ2, sQ3, q2, q6, row2, z0, w0])
  refine pw_intro (specPart_ok (F := fun j => under (under (under (under f i) 0) k) j) (p := (l.getD i default).getD k default) (s3.2 k q6)) ?_
  rintro _ n3 hn3 rfl
  cases q7 : partN (Int.tdiv m.dim m.heads) ((l.getD i default).getD k default)
  ·have q8 : (partB ((l.getD i default).getD k default) && decide ((((l.getD i default).getD k default).values.length : Int) = Int.tdiv m.dim m.heads)) = false := q7
   rw [q8]
   repeat (first | rw [ko] | rw [kr] | simp -dsimp -implicitDefEqProofs only [go_sem])
   exact ⟨le_up hle2 hn3, ⟨_, rfl⟩, by rw [bad (by rw [partsB, any_getD (p := fun x => !partN (Int.tdiv m.dim m.heads) x) q6 (by simp only [q7]; rfl)]; simp)]⟩
  ·have q8 : (partB ((l.getD i default).getD k default) && decide ((((l.getD i default).getD k default).values.length : Int) = Int.tdiv m.dim m.heads)) = true := q7
   rw [q8]
   repeat (first | rw [ko] | rw [kr] | simp -dsimp -implicitDefEqProofs only [go_sem, sQ1, w2])
   refine nx_keep (m2 - 1) (by omega) zsm ⟨k + 1, le_up hle2 hn3, by simp -dsimp -implicitDefEqProofs only [go_sem, row2], zsm, by omega, fun j hj => ?_⟩
   by_cases hji : j = k
   ·subst hji; exact q7
   ·exact hpre2 j (by omega)
 ·repeat (first | rw [ko] | rw [kr] | simp -dsimp -implicitDefEqProofs only [go_sem, sQ1, hks2, ek, q2, q5, w1])
  refine nx_keep (mm - 1) (by omega) zsm ⟨i + 1, hle2, row2, zsm, by omega, fun j hj => ?_⟩
  by_cases hji : j = i
  ·subst hji
   rw [partsB, decide_eq_true q4, any_none fun x hx => by rw [hpre2 x (by omega)]; rfl]; rfl
  ·exact hpre j (by omega)
theorem l14Cell_ok {F F' : Nat → Adr} {c : LCell} {m : LModel} {g : H2} (hd : m.dim = 4 ∨ m.dim = 8) (hk : m.heads = 1 ∨ m.heads = 2) (hs : smallPP c.keys ∧ smallPP c.values) : PW Tryz.prog W0 107 [.st (xCell F' c), .st (xModel F m)] g (fun y => y = .raw (.bool (cellB c m))) := by
 refine PW.scalar ?_
 refine begins [[0, 1], [2, 3]] Tryz.func107 rfl (rs := [.tmp 4]) rfl rfl ?_
 intro wf
 have hne : (hn g .mk == hn g .mk + 1) = false := by simp
 repeat (first | rw [ko] | rw [kr] | simp -dsimp -implicitDefEqProofs only [go_sem, hoo, hne])
 refine pw_intro (l14Parts_ok (F := F) hd hk hs.1) ?_
 rintro _ n1 hn1 rfl
 simp only [hn_push] at hn1
 cases h1 : layersB c.keys m
 ·repeat (first | rw [ko] | rw [kr] | simp -dsimp -implicitDefEqProofs only [go_sem, hoo])
  exact ⟨le_up (le_push (le_push (H2.le.refl _))) (by simp only [hn_push]; exact hn1), ⟨_, rfl⟩, by rw [cellB, h1]; rfl⟩
 repeat (first | rw [ko] | rw [kr] | simp -dsimp -implicitDefEqProofs only [go_sem, sQ1, hoo, hne])
 refine pw_intro (l14Parts_ok (F := F) hd hk hs.2) ?_
 rintro _ n2 hn2 rfl
 rw [hn_up] at hn2
 repeat (first | rw [ko] | rw [kr] | simp -dsimp -implicitDefEqProofs only [go_sem])
 exact ⟨le_up (le_up (le_push (le_push (H2.le.refl _))) (by simp only [hn_push]; exact hn1)) (by rw [hn_up]; exact hn2), ⟨_, rfl⟩, by rw [cellB, h1]; rfl⟩
end Go.Bi
end
