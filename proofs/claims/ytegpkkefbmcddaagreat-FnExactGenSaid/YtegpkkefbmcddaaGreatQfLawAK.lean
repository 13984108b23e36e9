/- Own lemmas that the theorem of this claim needs: the abstract machine and walks of functions. -/
import Derived.Test.YtegpkkefbmcddaaGreatQfLawAJ
set_option linter.unusedSimpArgs false
set_option linter.unusedVariables false
open Nat renaming reduceBEq → sQ1, reduceAdd → sQ2, reduceLeDiff → sQ3, reduceMul → sQ4
open Int renaming reduceLE → sQ5, reduceLT → sQ6, reduceBEq → sQ7
section
namespace Go.Bi
theorem Ag {l : List Int} {n : Int} (h0 : 0 ≤ n) (h : Ay n l) (i : Nat) : -n ≤ l.getD i default ∧ l.getD i default ≤ n := by
 rw [List.getD_eq_getElem?_getD]
 by_cases hi : i < l.length
 ·rw [List.getElem?_eq_getElem hi]; exact h _ (List.getElem_mem hi)
 ·rw [List.getElem?_eq_none (by omega)]
  have : (default : Int) = 0 := rfl
  show -n ≤ (default : Int) ∧ (default : Int) ≤ n
  omega
theorem Bz {l : List Int} {n m : Int} (h : Ay n l) (hm : n ≤ m) : Ay m l := fun x hx => by have := h x hx; omega
theorem B3 {l : List Int} {a b n : Int} (h : allI l a b = true) (h1 : -n ≤ a) (h2 : b ≤ n) : Ay n l := fun x hx => by
 have := Bs (List.all_eq_true.1 h x hx)
 omega
theorem K7 {n : Int} (h : Bk n = true) : n = 4 ∨ n = 8 := by
 unfold Bk at h
 rw [Bool.and_eq_true] at h
 have h1 := Bs h.1
 have h2 := of_decide_eq_true h.2
 have h3 : n = 4 ∨ n = 5 ∨ n = 6 ∨ n = 7 ∨ n = 8 := by omega
 rcases h3 with rfl | rfl | rfl | rfl | rfl <;> simp_all <;> exact absurd h2 (by decide)
theorem Pk {r s : List Int} (h : Dh r s = true) : (r.length = 4 ∨ r.length = 8) ∧ s.length = r.length / 4 ∧ Ay 8 r ∧ Ay 127 s := by
 unfold Dh at h
 simp only [Bool.and_eq_true, decide_eq_true_eq] at h
 obtain ⟨h1, h2, h3, h4⟩ := h
 have h1 := K7 h1
 have h1' : r.length = 4 ∨ r.length = 8 := by omega
 refine ⟨h1', ?_, B3 h2 (by omega) (by omega), B3 h4 (by omega) (by omega)⟩
 rcases h1' with e | e <;> rw [e] at h3 ⊢
 ·have : Int.tdiv ((4 : Nat) : Int) 4 = 1 := by decide
  omega
 ·have : Int.tdiv ((8 : Nat) : Int) 4 = 2 := by decide
  omega
theorem Rd {r s x : List Int} (h : Dh r s = true) (hx : Ay 127 x) (i : Nat) :
  (-1016 ≤ s.getD (i / 4) default * r.getD i default ∧ s.getD (i / 4) default * r.getD i default ≤ 1016) ∧
  (-129032 ≤ s.getD (i / 4) default * r.getD i default * x.getD i default ∧ s.getD (i / 4) default * r.getD i default * x.getD i default ≤ 129032) := by
 obtain ⟨h1, h2, h3, h4⟩ := Pk h
 have a1 := Br (Ag (by omega) h4 (i / 4)) (Ag (by omega) h3 i)
 have a2 := Br a1 (Ag (by omega) hx i)
 omega
theorem LN {r s x : List Int} (h : Dh r s = true) (hx : Ay 127 x) {n : Nat} (hn : n ≤ 8) : -1032256 ≤ Aq (fun i => s.getD (i / 4) default * r.getD i default * x.getD i default) n ∧ Aq (fun i => s.getD (i / 4) default * r.getD i default * x.getD i default) n ≤ 1032256 := by
 have := Ep (f := fun i => s.getD (i / 4) default * r.getD i default * x.getD i default) (b := 129032) (by omega) (n := n) (fun i _ => (Rd h hx i).2)
 omega
theorem HL {m : AR} (h : C3 m = true) : (m.width = 4 ∨ m.width = 8) ∧ m.rows.length ≤ 300 ∧ m.scales.length = m.rows.length ∧ (0 ≤ m.mul ∧ m.mul ≤ 65536) ∧ (0 ≤ m.shift ∧ m.shift ≤ 24) ∧
  ∀ i, i < m.rows.length → ((m.rows.getD i default).length : Int) = m.width ∧ Dh (m.rows.getD i default) (m.scales.getD i default) = true := by
 unfold C3 at h
 simp only [Bool.and_eq_true, decide_eq_true_eq] at h
 obtain ⟨h1, h2, h3, h4, h5, h6⟩ := h
 refine ⟨K7 h1, by omega, by omega, Bs h4, Bs h5, fun i hi => ?_⟩
 have := List.all_eq_true.1 h6 i (List.mem_range.2 hi)
 unfold Gs at this
 rwa [Bool.and_eq_true, decide_eq_true_eq] at this
theorem JU {m : AR} {x : List Int} (h : C3 m = true) (hx : Ay 127 x) : Ay 1032256 (Az m x) := fun y hy => by
 obtain ⟨i, hi, rfl⟩ := List.mem_map.1 hy
 obtain ⟨_, _, _, _, _, h6⟩ := HL h
 have h7 := (h6 i (List.mem_range.1 hi)).2
 have h8 := Pk h7
 exact LN h7 hx (by omega)
theorem MP (n : Int) : ∀ (k : Nat) (lo hi : Int), 0 ≤ lo → lo < hi → hi - lo ≤ k → lo * lo ≤ n → n < hi * hi → 0 ≤ I4 n k lo hi ∧ I4 n k lo hi * I4 n k lo hi ≤ n ∧ n < (I4 n k lo hi + 1) * (I4 n k lo hi + 1)
 | 0, lo, hi, h0, h1, h2, h3, h4 => by omega
 | k + 1, lo, hi, h0, h1, h2, h3, h4 => by
  unfold I4
  split
  ·split
   ·exact MP n k _ _ (by omega) (by omega) (by omega) (by assumption) h4
   ·exact MP n k _ _ (by omega) (by omega) (by omega) h3 (by omega)
  ·have : hi = lo + 1 := by omega
   subst this
   exact ⟨h0, h3, h4⟩
theorem be {a b : Int} (h0 : 0 ≤ a) (h : a < b) : a * a < b * b := by
 have h1 : a * a ≤ a * b := Int.mul_le_mul_of_nonneg_left (by omega) h0
 have h2 : a * b < b * b := Int.mul_lt_mul_of_pos_right h (by omega)
 omega
theorem dw {a b n : Int} (ha : 0 ≤ a) (hb : 0 ≤ b) (h1 : a * a ≤ n) (h2 : n < (a + 1) * (a + 1)) (h3 : b * b ≤ n) (h4 : n < (b + 1) * (b + 1)) : a = b := by
  rcases Int.lt_trichotomy a b with h | h | h
  · have : (a + 1) * (a + 1) ≤ b * b := by
      rcases Int.lt_or_eq_of_le (show a + 1 ≤ b by omega) with e | e
      · have := be (by omega) e; omega
      · rw [e]; omega
    omega
  · exact h
  · have : (b + 1) * (b + 1) ≤ a * a := by
      rcases Int.lt_or_eq_of_le (show b + 1 ≤ a by omega) with e | e
      · have := be (by omega) e; omega
      · rw [e]; omega
    omega
theorem Qp {n : Int} (h0 : 0 ≤ n) (h1 : n ≤ 1000000000000) : 0 ≤ Gu n ∧ Gu n * Gu n ≤ n ∧ n < (Gu n + 1) * (Gu n + 1) :=
 MP n _ 0 1000001 (by omega) (by omega) (by omega) (by omega) (by omega)
theorem Pf {n r : Int} (h0 : 0 ≤ n) (h1 : n ≤ 1000000000000) (hr : 0 ≤ r) (h2 : r * r ≤ n) (h3 : n < (r + 1) * (r + 1)) : r = Gu n := by
 have := Qp h0 h1
 exact dw hr this.1 h2 h3 this.2.1 this.2.2
theorem Ui {n : Int} (h0 : 1 ≤ n) (h1 : n ≤ 1000000000000) : 1 ≤ Gu n := by
 have h2 := Qp (n := n) (by omega) h1
 rcases Int.lt_or_eq_of_le h2.1 with h | h
 ·omega
 ·rw [← h] at h2
  omega
theorem TH {s b : Int} {n : Nat} (h1 : 1 ≤ n) (h8 : n ≤ 8) (h : -(b * n) ≤ s ∧ s ≤ b * n) : -b ≤ s / (n : Int) ∧ s / (n : Int) ≤ b := by
 have : n = 1 ∨ n = 2 ∨ n = 3 ∨ n = 4 ∨ n = 5 ∨ n = 6 ∨ n = 7 ∨ n = 8 := by omega
 rcases this with rfl | rfl | rfl | rfl | rfl | rfl | rfl | rfl <;> omega
theorem MJ {x : List Int} (hx : Ay 1000 x) (n : Nat) : -(1000 * n) ≤ Aq (fun i => x.getD i default) n ∧ Aq (fun i => x.getD i default) n ≤ 1000 * n :=
 Ep (by omega) fun i _ => Ag (by omega) hx i
theorem Ws {x : List Int} (hx : Ay 1000 x) (h1 : 1 ≤ x.length) (h8 : x.length ≤ 8) : -1000 ≤ A4 x ∧ A4 x ≤ 1000 := TH h1 h8 (MJ hx _)
theorem Fk {x : List Int} (hx : Ay 1000 x) (h1 : 1 ≤ x.length) (h8 : x.length ≤ 8) (i : Nat) : -2000 ≤ x.getD i default - A4 x ∧ x.getD i default - A4 x ≤ 2000 := by
 have a := Ws hx h1 h8
 have b := Ag (by omega) hx i
 omega
theorem Ly {x : List Int} (hx : Ay 1000 x) (h1 : 1 ≤ x.length) (h8 : x.length ≤ 8) (i : Nat) : 0 ≤ (x.getD i default - A4 x) * (x.getD i default - A4 x) ∧ (x.getD i default - A4 x) * (x.getD i default - A4 x) ≤ 4000000 := by
 have a := Fk hx h1 h8 i
 have b := Br a a
 refine ⟨?_, by omega⟩
 rcases Int.le_total 0 (x.getD i default - A4 x) with h | h
 ·exact Int.mul_nonneg h h
 ·exact Int.mul_nonneg_of_nonpos_of_nonpos h h
theorem Yw {f g : Nat → Int} : ∀ {n : Nat}, (∀ i, i < n → f i ≤ g i) → Aq f n ≤ Aq g n
 | 0, _ => by simp [Aq]
 | n + 1, h => by
  have h1 := Yw (n := n) fun i hi => h i (by omega)
  have h2 := h n (by omega)
  simp only [Aq]; omega
theorem K4 {f : Nat → Int} : ∀ {n : Nat}, (∀ i, i < n → 0 ≤ f i) → 0 ≤ Aq f n
 | 0, _ => by simp [Aq]
 | n + 1, h => by
  have h1 := K4 (n := n) fun i hi => h i (by omega)
  have h2 := h n (by omega)
  simp only [Aq]; omega
theorem OJ {f : Nat → Int} {i : Nat} : ∀ {n : Nat}, (∀ j, j < n → 0 ≤ f j) → i < n → f i ≤ Aq f n
 | 0, _, h => by omega
 | n + 1, h, hi => by
  have h1 := K4 (f := f) (n := n) fun j hj => h j (by omega)
  have h2 := h n (by omega)
  simp only [Aq]
  by_cases e : i = n
  ·subst e; omega
  ·have := OJ (f := f) (n := n) (fun j hj => h j (by omega)) (show i < n by omega)
   omega
theorem MU {x : List Int} (hx : Ay 1000 x) (h1 : 1 ≤ x.length) (h8 : x.length ≤ 8) (n : Nat) : 0 ≤ Aq (fun i => (x.getD i default - A4 x) * (x.getD i default - A4 x)) n ∧ Aq (fun i => (x.getD i default - A4 x) * (x.getD i default - A4 x)) n ≤ 4000000 * n := by
 refine ⟨K4 fun i _ => (Ly hx h1 h8 i).1, ?_⟩
 exact (Ep (b := 4000000) (by omega) fun i _ => ⟨by have := (Ly hx h1 h8 i).1; omega, (Ly hx h1 h8 i).2⟩).2
theorem J4 {x : List Int} (hx : Ay 1000 x) (h1 : 1 ≤ x.length) (h8 : x.length ≤ 8) : 0 ≤ Dv x ∧ Dv x ≤ 4000000 := by
 have a := MU hx h1 h8 x.length
 refine ⟨Int.ediv_nonneg a.1 (by omega), (TH h1 h8 ⟨by omega, a.2⟩).2⟩
theorem Ps {x : List Int} (hx : Ay 1000 x) (h1 : 1 ≤ x.length) (h8 : x.length ≤ 8) : 1 ≤ Gu (Dv x + 1) := by
 have := J4 hx h1 h8
 exact Ui (by omega) (by omega)
theorem Tj {x g : List Int} (hx : Ay 1000 x) (hg : Ay 127 g) (h1 : 1 ≤ x.length) (h8 : x.length ≤ 8) (i : Nat) : -254000 ≤ (x.getD i default - A4 x) * g.getD i default ∧ (x.getD i default - A4 x) * g.getD i default ≤ 254000 := by
 have := Br (Fk hx h1 h8 i) (Ag (by omega) hg i)
 omega
theorem TN {a b c s : Int} (ha : -127 ≤ a ∧ a ≤ 127) (hb : -127 ≤ b ∧ b ≤ 127) (hc : -128 ≤ c ∧ c ≤ 128) (hs : -128 ≤ s ∧ s ≤ 128) :
  (-16256 ≤ a * c ∧ a * c ≤ 16256) ∧ (-16256 ≤ b * s ∧ b * s ≤ 16256) ∧ (-16256 ≤ a * s ∧ a * s ≤ 16256) ∧ (-16256 ≤ b * c ∧ b * c ≤ 16256) := by
 have h1 := Br ha hc
 have h2 := Br hb hs
 have h3 := Br ha hs
 have h4 := Br hb hc
 omega
theorem SF {q k : List Int} (hq : Ay 127 q) (hk : Ay 127 k) (i : Nat) : -16129 ≤ q.getD i default * k.getD i default ∧ q.getD i default * k.getD i default ≤ 16129 := by
 have := Br (Ag (by omega) hq i) (Ag (by omega) hk i)
 omega
theorem MS {q k : List Int} (hq : Ay 127 q) (hk : Ay 127 k) {n : Nat} (hn : n ≤ 8) : -129032 ≤ Aq (fun i => q.getD i default * k.getD i default) n ∧ Aq (fun i => q.getD i default * k.getD i default) n ≤ 129032 := by
 have := Ep (f := fun i => q.getD i default * k.getD i default) (b := 16129) (by omega) (n := n) (fun i _ => SF hq hk i)
 omega
theorem Ht {q k : List Int} (hq : Ay 127 q) (hk : Ay 127 k) (h8 : q.length ≤ 8) : -8065 ≤ BI q k ∧ BI q k ≤ 8065 := by
 have := MS hq hk h8
 unfold BI ft
 omega
theorem S8 (l : List Int) : ∀ (a : Int), l.foldl max a = a ∨ l.foldl max a ∈ l := by
 induction l with
 | nil => intro a; exact .inl rfl
 | cons y t ih =>
  intro a
  rw [List.foldl_cons]
  rcases ih (max a y) with h | h
  ·rw [h]
   by_cases e : a ≤ y
   ·rw [Int.max_eq_right e]; exact .inr List.mem_cons_self
   ·rw [Int.max_eq_left (by omega)]; exact .inl rfl
  ·exact .inr (List.mem_cons_of_mem _ h)
theorem Pp {l : List Int} (h : 0 < l.length) : HB l ∈ l := by
 unfold HB
 rcases S8 l (l.getD 0 default) with e | e
 ·rw [e]; exact BG h
 ·exact e
theorem P1 {l : List Int} {n : Int} (hl : Ay n l) (h : 0 < l.length) : -n ≤ HB l ∧ HB l ≤ n := hl _ (Pp h)
theorem EC {l : List Int} : (A6 l).length = l.length := by simp [A6]
theorem Hg {l : List Int} {i : Nat} (h : i < l.length) : (A6 l).getD i default = Gk (l.getD i default - HB l) := by
 unfold A6
 rw [List.getD_eq_getElem?_getD, List.getElem?_map, List.getElem?_eq_getElem h, List.getD_eq_getElem?_getD, List.getElem?_eq_getElem h]
 rfl
theorem FJ {l : List Int} {i : Nat} (h : i < l.length) : 0 ≤ (A6 l).getD i default ∧ (A6 l).getD i default ≤ 256 := by rw [Hg h]; exact Yz
theorem Nt {l : List Int} {n : Nat} (h : n ≤ l.length) : 0 ≤ Aq (fun i => (A6 l).getD i default) n ∧ Aq (fun i => (A6 l).getD i default) n ≤ 256 * n := by
 refine ⟨K4 fun i hi => (FJ (by omega)).1, ?_⟩
 exact (Ep (b := 256) (by omega) fun i hi => ⟨by have := (FJ (l := l) (i := i) (by omega)).1; omega, (FJ (by omega)).2⟩).2
theorem Ib {l : List Int} (h : 0 < l.length) : 256 ≤ Aq (fun i => (A6 l).getD i default) l.length := by
 obtain ⟨i, hi, e⟩ := List.getElem_of_mem (Pp h)
 have h1 := OJ (f := fun i => (A6 l).getD i default) (i := i) (n := l.length) (fun j hj => (FJ hj).1) hi
 have h2 : (A6 l).getD i default = 256 := by
  rw [Hg hi, List.getD_eq_getElem?_getD, List.getElem?_eq_getElem hi, Option.getD_some, e, Int.sub_self, UP]
 have h3 : (fun i => (A6 l).getD i default) i = 256 := h2
 omega
theorem J9 {l : List Int} {i : Nat} (h : i < l.length) : (Bp l).getD i default = (A6 l).getD i default * 256 / Aq (fun i => (A6 l).getD i default) l.length := by
 unfold Bp
 rw [List.getD_eq_getElem?_getD, List.getElem?_map, List.getElem?_eq_getElem (by rw [EC]; exact h), List.getD_eq_getElem?_getD, List.getElem?_eq_getElem (by rw [EC]; exact h)]
 rfl
theorem Jf {l : List Int} : ∀ y ∈ Bp l, 0 ≤ y ∧ y ≤ 256 := fun y hy => by
 obtain ⟨i, hi, rfl⟩ := List.getElem_of_mem hy
 rw [BP] at hi
 have e := J9 hi
 rw [List.getD_eq_getElem?_getD, List.getElem?_eq_getElem (by rw [BP]; exact hi), Option.getD_some] at e
 rw [e]
 have h1 := FJ hi
 have h2 := Ib (l := l) (by omega)
 have h3 := OJ (f := fun i => (A6 l).getD i default) (i := i) (n := l.length) (fun j hj => (FJ hj).1) hi
 generalize Aq (fun i => (A6 l).getD i default) l.length = S at *
 generalize (A6 l).getD i default = E at *
 refine ⟨Int.ediv_nonneg (by omega) (by omega), ?_⟩
 refine Int.ediv_le_of_le_mul (by omega) ?_
 omega
theorem Ln {l : List Int} : allI (Bp l) 0 256 = true := by
 rw [allI, List.all_eq_true]
 intro x hx
 have := Jf x hx
 rw [inI, Bool.and_eq_true]
 exact ⟨decide_eq_true this.1, decide_eq_true this.2⟩
theorem SZ {sh v : List Int} (hs : Ay 256 sh) (hv : Ay 127 v) (i k : Nat) : -32512 ≤ sh.getD i default * v.getD k default ∧ sh.getD i default * v.getD k default ≤ 32512 := by
 have := Br (Ag (by omega) hs i) (Ag (by omega) hv k)
 omega
theorem V7 {vs : List (List Int)} {n : Int} (hv : ∀ v ∈ vs, Ay n v) (i : Nat) : Ay n (vs.getD i default) := by
 rw [List.getD_eq_getElem?_getD]
 by_cases hi : i < vs.length
 ·rw [List.getElem?_eq_getElem hi]; exact hv _ (List.getElem_mem hi)
 ·rw [List.getElem?_eq_none (by omega)]; intro x hx; cases hx
theorem Oa {sh : List Int} {vs : List (List Int)} (hs : Ay 256 sh) (hv : ∀ v ∈ vs, Ay 127 v) (k n : Nat) : -(32512 * n) ≤ Aq (fun i => sh.getD i default * (vs.getD i default).getD k default) n ∧ Aq (fun i => sh.getD i default * (vs.getD i default).getD k default) n ≤ 32512 * n :=
 Ep (by omega) fun i _ => SZ hs (V7 hv i) i k
theorem WZ {x : Int} (h : -127 ≤ x ∧ x ≤ 127) : -127 ≤ C6 x ∧ C6 x ≤ 127 := by
 have h1 : Gz x 128 = x := by unfold Gz; split; omega; split <;> omega
 unfold C6
 rw [h1]
 have h2 := Br h (show -255 ≤ 128 + x ∧ 128 + x ≤ 255 by omega)
 constructor
 ·omega
 ·omega
end Go.Bi
end
section
namespace Go.Bi
theorem Cz {m : AR} {w n : Int} (h : BD m w n = true) : C3 m = true ∧ m.width = w ∧ (m.rows.length : Int) = n := by
 unfold BD at h
 simp only [Bool.and_eq_true, decide_eq_true_eq] at h
 exact ⟨h.1, h.2.1, h.2.2.1⟩
theorem HJ {g : List Int} {n : Int} (h : DA g n = true) : (g.length : Int) = n ∧ allI g 0 127 = true ∧ Ay 127 g := by
 unfold DA at h
 simp only [Bool.and_eq_true, decide_eq_true_eq] at h
 exact ⟨h.1, h.2, B3 h.2 (by omega) (by omega)⟩
theorem Lz {l : Aj} {d : Int} (h : Cm l d = true) : DA l.gain1 d = true ∧ DA l.gain2 d = true ∧ (l.up.rows.length = 4 ∨ l.up.rows.length = 8) ∧ BD l.q d d = true ∧ BD l.k d d = true ∧ BD l.v d d = true ∧ BD l.o d d = true ∧ BD l.up d l.up.rows.length = true ∧ BD l.down l.up.rows.length d = true := by
 unfold Cm at h
 simp only [Bool.and_eq_true] at h
 obtain ⟨a1, a2, a3, a4, a5, a6, a7, a8, a9⟩ := h
 have a3 := K7 a3
 exact ⟨a1, a2, by omega, a4, a5, a6, a7, a8, a9⟩
theorem Qn {l : List (List Int)} {c n : Int} (h : Ci l c n = true) : (l.length : Int) = c ∧ ∀ i, i < l.length → ((l.getD i default).length : Int) = n ∧ allI (l.getD i default) (-128) 128 = true := by
 unfold Ci at h
 simp only [Bool.and_eq_true, decide_eq_true_eq, Bool.not_eq_true'] at h
 refine ⟨h.1, fun i hi => ?_⟩
 have h2 := List.any_eq_false.1 h.2 (l.getD i default) (by rw [List.getD_eq_getElem?_getD, List.getElem?_eq_getElem hi]; exact List.getElem_mem hi)
 unfold Dj at h2
 simp only [Bool.not_eq_true', Bool.not_eq_false, Bool.and_eq_true, decide_eq_true_eq] at h2
 exact h2
theorem EZ {t : CD} {c n : Int} (h : Dd t c n = true) : (4 ≤ c ∧ c ≤ 24) ∧ (1 ≤ n ∧ n ≤ 4) ∧ (t.cos.length : Int) = c ∧ (t.sin.length : Int) = c ∧
  ∀ i : Nat, (i : Int) < c → (((t.cos.getD i default).length : Int) = n ∧ allI (t.cos.getD i default) (-128) 128 = true) ∧ ((t.sin.getD i default).length : Int) = n ∧ allI (t.sin.getD i default) (-128) 128 = true := by
 unfold Dd at h
 simp only [Bool.and_eq_true] at h
 obtain ⟨a1, a2, a3, a4⟩ := h
 have b3 := Qn a3
 have b4 := Qn a4
 exact ⟨Bs a1, Bs a2, b3.1, b4.1, fun i hi => ⟨b3.2 i (by omega), b4.2 i (by omega)⟩⟩
theorem Sg {α : Type} [Inhabited α] {l : List α} {p : α → Bool} (h : (l.any fun x => !p x) = false) {i : Nat} (hi : i < l.length) : p (l.getD i default) = true := by
 have h2 := List.any_eq_false.1 h (l.getD i default) (by rw [List.getD_eq_getElem?_getD, List.getElem?_eq_getElem hi]; exact List.getElem_mem hi)
 simpa using h2
structure CA (m : AM) : Prop where
 dim : m.dim = 4 ∨ m.dim = 8
 heads : m.heads = 1 ∨ m.heads = 2
 emb : (m.embed.length : Int) = B2 m
 nl : 1 ≤ m.layers.length ∧ m.layers.length ≤ 2
 row : ∀ i, i < m.embed.length → ((m.embed.getD i default).length : Int) = m.dim ∧ Ay 127 (m.embed.getD i default)
 lay : ∀ i, i < m.layers.length → Cm (m.layers.getD i default) m.dim = true
 gain : DA m.gainEnd m.dim = true
 head : BD m.head m.dim (B2 m) = true
 turns : Dd m.turns m.context (Int.tdiv (Int.tdiv m.dim m.heads) 2) = true
 mer : CY m.merges = true
theorem Th {m : AM} (h : A9 m = true) : CA m := by
 unfold A9 at h
 simp only [Bool.and_eq_true, decide_eq_true_eq, Bool.not_eq_true'] at h
 obtain ⟨a1, a2, a3, a4, a5, a6, a7, a8, a9, b1⟩ := h
 have a2 := Bs a2
 have a5 := Bs a5
 refine ⟨K7 a1, by omega, a4, by omega, fun i hi => ?_, fun i hi => Sg (p := fun l => Cm l m.dim) a7 hi, a8, a9, b1, a3⟩
 have := Sg (p := fun r => E9 m.dim r) a6 hi
 unfold E9 at this
 simp only [Bool.and_eq_true, decide_eq_true_eq] at this
 exact ⟨this.1, B3 this.2 (by omega) (by omega)⟩
theorem FV {m : AM} (h : CA m) : (AW m = 2 ∨ AW m = 4 ∨ AW m = 8) ∧ m.heads.toNat * AW m = m.dim.toNat ∧ Int.tdiv m.dim m.heads = (AW m : Int) ∧ Int.tdiv (Int.tdiv m.dim m.heads) 2 = ((AW m / 2 : Nat) : Int) ∧ m.heads.toNat * AW m ≤ 8 ∧ 1 ≤ m.heads.toNat ∧ m.heads.toNat ≤ 2 := by
 unfold AW
 rcases h.dim with e | e <;> rcases h.heads with e2 | e2 <;> rw [e, e2] <;> decide
def A5 (m : AM) (b : Int) (x : List Int) : Prop := x.length = m.dim.toNat ∧ Ay b x
theorem A5.mono {m : AM} {b c : Int} {x : List Int} (h : A5 m b x) (hc : b ≤ c) : A5 m c x := ⟨h.1, Bz h.2 hc⟩
theorem A5.len {m : AM} {b : Int} {x : List Int} (h : A5 m b x) (ht : CA m) : (x.length = 4 ∨ x.length = 8) ∧ (x.length : Int) = m.dim := by
 have := h.1
 rcases ht.dim with e | e <;> rw [e] at this ⊢ <;> omega
theorem A5.norm {m : AM} {b : Int} {x g : List Int} (h : A5 m b x) : A5 m 127 (Ah x g) := ⟨by rw [GA]; exact h.1, Nx⟩
theorem A5.app {m : AM} {a : AR} {w : Int} {x : List Int} (h : BD a w m.dim = true) (ht : CA m) : A5 m 127 (Ad a x) := by
 refine ⟨?_, IK⟩
 rw [E5]
 have := (Cz h).2.2
 omega
theorem A5.turn {m : AM} {b : Int} {p : Nat} {x : List Int} (h : A5 m b x) : A5 m 127 (DW m p x) := ⟨by unfold DW; rw [Et]; exact h.1, Sp⟩
theorem GV {m : AM} {b : Int} {x : List Int} {h : Nat} (hx : A5 m b x) (ht : CA m) (hh : h < m.heads.toNat) : (A2 x (AW m) h).length = AW m ∧ Ay b (A2 x (AW m) h) := by
 refine ⟨?_, fun y hy => hx.2 y (List.mem_of_mem_drop (List.mem_of_mem_take hy))⟩
 unfold A2
 rw [List.length_take, List.length_drop, hx.1]
 obtain ⟨h1, h2, _, _, h3, h4, h5⟩ := FV ht
 rw [← h2]
 have : h = 0 ∨ h = 1 := by omega
 rcases this with rfl | rfl
 ·have : AW m ≤ m.heads.toNat * AW m := Nat.le_mul_of_pos_left _ h4
  omega
 ·have : m.heads.toNat = 2 := by omega
  rw [this]; omega
theorem V3 {m : AM} {x : List Int} (ht : CA m) (h : x.length = AW m) : Pe (Int.tdiv m.dim m.heads) (EO x) = true := by
 obtain ⟨h1, _, h3, _⟩ := FV ht
 unfold Pe
 rw [Bool.and_eq_true]
 refine ⟨aj (by omega) (by omega), decide_eq_true ?_⟩
 rw [h3]
 have : (EO x).values.length = x.length := by simp [EO, FE]
 omega
theorem Nh {m : AM} {f : Nat → List Int} (ht : CA m) (h : ∀ i, i < m.heads.toNat → (f i).length = AW m) : FU ((List.range m.heads.toNat).map fun i => EO (f i)) m.heads (Int.tdiv m.dim m.heads) = true := by
 unfold FU
 rw [Bool.and_eq_true, Bool.not_eq_true', List.any_eq_false]
 refine ⟨decide_eq_true ?_, fun p hp => ?_⟩
 ·rw [List.length_map, List.length_range]
  rcases ht.heads with e | e <;> rw [e] <;> rfl
 ·obtain ⟨i, hi, rfl⟩ := List.mem_map.1 hp
  rw [V3 ht (h i (List.mem_range.1 hi))]
  simp
theorem PQ {m : AM} {l : Aj} {p : Nat} {x : List Int} {b : Int} (ht : CA m) (hl : Cm l m.dim = true) (hx : A5 m b x) : FU (Df m l p x) m.heads (Int.tdiv m.dim m.heads) = true :=
 Nh ht fun i hi => (GV (A5.turn (p := p) (A5.app (Lz hl).2.2.2.2.1 ht)) ht hi).1
theorem PV {m : AM} {l : Aj} {x : List Int} {b : Int} (ht : CA m) (hl : Cm l m.dim = true) (hx : A5 m b x) : FU (DY m l x) m.heads (Int.tdiv m.dim m.heads) = true :=
 Nh ht fun i hi => (GV (A5.app (Lz hl).2.2.2.2.2.1 ht) ht hi).1
theorem TV {m : AM} {l : List At} (ht : CA m) (h : FU l m.heads (Int.tdiv m.dim m.heads) = true) : l.length = m.heads.toNat ∧ ∀ i, i < l.length → G4 (l.getD i default) = true ∧ (l.getD i default).values.length = AW m := by
 unfold FU at h
 rw [Bool.and_eq_true, Bool.not_eq_true', decide_eq_true_eq] at h
 refine ⟨by omega, fun i hi => ?_⟩
 have := Sg (p := fun p => Pe (Int.tdiv m.dim m.heads) p) h.2 hi
 unfold Pe at this
 rw [Bool.and_eq_true, decide_eq_true_eq, (FV ht).2.2.1] at this
 exact ⟨this.1, by omega⟩
def B7 (m : AM) (l : List (List At)) : Prop := ∀ i, i < l.length → FU (l.getD i default) m.heads (Int.tdiv m.dim m.heads) = true
theorem Fe {m : AM} {l : List (List At)} {h : Nat} (ht : CA m) (hl : B7 m l) (hh : h < m.heads.toNat) : (Aa l h).length = l.length ∧ (∀ v ∈ Aa l h, Ay 127 v) ∧ ∀ v ∈ Aa l h, v.length = AW m := by
 unfold Aa
 refine ⟨by simp, fun v hv => ?_, fun v hv => ?_⟩
 ·obtain ⟨p, _, rfl⟩ := List.mem_map.1 hv; exact UG
 ·obtain ⟨p, hp, rfl⟩ := List.mem_map.1 hv
  obtain ⟨i, hi, rfl⟩ := List.getElem_of_mem hp
  have h1 := hl i hi
  rw [List.getD_eq_getElem?_getD, List.getElem?_eq_getElem hi, Option.getD_some] at h1
  have h2 := TV ht h1
  rw [Jr]
  exact (h2.2 h (by omega)).2
theorem Ew {q : List Int} {ks vs : List (List Int)} : (Hl q ks vs).length = q.length := HA
theorem J0 {α : Type} {f : Nat → List α} {s : Nat} : ∀ {n : Nat}, (∀ i, i < n → (f i).length = s) → ((List.range n).flatMap f).length = n * s
 | 0, _ => by simp
 | n + 1, h => by
  rw [List.range_succ, List.flatMap_append, List.length_append, J0 fun i hi => h i (by omega), List.flatMap_cons, List.flatMap_nil, List.append_nil, h n (by omega), Nat.succ_mul]
theorem Xc {m : AM} {b : Int} {q : List Int} {ks vs : List (List At)} (ht : CA m) (hq : A5 m b q) : A5 m 127 (JI m q ks vs) := by
 unfold JI
 refine ⟨?_, fun y hy => ?_⟩
 ·rw [J0 (s := AW m) fun i hi => by rw [Ew]; exact (GV hq ht hi).1]
  exact (FV ht).2.1
 ·obtain ⟨i, _, h⟩ := List.mem_flatMap.1 hy
  exact We y h
theorem WY {m : AM} {l : Aj} {p : Nat} {b : Int} {x : List Int} {ks vs : List (List At)} (hx : A5 m b x) : A5 m 500 (Kf m l p x ks vs) := ⟨by unfold Kf; rw [Hb]; exact hx.1, LX⟩
theorem aY {m : AM} {l : Aj} {p : Nat} {b : Int} {x : List Int} {ks vs : List (List At)} (hx : A5 m b x) : A5 m 500 (Mh m l p x ks vs) := ⟨by unfold Mh; rw [Hb]; exact (WY hx).1, LX⟩
theorem Jm {m : AM} {past : List BS} {t : Nat} (ht : CA m) (h : t < m.embed.length) : ∀ {n : Nat}, n ≤ m.layers.length → A5 m 500 (BU m past t n).1
 | 0, _ => by
  have := ht.row t h
  refine ⟨?_, Bz this.2 (by omega)⟩
  show (m.embed.getD t default).length = _
  rcases ht.dim with e | e <;> rw [e] at this ⊢ <;> omega
 | n + 1, hn => aY (Jm ht h (n := n) (by omega))
theorem Hw {m : AM} {past : List BS} {t : Nat} (ht : CA m) (h : t < m.embed.length) : ∀ {n : Nat}, n ≤ m.layers.length → (BU m past t n).2.keys.length = n ∧ (BU m past t n).2.values.length = n ∧ B7 m (BU m past t n).2.keys ∧ B7 m (BU m past t n).2.values
 | 0, _ => ⟨rfl, rfl, fun i hi => absurd hi (Nat.not_lt_zero _), fun i hi => absurd hi (Nat.not_lt_zero _)⟩
 | n + 1, hn => by
  obtain ⟨a1, a2, a3, a4⟩ := Hw (past := past) ht h (n := n) (by omega)
  have hv := Jm (past := past) ht h (n := n) (by omega)
  have hl := ht.lay n (by omega)
  have app {l : List (List At)} {k : List At} (hl : B7 m l) (hk : FU k m.heads (Int.tdiv m.dim m.heads) = true) : B7 m (l ++ [k]) := fun i hi => by
   rw [List.getD_eq_getElem?_getD]
   by_cases e : i < l.length
   ·rw [List.getElem?_append_left e, ← List.getD_eq_getElem?_getD]; exact hl i e
   ·have : i = l.length := by simp at hi; omega
    subst this
    simp [hk]
  refine ⟨by simp [BU, a1], by simp [BU, a2], ?_, ?_⟩
  ·exact app a3 (PQ ht hl hv)
  ·exact app a4 (PV ht hl hv)
def MM (m : AM) (c : BS) : Prop := c.keys.length = m.layers.length ∧ c.values.length = m.layers.length ∧ B7 m c.keys ∧ B7 m c.values
theorem bI {m : AM} {past : List BS} {t : Nat} (ht : CA m) (h : t < m.embed.length) : MM m (Bb m past t) := Hw ht h (Nat.le_refl _)
theorem It {m : AM} {ts : List Int} (ht : CA m) : ∀ {n : Nat}, n ≤ ts.length → (∀ i, i < ts.length → (ts.getD i default).toNat < m.embed.length) → ∀ c ∈ AS m ts n, MM m c
 | 0, _, _ => fun c hc => by cases hc
 | n + 1, hn, h => fun c hc => by
  rw [AS, List.mem_append] at hc
  rcases hc with hc | hc
  ·exact It ht (by omega) h c hc
  ·rw [List.mem_singleton] at hc; subst hc; exact bI ht (h n (by omega))
theorem NP {m : AM} {past : List BS} {n : Nat} {k : List At} (ht : CA m) (hp : ∀ c ∈ past, MM m c) (hn : n < m.layers.length) (hk : FU k m.heads (Int.tdiv m.dim m.heads) = true) : B7 m (past.map (fun c => c.keys.getD n default) ++ [k]) := fun i hi => by
 rw [List.getD_eq_getElem?_getD]
 by_cases e : i < past.length
 ·rw [List.getElem?_append_left (by simpa using e), List.getElem?_map, List.getElem?_eq_getElem e]
  have := hp _ (List.getElem_mem e)
  exact this.2.2.1 n (by rw [this.1]; exact hn)
 ·have : i = past.length := by simp at hi; omega
  subst this
  simp [hk]
theorem NU {m : AM} {past : List BS} {n : Nat} {k : List At} (ht : CA m) (hp : ∀ c ∈ past, MM m c) (hn : n < m.layers.length) (hk : FU k m.heads (Int.tdiv m.dim m.heads) = true) : B7 m (past.map (fun c => c.values.getD n default) ++ [k]) := fun i hi => by
 rw [List.getD_eq_getElem?_getD]
 by_cases e : i < past.length
 ·rw [List.getElem?_append_left (by simpa using e), List.getElem?_map, List.getElem?_eq_getElem e]
  have := hp _ (List.getElem_mem e)
  exact this.2.2.2 n (by rw [this.2.1]; exact hn)
 ·have : i = past.length := by simp at hi; omega
  subst this
  simp [hk]
end Go.Bi
end
section
set_option maxRecDepth 20000
namespace Go.Bi
open Go.Proofs
open Go.Ai (wrap_i64 wrap_u64 wrap_u8 Heap)
variable {W0 : World} {P : Program}
set_option maxHeartbeats 4000000
theorem K3 {a b : Int} (hb : 0 < b) : (if a.tmod b < 0 then a.tdiv b - 1 else a.tdiv b) = a / b := by
 have h1 := Int.tmod_add_mul_tdiv a b
 have h2 := Int.tmod_lt_of_pos a hb
 have h3 := Int.lt_tmod_of_pos a hb
 split
 ·refine ((Int.ediv_emod_unique (r := a.tmod b + b) hb).2 ⟨?_, by omega, by omega⟩).1.symm
  rw [Int.mul_sub]; omega
 ·exact ((Int.ediv_emod_unique (r := a.tmod b) hb).2 ⟨h1, by omega, by omega⟩).1.symm
theorem JY {a b : Int} {n : Int} (h : -n ≤ a ∧ a ≤ n) : -n ≤ a.tdiv b ∧ a.tdiv b ≤ n := by
 have h1 : (a.tdiv b).natAbs ≤ a.natAbs := by rw [Int.natAbs_tdiv]; exact Nat.div_le_self _ _
 omega
theorem AX {x : Int} (h : -4611686018427387904 ≤ x ∧ x ≤ 4611686018427387904) : IntKind.i64.wrap x = x := by rw [wrap_i64] <;> omega
theorem Cs {a b : Int} {g : H2} (hb : 0 < b) (ha : -1000000000000 ≤ a ∧ a ≤ 1000000000000) : A7 Tryz.prog W0 188 [.raw (.int .i64 a), .raw (.int .i64 b)] g (fun v g' => v = .raw (.int .i64 (a / b)) ∧ g' = g) := by
 refine AH [[0, 1], [0, 1], [], [0, 1], [0, 1, 5], [5], [5]] Tryz.func188 rfl (rs := [.tmp 4]) rfl rfl ?_
 intro wf
 have h1 : ¬ b ≤ 0 := by omega
 have h2 : inI a (-1000000000000) 1000000000000 = true := by rw [inI, Bool.and_eq_true]; exact ⟨decide_eq_true ha.1, decide_eq_true ha.2⟩
 have hb2 : (b == 0) = false := Cw
 have w := AX (x := a.tdiv b) (by have := JY (b := b) ha; omega)
 have w2 := AX (x := a.tdiv b - 1) (by have := JY (b := b) ha; omega)
 refine A1 h1 ?_
 refine AA BQ ?_
 rintro _ g ⟨rfl, rfl⟩
 rw [h2]
 refine C5 hb2 w ?_
 refine AN (fun h3 => ?_) (fun h3 => ?_)
 ·refine A1 w2 ?_
  exact ⟨by rw [← K3 hb, if_pos h3], rfl⟩
 ·refine zr ?_
  exact ⟨by rw [← K3 hb, if_neg h3], rfl⟩
theorem DU {a b : Int} {g : H2} (hb : 0 < b) (ha : -1000000000000 ≤ a ∧ a ≤ 1000000000000) : A7 Tryz.prog W0 165 [.raw (.int .i64 a), .raw (.int .i64 b)] g (fun v g' => v = .raw (.int .i64 (a / b)) ∧ g' = g) := by
 refine AH [[0, 1], [0, 1], [0, 1, 5], [5], [5]] Tryz.func165 rfl (rs := [.tmp 4]) rfl rfl ?_
 intro wf
 have hb2 : (b == 0) = false := Cw
 have w := AX (x := a.tdiv b) (by have := JY (b := b) ha; omega)
 have w2 := AX (x := a.tdiv b - 1) (by have := JY (b := b) ha; omega)
 refine C5 hb2 w ?_
 refine AN (fun h3 => ?_) (fun h3 => ?_)
 ·refine A1 w2 ?_
  exact ⟨by rw [← K3 hb, if_pos h3], rfl⟩
 ·refine zr ?_
  exact ⟨by rw [← K3 hb, if_neg h3], rfl⟩
theorem Rf {a b : Int} : Go.Ai.mxI a b = max a b := by unfold Go.Ai.mxI; split <;> omega
theorem Se {a b : Int} : Go.Ai.mnI a b = min a b := by unfold Go.Ai.mnI; split <;> omega
theorem Y9 {x m : Int} (h : 0 ≤ m) : max (-m) (min x m) = Gz x m := by
 unfold Gz
 split
 ·omega
 ·split <;> omega
theorem Ct {x m : Int} {g : H2} (h : 0 ≤ m) (hm : m ≤ 1000000) : A7 Tryz.prog W0 190 [.raw (.int .i64 x), .raw (.int .i64 m)] g (fun v g' => v = .raw (.int .i64 (Gz x m)) ∧ g' = g) := by
 refine AH [[0, 1], [0, 1], [], [0, 1]] Tryz.func190 rfl (rs := [.tmp 4]) rfl rfl ?_
 intro wf
 have h0 : ¬ m < 0 := by omega
 have w : IntKind.i64.wrap (0 - m) = -m := by rw [AX (by omega)]; omega
 repeat (first | rw [ko] | rw [kr] | simp -dsimp -implicitDefEqProofs only [go_sem, sQ1, h0, w])
 exact ⟨by rw [← Y9 h, Rf, Se], rfl⟩
theorem CS {x m : Int} {g : H2} (h : 0 ≤ m) (hm : m ≤ 1000000) : A7 Tryz.prog W0 167 [.raw (.int .i64 x), .raw (.int .i64 m)] g (fun v g' => v = .raw (.int .i64 (Gz x m)) ∧ g' = g) := by
 refine AH [[0, 1], [0, 1], [1], [0, 1], [1], [0]] Tryz.func167 rfl (rs := [.tmp 4]) rfl rfl ?_
 intro wf
 have w : IntKind.i64.wrap (0 - m) = -m := by rw [AX (by omega)]; omega
 refine zr ?_
 refine AN (fun h1 => ?_) (fun h1 => ?_)
 ·refine zr ?_
  exact ⟨by rw [Gz, if_pos h1], rfl⟩
 refine A1 w ?_
 refine AN (fun h2 => ?_) (fun h2 => ?_)
 ·refine A1 w ?_
  exact ⟨by rw [Gz, if_neg h1, if_pos h2], rfl⟩
 ·refine zr ?_
  exact ⟨by rw [Gz, if_neg h1, if_neg h2], rfl⟩
theorem Iq (m : Nat) (hm : m ≤ 60) : 0 < (2 : Int) ^ m ∧ (2 : Int) ^ m ≤ 1152921504606846976 := by
 have e : (2 : Int) ^ m = ((2 ^ m : Nat) : Int) := by norm_cast
 have h1 : 0 < 2 ^ m := Nat.pow_pos (by decide)
 have h2 : 2 ^ m ≤ 2 ^ 60 := Nat.pow_le_pow_right (by decide) hm
 rw [e]
 have h3 : 2 ^ 60 = 1152921504606846976 := by decide
 omega
theorem KD {m : Nat} (hm : m ≤ 24) : 0 < (2 : Int) ^ m ∧ (2 : Int) ^ m ≤ 16777216 := by
 have e : (2 : Int) ^ m = ((2 ^ m : Nat) : Int) := by norm_cast
 have h1 : 0 < 2 ^ m := Nat.pow_pos (by decide)
 have h2 : 2 ^ m ≤ 2 ^ 24 := Nat.pow_le_pow_right (by decide) hm
 rw [e]
 have h3 : 2 ^ 24 = 16777216 := by decide
 omega
theorem OI {n : Nat} {g : H2} (hn0 : n ≤ 60) : A7 Tryz.prog W0 234 [.raw (.int .i64 n)] g (fun v g' => v = .raw (.int .i64 (2 ^ n)) ∧ g' = g) := by
 refine AH [[0], [0], [0, 3], [0, 3, 4], [0, 3, 4], [0, 3, 4], [3]] Tryz.func234 rfl (rs := [.tmp 2]) rfl rfl ?_
 intro wf
 refine zr ?_
 refine AJ [0] (fun m e h' => ∃ (i : Nat), h' = g ∧ look e 4 .mk = .raw (.int .i64 (i : Nat)) ∧ look e 3 .mk = .raw (.int .i64 (2 ^ i)) ∧ m + i = n) n ?_ ?_
 ·exact ⟨0, rfl, AL, by simp -dsimp -implicitDefEqProofs only [go_sem] <;> rfl, by omega⟩
 rintro m e h' hks ⟨i, rfl, e4, e3, hm⟩
 simp -dsimp -implicitDefEqProofs only [go_sem] at hks
 by_cases q1 : (i : Int) < (n : Int)
 ·have w1 := BE i (by omega)
  have hb := Iq (i + 1) (by omega)
  have hp : (2 : Int) * 2 ^ i = 2 ^ (i + 1) := by rw [Int.pow_succ]; omega
  have w2 := AX (x := 2 ^ (i + 1)) (by omega)
  refine Tk hks e4 e3 q1 w1 hp w2 ?_
  exact AI (m - 1) (by omega) AL ⟨i + 1, rfl, AL, AL, by omega⟩
 ·refine Cu hks e4 e3 q1 ?_
  have : i = n := by omega
  subst this
  exact ⟨rfl, rfl⟩
theorem QZ {x mul : Int} {sh : Nat} (hx : -10000000 ≤ x ∧ x ≤ 10000000) (hm : 0 ≤ mul ∧ mul ≤ 65536) (hs : sh ≤ 24) : (-655360000000 ≤ x * mul ∧ x * mul ≤ 655360000000) ∧ (0 ≤ (2 : Int) ^ sh / 2 ∧ (2 : Int) ^ sh / 2 ≤ 8388608) := by
 have h1 := Br hx (show -65536 ≤ mul ∧ mul ≤ 65536 by omega)
 have h2 := KD hs
 omega
theorem A8 {x a b : Int} (h1 : a ≤ x) (h2 : x ≤ b) : inI x a b = true := by rw [inI, Bool.and_eq_true]; exact ⟨decide_eq_true h1, decide_eq_true h2⟩
theorem ay {sh : Nat} (hs : sh ≤ 24) : Go.Ai.shlI .i64 1 (sh : Int) = 2 ^ sh := by
 have hp := KD hs
 unfold Go.Ai.shlI
 have : min ((sh : Int)).toNat IntKind.i64.bits = sh := by simp only [IntKind.bits]; omega
 rw [this, Int.one_mul, AX (by omega)]
theorem Tp {x mul : Int} {sh : Nat} {g : H2} (hx : -10000000 ≤ x ∧ x ≤ 10000000) (hm : 0 ≤ mul ∧ mul ≤ 65536) (hs : sh ≤ 24) : A7 Tryz.prog W0 239 [.raw (.int .i64 x), .raw (.int .i64 mul), .raw (.int .i64 sh)] g (fun v g' => v = .raw (.int .i64 (Gq x mul sh)) ∧ g' = g) := by
 refine AH [[0, 1, 2], [0, 1, 2], [], [0, 1, 2], [0, 1, 7]] Tryz.func239 rfl (rs := [.tmp 6]) rfl rfl ?_
 intro wf
 refine zr ?_
 refine AA BQ ?_
 rintro _ g ⟨rfl, rfl⟩
 rw [A8 hx.1 hx.2]
 refine zr ?_
 refine AA BQ ?_
 rintro _ g ⟨rfl, rfl⟩
 rw [A8 hm.1 hm.2]
 refine zr ?_
 refine AA BQ ?_
 rintro _ g ⟨rfl, rfl⟩
 rw [A8 (by omega) (by omega)]
 have b := QZ hx hm hs
 have hp := KD hs
 have w1 := AX (x := x * mul) (by omega)
 have e1 : Int.tdiv ((2 : Int) ^ sh) 2 = 2 ^ sh / 2 := Int.tdiv_eq_ediv_of_nonneg (by omega)
 have w2 := AX (x := (2 : Int) ^ sh / 2) (by omega)
 have w3 := AX (x := x * mul + (2 : Int) ^ sh / 2) (by omega)
 have w4 := AX (x := (2 : Int) ^ sh) (by omega)
 have hsh : (0 : Int) ≤ (sh : Int) := by omega
 have e0 := ay hs
 have e2 : ((2 : Int) ^ sh == 0) = false := Cw
 refine PY hsh e0 w1 e1 w2 w3 ?_
 refine AA (Cs hp.1 (by omega)) ?_
 rintro _ g ⟨rfl, rfl⟩
 refine zr ?_
 exact ⟨rfl, rfl⟩
theorem K5 {x mul : Int} {sh : Nat} {g : H2} (hx : -10000000 ≤ x ∧ x ≤ 10000000) (hm : 0 ≤ mul ∧ mul ≤ 65536) (hs : sh ≤ 24) : A7 Tryz.prog W0 204 [.raw (.int .i64 x), .raw (.int .i64 mul), .raw (.int .i64 sh)] g (fun v g' => v = .raw (.int .i64 (Gq x mul sh)) ∧ g' = g) := by
 refine AH [[0, 1, 2], [0, 1, 2], [], [0, 1, 2]] Tryz.func204 rfl (rs := [.tmp 6]) rfl rfl ?_
 intro wf
 refine zr ?_
 refine AA Ab ?_
 rintro _ g ⟨rfl, rfl⟩
 rw [A8 hx.1 hx.2]
 refine zr ?_
 refine AA Ab ?_
 rintro _ g ⟨rfl, rfl⟩
 rw [A8 hm.1 hm.2]
 refine zr ?_
 refine AA Ab ?_
 rintro _ g ⟨rfl, rfl⟩
 rw [A8 (by omega) (by omega)]
 have b := QZ hx hm hs
 have hp := KD hs
 have w1 := AX (x := x * mul) (by omega)
 have e1 : Int.tdiv ((2 : Int) ^ sh) 2 = 2 ^ sh / 2 := Int.tdiv_eq_ediv_of_nonneg (by omega)
 have w2 := AX (x := (2 : Int) ^ sh / 2) (by omega)
 have w3 := AX (x := x * mul + (2 : Int) ^ sh / 2) (by omega)
 refine A1 w1 ?_
 refine AA (OI (by omega)) ?_
 rintro _ g ⟨rfl, rfl⟩
 refine DH e1 w2 w3 ?_
 refine AA (OI (by omega)) ?_
 rintro _ g ⟨rfl, rfl⟩
 refine zr ?_
 refine AA (DU hp.1 (by omega)) ?_
 rintro _ g ⟨rfl, rfl⟩
 refine zr ?_
 exact ⟨rfl, rfl⟩
theorem br {lo hi : Int} (h0 : 0 ≤ lo) (h1 : lo < hi) (h2 : hi ≤ 1000001) : IntKind.i64.wrap (lo + hi) = lo + hi ∧ Int.tdiv (lo + hi) 2 = (lo + hi) / 2 ∧ IntKind.i64.wrap ((lo + hi) / 2) = (lo + hi) / 2 ∧ IntKind.i64.wrap ((lo + hi) / 2 * ((lo + hi) / 2)) = (lo + hi) / 2 * ((lo + hi) / 2) := by
 refine ⟨AX (by omega), Int.tdiv_eq_ediv_of_nonneg (by omega), AX (by omega), AX ?_⟩
 have := Br (x := (lo + hi) / 2) (y := (lo + hi) / 2) (a := 1000001) (b := 1000001) (by omega) (by omega)
 omega
theorem Wc {n : Int} {g : H2} (h0 : 0 ≤ n) (h1 : n ≤ 1000000000000) : A7 Tryz.prog W0 189 [.raw (.int .i64 n)] g (fun v g' => v = .raw (.int .i64 (Gu n)) ∧ g' = g) := by
 refine AH [[0], [0], [], [0], [0, 3, 4], [0, 3, 4], [0, 3, 4, 5], [0, 4, 5], [0, 3, 5], [3]] Tryz.func189 rfl (rs := [.tmp 2]) rfl rfl ?_
 intro wf
 refine zr ?_
 refine AA BQ ?_
 rintro _ g ⟨rfl, rfl⟩
 rw [A8 h0 h1]
 refine zr ?_
 refine AJ [0] (fun m e h' => ∃ (lo hi : Int), h' = g ∧ look e 3 .mk = .raw (.int .i64 lo) ∧ look e 4 .mk = .raw (.int .i64 hi) ∧ (m : Int) = hi - lo ∧ 0 ≤ lo ∧ lo < hi ∧ hi ≤ 1000001 ∧ lo * lo ≤ n ∧ n < hi * hi) 1000001 ?_ ?_
 ·exact ⟨0, 1000001, rfl, AL, AL, by omega, by omega, by omega, by omega, by omega, by omega⟩
 rintro m e h' hks ⟨lo, hi, rfl, e3, e4, hm, l0, l1, l2, l3, l4⟩
 simp -dsimp -implicitDefEqProofs only [go_sem] at hks
 have w0 := AX (x := hi - lo) (by omega)
 by_cases q1 : hi - lo > 1
 ·obtain ⟨m1, m2, m3, m4⟩ := br l0 l1 l2
  by_cases q2 : (lo + hi) / 2 * ((lo + hi) / 2) ≤ n
  ·repeat (first | rw [ko] | rw [kr] | simp -dsimp -implicitDefEqProofs only [go_sem, sQ1, sQ7, hks, e3, e4, w0, q1, m1, m2, m3, m4, q2])
   exact AI (hi - (lo + hi) / 2).toNat (by omega) AL ⟨(lo + hi) / 2, hi, rfl, AL, AL, by omega, by omega, by omega, by omega, q2, l4⟩
  ·repeat (first | rw [ko] | rw [kr] | simp -dsimp -implicitDefEqProofs only [go_sem, sQ1, sQ7, hks, e3, e4, w0, q1, m1, m2, m3, m4, q2])
   exact AI ((lo + hi) / 2 - lo).toNat (by omega) AL ⟨lo, (lo + hi) / 2, rfl, AL, AL, by omega, by omega, by omega, by omega, l3, by omega⟩
 ·refine FD hks e3 e4 w0 q1 ?_
  have : hi = lo + 1 := by omega
  subst this
  exact ⟨by rw [Pf h0 h1 l0 l3 l4], rfl⟩
theorem YY {n : Int} {g : H2} (h0 : 0 ≤ n) (h1 : n ≤ 1000000000000) : A7 Tryz.prog W0 166 [.raw (.int .i64 n)] g (fun v g' => v = .raw (.int .i64 (Gu n)) ∧ g' = g) := by
 refine AH [[0], [0], [], [0], [0, 3], [0, 3, 4], [0, 3, 4], [0, 3, 4, 5], [0, 4, 5], [0, 3, 5], [3]] Tryz.func166 rfl (rs := [.tmp 2]) rfl rfl ?_
 intro wf
 refine zr ?_
 refine AA Ab ?_
 rintro _ g ⟨rfl, rfl⟩
 rw [A8 h0 h1]
 refine zr ?_
 refine AJ [0] (fun m e h' => ∃ (lo hi : Int), h' = g ∧ look e 3 .mk = .raw (.int .i64 lo) ∧ look e 4 .mk = .raw (.int .i64 hi) ∧ (m : Int) = hi - lo ∧ 0 ≤ lo ∧ lo < hi ∧ hi ≤ 1000001 ∧ lo * lo ≤ n ∧ n < hi * hi) 1000001 ?_ ?_
 ·exact ⟨0, 1000001, rfl, AL, AL, by omega, by omega, by omega, by omega, by omega, by omega⟩
 rintro m e h' hks ⟨lo, hi, rfl, e3, e4, hm, l0, l1, l2, l3, l4⟩
 simp -dsimp -implicitDefEqProofs only [go_sem] at hks
 have w0 := AX (x := hi - lo) (by omega)
 by_cases q1 : hi - lo > 1
 ·obtain ⟨m1, m2, m3, m4⟩ := br l0 l1 l2
  by_cases q2 : (lo + hi) / 2 * ((lo + hi) / 2) ≤ n
  ·repeat (first | rw [ko] | rw [kr] | simp -dsimp -implicitDefEqProofs only [go_sem, sQ1, sQ7, hks, e3, e4, w0, q1, m1, m2, m3, m4, q2])
   exact AI (hi - (lo + hi) / 2).toNat (by omega) AL ⟨(lo + hi) / 2, hi, rfl, AL, AL, by omega, by omega, by omega, by omega, q2, l4⟩
  ·repeat (first | rw [ko] | rw [kr] | simp -dsimp -implicitDefEqProofs only [go_sem, sQ1, sQ7, hks, e3, e4, w0, q1, m1, m2, m3, m4, q2])
   exact AI ((lo + hi) / 2 - lo).toNat (by omega) AL ⟨lo, (lo + hi) / 2, rfl, AL, AL, by omega, by omega, by omega, by omega, l3, by omega⟩
 ·refine FD hks e3 e4 w0 q1 ?_
  have : hi = lo + 1 := by omega
  subst this
  exact ⟨by rw [Pf h0 h1 l0 l3 l4], rfl⟩
end Go.Bi
end
section
set_option maxRecDepth 20000
namespace Go.Bi
open Go.Proofs
open Go.Ai (wrap_i64 wrap_u64 wrap_u8 Heap)
variable {W0 : World} {P : Program}
set_option maxHeartbeats 4000000
theorem HP {r : Int} (hr : 0 ≤ r ∧ r ≤ 176) : IntKind.i64.wrap (IntKind.i64.wrap (256 - r) + IntKind.i64.wrap ((IntKind.i64.wrap (r * r)).tdiv 512)) = 256 - r + r * r / 512 ∧ 0 ≤ 256 - r + r * r / 512 ∧ 256 - r + r * r / 512 ≤ 400 := by
 have h1 : 0 ≤ r * r := Int.mul_nonneg hr.1 hr.1
 have h2 : r * r ≤ 176 * 176 := Int.mul_le_mul hr.2 hr.2 hr.1 (by decide)
 rw [wrap_i64 (x := r * r) (by omega) (by omega), Int.tdiv_eq_ediv_of_nonneg h1, wrap_i64 (x := 256 - r) (by omega) (by omega)]
 generalize r * r = q at *
 rw [wrap_i64 (x := q / 512) (by omega) (by omega), wrap_i64 (by omega) (by omega)]
 omega
theorem N4 {x k : Int} (hk : 0 ≤ k ∧ k ≤ 60) : Go.Ai.shrI .i64 x k = x / 2 ^ k.toNat := by
 unfold Go.Ai.shrI
 have : min k.toNat IntKind.i64.bits = k.toNat := by simp only [IntKind.bits]; omega
 rw [this, Int.fdiv_eq_ediv_of_nonneg _ (by have := Iq k.toNat (by omega); omega)]
theorem aZ {x : Int} {g : H2} : A7 Tryz.prog W0 199 [.raw (.int .i64 x)] g (fun v g' => v = .raw (.int .i64 (Gk x)) ∧ g' = g) := by
 refine AH [[0], [0], [], [0], [], [0], [3, 4]] Tryz.func199 rfl (rs := [.tmp 2]) rfl rfl ?_
 intro wf
 refine zr ?_
 refine AN (fun h1 => ?_) (fun h1 => ?_)
 ·refine zr ?_
  exact ⟨by rw [Gk, if_pos h1], rfl⟩
 ·refine zr ?_
  refine AN (fun h2 => ?_) (fun h2 => ?_)
  ·refine zr ?_
   exact ⟨by rw [Gk, if_neg h1, if_pos h2], rfl⟩
  ·have hneg : IntKind.i64.wrap (0 - x) = -x := by rw [wrap_i64] <;> omega
   have hq : (-x).tdiv 177 = (-x) / 177 := Int.tdiv_eq_ediv_of_nonneg (by omega)
   have hr : (-x).tmod 177 = (-x) % 177 := Int.tmod_eq_emod_of_nonneg (by omega)
   have hq2 : IntKind.i64.wrap ((-x) / 177) = (-x) / 177 := by rw [wrap_i64] <;> omega
   have hk0 : 0 ≤ (-x) / 177 := by omega
   have hr0 : 0 ≤ (-x) % 177 ∧ (-x) % 177 ≤ 176 := by omega
   refine FD hneg hq hr hq2 hk0 ?_
   refine ⟨?_, rfl⟩
   rw [Gk, if_neg h1, if_neg h2]
   rw [(HP hr0).1, N4 (by omega)]
theorem TW {x : Int} {g : H2} : A7 Tryz.prog W0 231 [.raw (.int .i64 x)] g (fun v g' => v = .raw (.int .i64 (Gk x)) ∧ g' = g) := by
 refine AH [[0], [0], [], [0], [], [0], [0, 3], [3, 4]] Tryz.func231 rfl (rs := [.tmp 2]) rfl rfl ?_
 intro wf
 refine zr ?_
 refine AN (fun h2 => ?_) (fun h2 => ?_)
 ·refine zr ?_
  exact ⟨by rw [Gk, if_neg (by omega), if_pos h2], rfl⟩
 ·refine zr ?_
  refine AN (fun h1 => ?_) (fun h1 => ?_)
  ·refine zr ?_
   exact ⟨by rw [Gk, if_pos h1], rfl⟩
  ·have hneg : IntKind.i64.wrap (0 - x) = -x := by rw [wrap_i64] <;> omega
   have hq : (-x).tdiv 177 = (-x) / 177 := Int.tdiv_eq_ediv_of_nonneg (by omega)
   have hr : (-x).tmod 177 = (-x) % 177 := Int.tmod_eq_emod_of_nonneg (by omega)
   have hq2 : IntKind.i64.wrap ((-x) / 177) = (-x) / 177 := by rw [wrap_i64] <;> omega
   obtain ⟨k, hk⟩ := Int.eq_ofNat_of_zero_le (show 0 ≤ (-x) / 177 by omega)
   have hk60 : k ≤ 60 := by omega
   have hr0 : 0 ≤ (-x) % 177 ∧ (-x) % 177 ≤ 176 := by omega
   rw [Gk, if_neg h1, if_neg h2]
   rw [hk] at hq2 hq ⊢
   refine Cu hneg hq hr hq2 ?_
   refine AA (OI hk60) ?_
   rintro _ g ⟨rfl, rfl⟩
   have hpb := Iq k hk60
   have hp0 : ((2 : Int) ^ k == 0) = false := by simp only [beq_eq_false_iff_ne]; omega
   refine A1 hp0 ?_
   refine ⟨?_, rfl⟩
   obtain ⟨e1, e2, e3⟩ := HP hr0
   rw [e1, Int.tdiv_eq_ediv_of_nonneg e2]
   show X.raw (Value.int .i64 (IntKind.i64.wrap ((256 - -x % 177 + -x % 177 * (-x % 177) / 512) / 2 ^ k))) = _
   rw [show ((k : Int)).toNat = k by omega]
   generalize (2 : Int) ^ k = p at *
   generalize 256 - -x % 177 + -x % 177 * (-x % 177) / 512 = t at *
   have d1 : 0 ≤ t / p := Int.ediv_nonneg e2 (by omega)
   have d2 : t / p ≤ t := Int.ediv_le_self _ e2
   rw [wrap_i64 (by omega) (by omega)]
end Go.Bi
end
section
set_option maxRecDepth 20000
namespace Go.Bi
open Go.Proofs
open Go.Ai (wrap_i64 wrap_u64 wrap_u8 Heap)
variable {W0 : World} {P : Program}
set_option maxHeartbeats 4000000
theorem Al.wide {N M : Nat} {g : H2} {v : X} {zs : List Int} (o : Al N g v zs) (h : M ≤ N) : Al M g v zs := by
 obtain ⟨h1, h2⟩ := o
 exact ⟨h1, h2.imp_right fun ⟨b, e1, e2, e3, e4⟩ => ⟨b, e1, by omega, e3, e4⟩⟩
theorem GS {D : Nat → Option (List Nat)} {g0 g : H2} {K : KT} {t u U y N : Nat} {xs : List Int} {x : X} {f : AQ} {s : Int} (he : Go.Ai.elt? P t = some (U, 1, y)) (hz : Go.Ai.zr? P U = some [.int .i64 0]) (hu : Go.Ai.cls? P u = some .sl)
  (hy : y ≤ 1000) (hx : Al N g x xs) (hle : g0.le g) (h0 : hn g0 .mk ≤ N) (hN : N ≤ hn g .mk) (hn0 : xs.length ≤ 1048576)
  (hk : ∀ v' g', Al N g' v' (xs ++ [s]) → g0.le g' → N ≤ hn g' .mk → (∀ c, c < N → hg g' c .mk = hg g c .mk) → kz K v' g' .mk) :
  az (EN P (g.up (hn g .mk + 1)) .append [t, u] [x, .sl f 1 [[.v (.int .i64 s)]]] .mk) K .mk := by
 refine Ul (D := D) (N := N) he hz hu (Own.keep hx (AK (H2.le.refl _) (Nat.le_succ _))) (by rw [AF]; omega) ?_ ?_
 ·have : Go.Ai.most = 1099511627776 := rfl
  have : (xs.length + 1) * (y + 1) ≤ 1048577 * 1001 := Nat.mul_le_mul (by omega) (by omega)
  omega
 intro v4 g4 o4 n4 l4 k4
 rw [AF] at n4
 refine hk v4 g4 o4 (l4 g0 h0 (AK hle (Nat.le_succ _))) (by omega) fun c hc => (k4 c (by rw [AF]; omega) fun e => ?_)
 obtain ⟨_, h⟩ := hx
 rcases h with ⟨rfl, _⟩ | ⟨q, rfl, a1, _⟩
 ·cases e
 ·simp only [AP, Option.some.injEq] at e; omega
theorem B0 {α : Type} {f : Nat → α} {n i : Nat} (h : i < n) : ((List.range n).map f).take (i + 1) = ((List.range n).map f).take i ++ [f i] := by
 rw [List.take_succ_eq_append_getElem (by simpa using h)]
 simp
theorem BL {α β : Type} [Inhabited α] {f : α → β} {l : List α} {i : Nat} (h : i < l.length) : (l.map f).take (i + 1) = (l.map f).take i ++ [f (l.getD i default)] := by
 rw [List.take_succ_eq_append_getElem (by simpa using h)]
 simp [List.getD_eq_getElem?_getD, List.getElem?_eq_getElem h]
theorem WK {m : AR} (h : C3 m = true) : DM m := by
 obtain ⟨m1, m2, m3, m4, m5, m6⟩ := HL h
 refine ⟨⟨by omega, fun r hr => ?_⟩, by omega, fun r hr => ?_⟩
 ·obtain ⟨i, hi, rfl⟩ := List.getElem_of_mem hr
  have := (m6 i hi).1
  rw [List.getD_eq_getElem?_getD, List.getElem?_eq_getElem hi, Option.getD_some] at this
  omega
 ·obtain ⟨i, hi, rfl⟩ := List.getElem_of_mem hr
  have := Pk (m6 i (by omega)).2
  rw [List.getD_eq_getElem?_getD (l := m.scales), List.getElem?_eq_getElem hi, Option.getD_some] at this
  omega
theorem SM {f1 f2 f3 : AQ} {r s x : List Int} {g : H2} (h : Dh r s = true) (hx : Ay 127 x) (hl : x.length = r.length) : A7 Tryz.prog W0 191 [.sl f1 1 (ints r), .sl f2 1 (ints s), .sl f3 1 (ints x)] g (fun v g' => v = .raw (.int .i64 (ar r s x)) ∧ g' = g) := by
 obtain ⟨h1, h2, h3, h4⟩ := Pk h
 have e : r.length / 4 * 4 = r.length := by rcases h1 with e | e <;> rw [e]
 refine AH [[0, 1, 2], [0, 1, 2], [0, 1, 2, 7], [1, 2, 7, 10, 11, 12], [1, 2, 7, 10, 11, 12], [1, 2, 7, 8, 9, 10, 11, 12], [1, 2, 7, 10, 11, 12], [7]] Tryz.func191 rfl (rs := [.tmp 6]) rfl rfl ?_
 intro wf
 refine zr ?_
 refine AJ [1, 2, 10, 11] (fun m e h' => ∃ (i : Nat), h' = g ∧ look e 12 .mk = .raw (.int .i64 (i : Nat)) ∧ look e 7 .mk = .raw (.int .i64 (Aq (fun i => s.getD (i / 4) default * r.getD i default * x.getD i default) i)) ∧ m + i = r.length) r.length ?_ ?_
 ·exact ⟨0, rfl, AL, by simp -dsimp -implicitDefEqProofs only [go_sem, sQ1] <;> rfl, by omega⟩
 rintro m e h' hks ⟨i, rfl, ei, es, hm⟩
 simp -dsimp -implicitDefEqProofs only [go_sem, sQ1] at hks
 by_cases q1 : (i : Int) < (r.length : Int)
 ·have q2 : i < r.length := by omega
  have q3 : i / 4 < s.length := by omega
  have q4 : i < x.length := by omega
  have w1 := BE i (by omega)
  have e2 : Int.tdiv (i : Int) 4 = ((i / 4 : Nat) : Int) := rfl
  have w2 : IntKind.i64.wrap ((i / 4 : Nat) : Int) = ((i / 4 : Nat) : Int) := by rw [wrap_i64] <;> omega
  have a := Rd h hx i
  have b := LN h hx (n := i) (by omega)
  have b2 := LN h hx (n := i + 1) (by omega)
  have w3 := AX (x := s.getD (i / 4) default * r.getD i default) (by omega)
  have w4 := AX (x := s.getD (i / 4) default * r.getD i default * x.getD i default) (by omega)
  have w5 : IntKind.i64.wrap (Aq (fun i => s.getD (i / 4) default * r.getD i default * x.getD i default) i + s.getD (i / 4) default * r.getD i default * x.getD i default) = Aq (fun i => s.getD (i / 4) default * r.getD i default * x.getD i default) (i + 1) := AX (x := Aq (fun i => s.getD (i / 4) default * r.getD i default * x.getD i default) (i + 1)) (by omega)
  refine FD hks ei es q1 q2 ?_
  refine AO [(0, []), (1, []), (2, []), (3, []), (4, []), (5, []), (6, []), (7, []), (8, []), (9, []), (10, []), (11, []), (12, []), (13, []), (14, [])] (by kernel_rfl) ?_
  refine UK q3 q4 e2 w1 w2 w3 w4 w5 ?_
  exact AI (m - 1) (by omega) AL ⟨i + 1, rfl, AL, AL, by omega⟩
 ·refine Cu hks ei es q1 ?_
  have : i = r.length := by omega
  subst this
  exact ⟨rfl, rfl⟩
theorem R8 {f1 f2 f3 : AQ} {r s x : List Int} {g : H2} (h : Dh r s = true) (hx : Ay 127 x) (hl : x.length = r.length) : A7 Tryz.prog W0 168 [.sl f1 1 (ints r), .sl f2 1 (ints s), .sl f3 1 (ints x)] g (fun v g' => v = .raw (.int .i64 (ar r s x)) ∧ g' = g) := by
 obtain ⟨h1, h2, h3, h4⟩ := Pk h
 have e : r.length / 4 * 4 = r.length := by rcases h1 with e | e <;> rw [e]
 refine AH [[0, 1, 2], [0, 1, 2], [0, 1, 2, 7], [0, 1, 2, 7, 8], [0, 1, 2, 7, 8], [0, 1, 2, 7, 8], [7]] Tryz.func168 rfl (rs := [.tmp 6]) rfl rfl ?_
 intro wf
 refine zr ?_
 refine AJ [0, 1, 2] (fun m e h' => ∃ (i : Nat), h' = g ∧ look e 8 .mk = .raw (.int .i64 (i : Nat)) ∧ look e 7 .mk = .raw (.int .i64 (Aq (fun i => s.getD (i / 4) default * r.getD i default * x.getD i default) i)) ∧ m + i = r.length) r.length ?_ ?_
 ·exact ⟨0, rfl, AL, by simp -dsimp -implicitDefEqProofs only [go_sem] <;> rfl, by omega⟩
 rintro m e h' hks ⟨i, rfl, ei, es, hm⟩
 simp -dsimp -implicitDefEqProofs only [go_sem, sQ1] at hks
 by_cases q1 : (i : Int) < (r.length : Int)
 ·have q2 : i < r.length := by omega
  have q3 : i / 4 < s.length := by omega
  have q4 : i < x.length := by omega
  have w1 := BE i (by omega)
  have e2 : Int.tdiv (i : Int) 4 = ((i / 4 : Nat) : Int) := rfl
  have w2 : IntKind.i64.wrap ((i / 4 : Nat) : Int) = ((i / 4 : Nat) : Int) := by rw [wrap_i64] <;> omega
  have a := Rd h hx i
  have b := LN h hx (n := i) (by omega)
  have b2 := LN h hx (n := i + 1) (by omega)
  have w3 := AX (x := s.getD (i / 4) default * r.getD i default) (by omega)
  have w4 := AX (x := s.getD (i / 4) default * r.getD i default * x.getD i default) (by omega)
  have w5 : IntKind.i64.wrap (Aq (fun i => s.getD (i / 4) default * r.getD i default * x.getD i default) i + s.getD (i / 4) default * r.getD i default * x.getD i default) = Aq (fun i => s.getD (i / 4) default * r.getD i default * x.getD i default) (i + 1) := AX (x := Aq (fun i => s.getD (i / 4) default * r.getD i default * x.getD i default) (i + 1)) (by omega)
  refine Cu hks ei es q1 ?_
  refine AO [(0, []), (1, []), (2, []), (3, []), (4, []), (5, []), (6, []), (7, []), (8, []), (9, []), (10, []), (11, []), (12, []), (13, []), (14, []), (15, []), (16, []), (17, [])] (by kernel_rfl) ?_
  refine fR q2 q3 q4 e2 w1 w2 w3 w4 w5 ?_
  exact AI (m - 1) (by omega) AL ⟨i + 1, rfl, AL, AL, by omega⟩
 ·refine Cu hks ei es q1 ?_
  have : i = r.length := by omega
  subst this
  exact ⟨rfl, rfl⟩
theorem Mi {F : Nat → AQ} {m : AR} {f : AQ} {x : List Int} {g : H2} (hm : C3 m = true) (h0 : 0 < m.rows.length) (hl : (x.length : Int) = m.width) (hx : Ay 127 x) : A7 Tryz.prog W0 136 [.st (BV F m), .sl f 1 (ints x)] g (fun y g' => g.le g' ∧ ∃ v, y = .tp [v, .raw (.bool true)] ∧ Al (hn g .mk) g' v (Az m x)) := by
 obtain ⟨m1, m2, m3, m4, m5, m6⟩ := HL hm
 refine AH [[0, 1], [1, 2], [], [1, 2], [1, 2, 6], [1, 2, 6, 27, 28, 29], [1, 2, 6, 27, 28, 29], [1, 2, 6, 7, 8, 27, 28, 29], [1, 2, 6, 27, 28, 29], [6]] Tryz.func136 rfl (rs := [.tmp 4, .tmp 5]) rfl rfl ?_
 intro wf
 have e0 : (m.rows.length : Int) > 0 := by omega
 have e1 : decide (¬ (x.length : Int) = m.width) = false := decide_eq_false (fun h => h hl)
 have e2 : allI x (-127) 127 = true := BM hx (by omega)
 refine LM e0 e1 ?_
 refine AD (BN (by omega)) ?_
 rintro _ n1 hn1 rfl
 rw [AB] at hn1
 rw [e2]
 have hne : (hn g .mk == n1) = false := Cw
 refine DC hne ?_
 refine AJ [1, 2, 27, 28] (fun mm e h' => ∃ (i : Nat) (v : X), g.le h' ∧ n1 ≤ hn h' .mk ∧ hg h' (hn g .mk) .mk = some ⟨5, [.raw (.int .i64 m.width), .sl (F 1) 1 (AE m.rows), .sl (F 2) 1 (AE m.scales), .raw (.int .i64 m.mul), .raw (.int .i64 m.shift)]⟩ ∧ look e 29 .mk = .raw (.int .i64 (i : Nat)) ∧ look e 6 .mk = v ∧ mm + i = m.rows.length ∧ Al n1 h' v ((Az m x).take i)) m.rows.length ?_ ?_
 ·exact ⟨0, _, le_push (AK (le_push (H2.le.refl _)) (by rw [AB]; exact hn1)), by simp only [AB, AF]; omega, by simp -dsimp -implicitDefEqProofs only [go_sem, Av, hne], AL, by simp -dsimp -implicitDefEqProofs only [go_sem, sQ1] <;> rfl, by omega, Own.new (by rw [AF]; exact Nat.le_refl _) rfl⟩
 rintro mm e h' hks ⟨i, v, hle, nn, row, ei, ev, hmm, ow⟩
 simp -dsimp -implicitDefEqProofs only [go_sem, sQ1] at hks
 have c0 := AT ow
 by_cases q1 : (i : Int) < (m.rows.length : Int)
 ·have q2 : i < m.rows.length := by omega
  have q3 : i < m.scales.length := by omega
  have w1 := BE i (by omega)
  have hl2 : ((Az m x).take i).length ≤ 1048576 := by rw [List.length_take, CH]; omega
  repeat (first | rw [ko] | rw [kr] | simp -dsimp -implicitDefEqProofs only [go_sem, sQ1, hks, ei, ev, q1, q2, q3, row])
  refine AA (SM (m6 i q2).2 hx (by have := (m6 i q2).1; omega)) ?_
  rintro _ _ ⟨rfl, rfl⟩
  refine zr ?_
  refine GS (P := Tryz.prog) (D := fun _ => none) Go.Ai.ty_el25 Go.Ai.ty_zr3 Go.Ai.ty_cl25 (by omega) ow hle (by omega) nn hl2 ?_
  intro v4 g4 ow4 le4 nn4 on4
  have row4 := (on4 (hn g .mk) (by omega)).trans row
  refine A1 w1 ?_
  exact AI (mm - 1) (by omega) AL ⟨i + 1, v4, le4, nn4, row4, AL, AL, by omega, (B0 q2).symm ▸ ow4⟩
 ·refine FD hks ei ev q1 c0 ?_
  have hi : i = (Az m x).length := by rw [CH]; omega
  rw [hi, List.take_length] at ow
  exact ⟨hle, v, rfl, ow.wide (by omega)⟩
theorem MO {F : Nat → AQ} {m : AR} {f : AQ} {l : List Int} {g : H2} (hm : C3 m = true) (hl : l.length ≤ 1048576) (hx : Ay 1032256 l) : PI Tryz.prog W0 223 [.st (BV F m), .sl f 1 (ints l)] g (Dw m l) := by
 obtain ⟨m1, m2, m3, m4, m5, m6⟩ := HL hm
 obtain ⟨sh, hsh⟩ := Int.eq_ofNat_of_zero_le m5.1
 refine AH [[0, 1], [1, 2], [1, 2, 5], [2, 5, 9, 10, 11], [2, 5, 9, 10, 11], [2, 5, 7, 9, 10, 11], [2, 5, 9, 10, 11], [5]] Tryz.func223 rfl (rs := [.tmp 4]) rfl rfl ?_
 intro wf
 refine zh ?_
 refine AJ [2, 9, 10] (fun mm e h' => ∃ (i : Nat) (v : X), g.le h' ∧ hn g .mk + 1 ≤ hn h' .mk ∧ hg h' (hn g .mk) .mk = some ⟨5, [.raw (.int .i64 m.width), .sl (F 1) 1 (AE m.rows), .sl (F 2) 1 (AE m.scales), .raw (.int .i64 m.mul), .raw (.int .i64 m.shift)]⟩ ∧ look e 11 .mk = .raw (.int .i64 (i : Nat)) ∧ look e 5 .mk = v ∧ mm + i = l.length ∧ Al (hn g .mk + 1) h' v ((Dw m l).take i)) l.length ?_ ?_
 ·exact ⟨0, _, le_push (le_push (H2.le.refl _)), by simp only [AB]; omega, by simp -dsimp -implicitDefEqProofs only [go_sem, Av], AL, by simp -dsimp -implicitDefEqProofs only [go_sem, sQ1] <;> rfl, by omega, Own.new (by simp only [AB]; omega) rfl⟩
 rintro mm e h' hks ⟨i, v, hle, nn, row, ei, ev, hmm, ow⟩
 simp -dsimp -implicitDefEqProofs only [go_sem, sQ1] at hks
 have c0 := AT ow
 by_cases q1 : (i : Int) < (l.length : Int)
 ·have q2 : i < l.length := by omega
  have w1 := BE i (by omega)
  have hl2 : ((Dw m l).take i).length ≤ 1048576 := by rw [List.length_take]; omega
  have hxi := Ag (by omega) hx i
  repeat (first | rw [ko] | rw [kr] | simp -dsimp -implicitDefEqProofs only [go_sem, sQ1, hks, ei, ev, q1, q2, row, hsh])
  refine AA (Tp (by omega) m4 (by omega)) ?_
  rintro _ _ ⟨rfl, rfl⟩
  refine zr ?_
  refine AA (Ct (by omega) (by omega)) ?_
  rintro _ _ ⟨rfl, rfl⟩
  refine zr ?_
  refine GS (P := Tryz.prog) (D := fun _ => none) Go.Ai.ty_el25 Go.Ai.ty_zr3 Go.Ai.ty_cl25 (by omega) ow hle (by omega) nn hl2 ?_
  intro v4 g4 ow4 le4 nn4 on4
  have row4 := (on4 (hn g .mk) (by omega)).trans row
  refine A1 w1 ?_
  refine AI (mm - 1) (by omega) AL ⟨i + 1, v4, le4, nn4, row4, AL, AL, by omega, ?_⟩
  have := BL (f := fun n => Gz (Gq n m.mul m.shift.toNat) 127) q2
  rw [show m.shift.toNat = sh by omega] at this
  unfold Dw
  rw [show m.shift.toNat = sh by omega, this]
  unfold Dw at ow4
  rw [show m.shift.toNat = sh by omega] at ow4
  exact ow4
 ·refine Cu hks ei ev q1 ?_
  have hi : i = (Dw m l).length := by unfold Dw; rw [List.length_map]; omega
  rw [hi, List.take_length] at ow
  exact ⟨hle, ow.wide (by omega)⟩
end Go.Bi
end
section
set_option maxRecDepth 20000
namespace Go.Bi
open Go.Proofs
open Go.Ai (wrap_i64 wrap_u64 wrap_u8 Heap)
variable {W0 : World} {P : Program}
set_option maxHeartbeats 4000000
theorem Lg {x gn : List Int} {i : Nat} (h : i < x.length) : (Ah x gn).take (i + 1) = (Ah x gn).take i ++ [Gz ((x.getD i default - A4 x) * gn.getD i default / Gu (Dv x + 1)) 127] := B0 h
theorem I7 {f f' : AQ} {x gn : List Int} {g : H2} (hx : Ay 1000 x) (h1 : 1 ≤ x.length) (h8 : x.length ≤ 8) (hl : gn.length = x.length) (hgn : allI gn 0 127 = true) : A7 Tryz.prog W0 135 [.sl f 1 (ints x), .sl f' 1 (ints gn)] g (fun y g' => g.le g' ∧ ∃ v, y = .tp [v, .raw (.bool true)] ∧ Al (hn g .mk) g' v (Ah x gn)) := by
 refine AH [[0, 1], [0, 1], [], [0, 1], [0, 1, 6], [0, 1, 6, 38, 39, 40], [0, 1, 6, 38, 39, 40], [0, 1, 6, 8, 38, 39, 40], [0, 1, 6, 38, 39, 40], [0, 1, 6], [0, 1, 9], [0, 1, 9, 10], [0, 1, 9, 10, 52, 53, 54], [0, 1, 9, 10, 52, 53, 54], [0, 1, 9, 10, 12, 52, 53, 54], [0, 1, 9, 10, 52, 53, 54], [0, 1, 9, 10], [0, 1, 9, 13], [0, 1, 9, 13, 14], [1, 9, 13, 14, 75, 76, 77], [1, 9, 13, 14, 75, 76, 77], [1, 9, 13, 14, 15, 16, 75, 76, 77], [1, 9, 13, 14, 75, 76, 77], [14]] Tryz.func135 rfl (rs := [.tmp 4, .tmp 5]) rfl rfl ?_
 intro wf
 have hga := B3 hgn (n := 127) (by omega) (by omega)
 have hle : (gn.length : Int) = (x.length : Int) := by omega
 have e1 : decide (¬ (gn.length : Int) = (x.length : Int)) = false := decide_eq_false (fun h => h hle)
 refine zr ?_
 refine AA BQ ?_
 rintro _ g ⟨rfl, rfl⟩
 rw [A8 (by omega) (by omega)]
 refine A1 e1 ?_
 refine AD (BN (by omega)) ?_
 rintro _ n1 hn1 rfl
 rw [BM hx (by omega)]
 refine zr ?_
 refine AD (BN (by omega)) ?_
 rintro _ n2 hn2 rfl
 rw [hgn]
 refine zr ?_
 refine AJ [0, 1, 38, 39] (fun m e h' => ∃ (i : Nat), g.le h' ∧ look e 40 .mk = .raw (.int .i64 (i : Nat)) ∧ look e 6 .mk = .raw (.int .i64 (Aq (fun i => x.getD i default) i)) ∧ m + i = x.length) x.length ?_ ?_
 ·exact ⟨0, by first | exact AK (AK (H2.le.refl _) hn1) hn2 | exact AK (H2.le.refl _) (Nat.le_trans hn1 hn2), AL, by simp -dsimp -implicitDefEqProofs only [go_sem, sQ1] <;> rfl, by omega⟩
 rintro m e h' hks ⟨i, hle1, ei, es, hm⟩
 simp -dsimp -implicitDefEqProofs only [go_sem, sQ1] at hks
 by_cases q1 : (i : Int) < (x.length : Int)
 ·have q2 : i < x.length := by omega
  have w1 := BE i (by omega)
  have b := MJ hx (i + 1)
  have w2 : IntKind.i64.wrap (Aq (fun i => x.getD i default) i + x.getD i default) = Aq (fun i => x.getD i default) (i + 1) := AX (x := Aq (fun i => x.getD i default) (i + 1)) (by omega)
  refine Tk hks ei es q1 q2 w1 w2 ?_
  exact AI (m - 1) (by omega) AL ⟨i + 1, hle1, AL, AL, by omega⟩
 refine Cu hks ei es q1 ?_
 obtain rfl : i = x.length := by omega
 refine AA (Cs (by omega) (by have := MJ hx x.length; omega)) ?_
 rintro y _ ⟨hy, rfl⟩
 obtain rfl : y = .raw (.int .i64 (A4 x)) := hy
 refine zr ?_
 refine AJ [0, 1, 9, 52, 53] (fun m e h' => ∃ (i : Nat), g.le h' ∧ look e 54 .mk = .raw (.int .i64 (i : Nat)) ∧ look e 10 .mk = .raw (.int .i64 (Aq (fun i => (x.getD i default - A4 x) * (x.getD i default - A4 x)) i)) ∧ m + i = x.length) x.length ?_ ?_
 ·exact ⟨0, hle1, AL, by simp -dsimp -implicitDefEqProofs only [go_sem, sQ1] <;> rfl, by omega⟩
 rintro m2 e2 h2 hks2 ⟨i, hle2, ei2, es2, hm2⟩
 simp -dsimp -implicitDefEqProofs only [go_sem, sQ1] at hks2
 by_cases q1 : (i : Int) < (x.length : Int)
 ·have q2 : i < x.length := by omega
  have w1 := BE i (by omega)
  have b0 := Fk hx h1 h8 i
  have b1 := Ly hx h1 h8 i
  have b := MU hx h1 h8 (i + 1)
  have w3 := AX (x := x.getD i default - A4 x) (by omega)
  have w4 := AX (x := (x.getD i default - A4 x) * (x.getD i default - A4 x)) (by omega)
  have w2 : IntKind.i64.wrap (Aq (fun i => (x.getD i default - A4 x) * (x.getD i default - A4 x)) i + (x.getD i default - A4 x) * (x.getD i default - A4 x)) = Aq (fun i => (x.getD i default - A4 x) * (x.getD i default - A4 x)) (i + 1) := AX (x := Aq (fun i => (x.getD i default - A4 x) * (x.getD i default - A4 x)) (i + 1)) (by omega)
  refine fR hks2 ei2 es2 q1 q2 w1 w3 w4 w2 ?_
  exact AI (m2 - 1) (by omega) AL ⟨i + 1, hle2, AL, AL, by omega⟩
 have sp := J4 hx h1 h8
 have rs := Ps hx h1 h8
 have ws := AX (x := Dv x + 1) (by omega)
 obtain rfl : i = x.length := by omega
 refine Cu hks2 ei2 es2 q1 ?_
 refine AA (Cs (by omega) (by have := MU hx h1 h8 x.length; omega)) ?_
 rintro y _ ⟨hy, rfl⟩
 obtain rfl : y = .raw (.int .i64 (Dv x)) := hy
 refine A1 ws ?_
 refine AA (Wc (by omega) (by omega)) ?_
 rintro _ _ ⟨rfl, rfl⟩
 refine zr ?_
 refine AJ [1, 9, 13, 75, 76] (fun m e h' => ∃ (i : Nat) (v : X), g.le h' ∧ hn g .mk ≤ hn h' .mk ∧ look e 77 .mk = .raw (.int .i64 (i : Nat)) ∧ look e 14 .mk = v ∧ m + i = x.length ∧ Al (hn g .mk) h' v ((Ah x gn).take i)) x.length ?_ ?_
 ·exact ⟨0, _, le_push hle2, (le_push hle2).1, AL, by simp -dsimp -implicitDefEqProofs only [go_sem, sQ1] <;> rfl, by omega, Own.new hle2.1 rfl⟩
 rintro m3 e3 h3 hks3 ⟨i, v, hle3, nn3, ei3, ev, hm3, ow⟩
 simp -dsimp -implicitDefEqProofs only [go_sem, sQ1] at hks3
 have c0 := AT ow
 by_cases q1 : (i : Int) < (x.length : Int)
 ·have q2 : i < x.length := by omega
  have q3 : i < gn.length := by omega
  have w1 := BE i (by omega)
  have b0 := Fk hx h1 h8 i
  have b1 := Tj hx hga h1 h8 i
  have w3 := AX (x := x.getD i default - A4 x) (by omega)
  have w4 := AX (x := (x.getD i default - A4 x) * gn.getD i default) (by omega)
  have hl2 : ((Ah x gn).take i).length ≤ 1048576 := by rw [List.length_take, GA]; omega
  refine UK hks3 ei3 ev q1 q2 q3 w3 w4 ?_
  refine AA (Cs (by omega) (by omega)) ?_
  rintro _ _ ⟨rfl, rfl⟩
  refine zr ?_
  refine AA (Ct (by omega) (by omega)) ?_
  rintro _ _ ⟨rfl, rfl⟩
  refine zr ?_
  refine GS (P := Tryz.prog) (D := fun _ => none) Go.Ai.ty_el25 Go.Ai.ty_zr3 Go.Ai.ty_cl25 (by omega) ow hle3 (by omega) nn3 hl2 ?_
  intro v4 g4 ow4 le4 nn4 on4
  refine A1 w1 ?_
  exact AI (m3 - 1) (by omega) AL ⟨i + 1, v4, le4, nn4, AL, AL, by omega, (Lg q2).symm ▸ ow4⟩
 ·refine FD hks3 ei3 ev q1 c0 ?_
  have hi : i = (Ah x gn).length := by rw [GA]; omega
  rw [hi, List.take_length] at ow
  exact ⟨hle3, v, rfl, ow⟩
theorem JV {f f' : AQ} {x gn : List Int} {g : H2} (hx : Ay 1000 x) (h1 : 1 ≤ x.length) (h8 : x.length ≤ 8) (hl : gn.length = x.length) (hgn : allI gn 0 127 = true) : A7 Tryz.prog W0 110 [.sl f 1 (ints x), .sl f' 1 (ints gn)] g (fun y g' => g.le g' ∧ ∃ v, y = .tp [v, .raw (.bool true)] ∧ Al (hn g .mk) g' v (Ah x gn)) := by
 refine AH [[0, 1], [0, 1], [0, 1, 6], [0, 1, 6, 7], [6], [0, 1, 6, 7], [0, 1, 6, 7, 8], [0, 1, 6, 7, 8, 9], [0, 1, 6, 7, 8, 9], [0, 1, 6, 7, 8, 9], [0, 1, 6, 7, 8], [0, 1, 6, 7, 10], [0, 1, 6, 7, 10, 11], [0, 1, 6, 7, 10, 11, 12], [0, 1, 6, 7, 10, 11, 12], [0, 1, 6, 7, 10, 11, 12], [0, 1, 6, 7, 10, 11], [0, 1, 6, 7, 10, 13], [0, 1, 6, 7, 10, 13, 14], [0, 1, 6, 7, 10, 13, 14], [0, 1, 6, 7, 10, 13, 14], [6]] Tryz.func110 rfl (rs := [.tmp 4, .tmp 5]) rfl rfl ?_
 intro wf
 have hga := B3 hgn (n := 127) (by omega) (by omega)
 have hle : (gn.length : Int) = (x.length : Int) := by omega
 have e1 : decide (¬ (gn.length : Int) = (x.length : Int)) = false := decide_eq_false (fun h => h hle)
 refine zr ?_
 refine AA Ab ?_
 rintro _ g ⟨rfl, rfl⟩
 rw [A8 (by omega) (by omega)]
 refine A1 e1 ?_
 refine AD (BB (by omega)) ?_
 rintro _ n1 hn1 rfl
 rw [BM hx (by omega)]
 refine zr ?_
 refine AD (BB (by omega)) ?_
 rintro _ n2 hn2 rfl
 rw [hgn]
 refine zr ?_
 refine AJ [0, 1, 6, 7] (fun m e h' => ∃ (i : Nat), (g.push ⟨1, []⟩).le h' ∧ look e 9 .mk = .raw (.int .i64 (i : Nat)) ∧ look e 8 .mk = .raw (.int .i64 (Aq (fun i => x.getD i default) i)) ∧ m + i = x.length) x.length ?_ ?_
 ·exact ⟨0, by first | exact AK (AK (H2.le.refl _) hn1) hn2 | exact AK (H2.le.refl _) (Nat.le_trans hn1 hn2), AL, by simp -dsimp -implicitDefEqProofs only [go_sem] <;> rfl, by omega⟩
 rintro m e h' hks ⟨i, hle1, ei, es, hm⟩
 simp -dsimp -implicitDefEqProofs only [go_sem, sQ1] at hks
 by_cases q1 : (i : Int) < (x.length : Int)
 ·have q2 : i < x.length := by omega
  have w1 := BE i (by omega)
  have b := MJ hx (i + 1)
  have w2 : IntKind.i64.wrap (Aq (fun i => x.getD i default) i + x.getD i default) = Aq (fun i => x.getD i default) (i + 1) := AX (x := Aq (fun i => x.getD i default) (i + 1)) (by omega)
  refine Tk hks ei es q1 q2 w1 w2 ?_
  exact AI (m - 1) (by omega) AL ⟨i + 1, hle1, AL, AL, by omega⟩
 refine Cu hks ei es q1 ?_
 obtain rfl : i = x.length := by omega
 refine AA (DU (by omega) (by have := MJ hx x.length; omega)) ?_
 rintro y _ ⟨hy, rfl⟩
 obtain rfl : y = .raw (.int .i64 (A4 x)) := hy
 refine zr ?_
 refine AJ [0, 1, 6, 7, 10] (fun m e h' => ∃ (i : Nat), (g.push ⟨1, []⟩).le h' ∧ look e 12 .mk = .raw (.int .i64 (i : Nat)) ∧ look e 11 .mk = .raw (.int .i64 (Aq (fun i => (x.getD i default - A4 x) * (x.getD i default - A4 x)) i)) ∧ m + i = x.length) x.length ?_ ?_
 ·exact ⟨0, hle1, AL, by simp -dsimp -implicitDefEqProofs only [go_sem] <;> rfl, by omega⟩
 rintro m2 e2 h2 hks2 ⟨i, hle2, ei2, es2, hm2⟩
 simp -dsimp -implicitDefEqProofs only [go_sem, sQ1] at hks2
 by_cases q1 : (i : Int) < (x.length : Int)
 ·have q2 : i < x.length := by omega
  have w1 := BE i (by omega)
  have b0 := Fk hx h1 h8 i
  have b1 := Ly hx h1 h8 i
  have b := MU hx h1 h8 (i + 1)
  have w3 := AX (x := x.getD i default - A4 x) (by omega)
  have w4 := AX (x := (x.getD i default - A4 x) * (x.getD i default - A4 x)) (by omega)
  have w2 : IntKind.i64.wrap (Aq (fun i => (x.getD i default - A4 x) * (x.getD i default - A4 x)) i + (x.getD i default - A4 x) * (x.getD i default - A4 x)) = Aq (fun i => (x.getD i default - A4 x) * (x.getD i default - A4 x)) (i + 1) := AX (x := Aq (fun i => (x.getD i default - A4 x) * (x.getD i default - A4 x)) (i + 1)) (by omega)
  refine Cu hks2 ei2 es2 q1 ?_
  refine AO [(0, []), (1, []), (2, []), (3, []), (4, []), (5, []), (6, []), (7, []), (8, []), (9, []), (10, []), (11, []), (12, []), (13, []), (14, []), (15, [])] (by kernel_rfl) ?_
  refine FD q2 w1 w3 w4 w2 ?_
  exact AI (m2 - 1) (by omega) AL ⟨i + 1, hle2, AL, AL, by omega⟩
 have sp := J4 hx h1 h8
 have rs := Ps hx h1 h8
 have ws := AX (x := Dv x + 1) (by omega)
 obtain rfl : i = x.length := by omega
 have sq := MU hx h1 h8 x.length
 have hb0 : ((x.length : Int) == 0) = false := by rw [beq_eq_false_iff_ne]; omega
 have ed : Int.tdiv (Aq (fun i => (x.getD i default - A4 x) * (x.getD i default - A4 x)) x.length) (x.length : Int) = Dv x := Int.tdiv_eq_ediv_of_nonneg sq.1
 have wd := AX (x := Dv x) (by omega)
 refine UK hks2 ei2 es2 q1 hb0 ed wd ws ?_
 refine AA (YY (by omega) (by omega)) ?_
 rintro _ _ ⟨rfl, rfl⟩
 refine zr ?_
 refine AJ [0, 1, 7, 10, 13] (fun m e h' => ∃ (i : Nat) (v : X), g.le h' ∧ hn g .mk ≤ hn h' .mk ∧ look e 14 .mk = .raw (.int .i64 (i : Nat)) ∧ look e 6 .mk = v ∧ m + i = x.length ∧ Al (hn g .mk) h' v ((Ah x gn).take i)) x.length ?_ ?_
 ·exact ⟨0, _, H2.le.trans (le_push (H2.le.refl _)) hle2, (H2.le.trans (le_push (H2.le.refl _)) hle2).1, AL, by simp -dsimp -implicitDefEqProofs only [go_sem, sQ1] <;> rfl, by omega, Own.keep (Own.new (Nat.le_refl _) rfl) hle2⟩
 rintro m3 e3 h3 hks3 ⟨i, v, hle3, nn3, ei3, ev, hm3, ow⟩
 simp -dsimp -implicitDefEqProofs only [go_sem, sQ1] at hks3
 have c0 := AT ow
 by_cases q1 : (i : Int) < (x.length : Int)
 ·have q2 : i < x.length := by omega
  have q3 : i < gn.length := by omega
  have w1 := BE i (by omega)
  have b0 := Fk hx h1 h8 i
  have b1 := Tj hx hga h1 h8 i
  have w3 := AX (x := x.getD i default - A4 x) (by omega)
  have w4 := AX (x := (x.getD i default - A4 x) * gn.getD i default) (by omega)
  have hl2 : ((Ah x gn).take i).length ≤ 1048576 := by rw [List.length_take, GA]; omega
  refine Cu hks3 ei3 ev q1 ?_
  refine AO [(0, []), (1, []), (2, []), (3, []), (4, []), (5, []), (6, []), (7, []), (8, []), (9, []), (10, []), (11, []), (12, []), (13, []), (14, []), (15, []), (16, []), (17, [])] (by kernel_rfl) ?_
  refine Cu q2 q3 w3 w4 ?_
  refine AA (DU (by omega) (by omega)) ?_
  rintro _ _ ⟨rfl, rfl⟩
  refine zr ?_
  refine AA (CS (by omega) (by omega)) ?_
  rintro _ _ ⟨rfl, rfl⟩
  refine zr ?_
  refine GS (P := Tryz.prog) (D := fun _ => none) Go.Ai.ty_el25 Go.Ai.ty_zr3 Go.Ai.ty_cl25 (by omega) ow hle3 (by omega) nn3 hl2 ?_
  intro v4 g4 ow4 le4 nn4 on4
  refine A1 w1 ?_
  exact AI (m3 - 1) (by omega) AL ⟨i + 1, v4, le4, nn4, AL, AL, by omega, (Lg q2).symm ▸ ow4⟩
 ·refine FD hks3 ei3 ev q1 c0 ?_
  have hi : i = (Ah x gn).length := by rw [GA]; omega
  rw [hi, List.take_length] at ow
  exact ⟨hle3, v, rfl, ow⟩
end Go.Bi
end
section
set_option maxRecDepth 20000
namespace Go.Bi
open Go.Proofs
open Go.Ai (wrap_i64 wrap_u64 wrap_u8 Heap)
variable {W0 : World} {P : Program}
set_option maxHeartbeats 4000000
theorem fB {D : Nat → Option (List Nat)} {g0 g : H2} {K : KT} {t u U y N : Nat} {xs : List Int} {x : X} {f : AQ} {s s2 : Int} (he : Go.Ai.elt? P t = some (U, 1, y)) (hz : Go.Ai.zr? P U = some [.int .i64 0]) (hu : Go.Ai.cls? P u = some .sl)
  (hy : y ≤ 1000) (hx : Al N g x xs) (hle : g0.le g) (h0 : hn g0 .mk ≤ N) (hN : N ≤ hn g .mk) (hn0 : xs.length ≤ 1048576)
  (hk : ∀ v' g', Al N g' v' (xs ++ [s, s2]) → g0.le g' → N ≤ hn g' .mk → (∀ c, c < N → hg g' c .mk = hg g c .mk) → kz K v' g' .mk) :
  az (EN P (g.up (hn g .mk + 1)) .append [t, u] [x, .sl f 1 [[.v (.int .i64 s)], [.v (.int .i64 s2)]]] .mk) K .mk := by
 refine DO (z := 0) (m := 2) (news := [cI s, cI s2]) (N := N) he hz rfl hu (Own.keep hx (AK (H2.le.refl _) (Nat.le_succ _))) (by rw [AF]; omega) rfl rfl rfl ?_ ?_
 ·have : Go.Ai.most = 1099511627776 := rfl
  have : (xs.length + 2) * (y + 1) ≤ 1048578 * 1001 := Nat.mul_le_mul (by omega) (by omega)
  omega
 intro v4 g4 o4 n4 l4 k4
 rw [AF] at n4
 refine hk v4 g4 ?_ (l4 g0 h0 (AK hle (Nat.le_succ _))) (by omega) fun c hc => (k4 c (by rw [AF]; omega) fun e => ?_)
 ·unfold Al
  rw [List.map_append, List.length_append]
  exact o4
 obtain ⟨_, h⟩ := hx
 rcases h with ⟨rfl, _⟩ | ⟨q, rfl, a1, _⟩
 ·cases e
 ·simp only [AP, Option.some.injEq] at e; omega
theorem MB {c s : List Int} {hd i : Nat} {x : List Int} (he : i % 2 = 0) (h : i + 1 < x.length) : (DR c s hd x).take (i + 2) = (DR c s hd x).take i ++ [TU (x.getD i default) (x.getD (i + 1) default) (c.getD (i % hd / 2) default) (s.getD (i % hd / 2) default), TR (x.getD i default) (x.getD (i + 1) default) (c.getD (i % hd / 2) default) (s.getD (i % hd / 2) default)] := by
 unfold DR
 rw [B0 (i := i + 1) h, B0 (i := i) (by omega), if_pos he, if_neg (by omega), Nat.add_sub_cancel, List.append_assoc]
 rfl
theorem K8 {hd i : Nat} (h3 : hd = 2 ∨ hd = 4 ∨ hd = 8) : i % hd / 2 < hd / 2 := by rcases h3 with rfl | rfl | rfl <;> omega
theorem Pa {hd n : Nat} (h3 : hd = 2 ∨ hd = 4 ∨ hd = 8) (h : n % hd = 0) : n % 2 = 0 := by rcases h3 with rfl | rfl | rfl <;> omega
theorem KW {a b c s : Int} {g : H2} (ha : -127 ≤ a ∧ a ≤ 127) (hb : -127 ≤ b ∧ b ≤ 127) (hc : -128 ≤ c ∧ c ≤ 128) (hs : -128 ≤ s ∧ s ≤ 128) : A7 Tryz.prog W0 237 [.raw (.int .i64 a), .raw (.int .i64 b), .raw (.int .i64 c), .raw (.int .i64 s)] g (fun v g' => v = .raw (.bool true) ∧ g' = g) := by
 refine AH [[0, 1, 2, 3], [0, 1, 2, 3]] Tryz.func237 rfl (rs := [.tmp 8]) rfl rfl ?_
 intro wf
 refine zr ?_
 refine AA BQ ?_
 rintro _ g ⟨rfl, rfl⟩
 rw [A8 ha.1 ha.2]
 refine zr ?_
 refine AA BQ ?_
 rintro _ g ⟨rfl, rfl⟩
 rw [A8 hb.1 hb.2]
 refine zr ?_
 refine AA BQ ?_
 rintro _ g ⟨rfl, rfl⟩
 rw [A8 hc.1 hc.2]
 refine zr ?_
 refine AA BQ ?_
 rintro _ g ⟨rfl, rfl⟩
 rw [A8 hs.1 hs.2]
 refine zr ?_
 exact ⟨rfl, rfl⟩
theorem XM {a b c s : Int} {g : H2} (ha : -127 ≤ a ∧ a ≤ 127) (hb : -127 ≤ b ∧ b ≤ 127) (hc : -128 ≤ c ∧ c ≤ 128) (hs : -128 ≤ s ∧ s ≤ 128) : A7 Tryz.prog W0 238 [.raw (.int .i64 a), .raw (.int .i64 b), .raw (.int .i64 c), .raw (.int .i64 s)] g (fun v g' => v = .tp [.raw (.int .i64 (TU a b c s)), .raw (.int .i64 (TR a b c s))] ∧ g' = g) := by
 refine AH [[0, 1, 2, 3], [0, 1, 2, 3], [], [0, 1, 2, 3]] Tryz.func238 rfl (rs := [.tmp 8, .tmp 9]) rfl rfl ?_
 intro wf
 obtain ⟨t1, t2, t3, t4⟩ := TN ha hb hc hs
 have w1 := AX (x := a * c) (by omega)
 have w2 := AX (x := b * s) (by omega)
 have w3 := AX (x := a * s) (by omega)
 have w4 := AX (x := b * c) (by omega)
 have w5 := AX (x := a * c - b * s) (by omega)
 have w6 := AX (x := a * s + b * c) (by omega)
 refine zr ?_
 refine AA (KW ha hb hc hs) ?_
 rintro _ g ⟨rfl, rfl⟩
 refine DH w1 w2 w5 ?_
 refine AA (Cs (by omega) (by omega)) ?_
 rintro _ g ⟨rfl, rfl⟩
 refine zr ?_
 refine AA (Ct (by omega) (by omega)) ?_
 rintro _ g ⟨rfl, rfl⟩
 refine DH w3 w4 w6 ?_
 refine AA (Cs (by omega) (by omega)) ?_
 rintro _ g ⟨rfl, rfl⟩
 refine zr ?_
 refine AA (Ct (by omega) (by omega)) ?_
 rintro _ g ⟨rfl, rfl⟩
 refine zr ?_
 exact ⟨rfl, rfl⟩
theorem YS {a b c s : Int} {g : H2} (ha : -127 ≤ a ∧ a ≤ 127) (hb : -127 ≤ b ∧ b ≤ 127) (hc : -128 ≤ c ∧ c ≤ 128) (hs : -128 ≤ s ∧ s ≤ 128) : A7 Tryz.prog W0 205 [.raw (.int .i64 a), .raw (.int .i64 b), .raw (.int .i64 c), .raw (.int .i64 s)] g (fun v g' => v = .tp [.raw (.int .i64 (TU a b c s)), .raw (.int .i64 (TR a b c s))] ∧ g' = g) := by
 refine AH [[0, 1, 2, 3], [0, 1, 2, 3], [], [0, 1, 2, 3]] Tryz.func205 rfl (rs := [.tmp 8, .tmp 9]) rfl rfl ?_
 intro wf
 obtain ⟨t1, t2, t3, t4⟩ := TN ha hb hc hs
 have w1 := AX (x := a * c) (by omega)
 have w2 := AX (x := b * s) (by omega)
 have w3 := AX (x := a * s) (by omega)
 have w4 := AX (x := b * c) (by omega)
 have w5 := AX (x := a * c - b * s) (by omega)
 have w6 := AX (x := a * s + b * c) (by omega)
 refine zr ?_
 refine AA Ab ?_
 rintro _ g ⟨rfl, rfl⟩
 rw [A8 ha.1 ha.2]
 refine zr ?_
 refine AA Ab ?_
 rintro _ g ⟨rfl, rfl⟩
 rw [A8 hb.1 hb.2]
 refine zr ?_
 refine AA Ab ?_
 rintro _ g ⟨rfl, rfl⟩
 rw [A8 hc.1 hc.2]
 refine zr ?_
 refine AA Ab ?_
 rintro _ g ⟨rfl, rfl⟩
 rw [A8 hs.1 hs.2]
 refine DH w1 w2 w5 ?_
 refine AA (DU (by omega) (by omega)) ?_
 rintro _ g ⟨rfl, rfl⟩
 refine zr ?_
 refine AA (CS (by omega) (by omega)) ?_
 rintro _ g ⟨rfl, rfl⟩
 refine DH w3 w4 w6 ?_
 refine AA (DU (by omega) (by omega)) ?_
 rintro _ g ⟨rfl, rfl⟩
 refine zr ?_
 refine AA (CS (by omega) (by omega)) ?_
 rintro _ g ⟨rfl, rfl⟩
 refine zr ?_
 exact ⟨rfl, rfl⟩
theorem Qg {F : Nat → AQ} {t : CD} {f : AQ} {p hd : Nat} {x : List Int} {g : H2} (h3 : hd = 2 ∨ hd = 4 ∨ hd = 8) (hm : x.length % hd = 0) (h8 : x.length ≤ 8) (hx : Ay 127 x)
  (hp : p < t.cos.length) (hcs : t.sin.length = t.cos.length) (hL : t.cos.length ≤ 100) (hc : (t.cos.getD p default).length = hd / 2) (hs : (t.sin.getD p default).length = hd / 2) (hca : allI (t.cos.getD p default) (-128) 128 = true) (hsa : allI (t.sin.getD p default) (-128) 128 = true) :
  A7 Tryz.prog W0 221 [.st (Gj F t), .raw (.int .i64 p), .raw (.int .i64 hd), .sl f 1 (ints x)] g (fun y g' => g.le g' ∧ ∃ v, y = .tp [v, .raw (.bool true)] ∧ Al (hn g .mk) g' v (DR (t.cos.getD p default) (t.sin.getD p default) hd x)) := by
 refine AH [[0, 1, 2, 3], [1, 2, 3, 4], [], [1, 2, 3, 4], [2, 3, 10, 11], [], [2, 3, 10, 11], [2, 3, 10, 11, 12], [2, 3, 10, 11, 12, 13], [2, 3, 10, 11, 12, 13], [2, 3, 10, 11, 12, 13], [2, 3, 10, 11, 12, 13, 14], [], [2, 3, 10, 11, 12, 13, 14], [2, 3, 10, 11, 12, 13, 15, 16], [12]] Tryz.func221 rfl (rs := [.tmp 8, .tmp 9]) rfl rfl ?_
 intro wf
 have hca2 := B3 hca (n := 128) (by omega) (by omega)
 have hsa2 := B3 hsa (n := 128) (by omega) (by omega)
 have hev := Pa h3 hm
 have hp2 : p < t.sin.length := by omega
 have z1 : decide ((0 : Int) = 1) = false := by decide
 have z2 : decide (¬ ((0 : Int) = 0)) = false := by decide
 have t1 : Int.tmod (hd : Int) 2 = 0 := by show ((hd % 2 : Nat) : Int) = 0; omega
 have t2 : Int.tmod (x.length : Int) (hd : Int) = 0 := by show ((x.length % hd : Nat) : Int) = 0; omega
 have t3 : ((hd : Int) == 0) = false := Cw
 have t41 : Int.tdiv (hd : Int) 2 = ((hd / 2 : Nat) : Int) := rfl
 have t4 : IntKind.i64.wrap ((hd / 2 : Nat) : Int) = ((hd / 2 : Nat) : Int) := by rw [wrap_i64] <;> omega
 have t5 : ¬ (x.length : Int) > 8 := by omega
 have t6 : Go.Ai.mnI (t.cos.length : Int) (t.sin.length : Int) = t.cos.length := by rw [Se]; omega
 have t7 := AX (x := (t.cos.length : Int) - 1) (by omega)
 have t8 : decide (¬ (((t.cos.getD p default).length : Nat) : Int) = ((hd / 2 : Nat) : Int)) = false := decide_eq_false (fun h => h (by omega))
 have t9 : decide (¬ (((t.sin.getD p default).length : Nat) : Int) = ((hd / 2 : Nat) : Int)) = false := decide_eq_false (fun h => h (by omega))
 have t0 : ¬ (p : Int) ≥ (t.sin.length : Int) := by omega
 refine zh ?_
 refine AA BQ ?_
 rintro _ _ ⟨rfl, rfl⟩
 rw [A8 (by omega) (by omega)]
 refine gj z1 t1 t2 t3 t5 t6 t7 ?_
 refine AA BQ ?_
 rintro _ _ ⟨rfl, rfl⟩
 rw [A8 (by omega) (by omega)]
 refine zh ?_
 refine AO [(0, []), (1, []), (2, []), (3, []), (4, []), (5, []), (6, []), (7, []), (8, []), (9, []), (10, []), (11, [])] (by kernel_rfl) ?_
 refine iE hp hp2 t41 t4 t8 t9 ?_
 refine AJ [2, 3, 10, 11] (fun m e h' => ∃ (i : Nat) (v : X), g.le h' ∧ hn g .mk + 1 ≤ hn h' .mk ∧ look e 13 .mk = .raw (.int .i64 (i : Nat)) ∧ look e 12 .mk = v ∧ m + i = x.length ∧ i % 2 = 0 ∧ Al (hn g .mk + 1) h' v ((DR (t.cos.getD p default) (t.sin.getD p default) hd x).take i)) x.length ?_ ?_
 ·exact ⟨0, _, le_push (le_push (H2.le.refl _)), by simp only [AB]; omega, AL, by simp -dsimp -implicitDefEqProofs only [go_sem] <;> rfl, by omega, rfl, Own.new (by simp only [AB]; omega) rfl⟩
 rintro m e h' hks ⟨i, v, hle, nn, ei, ev, hmm, hi2, ow⟩
 simp -dsimp -implicitDefEqProofs only [go_sem, sQ1] at hks
 have c0 := AT ow
 by_cases q1 : (i : Int) < (x.length : Int)
 ·have q2 : i < x.length := by omega
  have q3 : i + 1 < x.length := by omega
  have q4 : i % hd / 2 < (t.cos.getD p default).length := by rw [hc]; exact K8 h3
  have q5 : i % hd / 2 < (t.sin.getD p default).length := by rw [hs]; exact K8 h3
  have w1 := BE i (by omega)
  have w2 : IntKind.i64.wrap ((i : Int) + 2) = ((i + 2 : Nat) : Int) := by rw [wrap_i64] <;> omega
  have k1 : Int.tmod (i : Int) (hd : Int) = ((i % hd : Nat) : Int) := rfl
  have k3 : i % hd ≤ 8 := by have := Nat.mod_lt i (show 0 < hd by omega); omega
  have k21 : Int.tdiv ((i % hd : Nat) : Int) 2 = ((i % hd / 2 : Nat) : Int) := rfl
  have k2 : IntKind.i64.wrap ((i % hd / 2 : Nat) : Int) = ((i % hd / 2 : Nat) : Int) := by rw [wrap_i64] <;> omega
  have hl2 : ((DR (t.cos.getD p default) (t.sin.getD p default) hd x).take i).length ≤ 1048576 := by rw [List.length_take, Et]; omega
  have A := Ag (by omega) hx i
  have B := Ag (by omega) hx (i + 1)
  have C := Ag (by omega) hca2 (i % hd / 2)
  have S := Ag (by omega) hsa2 (i % hd / 2)
  refine UK hks ei ev q1 t3 k1 k21 k2 ?_
  refine AO [(0, []), (1, []), (2, []), (3, []), (4, []), (5, []), (6, []), (7, []), (8, []), (9, []), (10, []), (11, []), (12, []), (13, []), (14, []), (15, []), (16, []), (17, []), (18, [])] (by kernel_rfl) ?_
  refine FD q2 q3 q4 q5 w1 ?_
  refine AA (KW A B C S) ?_
  rintro _ _ ⟨rfl, rfl⟩
  refine zr ?_
  refine AO [(0, []), (1, []), (2, []), (3, []), (4, []), (5, []), (6, []), (7, []), (8, []), (9, []), (10, []), (11, []), (12, []), (13, []), (14, []), (15, []), (16, []), (17, []), (18, []), (19, []), (20, []), (21, []), (22, [])] (by kernel_rfl) ?_
  refine FD q2 q3 q4 q5 w1 ?_
  refine AA (XM A B C S) ?_
  rintro _ _ ⟨rfl, rfl⟩
  refine zr ?_
  refine fB (P := Tryz.prog) (D := fun _ => none) Go.Ai.ty_el25 Go.Ai.ty_zr3 Go.Ai.ty_cl25 (by omega) ow hle (by omega) nn hl2 ?_
  intro v4 g4 ow4 le4 nn4 on4
  skip
  refine A1 w2 ?_
  exact AI (m - 2) (by omega) AL ⟨i + 2, v4, le4, nn4, AL, AL, by omega, by omega, (MB hi2 q3).symm ▸ ow4⟩
 ·refine FD hks ei ev q1 c0 ?_
  have hi : i = (DR (t.cos.getD p default) (t.sin.getD p default) hd x).length := by rw [Et]; omega
  rw [hi, List.take_length] at ow
  exact ⟨hle, v, rfl, ow.wide (by omega)⟩
theorem KY {F : Nat → AQ} {t : CD} {f : AQ} {p hd : Nat} {x : List Int} {g : H2} (h3 : hd = 2 ∨ hd = 4 ∨ hd = 8) (hm : x.length % hd = 0) (h8 : x.length ≤ 8) (hx : Ay 127 x)
  (hp : p < t.cos.length) (hcs : t.sin.length = t.cos.length) (hL : t.cos.length ≤ 100) (hc : (t.cos.getD p default).length = hd / 2) (hs : (t.sin.getD p default).length = hd / 2) (hca : allI (t.cos.getD p default) (-128) 128 = true) (hsa : allI (t.sin.getD p default) (-128) 128 = true) :
  A7 Tryz.prog W0 156 [.st (Gj F t), .raw (.int .i64 p), .raw (.int .i64 hd), .sl f 1 (ints x)] g (fun y g' => g.le g' ∧ ∃ v, y = .tp [v, .raw (.bool true)] ∧ Al (hn g .mk) g' v (DR (t.cos.getD p default) (t.sin.getD p default) hd x)) := by
 refine AH [[0, 1, 2, 3], [1, 2, 3, 4], [1, 2, 3, 4, 10], [10], [1, 2, 3, 4, 10], [10], [1, 2, 3, 4, 10], [1, 2, 3, 4, 10, 11], [1, 2, 3, 4, 10, 11], [1, 2, 3, 4, 10, 11], [1, 2, 3, 4, 10, 11, 12], [1, 2, 3, 4, 10, 11, 13, 14], [10]] Tryz.func156 rfl (rs := [.tmp 8, .tmp 9]) rfl rfl ?_
 intro wf
 have hca2 := B3 hca (n := 128) (by omega) (by omega)
 have hsa2 := B3 hsa (n := 128) (by omega) (by omega)
 have hev := Pa h3 hm
 have hp2 : p < t.sin.length := by omega
 have z1 : decide ((0 : Int) = 1) = false := by decide
 have z2 : decide (¬ ((0 : Int) = 0)) = false := by decide
 have t1 : Int.tmod (hd : Int) 2 = 0 := by show ((hd % 2 : Nat) : Int) = 0; omega
 have t2 : Int.tmod (x.length : Int) (hd : Int) = 0 := by show ((x.length % hd : Nat) : Int) = 0; omega
 have t3 : ((hd : Int) == 0) = false := Cw
 have t41 : Int.tdiv (hd : Int) 2 = ((hd / 2 : Nat) : Int) := rfl
 have t4 : IntKind.i64.wrap ((hd / 2 : Nat) : Int) = ((hd / 2 : Nat) : Int) := by rw [wrap_i64] <;> omega
 have t5 : ¬ (x.length : Int) > 8 := by omega
 have t6 : Go.Ai.mnI (t.cos.length : Int) (t.sin.length : Int) = t.cos.length := by rw [Se]; omega
 have t7 := AX (x := (t.cos.length : Int) - 1) (by omega)
 have t8 : decide (¬ (((t.cos.getD p default).length : Nat) : Int) = ((hd / 2 : Nat) : Int)) = false := decide_eq_false (fun h => h (by omega))
 have t9 : decide (¬ (((t.sin.getD p default).length : Nat) : Int) = ((hd / 2 : Nat) : Int)) = false := decide_eq_false (fun h => h (by omega))
 have t0 : ¬ (p : Int) ≥ (t.sin.length : Int) := by omega
 refine zh ?_
 refine AA Ab ?_
 rintro _ _ ⟨rfl, rfl⟩
 rw [A8 (by omega) (by omega)]
 refine iI t1 t2 t3 t5 t7 ?_
 refine AA Ab ?_
 rintro _ _ ⟨rfl, rfl⟩
 rw [A8 (by omega) (by omega)]
 have hne : (hn g .mk == hn g .mk + 1) = false := by simp
 refine iJ hne hp hp2 t0 t41 t4 t8 t9 ?_
 refine AD (BB (by omega)) ?_
 rintro _ n1 hn1 rfl
 rw [BM hx (by omega)]
 refine LM hne hp ?_
 refine AD (BB (by omega)) ?_
 rintro _ n2 hn2 rfl
 rw [hca]
 refine LM hne hp2 ?_
 refine AD (BB (by omega)) ?_
 rintro _ n3 hn3 rfl
 rw [hsa]
 simp only [AB, AF] at hn1 hn2 hn3
 refine zh ?_
 refine AJ [1, 2, 3, 4] (fun m e h' => ∃ (i : Nat) (v : X), g.le h' ∧ hn g .mk + 1 ≤ hn h' .mk ∧ hg h' (hn g .mk) .mk = some ⟨2, [.sl (F 0) 1 (AE t.cos), .sl (F 1) 1 (AE t.sin)]⟩ ∧ look e 11 .mk = .raw (.int .i64 (i : Nat)) ∧ look e 10 .mk = v ∧ m + i = x.length ∧ i % 2 = 0 ∧ Al (hn g .mk + 1) h' v ((DR (t.cos.getD p default) (t.sin.getD p default) hd x).take i)) x.length ?_ ?_
 ·refine ⟨0, _, ?_, by simp only [AF]; omega, by simp -dsimp -implicitDefEqProofs only [go_sem, Av, hne], AL, by simp -dsimp -implicitDefEqProofs only [go_sem] <;> rfl, by omega, rfl, ?_⟩
  ·exact AK (AK (AK (le_push (le_push (H2.le.refl _))) (by simp only [AB]; omega)) (by simp only [AF]; omega)) (by simp only [AF]; omega)
  ·exact Own.keep (Own.new (g := g.push _) (by rw [AB]; exact Nat.le_refl _) rfl) (AK (AK (AK (H2.le.refl _) (by simp only [AB]; omega)) (by simp only [AF]; omega)) (by simp only [AF]; omega))
 rintro m e h' hks ⟨i, v, hle, nn, row, ei, ev, hmm, hi2, ow⟩
 simp -dsimp -implicitDefEqProofs only [go_sem, sQ1] at hks
 have c0 := AT ow
 by_cases q1 : (i : Int) < (x.length : Int)
 ·have q2 : i < x.length := by omega
  have q3 : i + 1 < x.length := by omega
  have q4 : i % hd / 2 < (t.cos.getD p default).length := by rw [hc]; exact K8 h3
  have q5 : i % hd / 2 < (t.sin.getD p default).length := by rw [hs]; exact K8 h3
  have w1 := BE i (by omega)
  have w2 : IntKind.i64.wrap ((i : Int) + 2) = ((i + 2 : Nat) : Int) := by rw [wrap_i64] <;> omega
  have k1 : Int.tmod (i : Int) (hd : Int) = ((i % hd : Nat) : Int) := rfl
  have k3 : i % hd ≤ 8 := by have := Nat.mod_lt i (show 0 < hd by omega); omega
  have k21 : Int.tdiv ((i % hd : Nat) : Int) 2 = ((i % hd / 2 : Nat) : Int) := rfl
  have k2 : IntKind.i64.wrap ((i % hd / 2 : Nat) : Int) = ((i % hd / 2 : Nat) : Int) := by rw [wrap_i64] <;> omega
  have hl2 : ((DR (t.cos.getD p default) (t.sin.getD p default) hd x).take i).length ≤ 1048576 := by rw [List.length_take, Et]; omega
  have A := Ag (by omega) hx i
  have B := Ag (by omega) hx (i + 1)
  have C := Ag (by omega) hca2 (i % hd / 2)
  have S := Ag (by omega) hsa2 (i % hd / 2)
  refine UK hks ei ev q1 t3 k1 k21 k2 ?_
  refine AO [(0, []), (1, []), (2, []), (3, []), (4, []), (5, []), (6, []), (7, []), (8, []), (9, []), (10, []), (11, []), (12, []), (13, []), (14, []), (15, []), (16, []), (17, []), (18, []), (19, []), (20, []), (21, []), (22, []), (23, []), (24, []), (25, []), (26, []), (27, []), (28, []), (29, []), (30, [])] (by kernel_rfl) ?_
  repeat (first | rw [ko] | rw [kr] | simp -dsimp -implicitDefEqProofs only [go_sem, sQ1, q2, q3, q4, q5, row, hp, hp2, w1])
  refine AA (YS A B C S) ?_
  rintro _ _ ⟨rfl, rfl⟩
  refine zr ?_
  refine fB (P := Tryz.prog) (D := fun _ => none) Go.Ai.ty_el25 Go.Ai.ty_zr3 Go.Ai.ty_cl25 (by omega) ow hle (by omega) nn hl2 ?_
  intro v4 g4 ow4 le4 nn4 on4
  have row4 := (on4 (hn g .mk) (by omega)).trans row
  refine A1 w2 ?_
  exact AI (m - 2) (by omega) AL ⟨i + 2, v4, le4, nn4, row4, AL, AL, by omega, by omega, (MB hi2 q3).symm ▸ ow4⟩
 ·refine FD hks ei ev q1 c0 ?_
  have hi : i = (DR (t.cos.getD p default) (t.sin.getD p default) hd x).length := by rw [Et]; omega
  rw [hi, List.take_length] at ow
  exact ⟨hle, v, rfl, ow.wide (by omega)⟩
end Go.Bi
end
section
set_option maxRecDepth 20000
namespace Go.Bi
open Go.Proofs
open Go.Ai (wrap_i64 wrap_u64 wrap_u8 Heap)
variable {W0 : World} {P : Program}
set_option maxHeartbeats 4000000
def ff (c : Int) (i : Nat) : Int := if c - (i : Int) * 4 < 4 then c - (i : Int) * 4 else 4
end Go.Bi
end
section
set_option maxRecDepth 20000
namespace Go.Bi
def hU (s : OQ) (t : Oq) (i : Nat) : List BS := s.pages.getD (t.pages.getD i default).toNat default
def Ds (s : OQ) (t : Oq) (k : Nat) : List BS := (List.range k).flatMap fun i => (hU s t i).take (ff t.count i).toNat
end Go.Bi
end
section
set_option maxRecDepth 20000
namespace Go.Bi
open Go.Proofs
open Go.Ai (wrap_i64 wrap_u64 wrap_u8 Heap)
variable {W0 : World} {P : Program}
set_option maxHeartbeats 4000000
theorem Ee : (t : T) → ∀ (f : AQ), H9 (fun _ => True) f t
 | .v _, _ => .v
 | .l z es, f => .l (fun _ _ _ _ => trivial) fun i j t h => by
  have : SizeOf.sizeOf t < SizeOf.sizeOf (T.l z es) := by
   cases he : es[i]? with
   | none => simp [he] at h
   | some e =>
    simp only [he, Option.bind_some] at h
    have h1 := List.sizeOf_lt_of_mem (List.mem_of_getElem? h)
    have h2 := List.sizeOf_lt_of_mem (List.mem_of_getElem? he)
    simp only [T.l.sizeOf_spec]
    omega
  exact Ee t _
termination_by t => SizeOf.sizeOf t
decreasing_by exact this
theorem Lq : ∀ {a b : List X} {x y : List T}, CR a = some x → CR b = some y → CR (a ++ b) = some (x ++ y)
 | [], b, x, y, h1, h2 => by simp only [CR, Option.some.injEq] at h1; subst h1; exact h2
 | c :: a, b, x, y, h1, h2 => by
  simp only [List.cons_append, CR] at h1 ⊢
  cases hc : Jc c with
  | none => rw [hc] at h1; cases h1
  | some t =>
   cases ha : CR a with
   | none => rw [hc, ha] at h1; cases h1
   | some r =>
    rw [hc, ha] at h1
    simp only [Option.some.injEq] at h1
    subst h1
    rw [Lq ha h2]; rfl
end Go.Bi
end
