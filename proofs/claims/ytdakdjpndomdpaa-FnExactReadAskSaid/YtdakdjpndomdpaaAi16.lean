/- The abstract machine, part 16: a region that draws its order meets its plan's run. Nothing about the program stands here. -/
import Derived.Test.YtdakdjpndomdpaaAi15
set_option linter.unusedVariables false
set_option linter.unusedSimpArgs false
namespace Go.Ai
variable {P : Program} {W0 : World}

theorem last_not {X : Nat → Prop} : ∀ (l : List Nat), (∃ q ∈ l, ¬ X q) → ∃ d1 q d2, l = d1 ++ q :: d2 ∧ ¬ X q ∧ ∀ j ∈ d2, X j
  | [], h => by obtain ⟨q, hq, _⟩ := h; cases hq
  | x :: l, h => by
    by_cases hl : ∃ q ∈ l, ¬ X q
    · obtain ⟨d1, q, d2, h1, h2, h3⟩ := last_not l hl
      exact ⟨x :: d1, q, d2, by rw [h1]; rfl, h2, h3⟩
    · obtain ⟨q, hq, hx⟩ := h
      rcases List.mem_cons.1 hq with rfl | hq
      · exact ⟨[], q, l, rfl, hx, fun j hj => Classical.not_not.1 fun hn => hl ⟨j, hj, hn⟩⟩
      · exact (hl ⟨q, hq, hx⟩).elim

section
variable {l : List Oper} {nt : Nat} {e0 : Env} {Q : QT} {ι0 : Ren} {S : Nat → Prop} {dn : List Nat} {rest : List (Nat × List Nat)} {val : Nat → Value} {ec es : Env} {h : Heap} {a : Act} {w : World}

theorem Inv.exists_ready (I : Inv P W0 l nt e0 Q ι0 S dn rest val ec es h a w) (hex : ∃ i, i < l.length ∧ ¬ S i) : ∃ i, i < l.length ∧ ¬ S i ∧ ∀ j ∈ bef l i, S j := by
  by_cases hd : ∃ q ∈ dn, ¬ S q
  · obtain ⟨d1, q, d2, h1, h2, h3⟩ := last_not dn hd
    exact ⟨q, I.inb q (by rw [h1]; simp), h2, fun j hj => h3 j (I.topo d1 q d2 h1 j hj)⟩
  · have hall : ∀ q ∈ dn, S q := fun q hq => Classical.not_not.1 fun hn => hd ⟨q, hq, hn⟩
    obtain ⟨i, hi, hn⟩ := hex
    have hir := (I.full i hi).resolve_left fun hh => hn (hall i hh)
    cases hrest : rest with
    | nil => rw [hrest] at hir; cases hir
    | cons p r =>
      obtain ⟨k, pd⟩ := p
      obtain ⟨k1, k2, k3, _⟩ := I.head hrest
      exact ⟨k, k2, fun hh => k1 (I.sub k hh), fun j hj => hall j (k3 j hj)⟩

theorem Inv.finish (I : Inv P W0 l nt e0 Q ι0 S dn rest val ec es h a w) (hall : ∀ i, i < l.length → S i) : Post P W0 nt ι0 Q .normal a w := by
  have hr : rest = [] := by
    cases hrest : rest with
    | nil => rfl
    | cons p r =>
      obtain ⟨k, pd⟩ := p
      obtain ⟨k1, k2, _⟩ := I.head hrest
      exact (k1 (I.sub k (hall k k2))).elim
  have hrun := I.run
  rw [hr] at hrun
  simp only [runP] at hrun
  have hee : ec = es := cur_eq I.cur (cur_imp (fun j => ⟨fun hj => I.sub j hj, fun hj => hall j (I.inb j hj)⟩) I.curS)
  obtain ⟨ι, h1, h2, h3⟩ := I.sim
  exact ⟨.normal, es, h, ι, rfl, h1, h2, h3, hee ▸ hrun⟩

theorem mem_ready {ops : Array Oper} {listed : Array Bool} (hs : listed.size = ops.size) {i : Nat} : i ∈ Region.ready .any ops listed ↔ i < ops.size ∧ listed.getD i false = false ∧ ∀ j ∈ bef ops.toList i, listed.getD j false = true := by
  unfold Region.ready bef
  rw [List.mem_filter, List.mem_range, Bool.and_eq_true]
  constructor
  · rintro ⟨h1, h2, h3⟩
    have ho : ops[i]? = some ops[i] := Array.getElem?_eq_getElem h1
    refine ⟨h1, by simp [Array.getD_eq_getD_getElem?, Array.getElem?_eq_getElem (show i < listed.size by omega)] at h2 ⊢; exact h2, ?_⟩
    rw [ho] at h3
    rw [Array.getElem?_toList, ho]
    simp only [Option.map_some, Option.getD_some] at h3 ⊢
    intro j hj
    obtain ⟨e, he, rfl⟩ := List.mem_map.1 hj
    obtain ⟨he1, he2⟩ := List.mem_filter.1 he
    have := Array.all_eq_true_iff_forall_mem.1 h3 e (by simpa using he1)
    simpa [he2] using this
  · rintro ⟨h1, h2, h3⟩
    have ho : ops[i]? = some ops[i] := Array.getElem?_eq_getElem h1
    refine ⟨h1, by simp [Array.getD_eq_getD_getElem?, Array.getElem?_eq_getElem (show i < listed.size by omega)] at h2 ⊢; exact h2, ?_⟩
    rw [Array.getElem?_toList, ho] at h3
    rw [ho]
    simp only [Option.map_some, Option.getD_some] at h3 ⊢
    refine Array.all_eq_true_iff_forall_mem.2 fun e he => ?_
    cases hb : Region.binds .any e with
    | false => simp
    | true => simpa using h3 e.on (List.mem_map.2 ⟨e, List.mem_filter.2 ⟨by simpa using he, hb⟩, rfl⟩)

theorem Inv.any {ops : Array Oper} (hl : l = ops.toList) (hoks : ∀ o ∈ l, okOper nt o = true) (g : glob l = true) : ∀ (fuel : Nat) (listed : Array Bool) (dn : List Nat) (rest : List (Nat × List Nat)) (val : Nat → Value) (ec es : Env) (h : Heap) (a : Act) (w : World),
    listed.size = ops.size → ((List.range l.length).filter fun i => !(listed.getD i false)).length ≤ fuel →
    Inv P W0 l nt e0 Q ι0 (fun i => listed.getD i false = true) dn rest val ec es h a w → wpAny P .any ops (Post P W0 nt ι0 Q) fuel listed a w := by
  have hlen : l.length = ops.size := by rw [hl]; simp
  intro fuel
  induction fuel with
  | zero =>
    intro listed dn rest val ec es h a w hsz hf I
    have hall : ∀ i, i < l.length → listed.getD i false = true := by
      intro i hi
      have : i ∉ (List.range l.length).filter fun i => !(listed.getD i false) := by
        rw [List.eq_nil_of_length_eq_zero (Nat.le_zero.1 hf)]; simp
      simpa [List.mem_filter, hi] using this
    refine ⟨?_, I.finish hall⟩
    rw [List.eq_nil_iff_forall_not_mem]
    intro i hi
    obtain ⟨h1, h2, _⟩ := (mem_ready hsz).1 hi
    rw [hall i (by omega)] at h2; cases h2
  | succ fuel ih =>
    intro listed dn rest val ec es h a w hsz hf I
    constructor
    · intro hr
      refine I.finish fun i hi => Classical.not_not.1 fun hn => ?_
      obtain ⟨k, h1, h2, h3⟩ := I.exists_ready ⟨i, hi, hn⟩
      have : k ∈ Region.ready .any ops listed := (mem_ready hsz).2 ⟨by omega, by simpa using h2, by rw [← hl]; exact h3⟩
      rw [hr] at this; cases this
    · intro i hi
      obtain ⟨h1, h2, h3⟩ := (mem_ready hsz).1 hi
      obtain ⟨dn', rest', val', ec', I', hhd⟩ := I.ahead g
      refine wpOp_mono ?_ (I'.step (QQ := Post P W0 nt ι0 Q) hl hoks g hhd (by omega) (by simp [h2]) (by rw [hl]; exact h3))
      rintro a' w' ⟨dn2, rest2, val2, ec2, es2, h2', I2⟩
      have hS : (fun j => j = i ∨ listed.getD j false = true) = fun j => (listed.setIfInBounds i true).getD j false = true := by
        funext j
        simp only [Array.getD_eq_getD_getElem?, Array.getElem?_setIfInBounds]
        by_cases hj : i = j
        · subst hj; simp [show i < listed.size by omega]
        · have hj' : ¬ j = i := fun e => hj e.symm
          simp [hj, hj']
      rw [hS] at I2
      refine ih _ _ _ _ _ _ _ _ _ (by simpa using hsz) ?_ I2
      have hfe : ((List.range l.length).filter fun j => !((listed.setIfInBounds i true).getD j false)) = ((List.range l.length).filter fun j => !(listed.getD j false)).filter fun j => decide (j ≠ i) := by
        rw [List.filter_filter]
        apply List.filter_congr
        intro j _
        have := congrFun hS j
        by_cases hj : j = i
        · subst hj; simp [Array.getD_eq_getD_getElem?, show j < listed.size by omega]
        · have e1 : (listed.setIfInBounds i true).getD j false = listed.getD j false := by
            simp only [Array.getD_eq_getD_getElem?, Array.getElem?_setIfInBounds, if_neg (fun hh : i = j => hj hh.symm)]
          rw [e1]; simp [hj]
      rw [hfe]
      have hlt : (((List.range l.length).filter fun j => !(listed.getD j false)).filter fun j => decide (j ≠ i)).length < ((List.range l.length).filter fun j => !(listed.getD j false)).length := by
        rw [List.length_filter_lt_length_iff_exists]
        exact ⟨i, List.mem_filter.2 ⟨by simp; omega, by simp [h2]⟩, by simp⟩
      omega
end

/-- The rule for regions that draw: some plan's run. -/
def DQ (P : Program) (W0 : World) : DT := fun l e h Q => ∃ p, okPlan P l p = true ∧ runP P W0 l p e h Q

theorem sound_DQ {nt : Nat} (hm : P.follows .mixedOrders = true) : SoundD P W0 nt (DQ P W0) fun _ => true := by
  intro id ops e h Q hoks _ hD ι a w hs hr
  obtain ⟨p, hp, hrun⟩ := hD
  simp only [okPlan, Bool.and_eq_true] at hp
  obtain ⟨g, hfull, hchk⟩ := hp
  refine wp_region_any hm ?_
  have hs' : Sim P W0 ι h { w with drawn := w.drawn + 1 } := ⟨hs.base, hs.size, hs.dom, hs.own, hs.live, hs.wr, hs.ro, hs.nle, hs.inj, hs.cell, hs.env⟩
  have hrep : ∀ i, (Array.replicate ops.size false).getD i false = false := by
    intro i; simp only [Array.getD_eq_getD_getElem?, Array.getElem?_replicate]; split <;> rfl
  refine Inv.any (l := ops.toList) (e0 := e) rfl hoks g ops.size _ [] p (fun _ => undef) e e h a _ (by simp) ?_ ?_
  · refine Nat.le_trans (List.length_filter_le _ _) (by simp)
  · refine ⟨?_, ?_, ?_, ?_, ?_, ?_, hchk, ?_, ?_, ?_, hrun, ι, Ren.le_refl _, hs', hr⟩
    · intro i hi; simp only [hrep] at hi; cases hi
    · intro i hi; simp only [hrep] at hi; cases hi
    · intro i hi; cases hi
    · intro d1 q d2 hd; cases d1 <;> cases hd
    · intro i hi; cases hi
    · intro i hi
      have := List.all_eq_true.1 hfull i (by simpa using hi)
      exact .inr (by simpa using this)
    · intro t; exact ⟨fun j hj => (by cases hj), fun _ => rfl⟩
    · intro t; exact ⟨fun j hj => (by simp only [hrep] at hj; cases hj), fun _ => rfl⟩
    · intro q hq; cases hq

end Go.Ai
