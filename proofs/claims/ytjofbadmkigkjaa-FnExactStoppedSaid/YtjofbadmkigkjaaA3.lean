/- The abstract machine: the heap at a call's start. Nothing about the program stands here. -/
import Derived.Test.YtjofbadmkigkjaaA2
import Derived.Below
import Derived.WideShapes
set_option linter.unusedVariables false
set_option linter.unusedSimpArgs false
namespace Go.Ai
open Go.WideShapes Go.RowKit
variable {P : Program} {W : World}

/-- A cell that is the same in the abstract machine. -/
def fine (n : Nat) : Value → Bool
  | .int _ _ => true
  | .bool _ => true
  | .string _ => true
  | .nilFunc => true
  | .nilIface => true
  | .pointer none => true
  | .pointer (some a) => a.spot.isNone && decide (a.block < n)
  | .slice none l k => (l == 0) && (k == 0)
  | .slice (some a) l k => a.spot.isNone && (decide (a.block < n) && decide (l ≤ k))
  | _ => false
/-- An empty row without room, wherever it stands. -/
def odd : Value → Bool
  | .slice (some _) l k => (l == 0) && (k == 0)
  | _ => false
def clean (n : Nat) (v : Value) : Value := if odd v = true then .map none else if fine n v = true then v else hole
def h0 (W : World) : Heap := ⟨W.heap.size, fun b => if b < W.heap.size then (match W.heap[b]? with | some (.cells cs _ _) => some ⟨false, 0, cs.toList.map (clean W.heap.size)⟩ | _ => none) else none⟩
def ι0 (W : World) : Ren := ⟨fun b => if b < W.heap.size then some b else none, fun _ => none⟩

theorem fine_RS {v : Value} (h : fine W.heap.size v = true) : RS (ι0 W) v v := by
  unfold fine at h
  split at h <;> (try rfl)
  · rename_i a
    simp at h
    obtain ⟨b, o, p⟩ := a
    obtain ⟨h1, h2⟩ := h
    simp only at h1 h2
    subst h1
    exact ⟨b, by simp [ι0, h2], rfl, rfl⟩
  · simp at h; obtain ⟨rfl, rfl⟩ := h; exact ⟨rfl, rfl, rfl⟩
  · rename_i a l k
    simp at h
    obtain ⟨b, o, p⟩ := a
    obtain ⟨h1, h2, h3⟩ := h
    simp only at h1 h2
    subst h1
    exact ⟨b, k, o, by simp [ι0, h2], rfl, h3, fun _ => rfl, fun N z hz => (by cases hz), rfl⟩
  · cases h
theorem clean_RS (v : Value) : RS (ι0 W) (clean W.heap.size v) v := by
  unfold clean
  split
  · rename_i h
    unfold odd at h
    split at h
    · rename_i a l k
      simp at h; obtain ⟨rfl, rfl⟩ := h
      exact ⟨a, rfl⟩
    · cases h
  · split
    · rename_i h; exact fine_RS h
    · exact trivial

theorem sim0 : Sim P W (ι0 W) (h0 W) W := by
  refine ⟨fun b hb => ⟨by simp [ι0, hb], rfl, rfl⟩, Nat.le_refl _, fun b c hb => ?_, fun b c hb hm => ?_, fun b k hk => ?_, fun b k hk hw => ?_, fun b k hk _ => ?_, Nat.le_refl _, fun b b' c k k' hk hw => ?_, fun b k c hk hm => ?_, ⟨rfl, rfl, rfl⟩⟩
  · simp only [ι0] at hb; split at hb
    · cases hb; rename_i h; exact ⟨h, h⟩
    · cases hb
  · simp only [ι0] at hm; split at hm
    · rename_i h; omega
    · cases hm
  · simp only [h0] at hk; split at hk
    · rename_i h; exact ⟨b, by simp [ι0, h]⟩
    · cases hk
  · simp only [h0] at hk; split at hk
    · split at hk
      · cases hk; cases hw
      · cases hk
    · cases hk
  · simp only [h0] at hk; split at hk
    · rename_i h; exact h
    · cases hk
  · simp only [h0] at hk; split at hk
    · split at hk
      · cases hk; cases hw
      · cases hk
    · cases hk
  · simp only [h0] at hk
    simp only [ι0] at hm
    split at hk
    · rename_i hb
      rw [if_pos hb] at hm; cases hm
      split at hk
      · rename_i cs ty fr hcs
        cases hk
        refine ⟨cs, ty, fr, hcs, by simp, fun j x hx => ?_, fun hw => by cases hw⟩
        simp only [List.getElem?_map, Array.getElem?_toList] at hx
        cases hy : cs[j]? with
        | none => rw [hy] at hx; cases hx
        | some y => rw [hy] at hx; simp at hx; subst hx; exact ⟨y, rfl, clean_RS y⟩
      · cases hk
    · cases hk

theorem sim_below {ι : Ren} {h : Heap} {w : World} (s : Sim P W ι h w) : Below W.heap.size W w := ⟨s.env.1, s.env.2.1, s.env.2.2, s.size, fun k hk => (s.base k hk).2.1⟩

/-- From a walk in the abstract machine to the call. -/
theorem call_of {f : FuncId} {args : List Value} {Q : Value → Heap → Prop} (c : WC P W f args (h0 W) Q) (ha : ∀ v ∈ args, R (ι0 W) v v) :
    Calls P f args.toArray W fun e w' => ∃ v v' h' ι', e = .returned v' ∧ Sim P W ι' h' w' ∧ R ι' v v' ∧ Q v h' := by
  have hall : ∀ l : List Value, (∀ v ∈ l, R (ι0 W) v v) → All2 (R (ι0 W)) l l := by
    intro l
    induction l with
    | nil => intro _; exact .nil
    | cons x l ih => intro h; exact .cons (h x (by simp)) (ih fun v hv => h v (by simp [hv]))
  exact (c.2 (ι0 W) W args.toArray sim0 (by simpa using hall args ha)).mono fun e w' ⟨v, v', h', ι', h1, _, h3, h4, h5⟩ => ⟨v, v', h', ι', h1, h3, h4, h5⟩
theorem call_true {f : FuncId} {args : List Value} {Q : Value → Heap → Prop} (c : WC P W f args (h0 W) Q) (hq : ∀ v h, Q v h → v = .bool true) (ha : ∀ v ∈ args, R (ι0 W) v v) :
    Calls P f args.toArray W fun e w' => e = .returned (.bool true) ∧ Below W.heap.size W w' :=
  (call_of c ha).mono fun e w' ⟨v, v', h', ι', h1, h3, h4, h5⟩ => by
    have := hq v h' h5
    subst this
    have h4 : v' = .bool true := h4
    subst h4
    exact ⟨h1, sim_below h3⟩

theorem okWide_row {base : Nat} {r : Reach} {t e : TypeId} {v : Value} (ht : P.underlying t = some (.slice e)) (h : Value.okWide P W r base t v) : fine W.heap.size v = true := by
  simp only [Value.okWide, ht, Cell.okWide] at h
  cases v <;> simp_all [Cell.ok]
  rename_i a l k
  cases a with
  | none => cases l <;> cases k <;> simp_all [fine]
  | some a =>
    obtain ⟨h1, h2, h3, h4, row, cells, h5, h6⟩ := h
    simp only [World.shape?] at h5
    have : a.block < W.heap.size := by
      by_cases hb : a.block < W.heap.size
      · exact hb
      · rw [Array.getElem?_eq_none (by omega)] at h5; cases h5
    simp [fine, h4, this, h1]

theorem h0_at {a : Addr} {i : Nat} {v : Value} (hs : a.spot = none) (h : W.cell? (a.add i) = some v) :
    a.block < W.heap.size ∧ ∃ cs, (h0 W).get a.block = some ⟨false, 0, cs⟩ ∧ cs[a.off + i]? = some (clean W.heap.size v) := by
  obtain ⟨b, o, p⟩ := a
  simp only at hs
  subst hs
  have e : (⟨b, o, none⟩ : Addr).add i = ⟨b, o + i, none⟩ := by
    unfold Addr.add; split
    · rename_i hi; simp [hi]
    · rfl
  rw [e] at h
  simp only [World.cell?] at h
  split at h
  · rename_i cs ty fr hcs
    simp only [Option.isSome_none, Bool.false_eq_true, if_false] at h
    have hb : b < W.heap.size := by
      by_cases hb : b < W.heap.size
      · exact hb
      · rw [Array.getElem?_eq_none (by omega)] at hcs; cases hcs
    refine ⟨hb, cs.toList.map (clean W.heap.size), ?_, ?_⟩
    · simp only [h0, if_pos hb]; rw [hcs]
    · simp only [List.getElem?_map, Array.getElem?_toList, h, Option.map_some]
  · cases h
theorem h0_cell {a : Addr} {i : Nat} {v : Value} (hs : a.spot = none) (h : W.cell? (a.add i) = some v) (hf : fine W.heap.size v = true) (ho : odd v = false) :
    a = ⟨a.block, a.off, none⟩ ∧ a.block < hn (h0 W) .mk ∧ ∃ cs, hg (h0 W) a.block .mk = some ⟨false, 0, cs⟩ ∧ cs[a.off + i]? = some v := by
  obtain ⟨b, o, p⟩ := a
  simp only at hs
  subst hs
  have e : (⟨b, o, none⟩ : Addr).add i = ⟨b, o + i, none⟩ := by
    unfold Addr.add; split
    · rename_i hi; simp [hi]
    · rfl
  rw [e] at h
  simp only [World.cell?] at h
  split at h
  · rename_i cs ty fr hcs
    simp only [Option.isSome_none, Bool.false_eq_true, if_false] at h
    have hb : b < W.heap.size := by
      by_cases hb : b < W.heap.size
      · exact hb
      · rw [Array.getElem?_eq_none (by omega)] at hcs; cases hcs
    refine ⟨rfl, hb, cs.toList.map (clean W.heap.size), ?_, ?_⟩
    · simp only [hg, h0, if_pos hb]; rw [hcs]
    · simp only [List.getElem?_map, Array.getElem?_toList, h, Option.map_some, clean, ho, Bool.false_eq_true, if_false, if_pos hf]
  · cases h
end Go.Ai
