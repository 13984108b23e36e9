/- Rows of rows, and rows of structs: what their walks use. -/
import Derived.Test.YtjofbadmkigkjaaBc
set_option linter.unusedSimpArgs false
set_option linter.unusedVariables false
namespace Go.Bi
open Go.Ai (plainS)
theorem getD_mem {α : Type} [Inhabited α] {l : List α} {i : Nat} (h : i < l.length) : l.getD i default ∈ l := by
  rw [List.getD_eq_getElem?_getD, List.getElem?_eq_getElem h]; exact List.getElem_mem h
theorem take_next {α : Type} [Inhabited α] {l : List α} {i : Nat} (h : i < l.length) : l.take (i + 1) = l.take i ++ [l.getD i default] := by
  rw [List.take_succ_eq_append_getElem h, List.getD_eq_getElem?_getD, List.getElem?_eq_getElem h]; rfl
def sumN {α : Type} (f : α → Nat) : List α → Nat
  | [] => 0
  | x :: l => f x + sumN f l
theorem sumN_append {α : Type} {f : α → Nat} : ∀ {l m : List α}, sumN f (l ++ m) = sumN f l + sumN f m
  | [], _ => by simp [sumN]
  | x :: l, m => by simp only [List.cons_append, sumN, sumN_append]; omega
theorem sumN_take {α : Type} [Inhabited α] {f : α → Nat} {l : List α} {i : Nat} (h : i < l.length) : sumN f (l.take (i + 1)) = sumN f (l.take i) + f (l.getD i default) := by
  rw [take_next h, sumN_append]; simp [sumN]
theorem sumN_mem {α : Type} {f : α → Nat} {x : α} : ∀ {l : List α}, x ∈ l → f x ≤ sumN f l
  | y :: l, h => by
    rcases List.mem_cons.1 h with rfl | h
    · simp only [sumN]; omega
    · have := sumN_mem (f := f) h; simp only [sumN]; omega
theorem up_self {h : H2} : h = h.up (hn h .mk) := rfl
theorem OTs.append {g : H2} : ∀ {bs bs' : List Nat} {xs ys : List X} {ts us : List T}, OTs g bs xs ts → OTs g bs' ys us → OTs g (bs ++ bs') (xs ++ ys) (ts ++ us)
  | _, _, _, _, _, _, .nil, h => by simpa using h
  | _, _, _, _, _, _, .cons a b, h => by
    have := OTs.cons a (OTs.append b h)
    simpa only [List.append_assoc, List.cons_append] using this
theorem OT.okx {g : H2} {bs : List Nat} {x : X} {t : T} (o : OT g bs x t) : okX x = true ∧ cellsX x = some [x] := by
  cases o with
  | raw hp => rename_i v; cases v <;> first | exact ⟨rfl, rfl⟩ | simp [plainS] at hp
  | nil => exact ⟨rfl, rfl⟩
  | row => exact ⟨rfl, rfl⟩
theorem OTs.okx {g : H2} : ∀ {bs : List Nat} {xs : List X} {ts : List T}, OTs g bs xs ts → xs.all okX = true
  | _, _, _, .nil => rfl
  | _, _, _, .cons a b => by simp only [List.all_cons, a.okx.1, b.okx, Bool.and_self]
theorem OTs.one {g : H2} {bs : List Nat} {x : X} {t : T} (o : OT g bs x t) : OTs g bs [x] [t] := by
  have := OTs.cons o OTs.nil
  simpa using this
theorem flat_next {α : Type} [Inhabited α] {E : α → List T} {l : List α} {i : Nat} (h : i < l.length) : ((l.take (i + 1)).map E).flatten = ((l.take i).map E).flatten ++ E (l.getD i default) := by
  rw [take_next h]; simp
theorem flat_len {α : Type} {E : α → List T} {z : Nat} (hE : ∀ a, (E a).length = z) : ∀ {l : List α}, ((l.map E).flatten).length = l.length * z
  | [] => by simp
  | a :: l => by simp only [List.map_cons, List.flatten_cons, List.length_append, hE, flat_len hE, List.length_cons, Nat.succ_mul]; omega
/-- An element more of a row that is being filled. -/
theorem wrt_next {cs ys : List X} {k n z : Nat} (hc : cs.length = n * z) (hk : k < n) (hy : ys.length = z) : wrtL cs (k * z) ys = some (cs.take (k * z) ++ ys ++ cs.drop (k * z + z)) ∧ (cs.take (k * z) ++ ys ++ cs.drop (k * z + z)).length = n * z ∧ (cs.take (k * z) ++ ys ++ cs.drop (k * z + z)).take ((k + 1) * z) = cs.take (k * z) ++ ys := by
  have h1 : k * z + z ≤ n * z := by rw [← Nat.succ_mul]; exact Nat.mul_le_mul_right z hk
  refine ⟨?_, ?_, ?_⟩
  · simp only [wrtL, hy]; rw [if_pos (by omega)]
  · simp only [List.length_append, List.length_take, List.length_drop, hy]; omega
  · rw [List.take_append_of_le_length (by simp only [List.length_append, List.length_take, hy, Nat.succ_mul]; omega)]
    rw [List.take_of_length_le (by simp only [List.length_append, List.length_take, hy, Nat.succ_mul]; omega)]
/-- A row that is filled, as a tree. -/
theorem OT.full {g : H2} {b z : Nat} {bs : List Nat} {cs : List X} {α : Type} {E : α → List T} {l : List α} (hE : ∀ a, (E a).length = z) (hb : hg g b .mk = some ⟨z, cs⟩) (hc : cs.length = l.length * z) (o : OTs g bs (cs.take (l.length * z)) ((l.take l.length).map E).flatten) (bl : Bl (b + 1) (hn g .mk) bs) (hlt : b < hn g .mk) :
    OT g (b :: bs) (.raw (.slice (some ⟨b, 0, none⟩) l.length l.length)) (.l z (l.map E)) ∧ Bl b (hn g .mk) (b :: bs) := by
  refine ⟨.row hb hc (by simp) (fun e he => ?_) ?_, ?_⟩
  · obtain ⟨a, _, rfl⟩ := List.mem_map.1 he; exact hE a
  · rw [List.take_of_length_le (by omega), List.take_of_length_le (Nat.le_refl _)] at o; exact o
  · refine ⟨List.nodup_cons.2 ⟨fun h => by have := (bl.2 b h).1; omega, bl.1⟩, fun x hx => ?_⟩
    rcases List.mem_cons.1 hx with rfl | hx
    · omega
    · have := bl.2 x hx; omega
end Go.Bi
