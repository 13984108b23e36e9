/- What the cells of the laws' types hold (IntSS, Matrix, Merge, MergeS, Turns, Layer, LayerS, Model, Part, PartS, PartSS, Cell, CellS, CellSS, Store, Config, Table, Request, RequestS, Engine). -/
import Derived.Test.YtjofbadmkigkjaaHe
import Derived.Test.YtjofbadmkigkjaaBm
set_option linter.unusedSimpArgs false
set_option linter.unusedVariables false
set_option maxRecDepth 20000
namespace Go.Bi
open Go.Proofs
theorem ty_scal {P : Program} {n : Nat} {t : TypeId} {k : IntKind} {ts : List T} (hu : P.underlying t = some (.int k)) (h : typ P n t ts) : ∃ z : Int, ts = [.v (.int k z)] := by
  cases n with
  | zero => exact h.elim
  | succ n => simp only [typ, hu] at h; obtain ⟨z, h, _⟩ := h; exact ⟨z, h⟩
theorem ty_text {P : Program} {n : Nat} {t : TypeId} {ts : List T} (hu : P.underlying t = some .string) (h : typ P n t ts) : ∃ s : ByteArray, ts = [.v (.string s)] ∧ s.size ≤ 9223372036854775807 := by
  cases n with
  | zero => exact h.elim
  | succ n => simp only [typ, hu] at h; exact h
theorem ty_row {P : Program} {n z : Nat} {t e : TypeId} {ts : List T} {α : Type} {E : α → List T} {Fit : α → Prop} (hu : P.underlying t = some (.slice e)) (hz : P.cellsOf e = z) (he : ∀ {n : Nat} {us : List T}, typ P n e us → ∃ a, us = E a ∧ Fit a) (h : typ P n t ts) : ∃ l : List α, ts = [.l z (l.map E)] ∧ l.length ≤ 9223372036854775807 ∧ ∀ a ∈ l, Fit a := by
  cases n with
  | zero => exact h.elim
  | succ n =>
    simp only [typ, hu] at h
    obtain ⟨es, rfl, hl, hx⟩ := h
    obtain ⟨l, rfl, hf⟩ := of_each (E := E) (Fit := Fit) fun x hx' => he (hx x hx')
    exact ⟨l, by rw [hz], by simpa using hl, hf⟩
theorem tyIntS {n : Nat} {ts : List T} (h : typ Try.prog n 27 ts) : ∃ l : List Int, ts = [.l 1 (ints l)] ∧ l.length ≤ 9223372036854775807 := by
  obtain ⟨l, h1, h2, _⟩ := ty_row (E := eI) (Fit := fun _ => True) Try.underlying27 (by kernel_rfl) (fun h => by obtain ⟨z, hz⟩ := ty_scal Try.underlying3 h; exact ⟨z, hz, trivial⟩) h
  exact ⟨l, h1, h2⟩
theorem tyStringS {n : Nat} {ts : List T} (h : typ Try.prog n 24 ts) : ∃ l : List ByteArray, ts = [.l 1 (strs l)] ∧ (l.length ≤ 9223372036854775807 ∧ ∀ s ∈ l, s.size ≤ 9223372036854775807) := by
  obtain ⟨l, h1, h2, h3⟩ := ty_row (E := eS) (Fit := fun s => s.size ≤ 9223372036854775807) Try.underlying24 (by kernel_rfl) (fun h => ty_text Try.underlying9 h) h
  exact ⟨l, h1, h2, h3⟩
theorem tyIntSS {n : Nat} {ts : List T} (h : typ Try.prog n 39 ts) : ∃ l : List (List Int), ts = [.l 1 (rIntSS l)] ∧ fitIntSS l := by
  obtain ⟨l, h1, h2, h3⟩ := ty_row (E := eIntS) (Fit := fitIntS) Try.underlying39 (by kernel_rfl) (fun h => by obtain ⟨l, h1, h2⟩ := tyIntS h; exact ⟨l, h1, h2⟩) h
  exact ⟨l, h1, h2, h3⟩
theorem tyMatrix {n : Nat} {ts : List T} (h : typ Try.prog n 42 ts) : ∃ c : LMatrix, ts = eMatrix c ∧ fitMatrix c := by
  cases n with
  | zero => exact h.elim
  | succ n =>
    simp only [typ, Try.underlying42, typs] at h
    obtain ⟨a0, r0, rfl, h0, a1, r1, rfl, h1, a2, r2, rfl, h2, a3, r3, rfl, h3, a4, r4, rfl, h4, rfl⟩ := h
    obtain ⟨z0, rfl⟩ := ty_scal Try.underlying3 h0
    obtain ⟨z1, rfl, f1⟩ := tyIntSS h1
    obtain ⟨z2, rfl, f2⟩ := tyIntSS h2
    obtain ⟨z3, rfl⟩ := ty_scal Try.underlying3 h3
    obtain ⟨z4, rfl⟩ := ty_scal Try.underlying3 h4
    exact ⟨⟨z0, z1, z2, z3, z4⟩, rfl, ⟨f1, f2⟩⟩
theorem tyMerge {n : Nat} {ts : List T} (h : typ Try.prog n 152 ts) : ∃ c : LMerge, ts = eMerge c ∧ fitMerge c := by
  cases n with
  | zero => exact h.elim
  | succ n =>
    simp only [typ, Try.underlying152, typs] at h
    obtain ⟨a0, r0, rfl, h0, a1, r1, rfl, h1, rfl⟩ := h
    obtain ⟨z0, rfl⟩ := ty_scal Try.underlying3 h0
    obtain ⟨z1, rfl⟩ := ty_scal Try.underlying3 h1
    exact ⟨⟨z0, z1⟩, rfl, trivial⟩
theorem tyMergeS {n : Nat} {ts : List T} (h : typ Try.prog n 38 ts) : ∃ l : List LMerge, ts = [.l 2 (rMergeS l)] ∧ fitMergeS l := by
  obtain ⟨l, h1, h2, h3⟩ := ty_row (E := eMerge) (Fit := fitMerge) Try.underlying38 (by kernel_rfl) (fun h => tyMerge h) h
  exact ⟨l, h1, h2, h3⟩
theorem tyTurns {n : Nat} {ts : List T} (h : typ Try.prog n 44 ts) : ∃ c : LTurns, ts = eTurns c ∧ fitTurns c := by
  cases n with
  | zero => exact h.elim
  | succ n =>
    simp only [typ, Try.underlying44, typs] at h
    obtain ⟨a0, r0, rfl, h0, a1, r1, rfl, h1, rfl⟩ := h
    obtain ⟨z0, rfl, f0⟩ := tyIntSS h0
    obtain ⟨z1, rfl, f1⟩ := tyIntSS h1
    exact ⟨⟨z0, z1⟩, rfl, ⟨f0, f1⟩⟩
theorem tyLayer {n : Nat} {ts : List T} (h : typ Try.prog n 146 ts) : ∃ c : LLayer, ts = eLayer c ∧ fitLayer c := by
  cases n with
  | zero => exact h.elim
  | succ n =>
    simp only [typ, Try.underlying146, typs] at h
    obtain ⟨a0, r0, rfl, h0, a1, r1, rfl, h1, a2, r2, rfl, h2, a3, r3, rfl, h3, a4, r4, rfl, h4, a5, r5, rfl, h5, a6, r6, rfl, h6, a7, r7, rfl, h7, rfl⟩ := h
    obtain ⟨z0, rfl, f0⟩ := tyIntS h0
    obtain ⟨z1, rfl, f1⟩ := tyMatrix h1
    obtain ⟨z2, rfl, f2⟩ := tyMatrix h2
    obtain ⟨z3, rfl, f3⟩ := tyMatrix h3
    obtain ⟨z4, rfl, f4⟩ := tyMatrix h4
    obtain ⟨z5, rfl, f5⟩ := tyIntS h5
    obtain ⟨z6, rfl, f6⟩ := tyMatrix h6
    obtain ⟨z7, rfl, f7⟩ := tyMatrix h7
    exact ⟨⟨z0, z1, z2, z3, z4, z5, z6, z7⟩, rfl, ⟨f0, f1, f2, f3, f4, f5, f6, f7⟩⟩
theorem tyLayerS {n : Nat} {ts : List T} (h : typ Try.prog n 40 ts) : ∃ l : List LLayer, ts = [.l 32 (rLayerS l)] ∧ fitLayerS l := by
  obtain ⟨l, h1, h2, h3⟩ := ty_row (E := eLayer) (Fit := fitLayer) Try.underlying40 (by kernel_rfl) (fun h => tyLayer h) h
  exact ⟨l, h1, h2, h3⟩
theorem tyModel {n : Nat} {ts : List T} (h : typ Try.prog n 46 ts) : ∃ c : LModel, ts = eModel c ∧ fitModel c := by
  cases n with
  | zero => exact h.elim
  | succ n =>
    simp only [typ, Try.underlying46, typs] at h
    obtain ⟨a0, r0, rfl, h0, a1, r1, rfl, h1, a2, r2, rfl, h2, a3, r3, rfl, h3, a4, r4, rfl, h4, a5, r5, rfl, h5, a6, r6, rfl, h6, a7, r7, rfl, h7, a8, r8, rfl, h8, rfl⟩ := h
    obtain ⟨z0, rfl⟩ := ty_scal Try.underlying3 h0
    obtain ⟨z1, rfl⟩ := ty_scal Try.underlying3 h1
    obtain ⟨z2, rfl⟩ := ty_scal Try.underlying3 h2
    obtain ⟨z3, rfl, f3⟩ := tyMergeS h3
    obtain ⟨z4, rfl, f4⟩ := tyIntSS h4
    obtain ⟨z5, rfl, f5⟩ := tyLayerS h5
    obtain ⟨z6, rfl, f6⟩ := tyIntS h6
    obtain ⟨z7, rfl, f7⟩ := tyMatrix h7
    obtain ⟨z8, rfl, f8⟩ := tyTurns h8
    exact ⟨⟨z0, z1, z2, z3, z4, z5, z6, z7, z8⟩, rfl, ⟨f3, f4, f5, f6, f7, f8⟩⟩
theorem tyPart {n : Nat} {ts : List T} (h : typ Try.prog n 220 ts) : ∃ c : LPart, ts = ePart c ∧ fitPart c := by
  cases n with
  | zero => exact h.elim
  | succ n =>
    simp only [typ, Try.underlying220, typs] at h
    obtain ⟨a0, r0, rfl, h0, a1, r1, rfl, h1, rfl⟩ := h
    obtain ⟨z0, rfl⟩ := ty_scal Try.underlying3 h0
    obtain ⟨z1, rfl, f1⟩ := tyIntS h1
    exact ⟨⟨z0, z1⟩, rfl, f1⟩
theorem tyPartS {n : Nat} {ts : List T} (h : typ Try.prog n 214 ts) : ∃ l : List LPart, ts = [.l 2 (rPartS l)] ∧ fitPartS l := by
  obtain ⟨l, h1, h2, h3⟩ := ty_row (E := ePart) (Fit := fitPart) Try.underlying214 (by kernel_rfl) (fun h => tyPart h) h
  exact ⟨l, h1, h2, h3⟩
theorem tyPartSS {n : Nat} {ts : List T} (h : typ Try.prog n 200 ts) : ∃ l : List (List LPart), ts = [.l 1 (rPartSS l)] ∧ fitPartSS l := by
  obtain ⟨l, h1, h2, h3⟩ := ty_row (E := ePartS) (Fit := fitPartS) Try.underlying200 (by kernel_rfl) (fun h => by obtain ⟨l, h1, h2⟩ := tyPartS h; exact ⟨l, h1, h2⟩) h
  exact ⟨l, h1, h2, h3⟩
theorem tyCell {n : Nat} {ts : List T} (h : typ Try.prog n 202 ts) : ∃ c : LCell, ts = eCell c ∧ fitCell c := by
  cases n with
  | zero => exact h.elim
  | succ n =>
    simp only [typ, Try.underlying202, typs] at h
    obtain ⟨a0, r0, rfl, h0, a1, r1, rfl, h1, rfl⟩ := h
    obtain ⟨z0, rfl, f0⟩ := tyPartSS h0
    obtain ⟨z1, rfl, f1⟩ := tyPartSS h1
    exact ⟨⟨z0, z1⟩, rfl, ⟨f0, f1⟩⟩
theorem tyCellS {n : Nat} {ts : List T} (h : typ Try.prog n 184 ts) : ∃ l : List LCell, ts = [.l 2 (rCellS l)] ∧ fitCellS l := by
  obtain ⟨l, h1, h2, h3⟩ := ty_row (E := eCell) (Fit := fitCell) Try.underlying184 (by kernel_rfl) (fun h => tyCell h) h
  exact ⟨l, h1, h2, h3⟩
theorem tyCellSS {n : Nat} {ts : List T} (h : typ Try.prog n 63 ts) : ∃ l : List (List LCell), ts = [.l 1 (rCellSS l)] ∧ fitCellSS l := by
  obtain ⟨l, h1, h2, h3⟩ := ty_row (E := eCellS) (Fit := fitCellS) Try.underlying63 (by kernel_rfl) (fun h => by obtain ⟨l, h1, h2⟩ := tyCellS h; exact ⟨l, h1, h2⟩) h
  exact ⟨l, h1, h2, h3⟩
theorem tyStore {n : Nat} {ts : List T} (h : typ Try.prog n 65 ts) : ∃ c : LStore, ts = eStore c ∧ fitStore c := by
  cases n with
  | zero => exact h.elim
  | succ n =>
    simp only [typ, Try.underlying65, typs] at h
    obtain ⟨a0, r0, rfl, h0, a1, r1, rfl, h1, rfl⟩ := h
    obtain ⟨z0, rfl, f0⟩ := tyIntS h0
    obtain ⟨z1, rfl, f1⟩ := tyCellSS h1
    exact ⟨⟨z0, z1⟩, rfl, ⟨f0, f1⟩⟩
theorem tyConfig {n : Nat} {ts : List T} (h : typ Try.prog n 47 ts) : ∃ c : LConfig, ts = eConfig c ∧ fitConfig c := by
  cases n with
  | zero => exact h.elim
  | succ n =>
    simp only [typ, Try.underlying47, typs] at h
    obtain ⟨a0, r0, rfl, h0, a1, r1, rfl, h1, a2, r2, rfl, h2, a3, r3, rfl, h3, rfl⟩ := h
    obtain ⟨z0, rfl⟩ := ty_scal Try.underlying3 h0
    obtain ⟨z1, rfl⟩ := ty_scal Try.underlying3 h1
    obtain ⟨z2, rfl⟩ := ty_scal Try.underlying3 h2
    obtain ⟨z3, rfl, f3⟩ := tyStringS h3
    exact ⟨⟨z0, z1, z2, z3⟩, rfl, f3⟩
theorem tyTable {n : Nat} {ts : List T} (h : typ Try.prog n 163 ts) : ∃ c : LTable, ts = eTable c ∧ fitTable c := by
  cases n with
  | zero => exact h.elim
  | succ n =>
    simp only [typ, Try.underlying163, typs] at h
    obtain ⟨a0, r0, rfl, h0, a1, r1, rfl, h1, rfl⟩ := h
    obtain ⟨z0, rfl, f0⟩ := tyIntS h0
    obtain ⟨z1, rfl⟩ := ty_scal Try.underlying3 h1
    exact ⟨⟨z0, z1⟩, rfl, f0⟩
theorem tyRequest {n : Nat} {ts : List T} (h : typ Try.prog n 165 ts) : ∃ c : LRequest, ts = eRequest c ∧ fitRequest c := by
  cases n with
  | zero => exact h.elim
  | succ n =>
    simp only [typ, Try.underlying165, typs] at h
    obtain ⟨a0, r0, rfl, h0, a1, r1, rfl, h1, a2, r2, rfl, h2, a3, r3, rfl, h3, a4, r4, rfl, h4, a5, r5, rfl, h5, rfl⟩ := h
    obtain ⟨z0, rfl⟩ := ty_scal Try.underlying3 h0
    obtain ⟨z1, rfl, f1⟩ := tyIntS h1
    obtain ⟨z2, rfl, f2⟩ := tyConfig h2
    obtain ⟨z3, rfl⟩ := ty_scal Try.underlying161 h3
    obtain ⟨z4, rfl, f4⟩ := tyTable h4
    obtain ⟨z5, rfl⟩ := ty_scal Try.underlying3 h5
    exact ⟨⟨z0, z1, z2, z3, z4, z5⟩, rfl, ⟨f1, f2, f4⟩⟩
theorem tyRequestS {n : Nat} {ts : List T} (h : typ Try.prog n 66 ts) : ∃ l : List LRequest, ts = [.l 10 (rRequestS l)] ∧ fitRequestS l := by
  obtain ⟨l, h1, h2, h3⟩ := ty_row (E := eRequest) (Fit := fitRequest) Try.underlying66 (by kernel_rfl) (fun h => tyRequest h) h
  exact ⟨l, h1, h2, h3⟩
theorem tyEngine {n : Nat} {ts : List T} (h : typ Try.prog n 68 ts) : ∃ c : LEngine, ts = eEngine c ∧ fitEngine c := by
  cases n with
  | zero => exact h.elim
  | succ n =>
    simp only [typ, Try.underlying68, typs] at h
    obtain ⟨a0, r0, rfl, h0, a1, r1, rfl, h1, a2, r2, rfl, h2, rfl⟩ := h
    obtain ⟨z0, rfl, f0⟩ := tyModel h0
    obtain ⟨z1, rfl, f1⟩ := tyStore h1
    obtain ⟨z2, rfl, f2⟩ := tyRequestS h2
    exact ⟨⟨z0, z1, z2⟩, rfl, ⟨f0, f1, f2⟩⟩
end Go.Bi
