/- Deep values, part 2: what an operation does to slots with deep values is what it does to the slots of the abstract machine that they stand for. Nothing about the program stands here. -/
import Derived.Test.YtdakdjpndomdpaaBi1
set_option linter.unusedVariables false
set_option linter.unusedSimpArgs false
namespace Go.Bi
open Go.Ai
variable {P : Program} {g : H2} {h : Heap}

theorem rd_sound {cs l : List X} {off n : Nat} (hr : rdL cs off n = some l) : rd (cs.map er) off n = some (l.map er) ∧ ∀ x ∈ l, x ∈ cs := by
  unfold rdL at hr
  split at hr
  · cases hr
    refine ⟨?_, fun x hx => List.mem_of_mem_drop (List.mem_of_mem_take hx)⟩
    unfold rd; rw [if_pos (by simpa using ‹off + n ≤ cs.length›)]
    simp [List.map_take, List.map_drop]
  · cases hr
theorem wrt_sound {cs vs l : List X} {off : Nat} (hr : wrtL cs off vs = some l) : wrt (cs.map er) off (vs.map er) = some (l.map er) ∧ ∀ x ∈ l, x ∈ cs ∨ x ∈ vs := by
  unfold wrtL at hr
  split at hr
  · cases hr
    refine ⟨?_, fun x hx => ?_⟩
    · unfold wrt; rw [if_pos (by simpa using ‹off + vs.length ≤ cs.length›)]
      simp [List.map_take, List.map_drop]
    · simp only [List.mem_append] at hx
      rcases hx with (hx | hx) | hx
      · exact .inl (List.mem_of_mem_take hx)
      · exact .inr hx
      · exact .inl (List.mem_of_mem_drop hx)
  · cases hr
theorem Ok.slV {f : Adr} {z : Nat} {es : List (List T)} (o : Ok h g (.sl f z es)) : ∃ a c, f [] = .slice a es.length c := by
  cases o with | sl r => cases r with | l a c h1 => exact ⟨a, c, h1⟩
theorem cells_sound {y : X} {vs : List X} (o : Ok h g y) (hc : cellsX y = some vs) : cellsL (er y) = some (vs.map er) ∧ ∀ x ∈ vs, Ok h g x := by
  cases o with
  | raw =>
    rename_i v
    cases v <;> simp only [cellsX] at hc <;> first
      | cases hc; done
      | (cases hc; refine ⟨rfl, fun x hx => ?_⟩; simp at hx; subst hx; exact .raw)
  | sl r =>
    obtain ⟨a, c, e⟩ := (Ok.sl r).slV
    simp only [cellsX] at hc; cases hc
    refine ⟨?_, fun x hx => ?_⟩
    · simp only [er, e, List.map_cons, List.map_nil]; rfl
    · simp at hx; subst hx; exact .sl r
  | pr h1 h2 h3 h0 h4 h5 =>
    simp only [cellsX] at hc; cases hc
    refine ⟨rfl, fun x hx => ?_⟩
    simp at hx; subst hx; exact .pr h1 h2 h3 h0 h4 h5
  | st hx => simp only [cellsX] at hc; cases hc; exact ⟨by simp [er, ers_eq, cellsL], hx⟩
  | tp => simp only [cellsX] at hc; cases hc
theorem ok_cell {x : X} (o : Ok h g x) (hx : okX x = true) : okCell (er x) = true := by
  cases o with
  | raw => rename_i v; cases v <;> first | rfl | (simp [okX] at hx)
  | sl r => obtain ⟨a, c, e⟩ := (Ok.sl r).slV; simp only [er, e]; rfl
  | pr => rfl
  | st => simp [okX] at hx
  | tp => simp [okX] at hx
theorem ok_cells {vs : List X} (o : ∀ x ∈ vs, Ok h g x) (hx : vs.all okX = true) : (vs.map er).all okCell = true := by
  rw [List.all_eq_true] at hx ⊢
  intro v hv
  obtain ⟨x, hx2, rfl⟩ := List.mem_map.1 hv
  exact ok_cell (o x hx2) (hx x hx2)

/-! ### States that change -/
theorem S.fresh (s : S g h) : g.get h.n = none := by
  cases hk : g.get h.n with
  | none => rfl
  | some k => have := (s.row _ _ hk).1; omega
theorem S.set (s : S g h) {b : Nat} {k : OB} (hb : g.get b = some k) {z : Nat} {cs : List X} (hz : k.z = z) (ok : ∀ x ∈ cs, Ok h g x) :
    S (g.set b ⟨z, cs⟩) (h.set b ⟨true, z, cs.map er⟩) ∧ Ext g h (g.set b ⟨z, cs⟩) (h.set b ⟨true, z, cs.map er⟩) := by
  have x : Ext g h (g.set b ⟨z, cs⟩) (h.set b ⟨true, z, cs.map er⟩) := by
    refine ⟨Nat.le_refl _, fun c _ hc => ?_, fun c _ hc => ?_⟩
    · have : ¬ c = b := fun e => by rw [e, hb] at hc; cases hc
      simp [Heap.set, this]
    · have : ¬ c = b := fun e => by rw [e, hb] at hc; cases hc
      simp [H2.set, this, hc]
  refine ⟨⟨s.n, fun c k' hc => ?_⟩, x⟩
  simp only [H2.set] at hc
  by_cases hcb : c = b
  · subst hcb
    rw [if_pos rfl] at hc; cases hc
    exact ⟨(s.row _ _ hb).1, by simp [Heap.set], fun y hy => (ok y hy).mono x⟩
  · rw [if_neg hcb] at hc
    obtain ⟨h1, h2, h3⟩ := s.row _ _ hc
    exact ⟨h1, by simp [Heap.set, hcb, h2], fun y hy => (h3 y hy).mono x⟩
theorem Ext.push {g : H2} {h : Heap} {k : OB} {k' : Blk} (hn : g.n = h.n) : Ext g h (g.push k) (h.push k') := by
  refine ⟨by simp [Heap.push], fun c hc _ => ?_, fun c hc hg => ?_⟩
  · have : ¬ c = h.n := by omega
    simp [Heap.push, this]
  · have : ¬ c = g.n := by omega
    simp [H2.push, this, hg]
theorem S.push (s : S g h) {z : Nat} {cs : List X} (ok : ∀ x ∈ cs, Ok h g x) :
    S (g.push ⟨z, cs⟩) (h.push ⟨true, z, cs.map er⟩) ∧ Ext g h (g.push ⟨z, cs⟩) (h.push ⟨true, z, cs.map er⟩) := by
  have x : Ext g h (g.push ⟨z, cs⟩) (h.push ⟨true, z, cs.map er⟩) := Ext.push s.n
  refine ⟨⟨by simp [H2.push, Heap.push, s.n], fun c k' hc => ?_⟩, x⟩
  simp only [H2.push] at hc
  by_cases hcb : c = g.n
  · subst hcb
    rw [if_pos rfl] at hc; cases hc
    exact ⟨by simp [Heap.push, s.n], by simp [Heap.push, s.n], fun y hy => (ok y hy).mono x⟩
  · rw [if_neg hcb] at hc
    obtain ⟨h1, h2, h3⟩ := s.row _ _ hc
    have : ¬ c = h.n := by omega
    exact ⟨by simp [Heap.push]; omega, by simp [Heap.push, this, h2], fun y hy => (h3 y hy).mono x⟩
theorem S.up (s : S g h) {k' : Blk} : S (g.up (g.n + 1)) (h.push k') ∧ Ext g h (g.up (g.n + 1)) (h.push k') := by
  have x : Ext g h (g.up (g.n + 1)) (h.push k') := by
    refine ⟨by simp [Heap.push], fun c hc _ => ?_, fun c hc hg => hg⟩
    have : ¬ c = h.n := by omega
    simp [Heap.push, this]
  refine ⟨⟨by simp [H2.up, Heap.push, s.n], fun c k hc => ?_⟩, x⟩
  obtain ⟨h1, h2, h3⟩ := s.row _ _ hc
  have : ¬ c = h.n := by omega
  exact ⟨by simp [Heap.push]; omega, by simp [Heap.push, this, h2], fun y hy => (h3 y hy).mono x⟩
theorem S.kill (s : S g h) {b : Nat} {k : OB} (hb : g.get b = some k) : S (g.kill b) (h.kill b) ∧ Ext g h (g.kill b) (h.kill b) := by
  have x : Ext g h (g.kill b) (h.kill b) := by
    refine ⟨Nat.le_refl _, fun c _ hc => ?_, fun c _ hc => ?_⟩
    · have : ¬ c = b := fun e => by rw [e, hb] at hc; cases hc
      simp [Heap.kill, this]
    · simp only [H2.kill]; split <;> simp_all
  refine ⟨⟨s.n, fun c k' hc => ?_⟩, x⟩
  simp only [H2.kill] at hc
  by_cases hcb : c = b
  · rw [if_pos hcb] at hc; cases hc
  · rw [if_neg hcb] at hc
    obtain ⟨h1, h2, h3⟩ := s.row _ _ hc
    exact ⟨h1, by simp [Heap.kill, hcb, h2], fun y hy => (h3 y hy).mono x⟩

/-! ### Reading -/
theorem er_mkC {f : Adr} {j : Nat} {t : T} (r : Rep h g (under f j) t) : er (mkC f j t) = f [j] := by
  cases r with
  | v h1 => simp only [mkC, er]; exact h1.symm
  | l => rfl
theorem ok_mkC {f : Adr} {j : Nat} {t : T} (r : Rep h g (under f j) t) : Ok h g (mkC f j t) := by
  cases t with
  | v x => exact .raw
  | l z es => exact .sl r
theorem mkL_get {f : Adr} : ∀ {ts : List T} {k i : Nat}, (mkL f k ts)[i]? = (ts[i]?).map (mkC f (k + i))
  | [], k, i => by simp [mkL]
  | t :: ts, k, 0 => by simp [mkL]
  | t :: ts, k, i + 1 => by simp only [mkL, List.getElem?_cons_succ, mkL_get]; congr 2; omega
theorem mkL_len {f : Adr} : ∀ {ts : List T} {k : Nat}, (mkL f k ts).length = ts.length
  | [], k => rfl
  | t :: ts, k => by simp [mkL, mkL_len]
theorem rd_of {cs l : List Value} {off : Nat} (h0 : off + l.length ≤ cs.length) (hl : ∀ i, i < l.length → cs[off + i]? = l[i]?) : rd cs off l.length = some l := by
  unfold rd; rw [if_pos h0]
  congr 1
  apply List.ext_getElem?
  intro i
  rw [List.getElem?_take]
  split
  · rename_i hi; rw [List.getElem?_drop]; exact hl i hi
  · rename_i hi; rw [List.getElem?_eq_none (by omega)]
theorem rd_mkL {cs : List Value} {off : Nat} {f : Adr} {ts : List T} {k : Nat} (h0 : off ≤ cs.length) (h1 : ∀ j t, ts[j]? = some t → cs[off + j]? = some (f [k + j])) (h2 : ∀ j t, ts[j]? = some t → Rep h g (under f (k + j)) t) :
    rd cs off ts.length = some ((mkL f k ts).map er) := by
  have hlen : ((mkL f k ts).map er).length = ts.length := by simp [mkL_len]
  rw [← hlen]
  refine rd_of ?_ fun i hi => ?_
  · rw [hlen]
    rcases Nat.eq_zero_or_pos ts.length with h3 | h3
    · omega
    · have h4 : ts[ts.length - 1]? = some ts[ts.length - 1] := List.getElem?_eq_getElem (by omega)
      have := h1 _ _ h4
      obtain ⟨hh, _⟩ := List.getElem?_eq_some_iff.1 this
      omega
  · rw [hlen] at hi
    have h4 : ts[i]? = some ts[i] := List.getElem?_eq_getElem hi
    rw [h1 _ _ h4, List.getElem?_map, mkL_get, h4]
    simp [er_mkC (h2 _ _ h4)]
theorem ok_mkL {f : Adr} {ts : List T} {k : Nat} (h2 : ∀ j t, ts[j]? = some t → Rep h g (under f (k + j)) t) : ∀ x ∈ mkL f k ts, Ok h g x := by
  intro x hx
  obtain ⟨i, hi⟩ := List.mem_iff_getElem?.1 hx
  rw [mkL_get] at hi
  cases ht : ts[i]? with
  | none => rw [ht] at hi; cases hi
  | some t => rw [ht] at hi; cases hi; exact ok_mkC (h2 i t ht)
theorem rd_append {cs x y : List Value} {o n m : Nat} (h1 : rd cs o n = some x) (h2 : rd cs (o + n) m = some y) : rd cs o (n + m) = some (x ++ y) := by
  unfold rd at h1 h2 ⊢
  split at h1
  · split at h2
    · cases h1; cases h2
      rw [if_pos (by omega)]
      congr 1
      rw [List.take_add, List.drop_drop]
    · cases h2
  · cases h1

theorem load_sound2 (s : S g h) {t : TypeId} {x y : X} (o : Ok h g x) (hx : loadX P g t x = some y) : loadV P h t (er x) = some (er y) ∧ Ok h g y := by
  cases o with
  | raw =>
    rename_i v
    unfold loadX at hx
    split at hx
    · rename_i a heq
      cases heq
      split at hx
      · rename_i k hk
        obtain ⟨h1, h2, h3⟩ := s.row _ _ hk
        simp only [er, loadV, h2]
        split at hx
        · rename_i hag
          split at hx
          · rename_i n hn
            simp only [hag, hn]
            cases hr : rdL k.cs a.off n with
            | none => rw [hr] at hx; cases hx
            | some l =>
              rw [hr] at hx; cases hx
              obtain ⟨e1, e2⟩ := rd_sound hr
              exact ⟨by rw [e1]; simp [er, ers_eq], .st fun z hz => h3 z (e2 z hz)⟩
          · cases hx
        · rename_i hag
          simp only [hag, List.getElem?_map]
          exact ⟨by rw [hx]; rfl, h3 y (List.mem_of_getElem? hx)⟩
        · cases hx
      · cases hx
    · rename_i heq; cases heq
    · cases hx
  | pr h1 h2 h3 h0 h4 h5 =>
    rename_i b off f ts w k cs
    simp only [loadX] at hx
    simp only [er, loadV, h3]
    split at hx
    · rename_i hag
      split at hx
      · rename_i n hn
        split at hx
        · rename_i hle
          cases hx
          simp only [hag, hn]
          have hts : ∀ (j : Nat) (t : T), (ts.take n)[j]? = some t → ts[j]? = some t := by
            intro j t ht; rw [List.getElem?_take] at ht; split at ht
            · exact ht
            · cases ht
          have hl : (ts.take n).length = n := by simp; omega
          have := rd_mkL (h := h) (g := g) (k := 0) (f := f) h0 (fun j t ht => by rw [Nat.zero_add]; exact h4 j t (hts j t ht)) (fun j t ht => by rw [Nat.zero_add]; exact h5 j t (hts j t ht))
          rw [hl] at this
          rw [this]
          exact ⟨by simp [er, ers_eq], .st (ok_mkL (k := 0) fun j t ht => by rw [Nat.zero_add]; exact h5 j t (hts j t ht))⟩
        · cases hx
      · cases hx
    · rename_i hag
      split at hx
      · rename_i t r
        cases hx
        simp only [hag]
        exact ⟨by rw [er_mkC (h5 0 t rfl)]; have := h4 0 t rfl; simpa using this, ok_mkC (h5 0 t rfl)⟩
      · cases hx
    · cases hx
  | _ => simp [loadX] at hx

theorem store_sound2 (s : S g h) {t : TypeId} {x y : X} {g' : H2} (oy : Ok h g y) (hx : storeX P g t x y = some g') : ∃ h', storeV P h t (er x) (er y) = some h' ∧ S g' h' ∧ Ext g h g' h' := by
  unfold storeX at hx
  split at hx
  · rename_i a vs n hvs hsz
    obtain ⟨c1, c2⟩ := cells_sound oy hvs
    split at hx
    · rename_i k hk
      obtain ⟨h1, h2, h3⟩ := s.row _ _ hk
      split at hx
      · rename_i hcond
        cases hw : wrtL k.cs a.off vs with
        | none => rw [hw] at hx; cases hx
        | some cs =>
          rw [hw] at hx; cases hx
          obtain ⟨w1, w2⟩ := wrt_sound hw
          obtain ⟨q1, q2⟩ := s.set (b := a.block) hk (cs := cs) rfl fun z hz => (w2 z hz).elim (h3 z) (c2 z)
          refine ⟨_, ?_, q1, q2⟩
          simp only [er, storeV, c1, hsz, h2]
          rw [if_pos ⟨trivial, by simpa using hcond.1, ok_cells c2 hcond.2⟩, w1]; rfl
      · cases hx
    · cases hx
  · cases hx
theorem fieldAddr_sound2 {t : TypeId} {x y : X} {f : Nat} (o : Ok h g x) (hx : fieldAddrX P t x f = some y) : fieldAddrV P t (er x) f = some (er y) ∧ Ok h g y := by
  cases o with
  | raw =>
    rename_i v
    simp only [fieldAddrX, rawO] at hx
    cases hv : fieldAddrV P t v f with
    | none => rw [hv] at hx; cases hx
    | some u => rw [hv] at hx; cases hx; exact ⟨hv, .raw⟩
  | pr h1 h2 h3 h0 h4 h5 =>
    rename_i b off f' ts w k cs
    simp only [fieldAddrX] at hx
    split at hx
    · rename_i o n q hf
      split at hx
      · rename_i hle
        cases hx
        refine ⟨by simp only [er, fieldAddrV, hf, offV], ?_⟩
        refine .pr h1 h2 h3 ?_ (fun j t ht => ?_) (fun j t ht => ?_)
        · show off + o ≤ cs.length
          rcases Nat.eq_zero_or_pos o with h6 | h6
          · omega
          · have h7 : ts[o - 1]? = some ts[o - 1] := List.getElem?_eq_getElem (by omega)
            obtain ⟨hh, _⟩ := List.getElem?_eq_some_iff.1 (h4 _ _ h7)
            omega
        · rw [List.getElem?_drop] at ht
          rw [Nat.add_assoc, h4 _ _ ht]; simp [shA, Nat.add_comm]
        · rw [List.getElem?_drop] at ht
          have := h5 _ _ ht
          have e : under (shA f' o) j = under f' (o + j) := by funext p; simp [under, shA, Nat.add_comm]
          rw [e]; exact this
      · cases hx
    · cases hx
  | _ => simp [fieldAddrX] at hx
end Go.Bi
