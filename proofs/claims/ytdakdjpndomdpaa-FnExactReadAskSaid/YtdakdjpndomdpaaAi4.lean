/- The abstract machine, part 4: each operation that calls no Go function does to the model's world what it does to the abstract heap. Nothing about the program stands here. -/
import Derived.Test.YtdakdjpndomdpaaAi3
set_option linter.unusedVariables false
set_option linter.unusedSimpArgs false
namespace Go.Ai
variable {P : Program} {W0 : World} {ι : Ren} {h : Heap} {w w' : World}

theorem sz_info {t n : Nat} (hs : sz? P t = some n) : ∃ i, P.info? t = some i ∧ i.size = n := by
  unfold sz? at hs
  cases hi : P.info? t with
  | none => rw [hi] at hs; cases hs
  | some i => rw [hi] at hs; simp at hs; exact ⟨i, rfl, hs⟩
theorem run_sz {t n : Nat} (hs : sz? P t = some n) (w : World) : (sizeOf t).run P w = .ok n w := by
  obtain ⟨i, hi, rfl⟩ := sz_info hs
  simp [sizeOf, typeInfo, hi, program, Sem.run]
theorem zr_info {t : Nat} {z : List Value} (hz : zr? P t = some z) : ∃ i v, P.info? t = some i ∧ i.zero = some v ∧ v.cells = z.toArray ∧ z.all plainS = true := by
  unfold zr? at hz
  cases hi : P.info? t with
  | none => rw [hi] at hz; simp at hz
  | some i =>
    rw [hi] at hz
    simp only [Option.bind_some] at hz
    cases hv : i.zero with
    | none => rw [hv] at hz; cases hz
    | some v =>
      rw [hv] at hz
      simp only at hz
      split at hz
      · rename_i hp; cases hz; exact ⟨i, v, rfl, hv, by simp, hp⟩
      · cases hz
theorem run_zr {t : Nat} {z : List Value} (hz : zr? P t = some z) (w : World) : ∃ v, (zeroValue t).run P w = .ok v w ∧ v.cells = z.toArray := by
  obtain ⟨i, v, hi, hv, hc, _⟩ := zr_info hz
  exact ⟨v, by simp [zeroValue, typeInfo, hi, hv, program, Sem.run], hc⟩
theorem run_agg {t : Nat} {b : Bool} (hd : agg? P t = some b) (w : World) : (isAgg t).run P w = .ok b w := by
  unfold agg? at hd
  cases hu : P.underlying t with
  | none => rw [hu] at hd; cases hd
  | some d =>
    rw [hu] at hd
    simp only [isAgg, run_underlying hu, Sem.run_bind, Result.andThen_ok]
    cases d <;> simp_all
theorem elt_info {t e z b : Nat} (h : elt? P t = some (e, z, b)) : P.underlying t = some (.slice e) ∧ ∃ i, P.info? e = some i ∧ i.size = z ∧ i.bytes = b := by
  unfold elt? at h
  split at h
  · rename_i e' hu
    cases hi : P.info? e' with
    | none => rw [hi] at h; cases h
    | some i => rw [hi] at h; simp at h; obtain ⟨rfl, rfl, rfl⟩ := h; exact ⟨hu, i, hi, rfl, rfl⟩
  · cases h
theorem fld_info {t f off n : Nat} {b : Bool} (h : fld? P t f = some (off, n, b)) :
    ∃ (fs : Array Field) (fl : Field), P.underlying t = some (.struct fs) ∧ fs[f]? = some fl ∧ fl.offset = off ∧ sz? P fl.type = some n ∧ agg? P fl.type = some b := by
  unfold fld? at h
  split at h
  · rename_i fs hu
    split at h
    · rename_i fl hf
      split at h
      · rename_i n' b' hs hb
        simp at h; obtain ⟨h1, rfl, rfl⟩ := h; exact ⟨fs, fl, hu, hf, h1, hs, hb⟩
      · cases h
    · cases h
  · cases h
theorem cellsL_R {x x' : Value} {cs : List Value} (hc : cellsL x = some cs) (r : R ι x x') : ∃ cs', x'.cells = cs'.toArray ∧ All2 (RS ι) cs cs' := by
  unfold cellsL at hc
  split at hc
  · cases hc; obtain ⟨cs', rfl, ha⟩ := r; exact ⟨cs'.toList, by simp [Value.cells], ha⟩
  · cases hc
  · cases hc
  · rename_i n1 n2 n3
    cases hc
    have r' : RS ι x x' := by
      unfold R at r; split at r
      · exact (n2 _ rfl).elim
      · unfold RG at r; split at r
        · exact (n1 _ rfl).elim
        · exact r
    refine ⟨[x'], ?_, .cons r' .nil⟩
    have := r'.one (by unfold okCell; split <;> first | exact (n3 _ rfl).elim | rfl)
    cases x' <;> simp_all [Value.cells, Value.oneCell']

theorem All2.ones : ∀ {l m : List Value}, All2 (RS ι) l m → l.all okCell = true → ∀ v ∈ m, v.oneCell' = true
  | _, _, .nil, _, v, hv => by simp at hv
  | _, _, .cons a b, ho, v, hv => by
    rw [List.all_cons, Bool.and_eq_true] at ho
    rcases List.mem_cons.1 hv with rfl | hv
    · exact a.one ho.1
    · exact All2.ones b ho.2 v hv

/-- A new row of cells that are told. -/
theorem Sim.newRow (s : Sim P W0 ι h w) {cs cs' : List Value} (ha : All2 (RS ι) cs cs') (more : List Value) (sz : Nat) (ty : TypeId) :
    ∃ ι', ι.le ι' ∧ Sim P W0 ι' (h.push ⟨true, sz, cs⟩) (w.alloc (.cells (cs' ++ more).toArray ty)) ∧ ι'.m h.n = some w.heap.size ∧ ι'.s w.heap.size = some ((cs' ++ more).length, sz) := by
  have := s.push (w' := w.alloc (.cells (cs' ++ more).toArray ty)) (k := ⟨true, sz, cs⟩) (cs' := (cs' ++ more).toArray) (ty := ty) (fr := (0, 0)) rfl
    (by have := ha.length; simp; omega) (fun j x hx => by
      obtain ⟨y, hy, r⟩ := ha.get hx
      have hlt := (List.getElem?_eq_some_iff.1 hy).1
      exact ⟨y, by simp [List.getElem?_append, hlt]; exact (List.getElem?_eq_some_iff.1 hy).2, r⟩) (fun o _ => by simp) rfl
  exact ⟨_, s.le_new _ _, this, by simp [Ren.new], by simp [Ren.new]⟩

theorem new_sound (s : Sim P W0 ι h w) {cs cs' : List Value} (ha : All2 (RS ι) cs cs') (sz : Nat) (ty : TypeId) :
    ∃ ι', ι.le ι' ∧ Sim P W0 ι' (newV h sz cs).2 (w.alloc (.cells cs'.toArray ty)) ∧ R ι' (newV h sz cs).1 (.pointer (some ⟨w.heap.size, 0, none⟩)) := by
  obtain ⟨ι', h1, h2, h3, _⟩ := s.newRow ha [] sz ty
  rw [List.append_nil] at h2
  exact ⟨ι', h1, h2, RS.toR ⟨_, h3, rfl, rfl⟩⟩

theorem rd_agg (s : Sim P W0 ι h w) {b c off n : Nat} {k : Blk} {l : List Value} (hk : h.get b = some k) (hc : ι.m b = some c) (hl : rd k.cs off n = some l) :
    ∃ l' : List Value, l'.length = n ∧ (loadCells ⟨c, off, none⟩ n).run P w = .ok l'.toArray w ∧ All2 (RS ι) l l' := by
  obtain ⟨l', h1, h2, h3, h4⟩ := s.stretch hk hc hl
  refine ⟨l', h1, ?_, h3⟩
  rw [← h1]
  exact run_loadCells_list w _ l' fun j v hv => by rw [Addr.add_lit]; exact h4 j v hv

theorem load_sound (s : Sim P W0 ι h w) {t : TypeId} {x x' v : Value} (hv : loadV P h t x = some v) (r : R ι x x') :
    ∃ v', (Instr.loadAt t x').run P w = .ok v' w ∧ R ι v v' := by
  unfold loadV at hv
  split at hv
  · rename_i a
    obtain ⟨c, hc, hs, rfl⟩ := r
    split at hv
    · rename_i k hk
      split at hv
      · rename_i hag
        split at hv
        · rename_i n hn
          cases hl : rd k.cs a.off n with
          | none => rw [hl] at hv; cases hv
          | some l =>
            rw [hl] at hv; simp at hv; subst hv
            obtain ⟨l', h1, hr, h3⟩ := rd_agg s hk hc hl
            refine ⟨.agg l'.toArray, ?_, ⟨_, rfl, by simpa using h3⟩⟩
            simp [Instr.loadAt, Instr.sureAddr, loadVar, run_agg hag, run_sz hn, hr]
        · cases hv
      · rename_i hag
        obtain ⟨y, hy, ry⟩ := s.at hk hc hv
        refine ⟨y, ?_, ry.toR⟩
        simp [Instr.loadAt, Instr.sureAddr, loadVar, run_agg hag, hy]
      · cases hv
    · cases hv
  · cases hv

theorem wrt_info {cs vs cs' : List Value} {off : Nat} (hw : wrt cs off vs = some cs') : off + vs.length ≤ cs.length ∧ cs' = cs.take off ++ vs ++ cs.drop (off + vs.length) := by
  unfold wrt at hw
  split at hw
  · cases hw; exact ⟨by assumption, rfl⟩
  · cases hw

/-- A stretch of cells that is written. -/
theorem Sim.write (s : Sim P W0 ι h w) {b c off : Nat} {k : Blk} {vs vs' cs : List Value} (hk : h.get b = some k) (hw : k.w = true) (hc : ι.m b = some c)
    (ha : All2 (RS ι) vs vs') (hcs : wrt k.cs off vs = some cs) : Sim P W0 ι (h.set b ⟨true, k.sz, cs⟩) (w.setCells c off vs') ∧
    (∀ j, j < vs'.length → (w.cell? ⟨c, off + j, none⟩).isSome = true ∧ w.frozen? ⟨c, off + j, none⟩ = false) := by
  obtain ⟨cs', ty, fr, h1, h2, h3, h4⟩ := s.cell b k c hk hc
  obtain ⟨hle, rfl⟩ := wrt_info hcs
  have hl := ha.length
  have hat := setCells_at (c := c) (ty := ty) (fr := fr) vs' off w cs' h1 (by omega)
  obtain ⟨h5, h6⟩ := h4 hw
  have hsize : (cs'.toList.take off ++ vs' ++ cs'.toList.drop (off + vs'.length)).toArray.size = cs'.size := by simp; omega
  constructor
  · refine s.upd hk hw hc (by rw [hsize]; exact h5) (by simp; omega) ?_ (by rw [hsize]; exact h6) hat (fun x hx => setCells_ne hx _ _ _) (setCells_size _ _ _) (setCells_env _ _ _)
    intro j x hx
    simp only [List.getElem?_append, List.length_append, List.length_take, List.getElem?_take, List.getElem?_drop] at hx
    have e1 : min off k.cs.length = off := by omega
    rw [e1] at hx
    have e2 : min off cs'.size = off := by omega
    simp only [List.getElem?_toArray, List.getElem?_append, List.length_append, List.length_take, List.getElem?_take, List.getElem?_drop, Array.length_toList, e2]
    by_cases hj : j < off
    · simp only [if_pos hj, if_pos (show j < off + vs.length by omega), if_pos (show j < off + vs'.length by omega)] at hx ⊢
      obtain ⟨y, hy, r⟩ := h3 j x hx; exact ⟨y, by simpa using hy, r⟩
    · by_cases hj2 : j < off + vs.length
      · simp only [if_neg hj, if_pos hj2, if_pos (show j < off + vs'.length by omega)] at hx ⊢
        exact ha.get hx
      · simp only [if_neg hj2, if_neg (show ¬ j < off + vs'.length by omega)] at hx ⊢
        obtain ⟨y, hy, r⟩ := h3 _ x hx
        exact ⟨y, by rw [← hl]; simpa using hy, r⟩
  · intro j hj
    have hlt : off + j < cs'.size := by omega
    exact ⟨by simp [World.cell?, h1, hlt], by simpa [World.frozen?, h1] using fun hx => Nat.le_of_not_lt fun hy => h6 _ hlt ⟨hx, hy⟩⟩

theorem store_sound (s : Sim P W0 ι h w) {t : TypeId} {x x' y y' : Value} {h' : Heap} (hv : storeV P h t x y = some h') (r : R ι x x') (ry : R ι y y') :
    ∃ w', (Instr.storeAt t x' y').run P w = .ok () w' ∧ Sim P W0 ι h' w' := by
  unfold storeV at hv
  split at hv
  · rename_i a vs n hvs hn
    obtain ⟨c, hc, hs, rfl⟩ := r
    obtain ⟨vs', hcv, ha⟩ := cellsL_R hvs ry
    split at hv
    · rename_i k hk
      split at hv
      · rename_i hwl
        cases hcs : wrt k.cs a.off vs with
        | none => rw [hcs] at hv; cases hv
        | some cs =>
          rw [hcs] at hv; simp at hv; subst hv
          obtain ⟨s1, s2⟩ := s.write hk hwl.1 hc ha hcs
          have hst := run_storeCells_cells (P := P) c a.off vs' 0 w (by simpa using fun j hj => (s2 j hj).1) (by simpa using fun j hj => (s2 j hj).2) (ha.ones hwl.2.2)
          simp only [Nat.add_zero] at hst
          have hlen : vs'.length = n := by rw [← ha.length]; exact hwl.2.1
          refine ⟨_, ?_, s1⟩
          simp [Instr.storeAt, Instr.sureAddr, storeVar, hcv, run_sz hn, hlen, hst]
      · cases hv
    · cases hv
  · cases hv

end Go.Ai
