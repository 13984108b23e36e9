/- The abstract machine, part 3: what new rows, written cells and rows that grow do to the relation between abstract and concrete heaps. Nothing about the program stands here. -/
import Derived.Test.YtdakdjpndomdpaaAi2
set_option linter.unusedVariables false
set_option linter.unusedSimpArgs false
namespace Go.Ai
variable {P : Program} {W0 : World} {ι : Ren} {h : Heap} {w w' : World}

theorem Sim.heap_eq (s : Sim P W0 ι h w) (e : w'.heap = w.heap) (ee : w'.os = w.os ∧ w'.tape = w.tape ∧ w'.output = w.output := by exact ⟨rfl, rfl, rfl⟩) : Sim P W0 ι h w' :=
  ⟨by rw [e]; exact s.base, by rw [e]; exact s.size, by rw [e]; exact s.dom, s.own, s.live, s.wr, s.ro, s.nle, s.inj, by rw [e]; exact s.cell, by rw [ee.1, ee.2.1, ee.2.2]; exact s.env⟩

theorem RS.toRG {x y : Value} (r : RS ι x y) : RG ι x y := by
  unfold RG; split
  · simp [RS] at r
  · exact r
theorem RG.toR {x y : Value} (r : RG ι x y) : R ι x y := by
  unfold R; split
  · simp [RG, RS] at r
  · exact r
theorem RS.toR {x y : Value} (r : RS ι x y) : R ι x y := r.toRG.toR
theorem RS.one {x y : Value} (hx : okCell x = true) (r : RS ι x y) : y.oneCell' = true := by
  unfold RS at r
  split at r <;> first
    | (obtain ⟨_, _, _, r⟩ := r; subst r; rfl)
    | (obtain ⟨_, _, _, _, _, _, _, _, r⟩ := r; subst r; rfl)
    | (obtain ⟨_, _, r⟩ := r; subst r; rfl)
    | (obtain ⟨_, _, r, _⟩ := r; subst r; rfl)
    | (subst r; rfl)
    | exact r.elim
    | simp [okCell] at hx

theorem Sim.at (s : Sim P W0 ι h w) {b c j : Nat} {k : Blk} {x : Value} (hb : h.get b = some k) (hc : ι.m b = some c) (hx : k.cs[j]? = some x) :
    ∃ y, w.cell? ⟨c, j, none⟩ = some y ∧ RS ι x y := by
  obtain ⟨cs', ty, fr, h1, _, h3, _⟩ := s.cell b k c hb hc
  obtain ⟨y, hy, r⟩ := h3 j x hx
  exact ⟨y, by simp [World.cell?, h1, hy], r⟩

/-- A stretch of a row. -/
theorem Sim.stretch (s : Sim P W0 ι h w) {b c off n : Nat} {k : Blk} {l : List Value} (hb : h.get b = some k) (hc : ι.m b = some c) (hl : rd k.cs off n = some l) :
    ∃ l' : List Value, l'.length = n ∧ l.length = n ∧ All2 (RS ι) l l' ∧ ∀ (j : Nat) (v : Value), l'[j]? = some v → w.cell? ⟨c, off + j, none⟩ = some v := by
  obtain ⟨cs', ty, fr, h1, h2, h3, _⟩ := s.cell b k c hb hc
  unfold rd at hl
  split at hl
  · rename_i hle
    simp at hl; subst hl
    refine ⟨(cs'.toList.drop off).take n, by simp; omega, by simp; omega, All2.of_get (by simp; omega) ?_, ?_⟩
    · intro i x y hx hy
      simp only [List.getElem?_take, List.getElem?_drop] at hx hy
      split at hx
      · rename_i hi
        simp only [if_pos hi] at hy
        obtain ⟨z, hz, r⟩ := h3 _ _ hx
        simp at hy
        rw [hz] at hy; cases hy; exact r
      · cases hx
    · intro j v hv
      simp only [List.getElem?_take, List.getElem?_drop] at hv
      split at hv
      · simp at hv; simp [World.cell?, h1, hv]
      · cases hv
  · cases hl

def Ren.new (ι : Ren) (b c N z : Nat) : Ren := ⟨fun x => if x = b then some c else ι.m x, fun x => if x = c then some (N, z) else ι.s x⟩

theorem Sim.fresh (s : Sim P W0 ι h w) : ι.m h.n = none := by
  cases e : ι.m h.n with
  | none => rfl
  | some c => have := (s.dom _ _ e).1; omega

theorem Sim.le_new (s : Sim P W0 ι h w) (N z : Nat) : ι.le (ι.new h.n w.heap.size N z) := by
  intro b c hb
  have := s.dom _ _ hb
  exact ⟨by simp [Ren.new, hb]; omega, by simp [Ren.new]; omega⟩

/-- A new row. -/
theorem Sim.push (s : Sim P W0 ι h w) {k : Blk} {cs' : Array Value} {ty : TypeId} {fr : Nat × Nat} (hk : k.w = true) (hl : k.cs.length ≤ cs'.size)
    (hc : ∀ (j : Nat) (x : Value), k.cs[j]? = some x → ∃ y : Value, cs'[j]? = some y ∧ RS ι x y) (hf : ∀ o, o < cs'.size → ¬ (fr.1 ≤ o ∧ o < fr.2))
    (he : w'.heap = w.heap.push (.cells cs' ty fr)) (ee : w'.os = w.os ∧ w'.tape = w.tape ∧ w'.output = w.output := by exact ⟨rfl, rfl, rfl⟩) : Sim P W0 (ι.new h.n w.heap.size cs'.size k.sz) (h.push k) w' := by
  have hle := s.le_new cs'.size k.sz
  refine ⟨?_, ?_, ?_, ?_, ?_, ?_, ?_, ?_, ?_, ?_, by rw [ee.1, ee.2.1, ee.2.2]; exact s.env⟩
  · intro b hb
    have := s.base b hb
    have h0 := s.size; have h1 := s.nle
    refine ⟨(hle _ _ this.1).1, ?_, ?_⟩
    · rw [he, Array.getElem?_push]; rw [if_neg (by omega)]; exact this.2.1
    · simp only [Ren.new]; rw [if_neg (by omega)]; exact this.2.2
  · have := s.size; rw [he]; simp; omega
  · intro b c hb
    simp only [Ren.new] at hb
    split at hb
    · cases hb; rw [he]; simp [Heap.push]; omega
    · have := s.dom _ _ hb; rw [he]; simp [Heap.push]; omega
  · intro b c hb hm
    simp only [Ren.new] at hm
    split at hm
    · cases hm; exact s.size
    · exact s.own b c hb hm
  · intro b k' hb
    simp only [Heap.push] at hb
    simp only [Ren.new]
    split at hb
    · rename_i e; exact ⟨_, by rw [if_pos e]⟩
    · rename_i e; obtain ⟨c, hc⟩ := s.live _ _ hb; exact ⟨c, by rw [if_neg e]; exact hc⟩
  · intro b k' hb hw
    simp only [Heap.push] at hb
    split at hb
    · rename_i e; rw [e]; exact s.nle
    · exact s.wr _ _ hb hw
  · intro b k' hb hw
    simp only [Heap.push] at hb
    split at hb
    · cases hb; rw [hk] at hw; cases hw
    · exact s.ro _ _ hb hw
  · have := s.nle; simp [Heap.push]; omega
  · intro b b' c k1 k2 hb hw hb' hm hm'
    simp only [Heap.push] at hb hb'
    simp only [Ren.new] at hm hm'
    split at hb <;> split at hb'
    · simp_all
    · rename_i e e'
      rw [if_pos e] at hm; rw [if_neg e'] at hm'
      cases hm; have := (s.dom _ _ hm').2; omega
    · rename_i e e'
      rw [if_neg e] at hm; rw [if_pos e'] at hm'
      cases hm'; have := (s.dom _ _ hm).2; omega
    · rename_i e e'
      rw [if_neg e] at hm; rw [if_neg e'] at hm'
      exact s.inj _ _ _ _ _ hb hw hb' hm hm'
  · intro b k' c hb hm
    simp only [Heap.push] at hb
    simp only [Ren.new] at hm
    split at hb
    · rename_i e
      rw [if_pos e] at hm; cases hm; cases hb
      refine ⟨cs', ty, fr, by rw [he]; simp, hl, fun j x hx => ?_, fun _ => ⟨by simp [Ren.new], hf⟩⟩
      obtain ⟨y, hy, r⟩ := hc j x hx
      exact ⟨y, hy, r.mono hle⟩
    · rename_i e
      rw [if_neg e] at hm
      obtain ⟨cs2, ty2, fr2, g1, g2, g3, g4⟩ := s.cell _ _ _ hb hm
      have hd := s.dom _ _ hm
      refine ⟨cs2, ty2, fr2, ?_, g2, fun j x hx => ?_, fun hw => ⟨?_, (g4 hw).2⟩⟩
      · rw [he, Array.getElem?_push, if_neg (by omega)]; exact g1
      · obtain ⟨y, hy, r⟩ := g3 j x hx; exact ⟨y, hy, r.mono hle⟩
      · simp only [Ren.new]; rw [if_neg (by omega)]; exact (g4 hw).1

/-- A row that is written. -/
theorem Sim.upd (s : Sim P W0 ι h w) {b c : Nat} {k : Blk} {cs2 : Array Value} {ty : TypeId} {fr : Nat × Nat} {cs : List Value}
    (hb : h.get b = some k) (hw : k.w = true) (hm : ι.m b = some c) (hsz : ι.s c = some (cs2.size, k.sz))
    (hl : cs.length ≤ cs2.size) (hc : ∀ (j : Nat) (x : Value), cs[j]? = some x → ∃ y : Value, cs2[j]? = some y ∧ RS ι x y) (hf : ∀ o, o < cs2.size → ¬ (fr.1 ≤ o ∧ o < fr.2))
    (he : w'.heap[c]? = some (.cells cs2 ty fr)) (ho : ∀ x, x ≠ c → w'.heap[x]? = w.heap[x]?) (hn : w'.heap.size = w.heap.size) (ee : w'.os = w.os ∧ w'.tape = w.tape ∧ w'.output = w.output := by exact ⟨rfl, rfl, rfl⟩) : Sim P W0 ι (h.set b ⟨true, k.sz, cs⟩) w' := by
  have hb0 := s.wr _ _ hb hw
  have hc0 := s.own _ _ hb0 hm
  refine ⟨?_, by rw [hn]; exact s.size, by rw [hn]; exact s.dom, s.own, ?_, ?_, ?_, s.nle, ?_, ?_, by rw [ee.1, ee.2.1, ee.2.2]; exact s.env⟩
  · intro x hx
    have := s.base x hx
    exact ⟨this.1, by rw [ho x (by omega)]; exact this.2.1, this.2.2⟩
  · intro x k' hx
    simp only [Heap.set] at hx
    split at hx
    · rename_i e; exact ⟨c, e ▸ hm⟩
    · exact s.live _ _ hx
  · intro x k' hx hxw
    simp only [Heap.set] at hx
    split at hx
    · rename_i e; rw [e]; exact hb0
    · exact s.wr _ _ hx hxw
  · intro x k' hx hxw
    simp only [Heap.set] at hx
    split at hx
    · cases hx; cases hxw
    · exact s.ro _ _ hx hxw
  · intro x x' y k1 k2 hx hxw hx' hm1 hm2
    simp only [Heap.set] at hx hx'
    split at hx <;> split at hx'
    · simp_all
    · rename_i e e'; rw [e] at hm1 ⊢; exact s.inj b x' y k k2 hb hw hx' hm1 hm2
    · rename_i e e'; rw [e'] at hm2 ⊢; exact s.inj x b y k1 k hx hxw hb hm1 hm2
    · exact s.inj _ _ _ _ _ hx hxw hx' hm1 hm2
  · intro x k' y hx hmx
    simp only [Heap.set] at hx
    split at hx
    · rename_i e
      subst e
      rw [hm] at hmx; cases hmx; cases hx
      exact ⟨cs2, ty, fr, he, hl, hc, fun _ => ⟨hsz, hf⟩⟩
    · rename_i e
      have hne : y ≠ c := by
        intro hy; subst hy
        exact e (s.inj b x y k k' hb hw hx hm hmx).symm
      obtain ⟨cs3, ty3, fr3, g1, g2, g3, g4⟩ := s.cell _ _ _ hx hmx
      exact ⟨cs3, ty3, fr3, by rw [ho _ hne]; exact g1, g2, g3, g4⟩

theorem Sim.kill (s : Sim P W0 ι h w) (b : Nat) : Sim P W0 ι (h.kill b) w := by
  have live : ∀ x k, (h.kill b).get x = some k → h.get x = some k := by
    intro x k hx
    simp only [Heap.kill] at hx
    split at hx
    · cases hx
    · exact hx
  exact ⟨s.base, s.size, s.dom, s.own, fun x k hx => s.live x k (live _ _ hx), fun x k hx => s.wr x k (live _ _ hx), fun x k hx => s.ro x k (live _ _ hx), s.nle,
    fun x x' c k k' hx hw hx' => s.inj x x' c k k' (live _ _ hx) hw (live _ _ hx'), fun x k c hx => s.cell x k c (live _ _ hx), s.env⟩

def Ren.also (ι : Ren) (b c : Nat) : Ren := ⟨fun x => if x = b then some c else ι.m x, ι.s⟩
theorem Sim.le_also (s : Sim P W0 ι h w) (c : Nat) : ι.le (ι.also h.n c) := by
  intro b c hb
  have := s.dom _ _ hb
  exact ⟨by simp [Ren.also, hb]; omega, rfl⟩

/-- A row that grows where it lies: it has a new number. -/
theorem Sim.move (s : Sim P W0 ι h w) {b c : Nat} {k : Blk} {cs2 : Array Value} {ty : TypeId} {fr : Nat × Nat} {cs : List Value}
    (hb : h.get b = some k) (hw : k.w = true) (hm : ι.m b = some c) (hsz : ι.s c = some (cs2.size, k.sz))
    (hl : cs.length ≤ cs2.size) (hc : ∀ (j : Nat) (x : Value), cs[j]? = some x → ∃ y : Value, cs2[j]? = some y ∧ RS ι x y) (hf : ∀ o, o < cs2.size → ¬ (fr.1 ≤ o ∧ o < fr.2))
    (he : w'.heap[c]? = some (.cells cs2 ty fr)) (ho : ∀ x, x ≠ c → w'.heap[x]? = w.heap[x]?) (hn : w'.heap.size = w.heap.size) (ee : w'.os = w.os ∧ w'.tape = w.tape ∧ w'.output = w.output := by exact ⟨rfl, rfl, rfl⟩) :
    Sim P W0 (ι.also h.n c) ((h.kill b).push ⟨true, k.sz, cs⟩) w' := by
  have hle := s.le_also c
  have s1 := s.upd hb hw hm hsz hl hc hf he ho hn ee
  have hbn := (s.dom _ _ hm).1
  have hb0 := s.wr _ _ hb hw
  have get' : ∀ x k', ((h.kill b).push ⟨true, k.sz, cs⟩).get x = some k' → (x = h.n ∧ k' = ⟨true, k.sz, cs⟩) ∨ (x ≠ h.n ∧ x ≠ b ∧ h.get x = some k') := by
    intro x k' hx
    by_cases e : x = h.n
    · simp [Heap.push, Heap.kill, e] at hx; exact .inl ⟨e, hx.symm⟩
    · by_cases e' : x = b
      · subst e'; simp [Heap.push, Heap.kill, e] at hx
      · simp [Heap.push, Heap.kill, e, e'] at hx; exact .inr ⟨e, e', hx⟩
  have gset : ∀ x k', x ≠ b → h.get x = some k' → (h.set b ⟨true, k.sz, cs⟩).get x = some k' := by
    intro x k' hne hx; simp only [Heap.set, if_neg hne]; exact hx
  have gb : (h.set b ⟨true, k.sz, cs⟩).get b = some ⟨true, k.sz, cs⟩ := by simp [Heap.set]
  refine ⟨?_, by rw [hn]; exact s.size, ?_, ?_, ?_, ?_, ?_, ?_, ?_, ?_, s1.env⟩
  · intro x hx
    have := s1.base x hx
    exact ⟨(hle _ _ this.1).1, this.2⟩
  · intro x y hx
    simp only [Ren.also] at hx
    split at hx
    · cases hx; have := s.dom _ _ hm; rw [hn]; simp [Heap.push, Heap.kill]; omega
    · have := s.dom _ _ hx; rw [hn]; simp [Heap.push, Heap.kill]; omega
  · intro x y hx hm'
    simp only [Ren.also] at hm'
    split at hm'
    · cases hm'; exact s.own _ _ hb0 hm
    · exact s.own _ _ hx hm'
  · intro x k' hx
    rcases get' _ _ hx with ⟨rfl, rfl⟩ | ⟨e, e', hx'⟩
    · exact ⟨c, by simp [Ren.also]⟩
    · obtain ⟨y, hy⟩ := s.live _ _ hx'; exact ⟨y, by simp [Ren.also, e, hy]⟩
  · intro x k' hx hxw
    rcases get' _ _ hx with ⟨rfl, rfl⟩ | ⟨e, e', hx'⟩
    · exact s.nle
    · exact s.wr _ _ hx' hxw
  · intro x k' hx hxw
    rcases get' _ _ hx with ⟨rfl, rfl⟩ | ⟨e, e', hx'⟩
    · cases hxw
    · exact s.ro _ _ hx' hxw
  · have := s.nle; simp [Heap.push, Heap.kill]; omega
  · intro x x' y k1 k2 hx hxw hx' hm1 hm2
    simp only [Ren.also] at hm1 hm2
    rcases get' _ _ hx with ⟨rfl, rfl⟩ | ⟨e, e', hx1⟩ <;> rcases get' _ _ hx' with ⟨rfl, rfl⟩ | ⟨f, f', hx2⟩
    · rfl
    · rw [if_pos rfl] at hm1; rw [if_neg f] at hm2; cases hm1
      exact absurd (s.inj b x' c k k2 hb hw hx2 hm hm2).symm f'
    · rw [if_neg e] at hm1; rw [if_pos rfl] at hm2; cases hm2
      exact absurd (s.inj x b c k1 k hx1 hxw hb hm1 hm) e'
    · rw [if_neg e] at hm1; rw [if_neg f] at hm2
      exact s.inj _ _ _ _ _ hx1 hxw hx2 hm1 hm2
  · intro x k' y hx hmx
    simp only [Ren.also] at hmx
    rcases get' _ _ hx with ⟨rfl, rfl⟩ | ⟨e, e', hx1⟩
    · rw [if_pos rfl] at hmx; cases hmx
      refine ⟨cs2, ty, fr, he, hl, fun j x hx => ?_, fun _ => ⟨hsz, hf⟩⟩
      obtain ⟨y, hy, r⟩ := hc j x hx; exact ⟨y, hy, r.mono hle⟩
    · rw [if_neg e] at hmx
      obtain ⟨cs3, ty3, fr3, g1, g2, g3, g4⟩ := s1.cell _ _ _ (gset _ _ e' hx1) hmx
      exact ⟨cs3, ty3, fr3, g1, g2, fun j x hx => by obtain ⟨y, hy, r⟩ := g3 j x hx; exact ⟨y, hy, r.mono hle⟩, g4⟩

/-! ### Cells that are written, one behind the other -/
theorem setCell_at {c o : Nat} {v : Value} {cs : Array Value} {ty : TypeId} {fr : Nat × Nat} (h : w.heap[c]? = some (.cells cs ty fr)) :
    (w.setCell ⟨c, o, none⟩ v).heap[c]? = some (.cells (cs.setIfInBounds o v) ty fr) := by
  simp [World.setCell, Array.getElem?_modify, h]
theorem setCell_ne {c o x : Nat} {v : Value} (hx : x ≠ c) : (w.setCell ⟨c, o, none⟩ v).heap[x]? = w.heap[x]? := by
  simp [World.setCell, Array.getElem?_modify, Ne.symm hx]
theorem setCells_env {c : Nat} : ∀ (vs : List Value) (o : Nat) (w : World), (w.setCells c o vs).os = w.os ∧ (w.setCells c o vs).tape = w.tape ∧ (w.setCells c o vs).output = w.output
  | [], o, w => ⟨rfl, rfl, rfl⟩
  | v :: r, o, w => setCells_env r (o + 1) (w.setCell ⟨c, o, none⟩ v)
theorem setCells_at {c : Nat} {ty : TypeId} {fr : Nat × Nat} : ∀ (vs : List Value) (o : Nat) (w : World) (cs : Array Value), w.heap[c]? = some (.cells cs ty fr) → o + vs.length ≤ cs.size →
    (w.setCells c o vs).heap[c]? = some (.cells (cs.toList.take o ++ vs ++ cs.toList.drop (o + vs.length)).toArray ty fr)
  | [], o, w, cs, h, _ => by simp [World.setCells, h]
  | v :: r, o, w, cs, h, hle => by
    simp only [List.length_cons] at hle
    rw [World.setCells, setCells_at r (o + 1) _ _ (setCell_at h) (by simp; omega)]
    congr 2
    apply Array.ext'
    simp only [Array.toList_setIfInBounds]
    have hlen : o < cs.toList.length := by simp; omega
    have e : cs.toList.set o v = cs.toList.take o ++ v :: cs.toList.drop (o + 1) := by rw [List.set_eq_take_append_cons_drop, if_pos hlen]
    have e2 : (cs.toList.take o).length = o := by rw [List.length_take]; omega
    rw [e]
    have e3 : (cs.toList.take o ++ v :: cs.toList.drop (o + 1)).take (o + 1) = cs.toList.take o ++ [v] := by
      rw [List.take_append, e2, List.take_of_length_le (by omega)]; simp
    have e4 : (cs.toList.take o ++ v :: cs.toList.drop (o + 1)).drop (o + 1 + r.length) = cs.toList.drop (o + (r.length + 1)) := by
      rw [List.drop_append, e2, List.drop_of_length_le (by omega), show o + 1 + r.length - o = r.length + 1 by omega, List.drop_succ_cons, List.drop_drop]
      simp; congr 1; omega
    rw [e3, e4]; simp
theorem setCells_ne {c x : Nat} (hx : x ≠ c) : ∀ (vs : List Value) (o : Nat) (w : World), (w.setCells c o vs).heap[x]? = w.heap[x]?
  | [], _, _ => rfl
  | v :: r, o, w => by rw [World.setCells, setCells_ne hx r]; exact setCell_ne hx
theorem setCells_size {c : Nat} : ∀ (vs : List Value) (o : Nat) (w : World), (w.setCells c o vs).heap.size = w.heap.size
  | [], _, _ => rfl
  | v :: r, o, w => by rw [World.setCells, setCells_size r]; simp [World.setCell]

end Go.Ai
