/- Rows of numbers: turning of neighbours, merging of sorted ones, the best ones. Plain Lean; nothing about the program stands here. -/
namespace Go.Bi
/-- What stands at a place. -/
def lat (l : List Int) (i : Nat) : Int := l.getD i 0
theorem lat_set {l : List Int} {i j : Nat} {v : Int} (h : i < l.length) : lat (l.set i v) j = if j = i then v else lat l j := by
  unfold lat
  simp only [List.getD_eq_getElem?_getD, List.getElem?_set]
  by_cases hj : i = j
  · subst hj; simp [h]
  · have : ¬ j = i := fun e => hj e.symm
    simp [hj, this]
section
variable (K : Int → Int)
/-- The greater one first, of like ones the one that came first. -/
def ltK (x y : Int) : Prop := K y < K x ∨ (K x = K y ∧ x < y)
def Srt (l : List Int) (a b : Nat) : Prop := ∀ i j, a ≤ i → i < j → j < b → ltK K (lat l i) (lat l j)
def Tie (l : List Int) (a m b : Nat) : Prop := ∀ i j, a ≤ i → i < m → m ≤ j → j < b → K (lat l i) = K (lat l j) → lat l i < lat l j
end
def Mem (l l' : List Int) (a b : Nat) : Prop := ∀ x, (∃ i, a ≤ i ∧ i < b ∧ lat l i = x) ↔ (∃ i, a ≤ i ∧ i < b ∧ lat l' i = x)
def Out (l l' : List Int) (a b : Nat) : Prop := l'.length = l.length ∧ ∀ i, i < a ∨ b ≤ i → lat l' i = lat l i
variable {K : Int → Int}
theorem ltK.trans {x y z : Int} (h : ltK K x y) (h' : ltK K y z) : ltK K x z := by
  unfold ltK at *; omega
theorem ltK.key {x y : Int} (h : ltK K x y) : K y ≤ K x := by
  unfold ltK at h; omega
theorem Out.refl {l : List Int} {a b : Nat} : Out l l a b := ⟨rfl, fun _ _ => rfl⟩
theorem Out.trans {l l' l'' : List Int} {a b : Nat} (o : Out l l' a b) (o' : Out l' l'' a b) : Out l l'' a b := ⟨o'.1.trans o.1, fun i h => (o'.2 i h).trans (o.2 i h)⟩
theorem Out.wide {l l' : List Int} {a b a' b' : Nat} (o : Out l l' a b) (h : a' ≤ a) (h' : b ≤ b') : Out l l' a' b' := ⟨o.1, fun i hi => o.2 i (by omega)⟩
theorem Mem.refl {l : List Int} {a b : Nat} : Mem l l a b := fun _ => Iff.rfl
theorem Mem.trans {l l' l'' : List Int} {a b : Nat} (o : Mem l l' a b) (o' : Mem l' l'' a b) : Mem l l'' a b := fun x => (o x).trans (o' x)
theorem Mem.of_out {l l' : List Int} {a b a' b' : Nat} (o : Out l l' a' b') (h : b ≤ a' ∨ b' ≤ a) : Mem l l' a b := fun x => by
  constructor
  · rintro ⟨i, h1, h2, h3⟩; exact ⟨i, h1, h2, (o.2 i (by omega)).trans h3⟩
  · rintro ⟨i, h1, h2, h3⟩; exact ⟨i, h1, h2, (o.2 i (by omega)).symm.trans h3⟩
theorem Mem.join {l l' : List Int} {a m b : Nat} (h1 : Mem l l' a m) (h2 : Mem l l' m b) (ha : a ≤ m) (hb : m ≤ b) : Mem l l' a b := fun x => by
  constructor
  · rintro ⟨i, p, q, r⟩
    by_cases hi : i < m
    · obtain ⟨j, p', q', r'⟩ := (h1 x).1 ⟨i, p, hi, r⟩; exact ⟨j, p', by omega, r'⟩
    · obtain ⟨j, p', q', r'⟩ := (h2 x).1 ⟨i, by omega, q, r⟩; exact ⟨j, by omega, q', r'⟩
  · rintro ⟨i, p, q, r⟩
    by_cases hi : i < m
    · obtain ⟨j, p', q', r'⟩ := (h1 x).2 ⟨i, p, hi, r⟩; exact ⟨j, p', by omega, r'⟩
    · obtain ⟨j, p', q', r'⟩ := (h2 x).2 ⟨i, by omega, q, r⟩; exact ⟨j, by omega, q', r'⟩
/-- A row with what stands at the places told by a map of the places. -/
theorem Mem.of_map {l l' : List Int} {a b : Nat} (f f' : Nat → Nat) (hf : ∀ i, a ≤ i → i < b → a ≤ f i ∧ f i < b ∧ lat l' i = lat l (f i)) (hf' : ∀ i, a ≤ i → i < b → a ≤ f' i ∧ f' i < b ∧ lat l i = lat l' (f' i)) : Mem l l' a b := fun x => by
  constructor
  · rintro ⟨i, p, q, r⟩; obtain ⟨p', q', r'⟩ := hf' i p q; exact ⟨f' i, p', q', r'.symm.trans r⟩
  · rintro ⟨i, p, q, r⟩; obtain ⟨p', q', r'⟩ := hf i p q; exact ⟨f i, p', q', r'.symm.trans r⟩
theorem Srt.sub {l : List Int} {a b a' b' : Nat} (h : Srt K l a b) (ha : a ≤ a') (hb : b' ≤ b) : Srt K l a' b' := fun i j h1 h2 h3 => h i j (by omega) h2 (by omega)
theorem Srt.out {l l' : List Int} {a b a' b' : Nat} (h : Srt K l a b) (o : Out l l' a' b') (hd : b ≤ a' ∨ b' ≤ a) : Srt K l' a b := fun i j h1 h2 h3 => by
  rw [o.2 i (by omega), o.2 j (by omega)]; exact h i j h1 h2 h3
theorem Srt.join {l : List Int} {a m b : Nat} (h1 : Srt K l a m) (h2 : Srt K l m b) (hx : ∀ i j, a ≤ i → i < m → m ≤ j → j < b → ltK K (lat l i) (lat l j)) : Srt K l a b := fun i j p q r => by
  by_cases hi : j < m
  · exact h1 i j p q hi
  · by_cases hj : i < m
    · exact hx i j p hj (by omega) r
    · exact h2 i j (by omega) q r
theorem Tie.lt {l : List Int} {a m b i j : Nat} (h : Tie K l a m b) (hi : a ≤ i) (hm : i < m) (hj : m ≤ j) (hb : j < b) : ltK K (lat l i) (lat l j) ↔ ¬ K (lat l i) < K (lat l j) := by
  have := h i j hi hm hj hb
  unfold ltK; omega
theorem Tie.gt {l : List Int} {a m b i j : Nat} (h : Tie K l a m b) (hi : a ≤ i) (hm : i < m) (hj : m ≤ j) (hb : j < b) : ltK K (lat l j) (lat l i) ↔ K (lat l i) < K (lat l j) := by
  have := h i j hi hm hj hb
  unfold ltK; omega
/-- Two neighbours of a row that change their places. -/
def Rot (l l' : List Int) (a m b : Nat) : Prop := Out l l' a b ∧ (∀ k, k < b - m → lat l' (a + k) = lat l (m + k)) ∧ ∀ k, k < m - a → lat l' (a + (b - m) + k) = lat l (a + k)
theorem Rot.mem {l l' : List Int} {a m b : Nat} (r : Rot l l' a m b) (ha : a ≤ m) (hb : m ≤ b) : Mem l l' a b := by
  obtain ⟨o, h1, h2⟩ := r
  refine Mem.of_map (fun i => if i < a + (b - m) then i - a + m else i - (b - m)) (fun i => if i < m then i + (b - m) else i - m + a) (fun i p q => ?_) (fun i p q => ?_)
  · try dsimp only
    split
    · rename_i h
      refine ⟨by omega, by omega, ?_⟩
      have := h1 (i - a) (by omega)
      rw [show a + (i - a) = i by omega, show m + (i - a) = i - a + m by omega] at this
      exact this
    · rename_i h
      refine ⟨by omega, by omega, ?_⟩
      have := h2 (i - (b - m) - a) (by omega)
      rw [show a + (b - m) + (i - (b - m) - a) = i by omega, show a + (i - (b - m) - a) = i - (b - m) by omega] at this
      exact this
  · try dsimp only
    split
    · rename_i h
      refine ⟨by omega, by omega, ?_⟩
      have := h2 (i - a) (by omega)
      rw [show a + (b - m) + (i - a) = i + (b - m) by omega, show a + (i - a) = i by omega] at this
      exact this.symm
    · rename_i h
      refine ⟨by omega, by omega, ?_⟩
      have := h1 (i - m) (by omega)
      rw [show a + (i - m) = i - m + a by omega, show m + (i - m) = i by omega] at this
      exact this.symm
/-- Two blocks of like length that change their places. -/
def Swp (l l' : List Int) (a b n : Nat) : Prop := l'.length = l.length ∧ (∀ k, k < n → lat l' (a + k) = lat l (b + k) ∧ lat l' (b + k) = lat l (a + k)) ∧ ∀ i, (i < a ∨ a + n ≤ i) → (i < b ∨ b + n ≤ i) → lat l' i = lat l i
theorem Swp.zero {l : List Int} {a b : Nat} : Swp l l a b 0 := ⟨rfl, fun k h => by omega, fun _ _ _ => rfl⟩
theorem Swp.step {l l' : List Int} {a b n : Nat} (s : Swp l l' a b n) (h : a + n < b) (hb : b + n < l.length) : Swp l ((l'.set (a + n) (lat l' (b + n))).set (b + n) (lat l' (a + n))) a b (n + 1) := by
  obtain ⟨h1, h2, h3⟩ := s
  have e : ∀ i, lat ((l'.set (a + n) (lat l' (b + n))).set (b + n) (lat l' (a + n))) i = if i = b + n then lat l' (a + n) else if i = a + n then lat l' (b + n) else lat l' i := fun i => by
    rw [lat_set (by simp; omega), lat_set (by omega)]
  have ea := h3 (a + n) (by omega) (by omega)
  have eb := h3 (b + n) (by omega) (by omega)
  refine ⟨by simp [h1], fun k hk => ?_, fun i p q => ?_⟩
  · rw [e, e]
    by_cases hkn : k = n
    · subst hkn
      rw [if_neg (by omega), if_pos rfl, if_pos rfl]
      exact ⟨eb, ea⟩
    · rw [if_neg (by omega), if_neg (by omega), if_neg (by omega), if_neg (by omega)]
      exact h2 k (by omega)
  · rw [e, if_neg (by omega), if_neg (by omega)]
    exact h3 i (by omega) (by omega)
/-- One round of the turning of two neighbours. -/
theorem Rot.left {l l1 l' : List Int} {m i j : Nat} (s : Swp l l1 (m - i) m j) (hm : i ≤ m) (hij : j < i) (r : Rot l1 l' (m - (i - j)) m (m + j)) : Rot l l' (m - i) m (m + j) := by
  obtain ⟨s1, s2, s3⟩ := s
  obtain ⟨⟨o1, o2⟩, h1, h2⟩ := r
  refine ⟨⟨o1.trans s1, fun x hx => (o2 x (by omega)).trans (s3 x (by omega) (by omega))⟩, fun k hk => ?_, fun k hk => ?_⟩
  · rw [o2 _ (by omega)]
    exact (s2 k (by omega)).1
  · by_cases hkj : k < j
    · have e := h1 k (by omega)
      rw [show m - (i - j) + k = m - i + (m + j - m) + k by omega] at e
      rw [e]; exact (s2 k (by omega)).2
    · have e := h2 (k - j) (by omega)
      rw [show m - (i - j) + (m + j - m) + (k - j) = m - i + (m + j - m) + k by omega, show m - (i - j) + (k - j) = m - i + k by omega] at e
      rw [e]; exact s3 _ (by omega) (by omega)
theorem Rot.right {l l1 l' : List Int} {m i j : Nat} (s : Swp l l1 (m - i) (m + j - i) i) (hm : i ≤ m) (hij : i < j) (r : Rot l1 l' (m - i) m (m + (j - i))) : Rot l l' (m - i) m (m + j) := by
  obtain ⟨s1, s2, s3⟩ := s
  obtain ⟨⟨o1, o2⟩, h1, h2⟩ := r
  refine ⟨⟨o1.trans s1, fun x hx => (o2 x (by omega)).trans (s3 x (by omega) (by omega))⟩, fun k hk => ?_, fun k hk => ?_⟩
  · by_cases hkj : k < j - i
    · have e := h1 k (by omega)
      rw [e]; exact s3 _ (by omega) (by omega)
    · have e := h2 (k - (j - i)) (by omega)
      rw [show m - i + (m + (j - i) - m) + (k - (j - i)) = m - i + k by omega] at e
      rw [e, (s2 (k - (j - i)) (by omega)).1]
      congr 1; omega
  · rw [o2 _ (by omega), show m - i + (m + j - m) + k = m + j - i + k by omega]
    exact (s2 k (by omega)).2
theorem Rot.last {l l1 : List Int} {m i : Nat} (s : Swp l l1 (m - i) m i) (hm : i ≤ m) : Rot l l1 (m - i) m (m + i) := by
  obtain ⟨s1, s2, s3⟩ := s
  refine ⟨⟨s1, fun x hx => s3 x (by omega) (by omega)⟩, fun k hk => ?_, fun k hk => ?_⟩
  · exact (s2 k (by omega)).1
  · rw [show m - i + (m + i - m) + k = m + k by omega]; exact (s2 k (by omega)).2
theorem Rot.none_l {l : List Int} {m b : Nat} : Rot l l m m b := ⟨Out.refl, fun _ _ => rfl, fun k hk => by omega⟩
theorem Rot.none_r {l : List Int} {a m : Nat} : Rot l l a m m := ⟨Out.refl, fun k hk => by omega, fun k _ => by rw [Nat.sub_self, Nat.add_zero]⟩
def Pre (K : Int → Int) (l : List Int) (a m b : Nat) : Prop := Srt K l a m ∧ Srt K l m b ∧ Tie K l a m b
def Mrg (K : Int → Int) (l l' : List Int) (a b : Nat) : Prop := Out l l' a b ∧ Mem l l' a b ∧ Srt K l' a b
theorem rot_pre {l l1 : List Int} {a s m e b : Nat} (p : Pre K l a m b) (h1 : a ≤ s) (h2 : s ≤ m) (h3 : m ≤ e) (h4 : e ≤ b) (r : Rot l l1 s m e)
    (x1 : s = a ∨ e = b ∨ ltK K (lat l (s - 1)) (lat l e)) (x2 : s = m ∨ e = m ∨ ltK K (lat l (e - 1)) (lat l s)) :
    Pre K l1 a s (s + (e - m)) ∧ Pre K l1 (s + (e - m)) e b ∧ ∀ i j, a ≤ i → i < s + (e - m) → s + (e - m) ≤ j → j < b → ltK K (lat l1 i) (lat l1 j) := by
  obtain ⟨sa, sb, t⟩ := p
  obtain ⟨⟨o1, o2⟩, r1, r2⟩ := r
  have eL1 : ∀ i, i < s → lat l1 i = lat l i := fun i hi => o2 i (by omega)
  have eR2 : ∀ i, e ≤ i → lat l1 i = lat l i := fun i hi => o2 i (by omega)
  have eR1 : ∀ i, s ≤ i → i < s + (e - m) → lat l1 i = lat l (i - s + m) := fun i hi hj => by
    have := r1 (i - s) (by omega)
    rw [show s + (i - s) = i by omega, show m + (i - s) = i - s + m by omega] at this; exact this
  have eL2 : ∀ i, s + (e - m) ≤ i → i < e → lat l1 i = lat l (i - (e - m)) := fun i hi hj => by
    have := r2 (i - (e - m) - s) (by omega)
    rw [show s + (e - m) + (i - (e - m) - s) = i by omega, show s + (i - (e - m) - s) = i - (e - m) by omega] at this; exact this
  refine ⟨⟨fun i j p q r => ?_, fun i j p q r => ?_, fun i j p q r u => ?_⟩, ⟨fun i j p q r => ?_, fun i j p q r => ?_, fun i j p q r u => ?_⟩, fun i j p q r u => ?_⟩
  · rw [eL1 i (by omega), eL1 j r]; exact sa i j p q (by omega)
  · rw [eR1 i p (by omega), eR1 j (by omega) r]; exact sb _ _ (by omega) (by omega) (by omega)
  · rw [eL1 i q, eR1 j r u]; exact t _ _ p (by omega) (by omega) (by omega)
  · rw [eL2 i p (by omega), eL2 j (by omega) r]; exact sa _ _ (by omega) (by omega) (by omega)
  · rw [eR2 i p, eR2 j (by omega)]; exact sb _ _ (by omega) q r
  · rw [eL2 i p q, eR2 j r]; exact t _ _ (by omega) (by omega) (by omega) u
  · have LR : ∀ i j, a ≤ i → i < s → e ≤ j → j < b → ltK K (lat l i) (lat l j) := fun i j p q r u => by
      rcases x1 with x | x | x
      · omega
      · omega
      · have g1 : ltK K (lat l i) (lat l e) := by
          by_cases hi : i = s - 1
          · rw [hi]; exact x
          · exact (sa i (s - 1) p (by omega) (by omega)).trans x
        by_cases hj : j = e
        · rw [hj]; exact g1
        · exact g1.trans (sb e j (by omega) (by omega) u)
    have RL : ∀ i j, s ≤ i → i < m → m ≤ j → j < e → ltK K (lat l j) (lat l i) := fun i j p q r u => by
      rcases x2 with x | x | x
      · omega
      · omega
      · have g1 : ltK K (lat l j) (lat l s) := by
          by_cases hi : j = e - 1
          · rw [hi]; exact x
          · exact (sb j (e - 1) r (by omega) (by omega)).trans x
        by_cases hj : i = s
        · rw [hj]; exact g1
        · exact g1.trans (sa s i (by omega) (by omega) (by omega))
    by_cases hi : i < s
    · rw [eL1 i hi]
      by_cases hj : j < e
      · rw [eL2 j r hj]; exact sa _ _ p (by omega) (by omega)
      · rw [eR2 j (by omega)]; exact LR i j p hi (by omega) u
    · rw [eR1 i (by omega) q]
      by_cases hj : j < e
      · rw [eL2 j r hj]; exact RL _ _ (by omega) (by omega) (by omega) (by omega)
      · rw [eR2 j (by omega)]; exact sb _ _ (by omega) (by omega) u
theorem mrg_half {l : List Int} {a s b : Nat} (p : Pre K l a s b) (h : s ≤ a ∨ b ≤ s) : Mrg K l l a b := by
  refine ⟨Out.refl, Mem.refl, ?_⟩
  rcases h with h | h
  · exact p.2.1.sub h (Nat.le_refl _)
  · exact p.1.sub (Nat.le_refl _) h
theorem Pre.out {l l' : List Int} {a m b a' b' : Nat} (p : Pre K l a m b) (o : Out l l' a' b') (hd : b ≤ a' ∨ b' ≤ a) (hm : a ≤ m) (hb : m ≤ b) : Pre K l' a m b := by
  obtain ⟨p1, p2, p3⟩ := p
  refine ⟨p1.out o (by omega), p2.out o (by omega), fun i j h1 h2 h3 h4 => ?_⟩
  rw [o.2 i (by omega), o.2 j (by omega)]; exact p3 i j h1 h2 h3 h4
theorem mrg_join {l l1 l2 l3 : List Int} {a c b : Nat} (o : Out l l1 a b) (hm : Mem l l1 a b) (hx : ∀ i j, a ≤ i → i < c → c ≤ j → j < b → ltK K (lat l1 i) (lat l1 j)) (ha : a ≤ c) (hb : c ≤ b)
    (m1 : Mrg K l1 l2 a c) (m2 : Mrg K l2 l3 c b) : Mrg K l l3 a b := by
  obtain ⟨o1, e1, s1⟩ := m1
  obtain ⟨o2, e2, s2⟩ := m2
  have f1 : Mem l1 l3 a c := e1.trans (Mem.of_out o2 (.inl (Nat.le_refl _)))
  have f2 : Mem l1 l3 c b := Mem.trans (Mem.of_out o1 (.inr (Nat.le_refl _))) e2
  refine ⟨o.trans ((o1.wide (Nat.le_refl _) hb).trans (o2.wide ha (Nat.le_refl _))), hm.trans (f1.join f2 ha hb), Srt.join (m := c) (fun i j p q r => ?_) s2 (fun i j p q r u => ?_)⟩
  · rw [o2.2 i (by omega), o2.2 j (by omega)]; exact s1 i j p q r
  · obtain ⟨i', p', q', ri⟩ := (f1 _).2 ⟨i, p, q, rfl⟩
    obtain ⟨j', u', v', rj⟩ := (f2 _).2 ⟨j, r, u, rfl⟩
    rw [← ri, ← rj]; exact hx i' j' p' q' u' v'
/-- The whole of a merge. -/
theorem mrg_sym {l l1 l2 l3 : List Int} {a s m e b : Nat} (p : Pre K l a m b) (h1 : a ≤ s) (h2 : s ≤ m) (h3 : m ≤ e) (h4 : e ≤ b) (r : Rot l l1 s m e)
    (x1 : s = a ∨ e = b ∨ ltK K (lat l (s - 1)) (lat l e)) (x2 : s = m ∨ e = m ∨ ltK K (lat l (e - 1)) (lat l s))
    (m1 : Pre K l1 a s (s + (e - m)) → Mrg K l1 l2 a (s + (e - m))) (m2 : Pre K l2 (s + (e - m)) e b → Mrg K l2 l3 (s + (e - m)) b) : Mrg K l l3 a b := by
  obtain ⟨q1, q2, hx⟩ := rot_pre p h1 h2 h3 h4 r x1 x2
  have n1 := m1 q1
  have n2 := m2 (q2.out n1.1 (.inr (Nat.le_refl _)) (by omega) h4)
  have hr := r.mem h2 h3
  have hM : Mem l l1 a b := by
    have a1 : Mem l l1 a s := Mem.of_out r.1 (by omega)
    have a2 : Mem l l1 e b := Mem.of_out r.1 (by omega)
    exact (a1.join hr h1 (by omega)).join a2 (by omega) h4
  exact mrg_join (r.1.wide h1 h4) hM hx (by omega) (by omega) n1 n2
/-- A merge whose left part is one number. -/
theorem mrg_one_l {l l1 : List Int} {a i b : Nat} (p : Pre K l a (a + 1) b) (h3 : a + 1 ≤ i) (h4 : i ≤ b) (r : Rot l l1 a (a + 1) i)
    (x1 : i = b ∨ ¬ K (lat l a) < K (lat l i)) (x2 : i = a + 1 ∨ K (lat l a) < K (lat l (i - 1))) : Mrg K l l1 a b := by
  have y2 : a = a + 1 ∨ i = a + 1 ∨ ltK K (lat l (i - 1)) (lat l a) := by
    rcases x2 with x | x
    · exact .inr (.inl x)
    · right
      by_cases hi : i = a + 1
      · exact .inl hi
      · exact .inr (.inl x)
  have y1 : i = b ∨ ltK K (lat l a) (lat l i) := by
    rcases x1 with x | x
    · exact .inl x
    · by_cases hi : i = b
      · exact .inl hi
      · exact .inr ((p.2.2.lt (Nat.le_refl _) (by omega) (by omega) (by omega)).2 x)
  refine mrg_sym p (Nat.le_refl _) (by omega) h3 h4 r (.inl rfl) y2 (fun q => mrg_half q (.inl (Nat.le_refl _))) (fun q => ⟨Out.refl, Mem.refl, ?_⟩)
  refine Srt.join (m := i) q.1 q.2.1 (fun u v p1 p2 p3 p4 => ?_)
  have hu : u = a + (i - (a + 1)) := by omega
  have e1 := r.2.2 0 (by omega)
  rw [Nat.add_zero, Nat.add_zero] at e1
  rw [hu, e1, r.1.2 v (by omega)]
  rcases y1 with y | y
  · omega
  · by_cases hv : v = i
    · rw [hv]; exact y
    · exact y.trans (p.2.1 i v (by omega) (by omega) p4)
theorem mrg_one_r {l l1 : List Int} {a i m : Nat} (p : Pre K l a m (m + 1)) (h3 : a ≤ i) (h4 : i ≤ m) (r : Rot l l1 i m (m + 1))
    (x1 : i = a ∨ ¬ K (lat l (i - 1)) < K (lat l m)) (x2 : i = m ∨ K (lat l i) < K (lat l m)) : Mrg K l l1 a (m + 1) := by
  have y2 : i = m ∨ m + 1 = m ∨ ltK K (lat l (m + 1 - 1)) (lat l i) := by
    rcases x2 with x | x
    · exact .inl x
    · exact .inr (.inr (.inl x))
  have y1 : i = a ∨ ltK K (lat l (i - 1)) (lat l m) := by
    rcases x1 with x | x
    · exact .inl x
    · by_cases hi : i = a
      · exact .inl hi
      · exact .inr ((p.2.2.lt (by omega) (by omega) (Nat.le_refl _) (by omega)).2 x)
  refine mrg_sym p h3 h4 (by omega) (Nat.le_refl _) r (.inr (.inl rfl)) y2 (fun q => ⟨Out.refl, Mem.refl, ?_⟩) (fun q => mrg_half q (.inr (Nat.le_refl _)))
  refine Srt.join (m := i) q.1 q.2.1 (fun u v p1 p2 p3 p4 => ?_)
  have hv : v = i := by omega
  have e1 := r.2.1 0 (by omega)
  rw [Nat.add_zero, Nat.add_zero] at e1
  rw [hv, e1, r.1.2 u (by omega)]
  rcases y1 with y | y
  · omega
  · by_cases hu : u = i - 1
    · rw [hu]; exact y
    · exact (p.1 u (i - 1) p1 (by omega) (by omega)).trans y
theorem rot_down {l l' : List Int} {j i : Nat} (r : Rot l l' j i (i + 1)) (h0 : 0 < j) (hj : j ≤ i) (hi : i < l.length) : Rot l ((l'.set j (lat l' (j - 1))).set (j - 1) (lat l' j)) (j - 1) i (i + 1) := by
  obtain ⟨⟨o1, o2⟩, r1, r2⟩ := r
  have e : ∀ x, lat ((l'.set j (lat l' (j - 1))).set (j - 1) (lat l' j)) x = if x = j - 1 then lat l' j else if x = j then lat l' (j - 1) else lat l' x := fun x => by
    rw [lat_set (by simp; omega), lat_set (by omega)]
  refine ⟨⟨by simp [o1], fun x hx => ?_⟩, fun k hk => ?_, fun k hk => ?_⟩
  · rw [e, if_neg (by omega), if_neg (by omega)]; exact o2 x (by omega)
  · have : k = 0 := by omega
    subst this
    rw [e, if_pos (by omega)]
    have := r1 0 (by omega)
    simpa using this
  · rw [e, if_neg (by omega)]
    by_cases hk0 : k = 0
    · subst hk0
      rw [if_pos (by omega), o2 _ (by omega)]; rfl
    · rw [if_neg (by omega)]
      have := r2 (k - 1) (by omega)
      rw [show j + (i + 1 - i) + (k - 1) = j - 1 + (i + 1 - i) + k by omega, show j + (k - 1) = j - 1 + k by omega] at this
      exact this
theorem rot_up {l l' : List Int} {a k : Nat} (r : Rot l l' a (a + 1) (k + 1)) (hk : a ≤ k) (hl : k + 1 < l.length) : Rot l ((l'.set k (lat l' (k + 1))).set (k + 1) (lat l' k)) a (a + 1) (k + 2) := by
  obtain ⟨⟨o1, o2⟩, r1, r2⟩ := r
  have e : ∀ x, lat ((l'.set k (lat l' (k + 1))).set (k + 1) (lat l' k)) x = if x = k + 1 then lat l' k else if x = k then lat l' (k + 1) else lat l' x := fun x => by
    rw [lat_set (by simp; omega), lat_set (by omega)]
  refine ⟨⟨by simp [o1], fun x hx => ?_⟩, fun q hq => ?_, fun q hq => ?_⟩
  · rw [e, if_neg (by omega), if_neg (by omega)]; exact o2 x (by omega)
  · rw [e, if_neg (by omega)]
    by_cases hqk : a + q = k
    · rw [if_pos hqk, o2 _ (by omega)]; congr 1; omega
    · rw [if_neg hqk]; exact r1 q (by omega)
  · have : q = 0 := by omega
    subst this
    rw [e, if_pos (by omega)]
    have := r2 0 (by omega)
    rw [show a + (k + 1 - (a + 1)) + 0 = k by omega] at this
    exact this
/-- Sorted, and it holds just the numbers of its places. -/
def Good (K : Int → Int) (l : List Int) (a b : Nat) : Prop := Srt K l a b ∧ (∀ i, a ≤ i → i < b → (a : Int) ≤ lat l i ∧ lat l i < b) ∧ ∀ v : Nat, a ≤ v → v < b → ∃ i, a ≤ i ∧ i < b ∧ lat l i = v
theorem Good.out {l l' : List Int} {a b a' b' : Nat} (p : Good K l a b) (o : Out l l' a' b') (hd : b ≤ a' ∨ b' ≤ a) : Good K l' a b := by
  obtain ⟨p1, p2, p3⟩ := p
  refine ⟨p1.out o hd, fun i h1 h2 => ?_, fun v h1 h2 => ?_⟩
  · rw [o.2 i (by omega)]; exact p2 i h1 h2
  · obtain ⟨i, h3, h4, h5⟩ := p3 v h1 h2
    exact ⟨i, h3, h4, (o.2 i (by omega)).trans h5⟩
theorem Good.pre {l : List Int} {a m b : Nat} (p : Good K l a m) (q : Good K l m b) : Pre K l a m b := by
  refine ⟨p.1, q.1, fun i j h1 h2 h3 h4 _ => ?_⟩
  have := p.2.1 i h1 h2
  have := q.2.1 j h3 h4
  omega
theorem Good.merge {l l' : List Int} {a m b : Nat} (p : Good K l a m) (q : Good K l m b) (r : Mrg K l l' a b) (ha : a ≤ m) (hb : m ≤ b) : Good K l' a b := by
  obtain ⟨_, hm, hs⟩ := r
  refine ⟨hs, fun i h1 h2 => ?_, fun v h1 h2 => ?_⟩
  · obtain ⟨j, h3, h4, h5⟩ := (hm _).2 ⟨i, h1, h2, rfl⟩
    rw [← h5]
    by_cases hj : j < m
    · have := p.2.1 j h3 hj; omega
    · have := q.2.1 j (by omega) h4; omega
  · refine (hm _).1 ?_
    by_cases hv : v < m
    · obtain ⟨i, h3, h4, h5⟩ := p.2.2 v h1 hv; exact ⟨i, h3, by omega, h5⟩
    · obtain ⟨i, h3, h4, h5⟩ := q.2.2 v (by omega) h2; exact ⟨i, by omega, h4, h5⟩
theorem Good.one {l : List Int} {a : Nat} (h : lat l a = a) : Good K l a (a + 1) := by
  refine ⟨fun i j h1 h2 h3 => by omega, fun i h1 h2 => ?_, fun v h1 h2 => ⟨a, by omega, by omega, by omega⟩⟩
  have : i = a := by omega
  subst this; omega
/-- A sorted row grown by its neighbour. -/
theorem Good.grow {l l1 : List Int} {a i m : Nat} (p : Good K l a m) (hm : lat l m = m) (h3 : a ≤ i) (h4 : i ≤ m) (r : Rot l l1 i m (m + 1))
    (x1 : i = a ∨ ¬ K (lat l (i - 1)) < K (lat l m)) (x2 : i = m ∨ K (lat l i) < K (lat l m)) : Good K l1 a (m + 1) :=
  p.merge (Good.one hm) (mrg_one_r (p.pre (Good.one hm)) h3 h4 r x1 x2) (by omega) (by omega)
/-- Which is the best one that is not out yet. -/
def bestP (K : Int → Int) (out : List Int) (n : Nat) : Nat → Int
  | 0 => -1
  | d + 1 => if (n : Int) - 1 - d ∉ out ∧ (bestP K out n d < 0 ∨ K (bestP K out n d) ≤ K ((n : Int) - 1 - d)) then (n : Int) - 1 - d else bestP K out n d
def topP (K : Int → Int) (n : Nat) : Nat → List Int
  | 0 => []
  | k + 1 => topP K n k ++ [bestP K (topP K n k) n n]
theorem bestP_ok {out : List Int} {n : Nat} : ∀ {d : Nat}, d ≤ n → (bestP K out n d < 0 ∧ ∀ i : Int, (n : Int) - d ≤ i → i < n → i ∈ out) ∨
    ((n : Int) - d ≤ bestP K out n d ∧ bestP K out n d < n ∧ bestP K out n d ∉ out ∧ ∀ i : Int, (n : Int) - d ≤ i → i < n → i ∉ out → i ≠ bestP K out n d → ltK K (bestP K out n d) i)
  | 0, _ => .inl ⟨by simp [bestP], fun i h1 h2 => by omega⟩
  | d + 1, hd => by
    have ih := bestP_ok (out := out) (n := n) (d := d) (by omega)
    rw [bestP]
    generalize bestP K out n d = b at *
    by_cases hc : (n : Int) - 1 - d ∉ out ∧ (b < 0 ∨ K b ≤ K ((n : Int) - 1 - d))
    · rw [if_pos hc]
      refine .inr ⟨by omega, by omega, hc.1, fun i h1 h2 h3 h4 => ?_⟩
      rcases ih with ⟨i1, i2⟩ | ⟨i1, i2, i3, i4⟩
      · exact absurd (i2 i (by omega) h2) h3
      · have hk : K b ≤ K ((n : Int) - 1 - d) := by omega
        by_cases hb : i = b
        · subst hb; unfold ltK; omega
        · have := i4 i (by omega) h2 h3 hb
          unfold ltK at *; omega
    · rw [if_neg hc]
      rcases ih with ⟨i1, i2⟩ | ⟨i1, i2, i3, i4⟩
      · refine .inl ⟨i1, fun i h1 h2 => ?_⟩
        by_cases hi : i = (n : Int) - 1 - d
        · subst hi
          refine Decidable.byContradiction fun h => hc ⟨h, .inl i1⟩
        · exact i2 i (by omega) h2
      · refine .inr ⟨by omega, i2, i3, fun i h1 h2 h3 h4 => ?_⟩
        by_cases hi : i = (n : Int) - 1 - d
        · subst hi
          have : ¬ K b ≤ K ((n : Int) - 1 - d) := fun h => hc ⟨h3, .inr h⟩
          unfold ltK; omega
        · exact i4 i (by omega) h2 h3 h4
theorem ltK_irrefl {x : Int} : ¬ ltK K x x := by unfold ltK; omega
theorem ltK_asymm {x y : Int} (h : ltK K x y) (h' : ltK K y x) : False := by unfold ltK at *; omega
theorem lat_mem_take {l : List Int} {k : Nat} {x : Int} (hk : k ≤ l.length) : x ∈ l.take k ↔ ∃ i, i < k ∧ lat l i = x := by
  rw [List.mem_take_iff_getElem]
  constructor
  · rintro ⟨i, hi, rfl⟩
    refine ⟨i, by omega, ?_⟩
    unfold lat; rw [List.getD_eq_getElem?_getD, List.getElem?_eq_getElem (by omega)]; rfl
  · rintro ⟨i, hi, rfl⟩
    refine ⟨i, by omega, ?_⟩
    unfold lat; rw [List.getD_eq_getElem?_getD, List.getElem?_eq_getElem (by omega)]; rfl
theorem topP_ok {l : List Int} {n : Nat} (p : Good K l 0 n) (hl : l.length = n) : ∀ {k : Nat}, k ≤ n → topP K n k = l.take k
  | 0, _ => by simp [topP]
  | k + 1, hk => by
    obtain ⟨ps, pm, pv⟩ := p
    rw [topP, topP_ok ⟨ps, pm, pv⟩ hl (k := k) (by omega)]
    have hb : bestP K (l.take k) n n = lat l k := by
      have hnot : lat l k ∉ l.take k := fun h => by
        obtain ⟨i, hi, e⟩ := (lat_mem_take (by omega)).1 h
        have := ps i k (by omega) hi (by omega)
        rw [e] at this; exact ltK_irrefl this
      have hr := pm k (by omega) (by omega)
      rcases bestP_ok (K := K) (out := l.take k) (n := n) (d := n) (Nat.le_refl _) with ⟨_, h⟩ | ⟨h1, h2, h3, h4⟩
      · exact absurd (h (lat l k) (by omega) (by omega)) hnot
      · refine Decidable.byContradiction fun hne => ?_
        have hlt := h4 (lat l k) (by omega) (by omega) hnot (fun e => hne e.symm)
        obtain ⟨v, hv⟩ := Int.eq_ofNat_of_zero_le (a := bestP K (l.take k) n n) (by omega)
        obtain ⟨i, _, hi, e⟩ := pv v (Nat.zero_le _) (by omega)
        have hik : ¬ i < k := fun hik => h3 (by rw [hv]; exact (lat_mem_take (by omega)).2 ⟨i, hik, e⟩)
        have hik2 : i ≠ k := fun hik2 => hne (by rw [hv, ← e, hik2])
        have := ps k i (by omega) (by omega) hi
        rw [e, ← hv] at this
        exact ltK_asymm this hlt
    rw [hb, List.take_add_one]
    congr 1
    unfold lat; rw [List.getD_eq_getElem?_getD, List.getElem?_eq_getElem (by omega)]; rfl
end Go.Bi
