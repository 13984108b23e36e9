/- Deep values, part 4: literals, structs, and that each operation is sound. Nothing about the program stands here. -/
import Derived.Test.YtdakdjpndomdpaaBi3
set_option linter.unusedVariables false
set_option linter.unusedSimpArgs false
namespace Go.Bi
open Go.Ai
variable {P : Program} {g : H2} {h : Heap}

theorem fill_sound2 {place : Nat → Option (Nat × Nat)} {e : E2} (o : ∀ t, Ok h g (e t)) : ∀ {ps : List (Nat × Operand)} {cs l : List X}, (∀ x ∈ cs, Ok h g x) → fillX place e ps cs = some l →
    fillL place e.er ps (cs.map er) = some (l.map er) ∧ ∀ x ∈ l, Ok h g x
  | [], cs, l, h0, hf => by simp only [fillX] at hf; cases hf; exact ⟨rfl, h0⟩
  | (i, x) :: r, cs, l, h0, hf => by
    simp only [fillX] at hf
    have oo : Ok h g (e.op x) := by
      cases x with
      | tmp t => exact o t
      | const v => exact ok_ofV v
      | global _ => exact .raw
      | func _ => exact .raw
    split at hf
    · rename_i off n vs hp hc
      obtain ⟨c1, c2⟩ := cells_sound oo hc
      split at hf
      · rename_i hv
        split at hf
        · rename_i cs' hw
          obtain ⟨w1, w2⟩ := wrt_sound hw
          obtain ⟨f1, f2⟩ := fill_sound2 o (fun x hx => (w2 x hx).elim (h0 x) (c2 x)) hf
          refine ⟨?_, f2⟩
          simp only [fillL, hp, ← er_op, c1]
          rw [if_pos (by simpa using hv), w1]; exact f1
        · cases hf
      · cases hf
    · cases hf

theorem toT_sound {x : X} {t : T} (o : Ok h g x) (ht : toT x = some t) {f : Adr} (hf : ∀ p, f p = pathX p x) : Rep h g f t := by
  cases o with
  | raw =>
    simp only [toT] at ht
    split at ht
    · cases ht; exact .v (hf [])
    · cases ht
  | sl r =>
    simp only [toT] at ht; cases ht
    have : f = _ := funext hf
    rw [this]; exact r
  | _ => simp [toT] at ht
theorem toTs_get : ∀ {cs : List X} {ts : List T}, toTs cs = some ts → ts.length = cs.length ∧ ∀ (i : Nat) (t : T), ts[i]? = some t → ∃ x, cs[i]? = some x ∧ toT x = some t
  | [], ts, ht => by simp [toTs] at ht; subst ht; simp
  | x :: cs, ts, ht => by
    simp only [toTs] at ht
    split at ht
    · rename_i t r h1 h2
      cases ht
      obtain ⟨e1, e2⟩ := toTs_get h2
      refine ⟨by simp [e1], fun i t hi => ?_⟩
      cases i with
      | zero => simp at hi; subst hi; exact ⟨x, rfl, h1⟩
      | succ i => simp at hi; simpa using e2 i t hi
    · cases ht
theorem chunk_len {z : Nat} : ∀ {n : Nat} {l : List T}, (chunk z n l).length = n
  | 0, l => rfl
  | n + 1, l => by simp [chunk, chunk_len]
theorem chunk_all {z : Nat} : ∀ {n : Nat} {l : List T}, l.length = n * z → ∀ e ∈ chunk z n l, e.length = z
  | 0, l, _, e, he => by simp [chunk] at he
  | n + 1, l, hl, e, he => by
    rw [Nat.add_mul] at hl
    simp only [chunk, List.mem_cons] at he
    rcases he with rfl | he
    · simp; omega
    · exact chunk_all (by simp; omega) e he
theorem chunk_get {z : Nat} : ∀ {n : Nat} {l : List T} {i j : Nat} {t : T}, ((chunk z n l)[i]?).bind (·[j]?) = some t → j < z ∧ l[i * z + j]? = some t
  | 0, l, i, j, t, ht => by simp [chunk] at ht
  | n + 1, l, 0, j, t, ht => by
    simp only [chunk, List.getElem?_cons_zero, Option.bind_some, List.getElem?_take] at ht
    split at ht
    · rename_i hj; exact ⟨hj, by simpa using ht⟩
    · cases ht
  | n + 1, l, i + 1, j, t, ht => by
    simp only [chunk, List.getElem?_cons_succ] at ht
    obtain ⟨h1, h2⟩ := chunk_get ht
    refine ⟨h1, ?_⟩
    rw [List.getElem?_drop] at h2
    rw [← h2]; congr 1; rw [Nat.add_mul]; omega
theorem lit_sound (s : S g h) {n z : Nat} {cs : List X} (hl : cs.length = n * z) (o : ∀ x ∈ cs, Ok h g x) {y : X} {g' : H2} (hx : litX g n z cs = (y, g')) :
    er y = .slice (some ⟨h.n, 0, none⟩) n n ∧ S g' (h.push ⟨true, z, cs.map er⟩) ∧ Ext g h g' (h.push ⟨true, z, cs.map er⟩) ∧ Ok (h.push ⟨true, z, cs.map er⟩) g' y := by
  unfold litX at hx
  split at hx
  · rename_i m ts hts
    cases hx
    obtain ⟨q1, q2⟩ := s.up (k' := ⟨true, z, cs.map er⟩)
    obtain ⟨t1, t2⟩ := toTs_get hts
    refine ⟨by simp only [er, litA, s.n], q1, q2, .sl (.l (some ⟨g.n, 0, none⟩) (m + 1) (by simp only [litA, chunk_len]) (chunk_all (by rw [t1, hl])) (.inr ⟨g.n, 0, true, z, cs.map er, rfl, ?_, ?_, ?_, fun _ => rfl, Nat.zero_le _, fun i j hi hj => ?_⟩) fun i j t ht => ?_)⟩
    · simp [Heap.push, s.n]
    · simp only [H2.up]; rw [s.n]; exact s.fresh
    · simp [Heap.push, s.n]
    · rw [chunk_len] at hi
      have hlt : i * z + j < cs.length := by
        have : i * z + z ≤ (m + 1) * z := by rw [← Nat.succ_mul]; exact Nat.mul_le_mul_right z hi
        have h9 : cs.length = (m + 1) * z := hl
        omega
      rw [Nat.zero_add, List.getElem?_map, List.getElem?_eq_getElem hlt]
      simp only [Option.map_some, litA, List.getD_eq_getElem?_getD, List.getElem?_eq_getElem hlt, Option.getD_some]
      cases cs[i * z + j] <;> rfl
    · obtain ⟨c1, c2⟩ := chunk_get ht
      obtain ⟨x, x1, x2⟩ := t2 _ _ c2
      refine toT_sound ((o x (List.mem_of_getElem? x1)).mono q2) x2 fun p => ?_
      simp only [below, litA, List.getD_eq_getElem?_getD, x1, Option.getD_some]
  · cases hx
    obtain ⟨q1, q2⟩ := s.push (z := z) o
    exact ⟨by simp only [er, s.n], q1, q2, .raw⟩

theorem ok_op {e : E2} (o : ∀ t, Ok h g (e t)) (x : Operand) : Ok h g (e.op x) := by
  cases x with
  | tmp t => exact o t
  | const v => exact ok_ofV v
  | global _ => exact .raw
  | func _ => exact .raw
theorem bin_sound2 {op : BinOp} {t : TypeId} {x y r : X} (ox : Ok h g x) (oy : Ok h g y) (hx : binX P op t x y = some r) : binV P op t (er x) (er y) = some (er r) ∧ Ok h g r := by
  unfold binX at hx
  split at hx
  · obtain ⟨v, h1, rfl⟩ := rawO_some hx; exact ⟨h1, .raw⟩
  · obtain ⟨a, c, e⟩ := ox.slV
    split at hx
    · rename_i hc; cases hx
      refine ⟨?_, .raw⟩
      simp only [er, e, binV, eqV, hc, nilS]
      cases a <;> simp
    · rename_i hc; cases hx
      refine ⟨?_, .raw⟩
      simp only [er, e, binV, eqV, hc, nilS]
      cases a <;> simp
    · cases hx
  · cases ox with
    | pr h1 h2 h3 h0 h4 h5 =>
      split at hx
      · rename_i hc; cases hx
        exact ⟨by simp only [er, binV, eqV, hc]; rfl, .raw⟩
      · rename_i hc; cases hx
        exact ⟨by simp only [er, binV, eqV, hc]; rfl, .raw⟩
      · cases hx
  · cases hx
theorem rep_len {n : Nat} {z : List Value} : (repL n z).length = n * z.length := by
  induction n with
  | zero => simp [repL]
  | succ n ih => rw [rep_S, List.length_append, ih, Nat.add_mul]; omega
theorem wrtL_len {cs vs l : List X} {off : Nat} (hw : wrtL cs off vs = some l) : l.length = cs.length := by
  unfold wrtL at hw; split at hw
  · cases hw; simp; omega
  · cases hw
theorem fillX_len {place : Nat → Option (Nat × Nat)} {e : E2} : ∀ {ps : List (Nat × Operand)} {cs l : List X}, fillX place e ps cs = some l → l.length = cs.length
  | [], cs, l, hf => by simp only [fillX] at hf; cases hf; rfl
  | (i, x) :: r, cs, l, hf => by
    simp only [fillX] at hf
    split at hf
    · split at hf
      · split at hf
        · rename_i hw; rw [fillX_len hf, wrtL_len hw]
        · cases hf
      · cases hf
    · cases hf

theorem ptr_sound {x : X} (o : Ok h g x) (hp : ptrX x = true) : ptrV (er x) = true := by
  cases o with
  | raw => rename_i v; cases v <;> try (cases hp; done)
           rename_i a; cases a <;> first | rfl | cases hp
  | pr => rfl
  | _ => cases hp
theorem opx_sound {e : E2} (s : S g h) (o : ∀ t, Ok h g (e t)) {op : Op} {y : X} {g' : H2} (hx : opx P e g op = some (y, g')) :
    ∃ h', opv P e.er h op = some (er y, h') ∧ S g' h' ∧ Ext g h g' h' ∧ Ok h' g' y := by
  have stay : ∀ {r : Option X} {v : Option Value}, (∀ z, r = some z → v = some (er z) ∧ Ok h g z) → r.map (·, g) = some (y, g') → ∃ h', v.map (·, h) = some (er y, h') ∧ S g' h' ∧ Ext g h g' h' ∧ Ok h' g' y := by
    intro r v hrv hm
    cases r with
    | none => cases hm
    | some z => simp only [Option.map_some, Option.some.injEq, Prod.mk.injEq] at hm; obtain ⟨rfl, rfl⟩ := hm; obtain ⟨h1, h2⟩ := hrv _ rfl; exact ⟨h, by rw [h1]; rfl, s, Ext.refl, h2⟩
  unfold opx at hx
  split at hx
  · cases hx; exact ⟨h, by simp only [opv, ← er_op], s, Ext.refl, ok_op o _⟩
  · cases hx; exact ⟨h, by simp only [opv, ← er_op], s, Ext.refl, ok_op o _⟩
  · split at hx
    · rename_i hc; cases hx; exact ⟨h, by simp only [opv, ← er_op, hc, er], s, Ext.refl, ok_op o _⟩
    · rename_i hc; cases hx; exact ⟨h, by simp only [opv, ← er_op, hc, er], s, Ext.refl, ok_op o _⟩
    · cases hx
  · split at hx
    · rename_i z n hz hn
      cases hx
      obtain ⟨q1, q2⟩ := s.push (z := n) (cs := z.map .raw) ok_raws
      refine ⟨_, ?_, q1, q2, .raw⟩
      simp only [opv, hz, hn, newV, er, map_er_raw, s.n]
    · cases hx
  · split at hx
    · rename_i cs n hc hn
      cases hx
      obtain ⟨c1, c2⟩ := cells_sound (ok_op o _) hc
      obtain ⟨q1, q2⟩ := s.push (z := n) c2
      refine ⟨_, ?_, q1, q2, .raw⟩
      simp only [opv, ← er_op, c1, hn, newV, er, s.n]
    · cases hx
  · split at hx
    · rename_i z hz
      split at hx
      · rename_i hb
        generalize hf : fillX _ _ _ _ = r at hx
        cases r with
        | none => cases hx
        | some l =>
          cases hx
          obtain ⟨f1, f2⟩ := fill_sound2 o ok_raws hf
          rw [map_er_raw] at f1
          refine ⟨h, ?_, s, Ext.refl, .st f2⟩
          simp only [opv, hz, if_pos hb, f1, er, ers_eq]; rfl
      · cases hx
    · cases hx
  · split at hx
    · rename_i u sz by_ he
      split at hx
      · rename_i z hz
        split at hx
        · rename_i hc
          generalize hf : fillX _ _ _ _ = r at hx
          cases r with
          | none => cases hx
          | some l =>
            have hx := Option.some.inj hx
            have hlen := fillX_len hf
            obtain ⟨f1, f2⟩ := fill_sound2 o ok_raws hf
            rw [map_er_raw] at f1
            obtain ⟨l1, l2, l3, l4⟩ := lit_sound s (n := _) (z := sz) (cs := l) (by rw [hlen, List.length_map, rep_len, hc.2.1]) f2 hx
            refine ⟨_, ?_, l2, l3, l4⟩
            simp only [opv, he, hz, if_pos hc, f1, l1]; rfl
        · cases hx
      · cases hx
    · cases hx
  · simp only [opv, ← er_op]
    exact stay (fun z hz => load_sound2 s (ok_op o _) hz) hx
  · generalize hf : storeX _ _ _ _ _ = r at hx
    cases r with
    | none => cases hx
    | some g2 =>
      cases hx
      obtain ⟨h', s1, s2, s3⟩ := store_sound2 s (ok_op o _) hf
      exact ⟨h', by simp only [opv, ← er_op, s1]; rfl, s2, s3, .raw⟩
  · split at hx
    · rename_i hp
      cases hx
      refine ⟨h, ?_, s, Ext.refl, ok_op o _⟩
      simp only [opv, ← er_op]; rw [if_pos (ptr_sound (ok_op o _) hp)]
    · cases hx
  · simp only [opv, ← er_op]
    exact stay (fun z hz => bin_sound2 (ok_op o _) (ok_op o _) hz) hx
  · simp only [opv, ← er_op]
    refine stay (fun z hz => ?_) hx
    unfold unX at hz
    split at hz
    · rename_i heq
      obtain ⟨v, h1, rfl⟩ := rawO_some hz
      rw [heq]
      exact ⟨h1, .raw⟩
    · cases hz
  · simp only [opv, ← er_op]
    exact conv_sound2 s (ok_op o _) hx
  · split at hx
    · rename_i l hl
      split at hx
      · rename_i hc
        cases hx
        refine ⟨h, ?_, s, Ext.refl, .raw⟩
        have hr := rawL_sound hl
        rw [List.map_map, show (Bi.er ∘ e.op) = e.er.op from funext fun x => er_op e x] at hr
        simp only [opv]
        rw [if_pos ⟨hc.1, by have := hc.2; rw [← hr] at this; simpa using this⟩, ← hr]
        simp only [er]
        congr 3
        apply Array.ext'; simp
      · cases hx
    · cases hx
  · simp only [opv, ← er_op]
    exact make_sound2 s hx
  · simp only [opv]
    refine stay (fun z hz => ?_) hx
    have := slice_sound2 s (ok_op o _) hz
    simp only [Option.map_map, show (Bi.er ∘ e.op) = e.er.op from funext fun x => er_op e x, er_op] at this
    exact this
  · simp only [opv, ← er_op]
    exact stay (fun z hz => fieldAddr_sound2 (ok_op o _) hz) hx
  · simp only [opv, ← er_op]
    refine stay (fun z hz => ?_) hx
    have oo := ok_op o (x := ‹Operand›)
    unfold fieldX at hz
    split at hz
    · rename_i cs p heq hf
      rw [heq] at oo ⊢
      cases oo with
      | st hcs =>
        simp only [er, ers_eq, fieldV, hf]
        obtain ⟨off, n, b⟩ := p
        cases b with
        | true =>
          simp only [partX] at hz
          cases hr : rdL cs off n with
          | none => rw [hr] at hz; cases hz
          | some l =>
            rw [hr] at hz; cases hz
            obtain ⟨e1, e2⟩ := rd_sound hr
            exact ⟨by simp only [partV, e1]; simp [er, ers_eq], .st fun x hx => hcs x (e2 x hx)⟩
        | false =>
          simp only [partX] at hz
          exact ⟨by simp only [partV, List.getElem?_map, hz]; rfl, hcs _ (List.mem_of_getElem? hz)⟩
    · cases hz
  · simp only [opv, ← er_op]
    exact stay (fun z hz => indexAddr_sound2 (ok_op o _) hz) hx
  · simp only [opv, ← er_op]
    refine stay (fun z hz => ?_) hx
    unfold indexX at hz
    split at hz
    · rename_i h1 h2
      obtain ⟨v, h3, rfl⟩ := rawO_some hz
      rw [h1, h2]
      exact ⟨h3, .raw⟩
    · cases hz
  · simp only [opv, ← er_op]
    refine stay (fun z hz => ?_) hx
    have oo := ok_op o (x := ‹Operand›)
    unfold extractX at hz
    split at hz
    · rename_i vs heq
      rw [heq] at oo ⊢
      cases oo with
      | tp hcs => exact ⟨by simp [er, ers_eq, extractV, hz], hcs _ (List.mem_of_getElem? hz)⟩
    · cases hz
  · obtain ⟨h', b1, b2⟩ := builtin_sound2 s (xs := List.map e.op _) (fun x hx => by obtain ⟨q, _, rfl⟩ := List.mem_map.1 hx; exact ok_op o q) hx
    rw [List.map_map, show (Bi.er ∘ e.op) = e.er.op from funext fun x => er_op e x] at b1
    exact ⟨h', by simp only [opv]; exact b1, b2⟩
  · cases hx
end Go.Bi
