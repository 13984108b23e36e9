/- The abstract machine, part 9: one theorem about every operation that calls no Go function. Nothing about the program stands here. -/
import Derived.Test.YtdakdjpndomdpaaAi8
set_option linter.unusedVariables false
set_option linter.unusedSimpArgs false
namespace Go.Ai
variable {P : Program} {W0 : World} {ι : Ren} {h : Heap} {w w' : World}

theorem minmax_sound {f : Int → Int → Int} {l l' : List Value} {v : Value} (hv : minmaxV f l = some v) (ha : All2 (R ι) l l') : l' = l ∧ R ι v v := by
  unfold minmaxV at hv
  split at hv
  · split at hv
    · cases hv
      match l', ha with
      | [_, _], .cons a (.cons b .nil) => exact ⟨by rw [show _ = Value.int _ _ from a, show _ = Value.int _ _ from b], rfl⟩
    · cases hv
  · split at hv
    · cases hv
      match l', ha with
      | [_, _, _], .cons a (.cons b (.cons c .nil)) => exact ⟨by rw [show _ = Value.int _ _ from a, show _ = Value.int _ _ from b, show _ = Value.int _ _ from c], rfl⟩
    · cases hv
  · cases hv

theorem max_run {l : List Value} {v : Value} (hv : minmaxV mxI l = some v) (ts : Array TypeId) (ty : TypeId) (w : World) : (Builtin.max_ ts ty l.toArray).run P w = .ok v w := by
  unfold minmaxV at hv
  split at hv
  · split at hv
    · cases hv; simp [Builtin.max_, Builtin.max2, mxI]
    · cases hv
  · split at hv
    · cases hv; simp [Builtin.max_, Builtin.max2, mxI]
    · cases hv
  · cases hv
theorem min_run {l : List Value} {v : Value} (hv : minmaxV mnI l = some v) (ts : Array TypeId) (ty : TypeId) (w : World) : (Builtin.min_ ts ty l.toArray).run P w = .ok v w := by
  unfold minmaxV at hv
  split at hv
  · split at hv
    · cases hv; simp [Builtin.min_, Builtin.min2, mnI]
    · cases hv
  · split at hv
    · cases hv; simp [Builtin.min_, Builtin.min2, mnI]; rfl
    · cases hv
  · cases hv

def okOp (o : Op) : Bool := o.operands.toList.all okOpd

theorem ops_R {nt : Nat} {e : Env} {a : Act} (re : RE nt ι e a) : ∀ {l : List Operand}, (∀ x ∈ l, okOpd x = true) → All2 (R ι) (l.map e.op) (l.map a.eval)
  | [], _ => .nil
  | x :: l, h => .cons (re.op (h x (by simp))) (ops_R re fun y hy => h y (by simp [hy]))

def Does (r : Result Next) (v : Value) (w : World) : Prop := r = .ok (.value v) w ∨ (r = .ok .skip w ∧ v = undef)

theorem optR {o : Option Operand} {nt : Nat} {e : Env} {a : Act} (re : RE nt ι e a) (hok : ∀ x, o = some x → okOpd x = true) :
    (∀ k i, o.map e.op = some (.int k i) → o.map a.eval = some (.int k i)) ∧ (o.map e.op = none → o.map a.eval = none) :=
  ⟨fun k i h => optR_int re hok h, fun h => by cases o <;> simp_all⟩

theorem builtin_sound {nt : Nat} {e : Env} {a : Act} (s : Sim P W0 ι h w) (re : RE nt ι e a) {b : Builtin} {xs : Array Operand} {ts : Array TypeId} {ty : TypeId} {v : Value} {h' : Heap} (hok : ∀ x ∈ xs.toList, okOpd x = true)
    (hv : builtinV P h b ts.toList (xs.toList.map e.op) = some (v, h')) (consts : Array Bool) :
    ∃ ι' w' v', (builtin b ts ty consts (xs.map a.eval)).run P w = .ok (.value v') w' ∧ ι.le ι' ∧ Sim P W0 ι' h' w' ∧ R ι' v v' := by
  have ha := ops_R re hok
  have hmap : xs.map a.eval = (xs.toList.map a.eval).toArray := by apply Array.ext'; simp
  rw [hmap]
  generalize xs.toList.map e.op = l at hv ha
  generalize xs.toList.map a.eval = l' at ha
  have hts : ts = ts.toList.toArray := by simp
  rw [hts]
  generalize ts.toList = tl at hv
  unfold builtinV at hv
  split at hv
  · split at hv
    · rename_i hc
      cases hv
      match l', ha with
      | [_], .cons r .nil =>
        obtain rfl := (show _ = Value.string _ from r)
        exact ⟨ι, w, _, by simp [builtin, Builtin.len_, run_underlying (cls_str hc), goInt], Ren.le_refl _, s, rfl⟩
    · cases hv
  · split at hv
    · rename_i hc
      cases hv
      obtain ⟨el, hu⟩ := cls_sl hc
      rename_i q n _ _
      match l', ha with
      | [_], .cons r .nil =>
        cases q with
        | none => obtain ⟨rfl, _, rfl⟩ := r; exact ⟨ι, w, _, by simp [builtin, Builtin.len_, run_underlying hu, goInt], Ren.le_refl _, s, rfl⟩
        | some q => obtain ⟨_, _, _, _, _, _, _, _, rfl⟩ := r; exact ⟨ι, w, _, by simp [builtin, Builtin.len_, run_underlying hu, goInt], Ren.le_refl _, s, rfl⟩
    · cases hv
  · split at hv
    · rename_i hc
      cases hv
      obtain ⟨el, hu⟩ := cls_sl hc
      match l', ha with
      | [_], .cons r .nil =>
        obtain ⟨_, _, rfl⟩ := r; exact ⟨ι, w, _, by simp [builtin, Builtin.cap_, run_underlying hu, goInt], Ren.le_refl _, s, rfl⟩
    · cases hv
  · rename_i t u x y
    split at hv
    · rename_i hc
      have hc' : cls? P u = some .sl := hc
      match l', ha with
      | [_, _], .cons rx (.cons ry .nil) =>
        obtain ⟨ι', w', v', g1, g2, g3, g4⟩ := append_sound (ty := ty) s hv hc' rx ry
        exact ⟨ι', w', v', by simp [builtin, g1], g2, g3, g4⟩
    · cases hv
  · cases hm : minmaxV mxI l with
    | none => rw [hm] at hv; cases hv
    | some u =>
      rw [hm] at hv; cases hv
      obtain ⟨rfl, hr⟩ := minmax_sound hm ha
      exact ⟨ι, w, _, by simp [builtin, max_run hm], Ren.le_refl _, s, hr⟩
  · cases hm : minmaxV mnI l with
    | none => rw [hm] at hv; cases hv
    | some u =>
      rw [hm] at hv; cases hv
      obtain ⟨rfl, hr⟩ := minmax_sound hm ha
      exact ⟨ι, w, _, by simp [builtin, min_run hm], Ren.le_refl _, s, hr⟩
  · cases hv


theorem opv_sound {nt : Nat} {e : Env} {a : Act} {o : Oper} (s : Sim P W0 ι h w) (re : RE nt ι e a) (hok : okOp o.op = true) {v : Value} {h' : Heap} (hv : opv P e h o.op = some (v, h')) :
    ∃ ι' w' v', Does ((execOp a.eval o).run P w) v' w' ∧ ι.le ι' ∧ Sim P W0 ι' h' w' ∧ R ι' v v' := by
  obtain ⟨dst, op, ty, pos, after, guard⟩ := o
  have hops : ∀ x ∈ op.operands.toList, okOpd x = true := List.all_eq_true.1 hok
  simp only at hv
  unfold opv at hv
  split at hv
  · rename_i x
    cases hv
    exact ⟨ι, w, _, .inl (by simp [execOp]), Ren.le_refl _, s, re.op (hops x (by simp [Op.operands]))⟩
  · rename_i x
    cases hv
    exact ⟨ι, w, _, .inl (by simp [execOp]), Ren.le_refl _, s, re.op (hops x (by simp [Op.operands]))⟩
  · rename_i c x y
    have rc := re.op (hops c (by simp [Op.operands]))
    split at hv
    · rename_i hc
      cases hv
      rw [hc] at rc; have rc : a.eval c = .bool true := rc
      exact ⟨ι, w, _, .inl (by simp [execOp, rc, asBool]), Ren.le_refl _, s, re.op (hops x (by simp [Op.operands]))⟩
    · rename_i hc
      cases hv
      rw [hc] at rc; have rc : a.eval c = .bool false := rc
      exact ⟨ι, w, _, .inl (by simp [execOp, rc, asBool]), Ren.le_refl _, s, re.op (hops y (by simp [Op.operands]))⟩
    · cases hv
  · rename_i t
    split at hv
    · rename_i z n hz hn
      cases hv
      obtain ⟨zv, hzr, hzc⟩ := run_zr hz w
      obtain ⟨_, _, _, _, _, hzp⟩ := zr_info hz
      obtain ⟨ι', g1, g2, g3⟩ := new_sound s (plain_all hzp) n t
      refine ⟨ι', _, _, .inl ?_, g1, g2, g3⟩
      simp [execOp, Instr.alloc, hzr, newVar, newRow, hzc]
    · cases hv
  · rename_i t x
    split at hv
    · rename_i cs n hcs hn
      cases hv
      obtain ⟨cs', hc, ha⟩ := cellsL_R hcs (re.op (hops x (by simp [Op.operands])))
      obtain ⟨ι', g1, g2, g3⟩ := new_sound s ha n t
      refine ⟨ι', _, _, .inl ?_, g1, g2, g3⟩
      simp [execOp, Instr.box, newVar, newRow, hc]
    · cases hv
  · rename_i t parts
    split at hv
    · rename_i z hz
      split at hv
      · rename_i hbl
        cases hf : fillL (fun i => (fld? P t i).map fun p => (p.1, p.2.1)) e parts.toList z with
        | none => rw [hf] at hv; cases hv
        | some l =>
          rw [hf] at hv; simp at hv; obtain ⟨rfl, rfl⟩ := hv
          obtain ⟨l', h1, h2⟩ := build_sound re (fun p hp => hops p.2 (by simp [Op.operands]; exact ⟨p.1, by simpa using hp⟩)) hz hf w hbl
          exact ⟨ι, w, _, .inl (by simp only [execOp, Sem.run_bind, h1]; rfl), Ren.le_refl _, s, ⟨_, rfl, by simpa using h2⟩⟩
      · cases hv
    · cases hv
  · rename_i t n parts
    split at hv
    · rename_i u sz by_ he
      obtain ⟨hu, inf, hinf, hsz, hby⟩ := elt_info he
      split at hv
      · rename_i z hz
        split at hv
        · rename_i hn
          cases hf : fillL (fun i => some (i * sz, sz)) e parts.toList (repL n z) with
          | none => rw [hf] at hv; cases hv
          | some l =>
            rw [hf] at hv; simp at hv; obtain ⟨rfl, rfl⟩ := hv
            obtain ⟨inf2, zv, hinf2, hzv, hzc, hzp⟩ := zr_info hz
            rw [hinf] at hinf2; cases hinf2
            obtain ⟨l', h1, h2⟩ := fill_sound re parts.toList (fun p hp => hops p.2 (by simp [Op.operands]; exact ⟨p.1, by simpa using hp⟩)) _ _ l (plain_rep hzp n) hf
            obtain ⟨ι', g1, g2, g3, g4⟩ := s.newRow h2 [] sz u
            rw [List.append_nil] at g2 g4
            have hl2 := h2.length
            have hrl : l.length = n * sz := by
              have key : ∀ (ps : List (Nat × Operand)) (cs r : List Value), fillL (fun i => some (i * sz, sz)) e ps cs = some r → r.length = cs.length := by
                intro ps
                induction ps with
                | nil => intro cs r hr; simp [fillL] at hr; rw [hr]
                | cons p ps ih =>
                  intro cs r hr
                  obtain ⟨i, x⟩ := p
                  simp only [fillL] at hr
                  split at hr
                  · split at hr
                    · split at hr
                      · rename_i hw; have := ih _ _ hr; obtain ⟨hle, rfl⟩ := wrt_info hw; rw [this]; simp; omega
                      · cases hr
                    · cases hr
                  · cases hr
              rw [key _ _ _ hf, (repL_at (z := z) (n := n)).1, hn.2.1]
            refine ⟨ι', _, _, .inl ?_, g1, g2, RS.toR ⟨w.heap.size, n, 0, g3, rfl, Nat.le_refl _, fun _ => rfl, fun N z' hz' => ?_, rfl⟩⟩
            · have hmap : (parts.map fun (i, x) => (i, a.eval x)).toList = parts.toList.map fun p => (p.1, a.eval p.2) := by simp
              have h24 : ¬ (n * inf.size > 2 ^ 24) := by
                have : n * inf.size ≤ 64 * 64 := Nat.mul_le_mul hn.1 (by rw [hsz]; exact hn.2.2)
                omega
              by_cases h0 : n * inf.size = 0
              · have hz0 : repL n z = [] := List.eq_nil_of_length_eq_zero (by rw [(repL_at (z := z) (n := n)).1, hn.2.1, ← hsz]; exact h0)
                rw [hz0] at h1
                have h0' : ¬ (2 ^ 24 < n * inf.size) := h24
                simp only [execOp, Instr.buildSlice, run_underlying hu, Sem.run_bind, Result.andThen_ok, sizeOf, typeInfo, run_program, hinf, Sem.run_pure, if_neg h24, if_pos h0, hmap]
                rw [h0]
                rw [show ((Array.range 0).map ((#[] : Array Value)[· % (#[] : Array Value).size]!)) = ([] : List Value).toArray from by simp]
                rw [hsz, h1]; rfl
              · have hmade : (Array.range (n * inf.size)).map (zv.cells[· % zv.cells.size]!) = (repL n z).toArray := by
                  rw [hzc, hsz, ← hn.2.1]; exact made_list (by rw [hn.2.1, ← hsz]; exact Nat.pos_of_ne_zero fun h => h0 (by rw [h]; simp))
                simp only [execOp, Instr.buildSlice, run_underlying hu, Sem.run_bind, Result.andThen_ok, sizeOf, zeroValue, typeInfo, run_program, hinf, hzv, Sem.run_pure, if_neg h24, if_neg h0, hmap, hmade]
                rw [hsz, h1]; rfl
            · rw [g4] at hz'; cases hz'
              rw [← hl2, hrl]; omega
        · cases hv
      · cases hv
    · cases hv
  · rename_i t x
    cases hl : loadV P h t (e.op x) with
    | none => rw [hl] at hv; cases hv
    | some u =>
      rw [hl] at hv; cases hv
      obtain ⟨v', h1, h2⟩ := load_sound s hl (re.op (hops x (by simp [Op.operands])))
      exact ⟨ι, w, v', .inl (by simp [execOp, h1]), Ren.le_refl _, s, h2⟩
  · rename_i t x y
    cases hl : storeV P h t (e.op x) (e.op y) with
    | none => rw [hl] at hv; cases hv
    | some u =>
      rw [hl] at hv; cases hv
      obtain ⟨w', h1, h2⟩ := store_sound s hl (re.op (hops x (by simp [Op.operands]))) (re.op (hops y (by simp [Op.operands])))
      exact ⟨ι, w', undef, .inr ⟨by simp [execOp, h1], rfl⟩, Ren.le_refl _, h2, ⟨#[], rfl, .nil⟩⟩
  · rename_i x
    split at hv
    · rename_i hp
      cases hv
      have r := re.op (hops x (by simp [Op.operands]))
      have : ∃ q, e.op x = .pointer (some q) := by unfold ptrV at hp; split at hp <;> simp_all
      obtain ⟨q, hq⟩ := this
      rw [hq] at r ⊢
      obtain ⟨c, hc, hs, hv⟩ := r
      refine ⟨ι, w, a.eval x, .inl ?_, Ren.le_refl _, s, RS.toR ⟨c, hc, hs, hv⟩⟩
      simp [execOp, hv]
    · cases hv
  · rename_i op t x y yt
    cases hl : binV P op t (e.op x) (e.op y) with
    | none => rw [hl] at hv; cases hv
    | some u =>
      rw [hl] at hv; cases hv
      obtain ⟨h1, h2⟩ := binV_sound (ox := x) (oy := y) hl (re.op (hops x (by simp [Op.operands]))) (re.op (hops y (by simp [Op.operands]))) w
      exact ⟨ι, w, _, .inl (by simp only [execOp, Sem.run_bind (x := (do eqGuard op t x y (a.eval x) (a.eval y); binOp op t (a.eval x) (a.eval y) : Sem Value)), h1]; rfl), Ren.le_refl _, s, h2⟩
  · rename_i op t x
    cases hl : unV op (e.op x) with
    | none => rw [hl] at hv; cases hv
    | some u =>
      rw [hl] at hv; cases hv
      obtain ⟨h1, h2⟩ := unV_sound (P := P) hl (re.op (hops x (by simp [Op.operands]))) w
      exact ⟨ι, w, _, .inl (by simp [execOp, h1]), Ren.le_refl _, s, h2⟩
  · rename_i st dt x
    obtain ⟨ι', w', v', g1, g2, g3, g4⟩ := conv_sound s hv (re.op (hops x (by simp [Op.operands])))
    exact ⟨ι', w', v', .inl (by simp [execOp, g1]), g2, g3, g4⟩
  · rename_i f first caps
    split at hv
    · rename_i hh
      cases hv
      have hf : first = #[] := by simpa using hh.1
      subst hf
      refine ⟨ι, w, .func (.func f) #[] (caps.map a.eval), .inl (by simp [execOp, Instr.makeFunc]), Ren.le_refl _, s, RS.toR ⟨rfl, _, rfl, ?_⟩⟩
      simp only [Array.toList_map]
      have hc : ∀ x ∈ caps.toList, okOpd x = true := fun x hx => hops x (by simp [Op.operands]; simpa using hx)
      have h2 := List.all_eq_true.1 hh.2
      generalize caps.toList = l at hc h2
      induction l with
      | nil => exact .nil
      | cons x l ih =>
        refine .cons ?_ (ih (fun y hy => hc y (by simp [hy])) (fun y hy => h2 y (by simp [hy])))
        have r := re.op (hc x (by simp))
        have hp := h2 x (by simp)
        have : ∃ q, e.op x = .pointer (some q) := by unfold ptrV at hp; split at hp <;> simp_all
        obtain ⟨q, hq⟩ := this
        rw [hq] at r
        obtain ⟨c, hc, hs, hv⟩ := r
        exact ⟨q, c, hq, hc, hs, hv⟩
    · cases hv
  · rename_i t l c
    obtain ⟨ι', w', v', g1, g2, g3, g4⟩ := makeSlice_sound s hv (re.op (hops l (by simp [Op.operands]))) (re.op (hops c (by simp [Op.operands])))
    exact ⟨ι', w', v', .inl (by simp [execOp, g1]), g2, g3, g4⟩
  · rename_i t x lo hi mx
    cases hl : sliceV P h t (e.op x) (lo.map e.op) (hi.map e.op) (mx.map e.op) with
    | none => rw [hl] at hv; cases hv
    | some u =>
      rw [hl] at hv; cases hv
      have h1 := optR re (o := lo) fun y hy => hops y (by simp [Op.operands, hy])
      have h2 := optR re (o := hi) fun y hy => hops y (by simp [Op.operands, hy])
      have h3 := optR re (o := mx) fun y hy => hops y (by simp [Op.operands, hy])
      obtain ⟨v', g1, g2⟩ := slice_sound s hl (re.op (hops x (by simp [Op.operands]))) h1.1 h1.2 h2.1 h2.2 h3.1 h3.2
      exact ⟨ι, w, v', .inl (by simp [execOp, g1]), Ren.le_refl _, s, g2⟩
  · rename_i st x f
    cases hl : fieldAddrV P st (e.op x) f with
    | none => rw [hl] at hv; cases hv
    | some u =>
      rw [hl] at hv; cases hv
      obtain ⟨v', g1, g2⟩ := fieldAddr_sound hl (re.op (hops x (by simp [Op.operands]))) w
      exact ⟨ι, w, v', .inl (by simp [execOp, g1]), Ren.le_refl _, s, g2⟩
  · rename_i st x f
    cases hl : fieldV P st (e.op x) f with
    | none => rw [hl] at hv; cases hv
    | some u =>
      rw [hl] at hv; cases hv
      obtain ⟨v', g1, g2⟩ := field_sound hl (re.op (hops x (by simp [Op.operands]))) w
      exact ⟨ι, w, v', .inl (by simp [execOp, g1]), Ren.le_refl _, s, g2⟩
  · rename_i t x ix
    cases hl : indexAddrV P t (e.op x) (e.op ix) with
    | none => rw [hl] at hv; cases hv
    | some u =>
      rw [hl] at hv; cases hv
      obtain ⟨v', g1, g2⟩ := indexAddr_sound hl (re.op (hops x (by simp [Op.operands]))) (re.op (hops ix (by simp [Op.operands]))) w
      exact ⟨ι, w, v', .inl (by simp [execOp, g1]), Ren.le_refl _, s, g2⟩
  · rename_i t x ix
    cases hl : indexV P t (e.op x) (e.op ix) with
    | none => rw [hl] at hv; cases hv
    | some u =>
      rw [hl] at hv; cases hv
      obtain ⟨v', g1, g2⟩ := index_sound hl (re.op (hops x (by simp [Op.operands]))) (re.op (hops ix (by simp [Op.operands]))) w
      exact ⟨ι, w, v', .inl (by simp [execOp, g1]), Ren.le_refl _, s, g2⟩
  · rename_i x i
    cases hl : extractV (e.op x) i with
    | none => rw [hl] at hv; cases hv
    | some u =>
      rw [hl] at hv; cases hv
      obtain ⟨v', g1, g2⟩ := extract_sound (P := P) hl (re.op (hops x (by simp [Op.operands]))) w
      exact ⟨ι, w, v', .inl (by simp [execOp, g1]), Ren.le_refl _, s, g2⟩
  · rename_i b xs ts
    obtain ⟨ι', w', v', g1, g2, g3, g4⟩ := builtin_sound s re (ty := ty) (fun x hx => hops x (by simp [Op.operands, Call.operands]; simpa using hx)) hv (xs.map fun | .const _ => true | _ => false)
    refine ⟨ι', w', v', .inl ?_, g2, g3, g4⟩
    simp only [execOp, resolve, Sem.run_bind, Sem.run_pure, Result.andThen_ok, invoke]
    exact g1
  · cases hv

end Go.Ai
