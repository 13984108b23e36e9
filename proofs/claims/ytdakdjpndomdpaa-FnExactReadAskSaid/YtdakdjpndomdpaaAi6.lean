/- The abstract machine, part 6: slices, conversions, append, make, arithmetic; and all of it in one theorem about an operation that calls no Go function. Nothing about the program stands here. -/
import Derived.Test.YtdakdjpndomdpaaAi5
import Derived.Laws.Slices
set_option linter.unusedVariables false
set_option linter.unusedSimpArgs false
namespace Go.Ai
variable {P : Program} {W0 : World} {ι : Ren} {h : Heap} {w w' : World}

/-! ### Values alone -/
theorem cls_str {t : Nat} (hc : cls? P t = some .str) : P.underlying t = some .string := by unfold cls? at hc; split at hc <;> simp_all
theorem cls_bool {t : Nat} (hc : cls? P t = some .bool) : P.underlying t = some .bool := by unfold cls? at hc; split at hc <;> simp_all
theorem cls_int {t : Nat} {k : IntKind} (hc : cls? P t = some (.int k)) : P.underlying t = some (.int k) := by unfold cls? at hc; split at hc <;> simp_all
theorem cls_sl {t : Nat} (hc : cls? P t = some .sl) : ∃ e, P.underlying t = some (.slice e) := by unfold cls? at hc; split at hc <;> simp_all
theorem cls_ptr {t : Nat} (hc : cls? P t = some .ptr) : ∃ e, P.underlying t = some (.pointer e) := by unfold cls? at hc; split at hc <;> simp_all

theorem binI_sound {op : BinOp} {k : IntKind} {x y : Int} {v : Value} (hv : binI op k x y = some v) (hs : op ≠ .shl) (hs' : op ≠ .shr) (t : TypeId) (w : World) :
    (binOp op t (.int k x) (.int k y)).run P w = .ok v w ∧ R ι v v := by
  unfold binI at hv
  split at hv <;> first
    | (cases hv; refine ⟨?_, rfl⟩; simp [binOp, Op.intArith, Op.intCmp]; done)
    | (split at hv
       · cases hv
       · rename_i h0
         cases hv; exact ⟨by simp [binOp, Op.intDiv, h0], rfl⟩)
    | (cases hv; refine ⟨?_, rfl⟩; simp only [binOp_and, binOp_or, binOp_xor, binOp_andNot, intBits_and, intBits_or, intBits_xor, intBits_andNot, Sem.run_pure]; done)
    | (cases hv; done)

theorem shiftI_sound {op : BinOp} {k k' : IntKind} {x y : Int} {v : Value} (hv : shiftI op k x y = some v) (t : TypeId) (w : World) :
    (binOp op t (.int k x) (.int k' y)).run P w = .ok v w ∧ R ι v v := by
  unfold shiftI at hv
  split at hv
  · cases hv
  · rename_i h0
    split at hv <;> first
      | (cases hv; exact ⟨by simp [binOp, Op.shift, h0], rfl⟩)
      | (cases hv; done)

theorem binS_sound {op : BinOp} {x y : ByteArray} {v : Value} (hv : binS op x y = some v) (t : TypeId) (w : World) :
    (binOp op t (.string x) (.string y)).run P w = .ok v w ∧ R ι v v := by
  unfold binS at hv
  split at hv
  · split at hv
    · cases hv
    · rename_i h0
      cases hv
      exact ⟨by
        have e : IntKind.i64.max = 9223372036854775807 := by decide
        simp only [binOp, Op.stringOp, e, if_neg h0]; rfl, rfl⟩
  · cases hv; exact ⟨by simp [binOp, Op.stringOp], rfl⟩
  · cases hv; exact ⟨by simp [binOp, Op.stringOp], rfl⟩
  · cases hv

theorem eq_bool {t : TypeId} (hu : P.underlying t = some .bool) (d : Nat) (a b : Bool) (w : World) : (Op.equalIn (d + 1) t (.bool a) (.bool b)).run P w = .ok (a == b) w := by
  simp [Op.equalIn, run_underlying hu]
theorem eq_sl {t e : TypeId} (hu : P.underlying t = some (.slice e)) (d : Nat) (n c : Nat) (q : Option Addr) (n' c' : Nat) (w : World) : (Op.equalIn (d + 1) t (.slice none n c) (.slice q n' c')).run P w = .ok q.isNone w := by
  simp [Op.equalIn, run_underlying hu]
theorem eq_sl' {t e : TypeId} (hu : P.underlying t = some (.slice e)) (d : Nat) (n c : Nat) (q : Addr) (n' c' : Nat) (w : World) : (Op.equalIn (d + 1) t (.slice (some q) n' c') (.slice none n c)).run P w = .ok false w := by
  simp [Op.equalIn, run_underlying hu]
theorem eq_ptr {t e : TypeId} (hu : P.underlying t = some (.pointer e)) (d : Nat) (q : Option Addr) (w : World) : (Op.equalIn (d + 1) t (.pointer none) (.pointer q)).run P w = .ok q.isNone w := by
  simp [Op.equalIn, run_underlying hu]
theorem eq_ptr' {t e : TypeId} (hu : P.underlying t = some (.pointer e)) (d : Nat) (q : Addr) (w : World) : (Op.equalIn (d + 1) t (.pointer (some q)) (.pointer none)).run P w = .ok false w := by
  simp [Op.equalIn, run_underlying hu]

theorem eqV_sound {t : TypeId} {x x' y y' : Value} {b : Bool} (hv : eqV P t x y = some b) (rx : R ι x x') (ry : R ι y y') (w : World) :
    (Op.equal t x' y').run P w = .ok b w ∧ ((∃ p q, x' = .bool p ∧ y' = .bool q) ∨ (∃ p q r p' q' r', x' = .slice p q r ∧ y' = .slice p' q' r') ∨ (∃ p q, x' = .pointer p ∧ y' = .pointer q)) := by
  unfold eqV at hv
  split at hv
  · rename_i hc
    cases hv
    obtain rfl := (show x' = _ from rx); obtain rfl := (show y' = _ from ry)
    exact ⟨eq_bool (cls_bool hc) 9999 _ _ w, by simp⟩
  · rename_i q _ _ hc
    obtain ⟨e, hu⟩ := cls_sl hc
    obtain ⟨_, _, rfl⟩ := rx
    cases hv
    cases q with
    | none => obtain ⟨_, _, rfl⟩ := ry; exact ⟨eq_sl hu 9999 _ _ _ _ _ w, by simp⟩
    | some q => obtain ⟨_, _, _, _, _, _, _, _, rfl⟩ := ry; exact ⟨eq_sl hu 9999 _ _ _ _ _ w, by simp⟩
  · rename_i q _ _ _ _ hne hc
    obtain ⟨e, hu⟩ := cls_sl hc
    obtain ⟨_, _, rfl⟩ := ry
    cases hv
    cases q with
    | none => exact (hne rfl).elim
    | some q => obtain ⟨_, _, _, _, _, _, _, _, rfl⟩ := rx; exact ⟨eq_sl' hu 9999 _ _ _ _ _ w, by simp⟩
  · rename_i q hc
    obtain ⟨e, hu⟩ := cls_ptr hc
    obtain rfl := (show x' = _ from rx)
    cases hv
    cases q with
    | none => obtain rfl := (show y' = _ from ry); exact ⟨eq_ptr hu 9999 _ w, by simp⟩
    | some q => obtain ⟨_, _, _, rfl⟩ := ry; exact ⟨eq_ptr hu 9999 _ w, by simp⟩
  · rename_i q hne hc
    obtain ⟨e, hu⟩ := cls_ptr hc
    obtain rfl := (show y' = _ from ry)
    cases hv
    cases q with
    | none => exact (hne rfl).elim
    | some q => obtain ⟨_, _, _, rfl⟩ := rx; exact ⟨eq_ptr' hu 9999 _ w, by simp⟩
  · cases hv


theorem binV_sound {op : BinOp} {t : TypeId} {ox oy : Operand} {x x' y y' v : Value} (hv : binV P op t x y = some v) (rx : R ι x x') (ry : R ι y y') (w : World) :
    ((do eqGuard op t ox oy x' y'; binOp op t x' y') : Sem Value).run P w = .ok v w ∧ R ι v v := by
  unfold binV at hv
  split at hv
  · rename_i k a k' b
    obtain rfl := (show x' = _ from rx); obtain rfl := (show y' = _ from ry)
    have g : (eqGuard op t ox oy (.int k a) (.int k' b)).run P w = .ok () w := by unfold eqGuard; split <;> rfl
    rw [Sem.run_bind, g, Result.andThen_ok]
    split at hv
    · exact shiftI_sound hv t w
    · exact shiftI_sound hv t w
    · rename_i h1 h2
      split at hv
      · rename_i hk; subst hk; exact binI_sound hv (fun e => h1 e) (fun e => h2 e) t w
      · cases hv
  · rename_i a b
    obtain rfl := (show x' = _ from rx); obtain rfl := (show y' = _ from ry)
    have g : (eqGuard op t ox oy (.string a) (.string b)).run P w = .ok () w := by unfold eqGuard; split <;> rfl
    rw [Sem.run_bind, g, Result.andThen_ok]
    exact binS_sound hv t w
  · split at hv
    · cases he : eqV P t x y with
      | none => rw [he] at hv; cases hv
      | some b =>
        rw [he] at hv; cases hv
        obtain ⟨h1, h2⟩ := eqV_sound he rx ry w
        refine ⟨?_, rfl⟩
        rcases h2 with ⟨p, q, rfl, rfl⟩ | ⟨p, q, r, p', q', r', rfl, rfl⟩ | ⟨p, q, rfl, rfl⟩
        all_goals
          rw [Sem.run_bind, show (eqGuard _ _ _ _ _ _).run P w = .ok () w from by unfold eqGuard; rfl, Result.andThen_ok]
          simp [binOp, h1]
    · cases he : eqV P t x y with
      | none => rw [he] at hv; cases hv
      | some b =>
        rw [he] at hv; cases hv
        obtain ⟨h1, h2⟩ := eqV_sound he rx ry w
        refine ⟨?_, rfl⟩
        rcases h2 with ⟨p, q, rfl, rfl⟩ | ⟨p, q, r, p', q', r', rfl, rfl⟩ | ⟨p, q, rfl, rfl⟩
        all_goals
          rw [Sem.run_bind, show (eqGuard _ _ _ _ _ _).run P w = .ok () w from by unfold eqGuard; rfl, Result.andThen_ok]
          simp [binOp, h1]
    · cases hv

theorem unV_sound {op : UnOp} {x x' v : Value} (hv : unV op x = some v) (rx : R ι x x') (w : World) : (Op.unary op x').run P w = .ok v w ∧ R ι v v := by
  unfold unV at hv
  split at hv
  · obtain rfl := (show x' = _ from rx); cases hv; exact ⟨by simp [Op.unary, Op.intArith], rfl⟩
  · obtain rfl := (show x' = _ from rx); cases hv; exact ⟨by simp [Op.unary], rfl⟩
  · cases hv

/-! ### Slices -/
theorem bound_sound {len d n : Nat} {o : Option Value} (hb : bound? len o d = some n) : (o = none ∧ n = d) ∨ ∃ k, o = some (.int k (n : Int)) ∧ n ≤ len := by
  unfold bound? at hb
  split at hb
  · cases hb; exact .inl ⟨rfl, rfl⟩
  · split at hb
    · rename_i h; cases hb; exact .inr ⟨_, by rw [Int.toNat_of_nonneg h.1], by omega⟩
    · cases hb
  · cases hb

theorem R_int_inv {k : IntKind} {i : Int} {y : Value} (r : R ι (.int k i) y) : y = .int k i := r
theorem optR_int {o : Option Operand} {nt : Nat} {e : Env} {a : Act} (re : RE nt ι e a) (hok : ∀ x, o = some x → okOpd x = true) {k : IntKind} {i : Int}
    (h : o.map e.op = some (.int k i)) : o.map a.eval = some (.int k i) := by
  cases o with
  | none => cases h
  | some x =>
    simp at h
    have := re.op (hok x rfl)
    rw [h] at this
    simp [R_int_inv this]

theorem slice_sound (s : Sim P W0 ι h w) {t : TypeId} {x x' v : Value} {lo hi mx lo' hi' mx' : Option Value} (hv : sliceV P h t x lo hi mx = some v) (r : R ι x x')
    (hlo : ∀ k i, lo = some (.int k i) → lo' = some (.int k i)) (hlo0 : lo = none → lo' = none)
    (hhi : ∀ k i, hi = some (.int k i) → hi' = some (.int k i)) (hhi0 : hi = none → hi' = none)
    (hmx : ∀ k i, mx = some (.int k i) → mx' = some (.int k i)) (hmx0 : mx = none → mx' = none) :
    ∃ v', (Instr.sliceAt t x' lo' hi' mx').run P w = .ok v' w ∧ R ι v v' := by
  unfold sliceV at hv
  split at hv
  · rename_i a len _ e sz by_ he
    obtain ⟨hu, inf, hinf, rfl, _⟩ := elt_info he
    have hsz : sz? P e = some inf.size := by simp [sz?, hinf]
    have hu' : P.underlying t = some (.slice (P.elem t)) := by simp [Program.elem, hu]
    have hel : P.elem t = e := by simp [Program.elem, hu]
    split at hv
    · cases hv
    · rename_i hmh
      split at hv
      · rename_i m hm
        split at hv
        · rename_i hh hhh
          split at hv
          · rename_i l hl
            -- the concrete capacity, and what it comes to
            have key : ∀ (a' : Option Addr) (cap : Nat), len ≤ cap → ∃ mC : Nat, l ≤ hh ∧ hh ≤ mC ∧ hh ≤ len ∧ mC ≤ cap ∧
                (Instr.slice t (.slice a' len cap) lo' hi' mx').run P w = .ok (.slice (if mC = l then a' else a'.map (·.add (l * inf.size))) (hh - l) (mC - l)) w := by
              intro a' cap hcap
              rcases bound_sound hm with ⟨e1, rfl⟩ | ⟨km, e1, m1⟩ <;>
              rcases bound_sound hhh with ⟨e2, rfl⟩ | ⟨kh, e2, h1⟩ <;>
              rcases bound_sound hl with ⟨e3, rfl⟩ | ⟨kl, e3, l1⟩
              · rw [hmx0 e1, hhi0 e2, hlo0 e3]
                exact ⟨cap, by omega, by omega, by omega, by omega, by simp [Instr.slice, run_underlying hu, Instr.sliceBounds, run_sz hsz]⟩
              · rw [hmx0 e1, hhi0 e2, hlo _ _ e3]
                exact ⟨cap, by omega, by omega, by omega, by omega, by simp [Instr.slice, run_underlying hu, Instr.sliceBounds, run_sz hsz, run_sliceBound, l1]⟩
              · rw [hmx0 e1, hhi _ _ e2, hlo0 e3]
                have h2 : hh ≤ cap := by omega
                exact ⟨cap, by omega, by omega, by omega, by omega, by simp [Instr.slice, run_underlying hu, Instr.sliceBounds, run_sz hsz, run_sliceBound, h2]⟩
              · rw [hmx0 e1, hhi _ _ e2, hlo _ _ e3]
                have h2 : hh ≤ cap := by omega
                exact ⟨cap, by omega, by omega, by omega, by omega, by simp [Instr.slice, run_underlying hu, Instr.sliceBounds, run_sz hsz, run_sliceBound, h2, l1]⟩
              · exact (hmh ⟨by rw [e1]; rfl, by rw [e2]; rfl⟩).elim
              · exact (hmh ⟨by rw [e1]; rfl, by rw [e2]; rfl⟩).elim
              · rw [hmx _ _ e1, hhi _ _ e2, hlo0 e3]
                have h2 : m ≤ cap := by omega
                exact ⟨m, by omega, by omega, by omega, by omega, by simp [Instr.slice, run_underlying hu, Instr.sliceBounds, run_sz hsz, run_sliceBound, h2, h1]⟩
              · rw [hmx _ _ e1, hhi _ _ e2, hlo _ _ e3]
                have h2 : m ≤ cap := by omega
                exact ⟨m, by omega, by omega, by omega, by omega, by simp [Instr.slice, run_underlying hu, Instr.sliceBounds, run_sz hsz, run_sliceBound, h2, h1, l1]⟩
            split at hv
            · cases hv
              obtain ⟨rfl, _, rfl⟩ := r
              obtain ⟨mC, g1, g2, g3, g4, g5⟩ := key none 0 (by omega)
              refine ⟨_, by rw [run_sliceAt_slice _ _ _ _ _ _ hu']; exact g5, ?_⟩
              have : mC = 0 := by omega
              have : l = 0 := by omega
              have : hh = 0 := by omega
              subst_vars
              exact ⟨rfl, rfl, rfl⟩
            · rename_i a
              obtain ⟨c, cap, off, hc, hs, hlc, ho, hN, rfl⟩ := r
              split at hv
              · rename_i k hk
                split at hv
                · rename_i hksz
                  cases hv
                  obtain ⟨mC, g1, g2, g3, g4, g5⟩ := key (some ⟨c, off, none⟩) cap hlc
                  refine ⟨_, by rw [run_sliceAt_slice _ _ _ _ _ _ hu']; exact g5, ?_⟩
                  have hNz : ∀ N z, ι.s c = some (N, z) → z = inf.size := by
                    intro N z hz
                    cases hw : k.w with
                    | true =>
                      obtain ⟨cs', ty, fr, _, _, _, h4⟩ := s.cell _ _ _ hk hc
                      rw [(h4 hw).1] at hz; cases hz; exact hksz.resolve_left (by simp [hw])
                    | false =>
                      have hb := s.ro _ _ hk hw
                      have := s.base _ hb
                      rw [hc] at this; cases this.1
                      rw [this.2.2] at hz; cases hz
                  apply RS.toR
                  by_cases hml : mC = l
                  · rw [if_pos hml]
                    refine ⟨c, mC - l, off, hc, rfl, by omega, ?_, ?_, rfl⟩
                    · rintro (h5 | h5)
                      · omega
                      · simp only at h5
                        have h6 : a.off = 0 := by omega
                        rw [ho (.inr h6)]; simp only; omega
                    · intro N z hz; have := hN N z hz; rw [hml, Nat.sub_self, Nat.zero_mul]; have := Nat.zero_le (cap * z); omega
                  · rw [if_neg hml]
                    simp only [Option.map_some, add_off]
                    refine ⟨c, mC - l, off + l * inf.size, hc, rfl, by omega, ?_, ?_, rfl⟩
                    · rintro (h5 | h5)
                      · rw [ho (.inl (by omega))]
                      · simp only at h5
                        have h6 : a.off = 0 := by omega
                        rw [ho (.inr h6)]
                    · intro N z hz
                      have h7 := hN N z hz
                      have h8 := hNz N z hz
                      subst h8
                      have : l * inf.size + (mC - l) * inf.size = mC * inf.size := by rw [← Nat.add_mul]; congr 1; omega
                      have : mC * inf.size ≤ cap * inf.size := Nat.mul_le_mul_right _ g4
                      omega
                · cases hv
              · cases hv
          · cases hv
        · cases hv
      · cases hv
  · rename_i sb he
    split at hv
    · rename_i hcl
      have hu := cls_str hcl
      split at hv
      · rename_i hh hhh
        split at hv
        · rename_i l hl
          cases hv
          obtain rfl := (show x' = .string sb from r)
          refine ⟨.string (sb.extract l hh), ?_, rfl⟩
          rw [run_sliceAt_string _ _ _ _ _ _ hu]
          rw [hmx0 rfl]
          rcases bound_sound hhh with ⟨e2, rfl⟩ | ⟨kh, e2, h1⟩ <;>
          rcases bound_sound hl with ⟨e3, rfl⟩ | ⟨kl, e3, l1⟩
          · rw [hhi0 e2, hlo0 e3]; simp [Instr.slice, run_underlying hu, Instr.sliceBounds]
          · rw [hhi0 e2, hlo _ _ e3]; simp [Instr.slice, run_underlying hu, Instr.sliceBounds, run_sliceBound, l1]
          · rw [hhi _ _ e2, hlo0 e3]; simp [Instr.slice, run_underlying hu, Instr.sliceBounds, run_sliceBound, h1]
          · rw [hhi _ _ e2, hlo _ _ e3]; simp [Instr.slice, run_underlying hu, Instr.sliceBounds, run_sliceBound, h1, l1]
        · cases hv
      · cases hv
    · cases hv
  · cases hv

end Go.Ai
