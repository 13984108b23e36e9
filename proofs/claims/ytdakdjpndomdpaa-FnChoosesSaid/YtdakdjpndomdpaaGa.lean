/- Calls told by the abstract machine alone, turned to deep values; ChanceOf and NextState so. -/
import Derived.Test.YtdakdjpndomdpaaCm
import Derived.Test.YtdakdjpndomdpaaDb
set_option linter.unusedSimpArgs false
set_option linter.unusedVariables false
set_option maxRecDepth 20000
namespace Go.Bi
open Go.Proofs
open Go.Ai (wrap_i64 wrap_u64 wrap_u8 Heap WC R RG RS Row1)
variable {W0 : World} {P : Program} {g : H2}
theorem WC.conv {f : FuncId} {args : List Value} {h : Heap} {Q Q' : Value → Heap → Prop} (c : WC P W0 f args h Q) (hq : ∀ v h', Q v h' → ∃ v2, (∀ ι x, R ι v x → R ι v2 x) ∧ Q' v2 h') : WC P W0 f args h Q' :=
  ⟨c.1, fun ι w args' s ha => (c.2 ι w args' s ha).mono fun e w' ⟨v, v', h', ι', h1, h2, h3, h4, h5⟩ => by
    obtain ⟨v2, h6, h7⟩ := hq _ _ h5
    exact ⟨v2, v', h', ι', h1, h2, h3, h6 _ _ h4, h7⟩⟩
theorem R_cap {ι : Go.Ai.Ren} {a : Addr} {n c c' : Nat} {x : Value} (h : R ι (.slice (some a) n c) x) : R ι (.slice (some a) n c') x := h
theorem R_nil {ι : Go.Ai.Ren} {n c : Nat} {x : Value} (h : R ι (.slice none n c) x) : R ι (.slice none 0 0) x := ⟨rfl, rfl, h.2.2⟩
/-- A new row of numbers. -/
theorem PI.ofA {f : FuncId} {vs : List Value} {xs : List X} {zs : List Int} (hx : xs.map er = vs)
    (c : ∀ h, S g h → (∀ x ∈ xs, Ok h g x) → WC P W0 f vs h (fun v h' => (∃ m, Go.Ai.Own (Go.Ai.hn h .mk) h' v 1 m (zs.map (.int .i64))) ∧ h.le h')) : PI P W0 f xs g zs := by
  intro h s o
  rw [hx]
  refine WC.conv (c h s o) ?_
  rintro v h' ⟨⟨m, hlen, a, cc, rfl, hcase⟩, le⟩
  simp only [List.length_map, Nat.mul_one] at hlen
  have hle1 := le.1
  have hle2 := le.2
  have hn1 : g.n = h.n := s.n
  have hnn : hn g .mk = h.n := s.n
  rcases hcase with ⟨rfl, rfl⟩ | ⟨b, rfl, hb1, hb2, hb3⟩
  · have hz : zs = [] := List.eq_nil_of_length_eq_zero hlen
    subst hz
    have hx2 : Ext g h (g.up h'.n) h' := ⟨hle1, fun b hb _ => hle2 b hb, fun _ _ h => h⟩
    refine ⟨_, fun ι x hr => R_nil hr, .raw (.slice none 0 0), g.up h'.n, rfl, ⟨rfl, fun b k hk => ?_⟩, hx2, .raw, le_up (H2.le.refl _) (by omega), .nil⟩
    obtain ⟨q1, q2, q3⟩ := s.row b k hk
    exact ⟨Nat.lt_of_lt_of_le q1 hle1, by rw [hle2 b q1]; exact q2, fun y hy => (q3 y hy).mono hx2⟩
  · have hb1' : h.n ≤ b := hb1
    have hb2' : b < h'.n := hb2
    have hb3' : h'.get b = some ⟨true, 1, zs.map (.int .i64)⟩ := hb3
    let g2 : H2 := (g.up h'.n).set b ⟨1, zs.map cI⟩
    have hx2 : Ext g h g2 h' := ⟨hle1, fun c hc _ => hle2 c hc, fun c hc hg => by
      have : ¬ c = b := by omega
      simp [g2, H2.set, H2.up, this, hg]⟩
    refine ⟨_, fun ι x hr => R_cap (c' := zs.length) hr, .raw (.slice (some ⟨b, 0, none⟩) m zs.length), g2, rfl, ⟨rfl, fun c k hk => ?_⟩, hx2, .raw, ⟨?_, fun c hc => ?_⟩, ?_, .inr ⟨b, ?_, ?_, hb2', ?_⟩⟩
    · simp only [g2, H2.set] at hk
      split at hk
      · rename_i e; subst e; cases hk
        refine ⟨hb2', ?_, fun x hx => by obtain ⟨v, _, rfl⟩ := List.mem_map.1 hx; exact .raw⟩
        rw [hb3']; simp [cI, er, Function.comp_def]
      · obtain ⟨q1, q2, q3⟩ := s.row c k hk
        exact ⟨Nat.lt_of_lt_of_le q1 hle1, by rw [hle2 c q1]; exact q2, fun y hy => (q3 y hy).mono hx2⟩
    · show hn g .mk ≤ h'.n; omega
    · show g2.get c = g.get c
      have : ¬ c = b := by omega
      simp [g2, H2.set, H2.up, this]
    · simp
    · rw [hlen]
    · omega
    · show g2.get b = _
      simp [g2, H2.set]
theorem row_of {h : Heap} {f : Adr} {zs : List Int} (o : Ok h g (.sl f 1 (ints zs))) (h0 : 0 < zs.length) : ∃ a c, f [] = .slice a zs.length c ∧ Row1 h a zs.length (zs.map (.int .i64)) := by
  cases o with
  | sl r =>
    generalize he : ints zs = es at r
    cases r with
    | o h1 => have := congrArg List.length he; rw [ints_len, List.length_nil] at this; omega
    | l a c h1 h2 h3 h4 =>
      subst he
      rw [ints_len] at h1
      refine ⟨a, c, h1, by simp, fun i hi => ?_⟩
      rcases h3 with ⟨rfl, h3⟩ | ⟨b, off, w, k, cs, rfl, h5, h6, h7, _, _, h8⟩
      · have : zs.length = 0 := by rw [← ints_len, h3]; rfl
        omega
      · refine ⟨b, off, w, k, cs, rfl, h7, h5, ?_⟩
        have e := h8 i 0 (by rw [ints_len]; exact hi) (by omega)
        rw [Nat.mul_one, Nat.add_zero] at e
        rw [e, List.getElem?_map, List.getElem?_eq_getElem hi]
        have r := h4 i 0 (.v (.int .i64 zs[i])) (by simp [ints, List.getElem?_eq_getElem hi, eI])
        cases r with
        | v hv => rw [Option.map_some, ← hv]; rfl
theorem implChanceOf_ok {f f' : Adr} {zs top : List Int} (hz : 0 < zs.length) (ht : 0 < top.length) (h1 : zs.length ≤ 1048576) (h2 : top.length ≤ 1048576) : PI Try.prog W0 28 [.sl f 1 (ints zs), .sl f' 1 (ints top)] g (Go.Ai.chanceI zs top) := by
  refine WC2.asm fun h s o => ?_
  obtain ⟨a, c, e, r⟩ := row_of (o (.sl f 1 (ints zs)) (by simp)) hz
  obtain ⟨a', c', e', r'⟩ := row_of (o (.sl f' 1 (ints top)) (by simp)) ht
  refine PI.ofA (vs := [.slice a zs.length c, .slice a' top.length c']) (by simp [er, e, e']) fun h s o => ?_
  obtain ⟨a1, c1, e1, r1⟩ := row_of (o (.sl f 1 (ints zs)) (by simp)) hz
  obtain ⟨a2, c2, e2, r2⟩ := row_of (o (.sl f' 1 (ints top)) (by simp)) ht
  rw [e] at e1; rw [e'] at e2
  cases e1; cases e2
  exact Go.Ai.implChanceOf_ok r1 r2 h1 h2
theorem specChanceOf_ok {f f' : Adr} {zs top : List Int} (hz : 0 < zs.length) (ht : 0 < top.length) (h1 : zs.length ≤ 1048576) (h2 : top.length ≤ 1048576) : PI Try.prog W0 26 [.sl f 1 (ints zs), .sl f' 1 (ints top)] g (Go.Ai.chanceI zs top) := by
  refine WC2.asm fun h s o => ?_
  obtain ⟨a, c, e, r⟩ := row_of (o (.sl f 1 (ints zs)) (by simp)) hz
  obtain ⟨a', c', e', r'⟩ := row_of (o (.sl f' 1 (ints top)) (by simp)) ht
  refine PI.ofA (vs := [.slice a zs.length c, .slice a' top.length c']) (by simp [er, e, e']) fun h s o => ?_
  obtain ⟨a1, c1, e1, r1⟩ := row_of (o (.sl f 1 (ints zs)) (by simp)) hz
  obtain ⟨a2, c2, e2, r2⟩ := row_of (o (.sl f' 1 (ints top)) (by simp)) ht
  rw [e] at e1; rw [e'] at e2
  cases e1; cases e2
  exact Go.Ai.specChanceOf_ok r1 r2 h1 h2
end Go.Bi
