/- Stopped over trees. -/
import Derived.Test.YtjofbadmkigkjaaKe
import Derived.Test.YtjofbadmkigkjaaHf
set_option linter.unusedSimpArgs false
set_option linter.unusedVariables false
set_option maxRecDepth 20000
namespace Go.Bi
open Go.Proofs
open Go.Ai (wrap_i64 wrap_u64 wrap_u8 Heap)
variable {W0 : World} {P : Program}
theorem hobK (b : Bool) : (b == b) = true := by simp
attribute [go_sem] hobK
theorem mem_sumL {ss : List ByteArray} : ∀ s ∈ ss, s.size ≤ sumL ss := by
  induction ss with
  | nil => intro s hs; cases hs
  | cons t ss ih =>
    intro s hs
    have e : sumL (t :: ss) = t.size + sumL ss := by simp [sumL]
    rcases List.mem_cons.1 hs with rfl | hs
    · omega
    · have := ih s hs; omega
theorem eqModel_tree {g : H2} {c : LModel} {bs bs' : List Nat} {ys ys' : List X} (o : OTs g bs ys (eModel c)) (o' : OTs g bs' ys' (eModel c)) (hf : fitModel c) : PW Try.prog W0 22 [.st ys, .st ys'] g (fun y => y = .raw (.bool true)) := by
  obtain ⟨F, hF⟩ := o.lent
  obtain ⟨F', hF'⟩ := o'.lent
  exact PW.lend (.cons hF (.cons hF' .nil)) (eqModel_ok (F := F) (F' := F') hf) (fun y h => by subst h; exact .raw)
theorem implStopped_tree {m : LModel} {c : LConfig} {ts : List Int} {g : H2} {bs bs' bs2 : List Nat} {ys ys2 : List X} {y : X} (o : OTs g bs ys (eModel m)) (o2 : OTs g bs2 ys2 (eConfig c)) (o' : OT g bs' y (.l 1 (ints ts))) (hW : Lng W0) (hl : m.merges.length ≤ 1048576) (ht : ts.length ≤ 1048576) (hs : c.stops.length ≤ 1048576) (hz : ∀ s ∈ c.stops, s.size ≤ 1048576) :
    WC2 Try.prog W0 21 [.st ys, .st ys2, y] g (fun x g' => g.le g' ∧ x = .tp [.raw (.string (stopT (decT m.merges ts) c.stops)), .raw (.bool (!decide (firstP (decT m.merges ts) c.stops < 0)))]) := by
  obtain ⟨F, hF⟩ := o.lent
  obtain ⟨f, hf⟩ := o'.lent
  obtain ⟨F', hF'⟩ := o2.lent
  have c1 : PW Try.prog W0 21 [.st ys, .st ys2, y] g (fun r => r = stopR (decT m.merges ts) c.stops) := PW.lend (.cons hF (.cons hF' (.cons hf .nil))) (implStopped_ok (F := F) (F' := F') hW hl ht hs) (fun y h => by rw [h]; refine .tp fun x hx => ?_; simp only [List.mem_cons, List.not_mem_nil, or_false] at hx; rcases hx with rfl | rfl <;> exact .raw)
  refine WC2.mono c1 ?_
  rintro x g' ⟨h1, h2, h3⟩
  exact ⟨by rw [h1]; exact le_up (H2.le.refl _) h2, h3⟩
theorem specStopped_tree {m : LModel} {c : LConfig} {ts : List Int} {g : H2} {bs bs' bs2 : List Nat} {ys ys2 : List X} {y : X} (o : OTs g bs ys (eModel m)) (o2 : OTs g bs2 ys2 (eConfig c)) (o' : OT g bs' y (.l 1 (ints ts))) (hW : Lng W0) (hl : m.merges.length ≤ 1048576) (ht : ts.length ≤ 1048576) (hs : c.stops.length ≤ 1048576) (hz : ∀ s ∈ c.stops, s.size ≤ 1048576) :
    WC2 Try.prog W0 17 [.st ys, .st ys2, y] g (fun x g' => g.le g' ∧ x = .tp [.raw (.string (stopT (decT m.merges ts) c.stops)), .raw (.bool (!decide (firstP (decT m.merges ts) c.stops < 0)))]) := by
  obtain ⟨F, hF⟩ := o.lent
  obtain ⟨f, hf⟩ := o'.lent
  obtain ⟨F', hF'⟩ := o2.lent
  have c1 : PW Try.prog W0 17 [.st ys, .st ys2, y] g (fun r => r = stopR (decT m.merges ts) c.stops) := PW.lend (.cons hF (.cons hF' (.cons hf .nil))) (specStopped_ok (F := F) (F' := F') hl ht hs hz) (fun y h => by rw [h]; refine .tp fun x hx => ?_; simp only [List.mem_cons, List.not_mem_nil, or_false] at hx; rcases hx with rfl | rfl <;> exact .raw)
  refine WC2.mono c1 ?_
  rintro x g' ⟨h1, h2, h3⟩
  exact ⟨by rw [h1]; exact le_up (H2.le.refl _) h2, h3⟩
end Go.Bi
