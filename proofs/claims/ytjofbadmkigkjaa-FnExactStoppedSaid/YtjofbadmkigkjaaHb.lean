/- Walks of what the laws use to measure, copy, compare, mark and look again at structs (Layer:d,sz,eq,to). -/
import Derived.Test.YtjofbadmkigkjaaHa
set_option linter.unusedSimpArgs false
set_option linter.unusedVariables false
set_option maxRecDepth 20000
namespace Go.Bi
open Go.Proofs
open Go.Ai (wrap_i64 wrap_u64 wrap_u8)
variable {W0 : World}
structure LLayer where
  gain1 : List Int
  q : LMatrix
  k : LMatrix
  v : LMatrix
  o : LMatrix
  gain2 : List Int
  up : LMatrix
  down : LMatrix
instance : Inhabited LLayer := ⟨⟨default, default, default, default, default, default, default, default⟩⟩
def eLayer (c : LLayer) : List T := [.l 1 (ints c.gain1), .v (.int .i64 c.q.width), .l 1 (rIntSS c.q.rows), .l 1 (rIntSS c.q.scales), .v (.int .i64 c.q.mul), .v (.int .i64 c.q.shift), .v (.int .i64 c.k.width), .l 1 (rIntSS c.k.rows), .l 1 (rIntSS c.k.scales), .v (.int .i64 c.k.mul), .v (.int .i64 c.k.shift), .v (.int .i64 c.v.width), .l 1 (rIntSS c.v.rows), .l 1 (rIntSS c.v.scales), .v (.int .i64 c.v.mul), .v (.int .i64 c.v.shift), .v (.int .i64 c.o.width), .l 1 (rIntSS c.o.rows), .l 1 (rIntSS c.o.scales), .v (.int .i64 c.o.mul), .v (.int .i64 c.o.shift), .l 1 (ints c.gain2), .v (.int .i64 c.up.width), .l 1 (rIntSS c.up.rows), .l 1 (rIntSS c.up.scales), .v (.int .i64 c.up.mul), .v (.int .i64 c.up.shift), .v (.int .i64 c.down.width), .l 1 (rIntSS c.down.rows), .l 1 (rIntSS c.down.scales), .v (.int .i64 c.down.mul), .v (.int .i64 c.down.shift)]
def xLayer (F : Nat → Adr) (c : LLayer) : List X := [.sl (F 0) 1 (ints c.gain1), .raw (.int .i64 c.q.width), .sl (F 2) 1 (rIntSS c.q.rows), .sl (F 3) 1 (rIntSS c.q.scales), .raw (.int .i64 c.q.mul), .raw (.int .i64 c.q.shift), .raw (.int .i64 c.k.width), .sl (F 7) 1 (rIntSS c.k.rows), .sl (F 8) 1 (rIntSS c.k.scales), .raw (.int .i64 c.k.mul), .raw (.int .i64 c.k.shift), .raw (.int .i64 c.v.width), .sl (F 12) 1 (rIntSS c.v.rows), .sl (F 13) 1 (rIntSS c.v.scales), .raw (.int .i64 c.v.mul), .raw (.int .i64 c.v.shift), .raw (.int .i64 c.o.width), .sl (F 17) 1 (rIntSS c.o.rows), .sl (F 18) 1 (rIntSS c.o.scales), .raw (.int .i64 c.o.mul), .raw (.int .i64 c.o.shift), .sl (F 21) 1 (ints c.gain2), .raw (.int .i64 c.up.width), .sl (F 23) 1 (rIntSS c.up.rows), .sl (F 24) 1 (rIntSS c.up.scales), .raw (.int .i64 c.up.mul), .raw (.int .i64 c.up.shift), .raw (.int .i64 c.down.width), .sl (F 28) 1 (rIntSS c.down.rows), .sl (F 29) 1 (rIntSS c.down.scales), .raw (.int .i64 c.down.mul), .raw (.int .i64 c.down.shift)]
theorem mkLayer {F : Nat → Adr} {c : LLayer} : mkF F 0 (eLayer c) = xLayer F c := rfl
theorem eLayer_def {c : LLayer} : eLayer c = [.l 1 (ints c.gain1), .v (.int .i64 c.q.width), .l 1 (rIntSS c.q.rows), .l 1 (rIntSS c.q.scales), .v (.int .i64 c.q.mul), .v (.int .i64 c.q.shift), .v (.int .i64 c.k.width), .l 1 (rIntSS c.k.rows), .l 1 (rIntSS c.k.scales), .v (.int .i64 c.k.mul), .v (.int .i64 c.k.shift), .v (.int .i64 c.v.width), .l 1 (rIntSS c.v.rows), .l 1 (rIntSS c.v.scales), .v (.int .i64 c.v.mul), .v (.int .i64 c.v.shift), .v (.int .i64 c.o.width), .l 1 (rIntSS c.o.rows), .l 1 (rIntSS c.o.scales), .v (.int .i64 c.o.mul), .v (.int .i64 c.o.shift), .l 1 (ints c.gain2), .v (.int .i64 c.up.width), .l 1 (rIntSS c.up.rows), .l 1 (rIntSS c.up.scales), .v (.int .i64 c.up.mul), .v (.int .i64 c.up.shift), .v (.int .i64 c.down.width), .l 1 (rIntSS c.down.rows), .l 1 (rIntSS c.down.scales), .v (.int .i64 c.down.mul), .v (.int .i64 c.down.shift)] := rfl
theorem xLayer_def {F : Nat → Adr} {c : LLayer} : xLayer F c = [.sl (F 0) 1 (ints c.gain1), .raw (.int .i64 c.q.width), .sl (F 2) 1 (rIntSS c.q.rows), .sl (F 3) 1 (rIntSS c.q.scales), .raw (.int .i64 c.q.mul), .raw (.int .i64 c.q.shift), .raw (.int .i64 c.k.width), .sl (F 7) 1 (rIntSS c.k.rows), .sl (F 8) 1 (rIntSS c.k.scales), .raw (.int .i64 c.k.mul), .raw (.int .i64 c.k.shift), .raw (.int .i64 c.v.width), .sl (F 12) 1 (rIntSS c.v.rows), .sl (F 13) 1 (rIntSS c.v.scales), .raw (.int .i64 c.v.mul), .raw (.int .i64 c.v.shift), .raw (.int .i64 c.o.width), .sl (F 17) 1 (rIntSS c.o.rows), .sl (F 18) 1 (rIntSS c.o.scales), .raw (.int .i64 c.o.mul), .raw (.int .i64 c.o.shift), .sl (F 21) 1 (ints c.gain2), .raw (.int .i64 c.up.width), .sl (F 23) 1 (rIntSS c.up.rows), .sl (F 24) 1 (rIntSS c.up.scales), .raw (.int .i64 c.up.mul), .raw (.int .i64 c.up.shift), .raw (.int .i64 c.down.width), .sl (F 28) 1 (rIntSS c.down.rows), .sl (F 29) 1 (rIntSS c.down.scales), .raw (.int .i64 c.down.mul), .raw (.int .i64 c.down.shift)] := rfl
def szLayer (c : LLayer) : Nat := c.gain1.length + szMatrix c.q + szMatrix c.k + szMatrix c.v + szMatrix c.o + c.gain2.length + szMatrix c.up + szMatrix c.down
def cntLayer (c : LLayer) : Nat := c.gain1.length + cntMatrix c.q + cntMatrix c.k + cntMatrix c.v + cntMatrix c.o + c.gain2.length + cntMatrix c.up + cntMatrix c.down
def fitLayer (c : LLayer) : Prop := c.gain1.length ≤ 9223372036854775807 ∧ fitMatrix c.q ∧ fitMatrix c.k ∧ fitMatrix c.v ∧ fitMatrix c.o ∧ c.gain2.length ≤ 9223372036854775807 ∧ fitMatrix c.up ∧ fitMatrix c.down
attribute [go_sem] eLayer_def xLayer_def
theorem invLayer {g : H2} {bs : List Nat} {ys : List X} {c : LLayer} (o : OTs g bs ys (eLayer c)) : ∃ b0 s0 b2 s2 b3 s3 b7 s7 b8 s8 b12 s12 b13 s13 b17 s17 b18 s18 b21 s21 b23 s23 b24 s24 b28 s28 b29 s29, ys = [s0, .raw (.int .i64 c.q.width), s2, s3, .raw (.int .i64 c.q.mul), .raw (.int .i64 c.q.shift), .raw (.int .i64 c.k.width), s7, s8, .raw (.int .i64 c.k.mul), .raw (.int .i64 c.k.shift), .raw (.int .i64 c.v.width), s12, s13, .raw (.int .i64 c.v.mul), .raw (.int .i64 c.v.shift), .raw (.int .i64 c.o.width), s17, s18, .raw (.int .i64 c.o.mul), .raw (.int .i64 c.o.shift), s21, .raw (.int .i64 c.up.width), s23, s24, .raw (.int .i64 c.up.mul), .raw (.int .i64 c.up.shift), .raw (.int .i64 c.down.width), s28, s29, .raw (.int .i64 c.down.mul), .raw (.int .i64 c.down.shift)] ∧ bs = b0 ++ (b2 ++ (b3 ++ (b7 ++ (b8 ++ (b12 ++ (b13 ++ (b17 ++ (b18 ++ (b21 ++ (b23 ++ (b24 ++ (b28 ++ b29)))))))))))) ∧ OT g b0 s0 (.l 1 (ints c.gain1)) ∧ OT g b2 s2 (.l 1 (rIntSS c.q.rows)) ∧ OT g b3 s3 (.l 1 (rIntSS c.q.scales)) ∧ OT g b7 s7 (.l 1 (rIntSS c.k.rows)) ∧ OT g b8 s8 (.l 1 (rIntSS c.k.scales)) ∧ OT g b12 s12 (.l 1 (rIntSS c.v.rows)) ∧ OT g b13 s13 (.l 1 (rIntSS c.v.scales)) ∧ OT g b17 s17 (.l 1 (rIntSS c.o.rows)) ∧ OT g b18 s18 (.l 1 (rIntSS c.o.scales)) ∧ OT g b21 s21 (.l 1 (ints c.gain2)) ∧ OT g b23 s23 (.l 1 (rIntSS c.up.rows)) ∧ OT g b24 s24 (.l 1 (rIntSS c.up.scales)) ∧ OT g b28 s28 (.l 1 (rIntSS c.down.rows)) ∧ OT g b29 s29 (.l 1 (rIntSS c.down.scales)) := by
  unfold eLayer at o
  obtain ⟨b0, bs0, s0, ys0, rfl, rfl, a0, o0⟩ := OTs.head o
  obtain ⟨ys1, rfl, o1⟩ := OTs.headv o0
  obtain ⟨b2, bs2, s2, ys2, rfl, rfl, a2, o2⟩ := OTs.head o1
  obtain ⟨b3, bs3, s3, ys3, rfl, rfl, a3, o3⟩ := OTs.head o2
  obtain ⟨ys4, rfl, o4⟩ := OTs.headv o3
  obtain ⟨ys5, rfl, o5⟩ := OTs.headv o4
  obtain ⟨ys6, rfl, o6⟩ := OTs.headv o5
  obtain ⟨b7, bs7, s7, ys7, rfl, rfl, a7, o7⟩ := OTs.head o6
  obtain ⟨b8, bs8, s8, ys8, rfl, rfl, a8, o8⟩ := OTs.head o7
  obtain ⟨ys9, rfl, o9⟩ := OTs.headv o8
  obtain ⟨ys10, rfl, o10⟩ := OTs.headv o9
  obtain ⟨ys11, rfl, o11⟩ := OTs.headv o10
  obtain ⟨b12, bs12, s12, ys12, rfl, rfl, a12, o12⟩ := OTs.head o11
  obtain ⟨b13, bs13, s13, ys13, rfl, rfl, a13, o13⟩ := OTs.head o12
  obtain ⟨ys14, rfl, o14⟩ := OTs.headv o13
  obtain ⟨ys15, rfl, o15⟩ := OTs.headv o14
  obtain ⟨ys16, rfl, o16⟩ := OTs.headv o15
  obtain ⟨b17, bs17, s17, ys17, rfl, rfl, a17, o17⟩ := OTs.head o16
  obtain ⟨b18, bs18, s18, ys18, rfl, rfl, a18, o18⟩ := OTs.head o17
  obtain ⟨ys19, rfl, o19⟩ := OTs.headv o18
  obtain ⟨ys20, rfl, o20⟩ := OTs.headv o19
  obtain ⟨b21, bs21, s21, ys21, rfl, rfl, a21, o21⟩ := OTs.head o20
  obtain ⟨ys22, rfl, o22⟩ := OTs.headv o21
  obtain ⟨b23, bs23, s23, ys23, rfl, rfl, a23, o23⟩ := OTs.head o22
  obtain ⟨b24, bs24, s24, ys24, rfl, rfl, a24, o24⟩ := OTs.head o23
  obtain ⟨ys25, rfl, o25⟩ := OTs.headv o24
  obtain ⟨ys26, rfl, o26⟩ := OTs.headv o25
  obtain ⟨ys27, rfl, o27⟩ := OTs.headv o26
  obtain ⟨b28, bs28, s28, ys28, rfl, rfl, a28, o28⟩ := OTs.head o27
  obtain ⟨b29, bs29, s29, ys29, rfl, rfl, a29, o29⟩ := OTs.head o28
  obtain ⟨ys30, rfl, o30⟩ := OTs.headv o29
  obtain ⟨ys31, rfl, o31⟩ := OTs.headv o30
  obtain ⟨rfl, rfl⟩ := OTs.tail0 o31
  exact ⟨_, _, _, _, _, _, _, _, _, _, _, _, _, _, _, _, _, _, _, _, _, _, _, _, _, _, _, _, rfl, by simp only [List.append_nil], a0, a2, a3, a7, a8, a12, a13, a17, a18, a21, a23, a24, a28, a29⟩
theorem outLayer {g : H2} {c : LLayer} {b0 b2 b3 b7 b8 b12 b13 b17 b18 b21 b23 b24 b28 b29 : List Nat} {s0 s2 s3 s7 s8 s12 s13 s17 s18 s21 s23 s24 s28 s29 : X} (a0 : OT g b0 s0 (.l 1 (ints c.gain1))) (a2 : OT g b2 s2 (.l 1 (rIntSS c.q.rows))) (a3 : OT g b3 s3 (.l 1 (rIntSS c.q.scales))) (a7 : OT g b7 s7 (.l 1 (rIntSS c.k.rows))) (a8 : OT g b8 s8 (.l 1 (rIntSS c.k.scales))) (a12 : OT g b12 s12 (.l 1 (rIntSS c.v.rows))) (a13 : OT g b13 s13 (.l 1 (rIntSS c.v.scales))) (a17 : OT g b17 s17 (.l 1 (rIntSS c.o.rows))) (a18 : OT g b18 s18 (.l 1 (rIntSS c.o.scales))) (a21 : OT g b21 s21 (.l 1 (ints c.gain2))) (a23 : OT g b23 s23 (.l 1 (rIntSS c.up.rows))) (a24 : OT g b24 s24 (.l 1 (rIntSS c.up.scales))) (a28 : OT g b28 s28 (.l 1 (rIntSS c.down.rows))) (a29 : OT g b29 s29 (.l 1 (rIntSS c.down.scales))) : OTs g (b0 ++ (b2 ++ (b3 ++ (b7 ++ (b8 ++ (b12 ++ (b13 ++ (b17 ++ (b18 ++ (b21 ++ (b23 ++ (b24 ++ (b28 ++ b29))))))))))))) [s0, .raw (.int .i64 c.q.width), s2, s3, .raw (.int .i64 c.q.mul), .raw (.int .i64 c.q.shift), .raw (.int .i64 c.k.width), s7, s8, .raw (.int .i64 c.k.mul), .raw (.int .i64 c.k.shift), .raw (.int .i64 c.v.width), s12, s13, .raw (.int .i64 c.v.mul), .raw (.int .i64 c.v.shift), .raw (.int .i64 c.o.width), s17, s18, .raw (.int .i64 c.o.mul), .raw (.int .i64 c.o.shift), s21, .raw (.int .i64 c.up.width), s23, s24, .raw (.int .i64 c.up.mul), .raw (.int .i64 c.up.shift), .raw (.int .i64 c.down.width), s28, s29, .raw (.int .i64 c.down.mul), .raw (.int .i64 c.down.shift)] (eLayer c) := by
  have := OTs.cons a0 (OTs.cons (OT.raw (v := .int .i64 c.q.width) rfl) (OTs.cons a2 (OTs.cons a3 (OTs.cons (OT.raw (v := .int .i64 c.q.mul) rfl) (OTs.cons (OT.raw (v := .int .i64 c.q.shift) rfl) (OTs.cons (OT.raw (v := .int .i64 c.k.width) rfl) (OTs.cons a7 (OTs.cons a8 (OTs.cons (OT.raw (v := .int .i64 c.k.mul) rfl) (OTs.cons (OT.raw (v := .int .i64 c.k.shift) rfl) (OTs.cons (OT.raw (v := .int .i64 c.v.width) rfl) (OTs.cons a12 (OTs.cons a13 (OTs.cons (OT.raw (v := .int .i64 c.v.mul) rfl) (OTs.cons (OT.raw (v := .int .i64 c.v.shift) rfl) (OTs.cons (OT.raw (v := .int .i64 c.o.width) rfl) (OTs.cons a17 (OTs.cons a18 (OTs.cons (OT.raw (v := .int .i64 c.o.mul) rfl) (OTs.cons (OT.raw (v := .int .i64 c.o.shift) rfl) (OTs.cons a21 (OTs.cons (OT.raw (v := .int .i64 c.up.width) rfl) (OTs.cons a23 (OTs.cons a24 (OTs.cons (OT.raw (v := .int .i64 c.up.mul) rfl) (OTs.cons (OT.raw (v := .int .i64 c.up.shift) rfl) (OTs.cons (OT.raw (v := .int .i64 c.down.width) rfl) (OTs.cons a28 (OTs.cons a29 (OTs.cons (OT.raw (v := .int .i64 c.down.mul) rfl) (OTs.cons (OT.raw (v := .int .i64 c.down.shift) rfl) (OTs.nil))))))))))))))))))))))))))))))))
  simpa only [eLayer, List.append_nil, List.nil_append] using this

theorem szLayer_ok {F : Nat → Adr} {c : LLayer} {left : Int} {h : H2} (hf : fitLayer c) (hl : 0 ≤ left ∧ left ≤ 1048576) : PW Try.prog W0 96 [.st (xLayer F c), .raw (.int .i64 left)] h (fun y => ∃ k : Int, y = .raw (.int .i64 k) ∧ (0 ≤ k → (szLayer c : Int) + k ≤ left)) := by
  unfold fitLayer at hf
  refine PW.scalar ?_
  refine start (P := Try.prog) [[0, 1], [1, 2], [1, 2], [], [1, 2], [1, 2], [], [1, 2], [1, 2], [], [1, 2], [1, 2], [], [1, 2], [1, 2], [], [1, 2], [1, 2], [], [1, 2], [1, 2], [], [1, 2], [1], [], [1]] (by kernel_rfl) Try.func96 rfl (by decide) (by decide +kernel) (rs := [.tmp 4]) rfl rfl (Nat.le_of_ble_eq_true rfl) ?_
  intro wf
  repeat (first | rw [kz_o] | rw [kz_r0] | simp -dsimp -implicitDefEqProofs only [go_sem, Nat.reduceBEq, Nat.reduceAdd, Nat.reduceLeDiff, Nat.reduceMul, Int.reduceLE, Int.reduceLT, Int.reduceBEq])
  refine pw_intro (szIntS_pw  hf.1 ⟨by omega, by omega⟩) ?_
  rintro _ n0 hn0 ⟨k0, rfl, hk0⟩
  repeat (first | rw [kz_o] | rw [kz_r0] | simp -dsimp -implicitDefEqProofs only [go_sem, Nat.reduceBEq, Nat.reduceAdd, Nat.reduceLeDiff, Nat.reduceMul, Int.reduceLE, Int.reduceLT, Int.reduceBEq])
  refine gz_dec (fun q0 => ?_) (fun q0 => ?_)
  · repeat (first | rw [kz_o] | rw [kz_r0] | simp -dsimp -implicitDefEqProofs only [go_sem, Nat.reduceBEq, Nat.reduceAdd, Nat.reduceLeDiff, Nat.reduceMul, Int.reduceLE, Int.reduceLT, Int.reduceBEq])
    exact ⟨by repeat (first | exact H2.le.refl _ | apply le_push | refine le_up ?_ (by assumption)), ⟨_, rfl⟩, _, rfl, fun hh => by omega⟩
  repeat (first | rw [kz_o] | rw [kz_r0] | simp -dsimp -implicitDefEqProofs only [go_sem, Nat.reduceBEq, Nat.reduceAdd, Nat.reduceLeDiff, Nat.reduceMul, Int.reduceLE, Int.reduceLT, Int.reduceBEq])
  refine pw_intro (szMatrix_ok (F := fun j => F (j + 1)) hf.2.1 ⟨by omega, by omega⟩) ?_
  rintro _ n1 hn1 ⟨k1, rfl, hk1⟩
  repeat (first | rw [kz_o] | rw [kz_r0] | simp -dsimp -implicitDefEqProofs only [go_sem, Nat.reduceBEq, Nat.reduceAdd, Nat.reduceLeDiff, Nat.reduceMul, Int.reduceLE, Int.reduceLT, Int.reduceBEq])
  refine gz_dec (fun q1 => ?_) (fun q1 => ?_)
  · repeat (first | rw [kz_o] | rw [kz_r0] | simp -dsimp -implicitDefEqProofs only [go_sem, Nat.reduceBEq, Nat.reduceAdd, Nat.reduceLeDiff, Nat.reduceMul, Int.reduceLE, Int.reduceLT, Int.reduceBEq])
    exact ⟨by repeat (first | exact H2.le.refl _ | apply le_push | refine le_up ?_ (by assumption)), ⟨_, rfl⟩, _, rfl, fun hh => by omega⟩
  repeat (first | rw [kz_o] | rw [kz_r0] | simp -dsimp -implicitDefEqProofs only [go_sem, Nat.reduceBEq, Nat.reduceAdd, Nat.reduceLeDiff, Nat.reduceMul, Int.reduceLE, Int.reduceLT, Int.reduceBEq])
  refine pw_intro (szMatrix_ok (F := fun j => F (j + 6)) hf.2.2.1 ⟨by omega, by omega⟩) ?_
  rintro _ n2 hn2 ⟨k2, rfl, hk2⟩
  repeat (first | rw [kz_o] | rw [kz_r0] | simp -dsimp -implicitDefEqProofs only [go_sem, Nat.reduceBEq, Nat.reduceAdd, Nat.reduceLeDiff, Nat.reduceMul, Int.reduceLE, Int.reduceLT, Int.reduceBEq])
  refine gz_dec (fun q2 => ?_) (fun q2 => ?_)
  · repeat (first | rw [kz_o] | rw [kz_r0] | simp -dsimp -implicitDefEqProofs only [go_sem, Nat.reduceBEq, Nat.reduceAdd, Nat.reduceLeDiff, Nat.reduceMul, Int.reduceLE, Int.reduceLT, Int.reduceBEq])
    exact ⟨by repeat (first | exact H2.le.refl _ | apply le_push | refine le_up ?_ (by assumption)), ⟨_, rfl⟩, _, rfl, fun hh => by omega⟩
  repeat (first | rw [kz_o] | rw [kz_r0] | simp -dsimp -implicitDefEqProofs only [go_sem, Nat.reduceBEq, Nat.reduceAdd, Nat.reduceLeDiff, Nat.reduceMul, Int.reduceLE, Int.reduceLT, Int.reduceBEq])
  refine pw_intro (szMatrix_ok (F := fun j => F (j + 11)) hf.2.2.2.1 ⟨by omega, by omega⟩) ?_
  rintro _ n3 hn3 ⟨k3, rfl, hk3⟩
  repeat (first | rw [kz_o] | rw [kz_r0] | simp -dsimp -implicitDefEqProofs only [go_sem, Nat.reduceBEq, Nat.reduceAdd, Nat.reduceLeDiff, Nat.reduceMul, Int.reduceLE, Int.reduceLT, Int.reduceBEq])
  refine gz_dec (fun q3 => ?_) (fun q3 => ?_)
  · repeat (first | rw [kz_o] | rw [kz_r0] | simp -dsimp -implicitDefEqProofs only [go_sem, Nat.reduceBEq, Nat.reduceAdd, Nat.reduceLeDiff, Nat.reduceMul, Int.reduceLE, Int.reduceLT, Int.reduceBEq])
    exact ⟨by repeat (first | exact H2.le.refl _ | apply le_push | refine le_up ?_ (by assumption)), ⟨_, rfl⟩, _, rfl, fun hh => by omega⟩
  repeat (first | rw [kz_o] | rw [kz_r0] | simp -dsimp -implicitDefEqProofs only [go_sem, Nat.reduceBEq, Nat.reduceAdd, Nat.reduceLeDiff, Nat.reduceMul, Int.reduceLE, Int.reduceLT, Int.reduceBEq])
  refine pw_intro (szMatrix_ok (F := fun j => F (j + 16)) hf.2.2.2.2.1 ⟨by omega, by omega⟩) ?_
  rintro _ n4 hn4 ⟨k4, rfl, hk4⟩
  repeat (first | rw [kz_o] | rw [kz_r0] | simp -dsimp -implicitDefEqProofs only [go_sem, Nat.reduceBEq, Nat.reduceAdd, Nat.reduceLeDiff, Nat.reduceMul, Int.reduceLE, Int.reduceLT, Int.reduceBEq])
  refine gz_dec (fun q4 => ?_) (fun q4 => ?_)
  · repeat (first | rw [kz_o] | rw [kz_r0] | simp -dsimp -implicitDefEqProofs only [go_sem, Nat.reduceBEq, Nat.reduceAdd, Nat.reduceLeDiff, Nat.reduceMul, Int.reduceLE, Int.reduceLT, Int.reduceBEq])
    exact ⟨by repeat (first | exact H2.le.refl _ | apply le_push | refine le_up ?_ (by assumption)), ⟨_, rfl⟩, _, rfl, fun hh => by omega⟩
  repeat (first | rw [kz_o] | rw [kz_r0] | simp -dsimp -implicitDefEqProofs only [go_sem, Nat.reduceBEq, Nat.reduceAdd, Nat.reduceLeDiff, Nat.reduceMul, Int.reduceLE, Int.reduceLT, Int.reduceBEq])
  refine pw_intro (szIntS_pw  hf.2.2.2.2.2.1 ⟨by omega, by omega⟩) ?_
  rintro _ n5 hn5 ⟨k5, rfl, hk5⟩
  repeat (first | rw [kz_o] | rw [kz_r0] | simp -dsimp -implicitDefEqProofs only [go_sem, Nat.reduceBEq, Nat.reduceAdd, Nat.reduceLeDiff, Nat.reduceMul, Int.reduceLE, Int.reduceLT, Int.reduceBEq])
  refine gz_dec (fun q5 => ?_) (fun q5 => ?_)
  · repeat (first | rw [kz_o] | rw [kz_r0] | simp -dsimp -implicitDefEqProofs only [go_sem, Nat.reduceBEq, Nat.reduceAdd, Nat.reduceLeDiff, Nat.reduceMul, Int.reduceLE, Int.reduceLT, Int.reduceBEq])
    exact ⟨by repeat (first | exact H2.le.refl _ | apply le_push | refine le_up ?_ (by assumption)), ⟨_, rfl⟩, _, rfl, fun hh => by omega⟩
  repeat (first | rw [kz_o] | rw [kz_r0] | simp -dsimp -implicitDefEqProofs only [go_sem, Nat.reduceBEq, Nat.reduceAdd, Nat.reduceLeDiff, Nat.reduceMul, Int.reduceLE, Int.reduceLT, Int.reduceBEq])
  refine pw_intro (szMatrix_ok (F := fun j => F (j + 22)) hf.2.2.2.2.2.2.1 ⟨by omega, by omega⟩) ?_
  rintro _ n6 hn6 ⟨k6, rfl, hk6⟩
  repeat (first | rw [kz_o] | rw [kz_r0] | simp -dsimp -implicitDefEqProofs only [go_sem, Nat.reduceBEq, Nat.reduceAdd, Nat.reduceLeDiff, Nat.reduceMul, Int.reduceLE, Int.reduceLT, Int.reduceBEq])
  refine gz_dec (fun q6 => ?_) (fun q6 => ?_)
  · repeat (first | rw [kz_o] | rw [kz_r0] | simp -dsimp -implicitDefEqProofs only [go_sem, Nat.reduceBEq, Nat.reduceAdd, Nat.reduceLeDiff, Nat.reduceMul, Int.reduceLE, Int.reduceLT, Int.reduceBEq])
    exact ⟨by repeat (first | exact H2.le.refl _ | apply le_push | refine le_up ?_ (by assumption)), ⟨_, rfl⟩, _, rfl, fun hh => by omega⟩
  repeat (first | rw [kz_o] | rw [kz_r0] | simp -dsimp -implicitDefEqProofs only [go_sem, Nat.reduceBEq, Nat.reduceAdd, Nat.reduceLeDiff, Nat.reduceMul, Int.reduceLE, Int.reduceLT, Int.reduceBEq])
  refine pw_intro (szMatrix_ok (F := fun j => F (j + 27)) hf.2.2.2.2.2.2.2 ⟨by omega, by omega⟩) ?_
  rintro _ n7 hn7 ⟨k7, rfl, hk7⟩
  repeat (first | rw [kz_o] | rw [kz_r0] | simp -dsimp -implicitDefEqProofs only [go_sem, Nat.reduceBEq, Nat.reduceAdd, Nat.reduceLeDiff, Nat.reduceMul, Int.reduceLE, Int.reduceLT, Int.reduceBEq])
  refine gz_dec (fun q7 => ?_) (fun q7 => ?_)
  · repeat (first | rw [kz_o] | rw [kz_r0] | simp -dsimp -implicitDefEqProofs only [go_sem, Nat.reduceBEq, Nat.reduceAdd, Nat.reduceLeDiff, Nat.reduceMul, Int.reduceLE, Int.reduceLT, Int.reduceBEq])
    exact ⟨by repeat (first | exact H2.le.refl _ | apply le_push | refine le_up ?_ (by assumption)), ⟨_, rfl⟩, _, rfl, fun hh => by omega⟩
  repeat (first | rw [kz_o] | rw [kz_r0] | simp -dsimp -implicitDefEqProofs only [go_sem, Nat.reduceBEq, Nat.reduceAdd, Nat.reduceLeDiff, Nat.reduceMul, Int.reduceLE, Int.reduceLT, Int.reduceBEq])
  exact ⟨by repeat (first | exact H2.le.refl _ | apply le_push | refine le_up ?_ (by assumption)), ⟨_, rfl⟩, _, rfl, fun hh => by unfold szLayer; omega⟩

theorem eqLayer_ok {F F' : Nat → Adr} {c : LLayer} {h : H2} (hf : fitLayer c) : PW Try.prog W0 105 [.st (xLayer F c), .st (xLayer F' c)] h (fun y => y = .raw (.bool true)) := by
  unfold fitLayer at hf
  refine PW.scalar ?_
  refine start (P := Try.prog) [[0, 1], [2, 3], [], [2, 3], [], [2, 3], [], [2, 3], [], [2, 3], [], [2, 3], [], [2, 3], [], [2, 3], [], []] (by kernel_rfl) Try.func105 rfl (by decide) (by decide +kernel) (rs := [.tmp 4]) rfl rfl (Nat.le_of_ble_eq_true rfl) ?_
  intro wf
  repeat (first | rw [kz_o] | rw [kz_r0] | simp -dsimp -implicitDefEqProofs only [go_sem, Nat.reduceBEq, Nat.reduceAdd, Nat.reduceLeDiff, Nat.reduceMul, Int.reduceLE, Int.reduceLT, Int.reduceBEq])
  refine pw_intro (eqIntS_pw  hf.1) ?_
  rintro _ n0 hn0 rfl
  repeat (first | rw [kz_o] | rw [kz_r0] | simp -dsimp -implicitDefEqProofs only [go_sem, Nat.reduceBEq, Nat.reduceAdd, Nat.reduceLeDiff, Nat.reduceMul, Int.reduceLE, Int.reduceLT, Int.reduceBEq])
  refine pw_intro (eqMatrix_ok (F := fun j => F (j + 1)) (F' := fun j => F' (j + 1)) hf.2.1) ?_
  rintro _ n1 hn1 rfl
  repeat (first | rw [kz_o] | rw [kz_r0] | simp -dsimp -implicitDefEqProofs only [go_sem, Nat.reduceBEq, Nat.reduceAdd, Nat.reduceLeDiff, Nat.reduceMul, Int.reduceLE, Int.reduceLT, Int.reduceBEq])
  refine pw_intro (eqMatrix_ok (F := fun j => F (j + 6)) (F' := fun j => F' (j + 6)) hf.2.2.1) ?_
  rintro _ n2 hn2 rfl
  repeat (first | rw [kz_o] | rw [kz_r0] | simp -dsimp -implicitDefEqProofs only [go_sem, Nat.reduceBEq, Nat.reduceAdd, Nat.reduceLeDiff, Nat.reduceMul, Int.reduceLE, Int.reduceLT, Int.reduceBEq])
  refine pw_intro (eqMatrix_ok (F := fun j => F (j + 11)) (F' := fun j => F' (j + 11)) hf.2.2.2.1) ?_
  rintro _ n3 hn3 rfl
  repeat (first | rw [kz_o] | rw [kz_r0] | simp -dsimp -implicitDefEqProofs only [go_sem, Nat.reduceBEq, Nat.reduceAdd, Nat.reduceLeDiff, Nat.reduceMul, Int.reduceLE, Int.reduceLT, Int.reduceBEq])
  refine pw_intro (eqMatrix_ok (F := fun j => F (j + 16)) (F' := fun j => F' (j + 16)) hf.2.2.2.2.1) ?_
  rintro _ n4 hn4 rfl
  repeat (first | rw [kz_o] | rw [kz_r0] | simp -dsimp -implicitDefEqProofs only [go_sem, Nat.reduceBEq, Nat.reduceAdd, Nat.reduceLeDiff, Nat.reduceMul, Int.reduceLE, Int.reduceLT, Int.reduceBEq])
  refine pw_intro (eqIntS_pw  hf.2.2.2.2.2.1) ?_
  rintro _ n5 hn5 rfl
  repeat (first | rw [kz_o] | rw [kz_r0] | simp -dsimp -implicitDefEqProofs only [go_sem, Nat.reduceBEq, Nat.reduceAdd, Nat.reduceLeDiff, Nat.reduceMul, Int.reduceLE, Int.reduceLT, Int.reduceBEq])
  refine pw_intro (eqMatrix_ok (F := fun j => F (j + 22)) (F' := fun j => F' (j + 22)) hf.2.2.2.2.2.2.1) ?_
  rintro _ n6 hn6 rfl
  repeat (first | rw [kz_o] | rw [kz_r0] | simp -dsimp -implicitDefEqProofs only [go_sem, Nat.reduceBEq, Nat.reduceAdd, Nat.reduceLeDiff, Nat.reduceMul, Int.reduceLE, Int.reduceLT, Int.reduceBEq])
  refine pw_intro (eqMatrix_ok (F := fun j => F (j + 27)) (F' := fun j => F' (j + 27)) hf.2.2.2.2.2.2.2) ?_
  rintro _ n7 hn7 rfl
  repeat (first | rw [kz_o] | rw [kz_r0] | simp -dsimp -implicitDefEqProofs only [go_sem, Nat.reduceBEq, Nat.reduceAdd, Nat.reduceLeDiff, Nat.reduceMul, Int.reduceLE, Int.reduceLT, Int.reduceBEq])
  exact ⟨by repeat (first | exact H2.le.refl _ | apply le_push | refine le_up ?_ (by assumption)), ⟨_, rfl⟩, rfl⟩

theorem toLayer_ok {F : Nat → Adr} {c : LLayer} {h : H2} (hs : szLayer c ≤ 1048576) : NewS Try.prog W0 100 [.st (xLayer F c)] h (eLayer c) := by
  unfold szLayer at hs
  refine start (P := Try.prog) [[0], [1, 2], [1, 2, 3], [1, 2, 3], [1, 2, 3], [1, 2, 3], [1, 2, 3], [1, 2, 3], [1, 2, 3], [1, 2, 3], [2, 3]] (by kernel_rfl) Try.func100 rfl (by decide) (by decide +kernel) (rs := [.cell 2 154]) rfl rfl (Nat.le_of_ble_eq_true rfl) ?_
  intro wf
  repeat (first | rw [kz_o] | rw [kz_r0] | simp -dsimp -implicitDefEqProofs only [go_sem, Nat.reduceBEq, Nat.reduceAdd, Nat.reduceLeDiff, Nat.reduceMul, Int.reduceLE, Int.reduceLT, Int.reduceBEq])
  refine wz_intro (toIntS_new  (by omega)) ?_
  rintro s0 g0 ⟨l0, b0, o0, bl0⟩
  have ce0 := OT.cell o0
  have n0 := l0.n
  have a00 := l0.2 (hn h .mk) (by simp only [hn_push, hn_set]; omega)
  have a01 := l0.2 (hn h .mk + 1) (by simp only [hn_push, hn_set]; omega)
  have a02 := l0.2 (hn h .mk + 1 + 1) (by simp only [hn_push, hn_set]; omega)
  simp -dsimp -implicitDefEqProofs only [go_sem, Nat.reduceBEq, Nat.reduceAdd, Nat.reduceLeDiff, Nat.reduceMul, Int.reduceLE, Int.reduceLT, Int.reduceBEq, hoo] at n0 a00 a01 a02
  have L0 : h.le g0 := H2.le.trans (by repeat (first | exact H2.le.refl _ | apply le_push | refine le_set ?_ (by omega))) l0
  repeat (first | rw [kz_o] | rw [kz_r0] | simp -dsimp -implicitDefEqProofs only [go_sem, Nat.reduceBEq, Nat.reduceAdd, Nat.reduceLeDiff, Nat.reduceMul, Int.reduceLE, Int.reduceLT, Int.reduceBEq, a00, a01, a02, ce0])
  refine wz_intro (toMatrix_ok (F := fun j => F (j + 1)) (by omega)) ?_
  rintro _ g1 ⟨l1, ys1, b1, rfl, o1, bl1⟩
  obtain ⟨b1_1, s2, b1_2, s3, rfl, hb1, o1_1, o1_2⟩ := invMatrix o1
  have ce2 := OT.cell o1_1
  have ce3 := OT.cell o1_2
  have n1 := l1.n
  have a10 := l1.2 (hn h .mk) (by simp only [hn_push, hn_set]; omega)
  have a11 := l1.2 (hn h .mk + 1) (by simp only [hn_push, hn_set]; omega)
  have a12 := l1.2 (hn h .mk + 1 + 1) (by simp only [hn_push, hn_set]; omega)
  simp -dsimp -implicitDefEqProofs only [go_sem, Nat.reduceBEq, Nat.reduceAdd, Nat.reduceLeDiff, Nat.reduceMul, Int.reduceLE, Int.reduceLT, Int.reduceBEq, a00, a01, a02, hoo] at n1 a10 a11 a12
  have L1 : h.le g1 := H2.le.trans (by repeat (first | exact L0 | exact H2.le.refl _ | apply le_push | refine le_set ?_ (by omega))) l1
  repeat (first | rw [kz_o] | rw [kz_r0] | simp -dsimp -implicitDefEqProofs only [go_sem, Nat.reduceBEq, Nat.reduceAdd, Nat.reduceLeDiff, Nat.reduceMul, Int.reduceLE, Int.reduceLT, Int.reduceBEq, a10, a11, a12, ce0, ce2, ce3])
  refine wz_intro (toMatrix_ok (F := fun j => F (j + 6)) (by omega)) ?_
  rintro _ g2 ⟨l2, ys2, b2, rfl, o2, bl2⟩
  obtain ⟨b2_1, s7, b2_2, s8, rfl, hb2, o2_1, o2_2⟩ := invMatrix o2
  have ce7 := OT.cell o2_1
  have ce8 := OT.cell o2_2
  have n2 := l2.n
  have a20 := l2.2 (hn h .mk) (by simp only [hn_push, hn_set]; omega)
  have a21 := l2.2 (hn h .mk + 1) (by simp only [hn_push, hn_set]; omega)
  have a22 := l2.2 (hn h .mk + 1 + 1) (by simp only [hn_push, hn_set]; omega)
  simp -dsimp -implicitDefEqProofs only [go_sem, Nat.reduceBEq, Nat.reduceAdd, Nat.reduceLeDiff, Nat.reduceMul, Int.reduceLE, Int.reduceLT, Int.reduceBEq, a10, a11, a12, hoo] at n2 a20 a21 a22
  have L2 : h.le g2 := H2.le.trans (by repeat (first | exact L1 | exact H2.le.refl _ | apply le_push | refine le_set ?_ (by omega))) l2
  repeat (first | rw [kz_o] | rw [kz_r0] | simp -dsimp -implicitDefEqProofs only [go_sem, Nat.reduceBEq, Nat.reduceAdd, Nat.reduceLeDiff, Nat.reduceMul, Int.reduceLE, Int.reduceLT, Int.reduceBEq, a20, a21, a22, ce0, ce2, ce3, ce7, ce8])
  refine wz_intro (toMatrix_ok (F := fun j => F (j + 11)) (by omega)) ?_
  rintro _ g3 ⟨l3, ys3, b3, rfl, o3, bl3⟩
  obtain ⟨b3_1, s12, b3_2, s13, rfl, hb3, o3_1, o3_2⟩ := invMatrix o3
  have ce12 := OT.cell o3_1
  have ce13 := OT.cell o3_2
  have n3 := l3.n
  have a30 := l3.2 (hn h .mk) (by simp only [hn_push, hn_set]; omega)
  have a31 := l3.2 (hn h .mk + 1) (by simp only [hn_push, hn_set]; omega)
  have a32 := l3.2 (hn h .mk + 1 + 1) (by simp only [hn_push, hn_set]; omega)
  simp -dsimp -implicitDefEqProofs only [go_sem, Nat.reduceBEq, Nat.reduceAdd, Nat.reduceLeDiff, Nat.reduceMul, Int.reduceLE, Int.reduceLT, Int.reduceBEq, a20, a21, a22, hoo] at n3 a30 a31 a32
  have L3 : h.le g3 := H2.le.trans (by repeat (first | exact L2 | exact H2.le.refl _ | apply le_push | refine le_set ?_ (by omega))) l3
  repeat (first | rw [kz_o] | rw [kz_r0] | simp -dsimp -implicitDefEqProofs only [go_sem, Nat.reduceBEq, Nat.reduceAdd, Nat.reduceLeDiff, Nat.reduceMul, Int.reduceLE, Int.reduceLT, Int.reduceBEq, a30, a31, a32, ce0, ce2, ce3, ce7, ce8, ce12, ce13])
  refine wz_intro (toMatrix_ok (F := fun j => F (j + 16)) (by omega)) ?_
  rintro _ g4 ⟨l4, ys4, b4, rfl, o4, bl4⟩
  obtain ⟨b4_1, s17, b4_2, s18, rfl, hb4, o4_1, o4_2⟩ := invMatrix o4
  have ce17 := OT.cell o4_1
  have ce18 := OT.cell o4_2
  have n4 := l4.n
  have a40 := l4.2 (hn h .mk) (by simp only [hn_push, hn_set]; omega)
  have a41 := l4.2 (hn h .mk + 1) (by simp only [hn_push, hn_set]; omega)
  have a42 := l4.2 (hn h .mk + 1 + 1) (by simp only [hn_push, hn_set]; omega)
  simp -dsimp -implicitDefEqProofs only [go_sem, Nat.reduceBEq, Nat.reduceAdd, Nat.reduceLeDiff, Nat.reduceMul, Int.reduceLE, Int.reduceLT, Int.reduceBEq, a30, a31, a32, hoo] at n4 a40 a41 a42
  have L4 : h.le g4 := H2.le.trans (by repeat (first | exact L3 | exact H2.le.refl _ | apply le_push | refine le_set ?_ (by omega))) l4
  repeat (first | rw [kz_o] | rw [kz_r0] | simp -dsimp -implicitDefEqProofs only [go_sem, Nat.reduceBEq, Nat.reduceAdd, Nat.reduceLeDiff, Nat.reduceMul, Int.reduceLE, Int.reduceLT, Int.reduceBEq, a40, a41, a42, ce0, ce2, ce3, ce7, ce8, ce12, ce13, ce17, ce18])
  refine wz_intro (toIntS_new  (by omega)) ?_
  rintro s21 g5 ⟨l5, b5, o5, bl5⟩
  have ce21 := OT.cell o5
  have n5 := l5.n
  have a50 := l5.2 (hn h .mk) (by simp only [hn_push, hn_set]; omega)
  have a51 := l5.2 (hn h .mk + 1) (by simp only [hn_push, hn_set]; omega)
  have a52 := l5.2 (hn h .mk + 1 + 1) (by simp only [hn_push, hn_set]; omega)
  simp -dsimp -implicitDefEqProofs only [go_sem, Nat.reduceBEq, Nat.reduceAdd, Nat.reduceLeDiff, Nat.reduceMul, Int.reduceLE, Int.reduceLT, Int.reduceBEq, a40, a41, a42, hoo] at n5 a50 a51 a52
  have L5 : h.le g5 := H2.le.trans (by repeat (first | exact L4 | exact H2.le.refl _ | apply le_push | refine le_set ?_ (by omega))) l5
  repeat (first | rw [kz_o] | rw [kz_r0] | simp -dsimp -implicitDefEqProofs only [go_sem, Nat.reduceBEq, Nat.reduceAdd, Nat.reduceLeDiff, Nat.reduceMul, Int.reduceLE, Int.reduceLT, Int.reduceBEq, a50, a51, a52, ce0, ce2, ce3, ce7, ce8, ce12, ce13, ce17, ce18, ce21])
  refine wz_intro (toMatrix_ok (F := fun j => F (j + 22)) (by omega)) ?_
  rintro _ g6 ⟨l6, ys6, b6, rfl, o6, bl6⟩
  obtain ⟨b6_1, s23, b6_2, s24, rfl, hb6, o6_1, o6_2⟩ := invMatrix o6
  have ce23 := OT.cell o6_1
  have ce24 := OT.cell o6_2
  have n6 := l6.n
  have a60 := l6.2 (hn h .mk) (by simp only [hn_push, hn_set]; omega)
  have a61 := l6.2 (hn h .mk + 1) (by simp only [hn_push, hn_set]; omega)
  have a62 := l6.2 (hn h .mk + 1 + 1) (by simp only [hn_push, hn_set]; omega)
  simp -dsimp -implicitDefEqProofs only [go_sem, Nat.reduceBEq, Nat.reduceAdd, Nat.reduceLeDiff, Nat.reduceMul, Int.reduceLE, Int.reduceLT, Int.reduceBEq, a50, a51, a52, hoo] at n6 a60 a61 a62
  have L6 : h.le g6 := H2.le.trans (by repeat (first | exact L5 | exact H2.le.refl _ | apply le_push | refine le_set ?_ (by omega))) l6
  repeat (first | rw [kz_o] | rw [kz_r0] | simp -dsimp -implicitDefEqProofs only [go_sem, Nat.reduceBEq, Nat.reduceAdd, Nat.reduceLeDiff, Nat.reduceMul, Int.reduceLE, Int.reduceLT, Int.reduceBEq, a60, a61, a62, ce0, ce2, ce3, ce7, ce8, ce12, ce13, ce17, ce18, ce21, ce23, ce24])
  refine wz_intro (toMatrix_ok (F := fun j => F (j + 27)) (by omega)) ?_
  rintro _ g7 ⟨l7, ys7, b7, rfl, o7, bl7⟩
  obtain ⟨b7_1, s28, b7_2, s29, rfl, hb7, o7_1, o7_2⟩ := invMatrix o7
  have ce28 := OT.cell o7_1
  have ce29 := OT.cell o7_2
  have n7 := l7.n
  have a70 := l7.2 (hn h .mk) (by simp only [hn_push, hn_set]; omega)
  have a71 := l7.2 (hn h .mk + 1) (by simp only [hn_push, hn_set]; omega)
  have a72 := l7.2 (hn h .mk + 1 + 1) (by simp only [hn_push, hn_set]; omega)
  simp -dsimp -implicitDefEqProofs only [go_sem, Nat.reduceBEq, Nat.reduceAdd, Nat.reduceLeDiff, Nat.reduceMul, Int.reduceLE, Int.reduceLT, Int.reduceBEq, a60, a61, a62, hoo] at n7 a70 a71 a72
  have L7 : h.le g7 := H2.le.trans (by repeat (first | exact L6 | exact H2.le.refl _ | apply le_push | refine le_set ?_ (by omega))) l7
  repeat (first | rw [kz_o] | rw [kz_r0] | simp -dsimp -implicitDefEqProofs only [go_sem, Nat.reduceBEq, Nat.reduceAdd, Nat.reduceLeDiff, Nat.reduceMul, Int.reduceLE, Int.reduceLT, Int.reduceBEq, a70, a71, a72, ce0, ce2, ce3, ce7, ce8, ce12, ce13, ce17, ce18, ce21, ce23, ce24, ce28, ce29])
  refine ⟨by repeat (first | exact L7 | refine le_set ?_ (by omega)), _, b0 ++ (b1_1 ++ (b1_2 ++ (b2_1 ++ (b2_2 ++ (b3_1 ++ (b3_2 ++ (b4_1 ++ (b4_2 ++ (b5 ++ (b6_1 ++ (b6_2 ++ (b7_1 ++ b7_2)))))))))))), rfl, outLayer (c := c) ?_ ?_ ?_ ?_ ?_ ?_ ?_ ?_ ?_ ?_ ?_ ?_ ?_ ?_, ?_⟩
  · refine OT.frame o0 fun b hb => ?_
    have hbl := bl0.2 b (hb)
    simp only [hn_push, hn_set] at hbl
    simp only [H2.set]
    rw [if_neg (by omega), if_neg (by omega)]
    rw [show g7.get b = _ from l7.2 b (by simp only [hn_set]; omega)]
    simp only [hg, H2.set]
    rw [if_neg (by omega)]
    rw [show g6.get b = _ from l6.2 b (by simp only [hn_set]; omega)]
    simp only [hg, H2.set]
    rw [if_neg (by omega)]
    rw [show g5.get b = _ from l5.2 b (by simp only [hn_set]; omega)]
    simp only [hg, H2.set]
    rw [if_neg (by omega)]
    rw [show g4.get b = _ from l4.2 b (by simp only [hn_set]; omega)]
    simp only [hg, H2.set]
    rw [if_neg (by omega)]
    rw [show g3.get b = _ from l3.2 b (by simp only [hn_set]; omega)]
    simp only [hg, H2.set]
    rw [if_neg (by omega)]
    rw [show g2.get b = _ from l2.2 b (by simp only [hn_set]; omega)]
    simp only [hg, H2.set]
    rw [if_neg (by omega)]
    rw [show g1.get b = _ from l1.2 b (by simp only [hn_set]; omega)]
    simp only [hg, H2.set]
    rw [if_neg (by omega)]
  · refine OT.frame o1_1 fun b hb => ?_
    have hbl := bl1.2 b (by rw [hb1]; simp [hb])
    simp only [hn_push, hn_set] at hbl
    simp only [H2.set]
    rw [if_neg (by omega), if_neg (by omega)]
    rw [show g7.get b = _ from l7.2 b (by simp only [hn_set]; omega)]
    simp only [hg, H2.set]
    rw [if_neg (by omega)]
    rw [show g6.get b = _ from l6.2 b (by simp only [hn_set]; omega)]
    simp only [hg, H2.set]
    rw [if_neg (by omega)]
    rw [show g5.get b = _ from l5.2 b (by simp only [hn_set]; omega)]
    simp only [hg, H2.set]
    rw [if_neg (by omega)]
    rw [show g4.get b = _ from l4.2 b (by simp only [hn_set]; omega)]
    simp only [hg, H2.set]
    rw [if_neg (by omega)]
    rw [show g3.get b = _ from l3.2 b (by simp only [hn_set]; omega)]
    simp only [hg, H2.set]
    rw [if_neg (by omega)]
    rw [show g2.get b = _ from l2.2 b (by simp only [hn_set]; omega)]
    simp only [hg, H2.set]
    rw [if_neg (by omega)]
  · refine OT.frame o1_2 fun b hb => ?_
    have hbl := bl1.2 b (by rw [hb1]; simp [hb])
    simp only [hn_push, hn_set] at hbl
    simp only [H2.set]
    rw [if_neg (by omega), if_neg (by omega)]
    rw [show g7.get b = _ from l7.2 b (by simp only [hn_set]; omega)]
    simp only [hg, H2.set]
    rw [if_neg (by omega)]
    rw [show g6.get b = _ from l6.2 b (by simp only [hn_set]; omega)]
    simp only [hg, H2.set]
    rw [if_neg (by omega)]
    rw [show g5.get b = _ from l5.2 b (by simp only [hn_set]; omega)]
    simp only [hg, H2.set]
    rw [if_neg (by omega)]
    rw [show g4.get b = _ from l4.2 b (by simp only [hn_set]; omega)]
    simp only [hg, H2.set]
    rw [if_neg (by omega)]
    rw [show g3.get b = _ from l3.2 b (by simp only [hn_set]; omega)]
    simp only [hg, H2.set]
    rw [if_neg (by omega)]
    rw [show g2.get b = _ from l2.2 b (by simp only [hn_set]; omega)]
    simp only [hg, H2.set]
    rw [if_neg (by omega)]
  · refine OT.frame o2_1 fun b hb => ?_
    have hbl := bl2.2 b (by rw [hb2]; simp [hb])
    simp only [hn_push, hn_set] at hbl
    simp only [H2.set]
    rw [if_neg (by omega), if_neg (by omega)]
    rw [show g7.get b = _ from l7.2 b (by simp only [hn_set]; omega)]
    simp only [hg, H2.set]
    rw [if_neg (by omega)]
    rw [show g6.get b = _ from l6.2 b (by simp only [hn_set]; omega)]
    simp only [hg, H2.set]
    rw [if_neg (by omega)]
    rw [show g5.get b = _ from l5.2 b (by simp only [hn_set]; omega)]
    simp only [hg, H2.set]
    rw [if_neg (by omega)]
    rw [show g4.get b = _ from l4.2 b (by simp only [hn_set]; omega)]
    simp only [hg, H2.set]
    rw [if_neg (by omega)]
    rw [show g3.get b = _ from l3.2 b (by simp only [hn_set]; omega)]
    simp only [hg, H2.set]
    rw [if_neg (by omega)]
  · refine OT.frame o2_2 fun b hb => ?_
    have hbl := bl2.2 b (by rw [hb2]; simp [hb])
    simp only [hn_push, hn_set] at hbl
    simp only [H2.set]
    rw [if_neg (by omega), if_neg (by omega)]
    rw [show g7.get b = _ from l7.2 b (by simp only [hn_set]; omega)]
    simp only [hg, H2.set]
    rw [if_neg (by omega)]
    rw [show g6.get b = _ from l6.2 b (by simp only [hn_set]; omega)]
    simp only [hg, H2.set]
    rw [if_neg (by omega)]
    rw [show g5.get b = _ from l5.2 b (by simp only [hn_set]; omega)]
    simp only [hg, H2.set]
    rw [if_neg (by omega)]
    rw [show g4.get b = _ from l4.2 b (by simp only [hn_set]; omega)]
    simp only [hg, H2.set]
    rw [if_neg (by omega)]
    rw [show g3.get b = _ from l3.2 b (by simp only [hn_set]; omega)]
    simp only [hg, H2.set]
    rw [if_neg (by omega)]
  · refine OT.frame o3_1 fun b hb => ?_
    have hbl := bl3.2 b (by rw [hb3]; simp [hb])
    simp only [hn_push, hn_set] at hbl
    simp only [H2.set]
    rw [if_neg (by omega), if_neg (by omega)]
    rw [show g7.get b = _ from l7.2 b (by simp only [hn_set]; omega)]
    simp only [hg, H2.set]
    rw [if_neg (by omega)]
    rw [show g6.get b = _ from l6.2 b (by simp only [hn_set]; omega)]
    simp only [hg, H2.set]
    rw [if_neg (by omega)]
    rw [show g5.get b = _ from l5.2 b (by simp only [hn_set]; omega)]
    simp only [hg, H2.set]
    rw [if_neg (by omega)]
    rw [show g4.get b = _ from l4.2 b (by simp only [hn_set]; omega)]
    simp only [hg, H2.set]
    rw [if_neg (by omega)]
  · refine OT.frame o3_2 fun b hb => ?_
    have hbl := bl3.2 b (by rw [hb3]; simp [hb])
    simp only [hn_push, hn_set] at hbl
    simp only [H2.set]
    rw [if_neg (by omega), if_neg (by omega)]
    rw [show g7.get b = _ from l7.2 b (by simp only [hn_set]; omega)]
    simp only [hg, H2.set]
    rw [if_neg (by omega)]
    rw [show g6.get b = _ from l6.2 b (by simp only [hn_set]; omega)]
    simp only [hg, H2.set]
    rw [if_neg (by omega)]
    rw [show g5.get b = _ from l5.2 b (by simp only [hn_set]; omega)]
    simp only [hg, H2.set]
    rw [if_neg (by omega)]
    rw [show g4.get b = _ from l4.2 b (by simp only [hn_set]; omega)]
    simp only [hg, H2.set]
    rw [if_neg (by omega)]
  · refine OT.frame o4_1 fun b hb => ?_
    have hbl := bl4.2 b (by rw [hb4]; simp [hb])
    simp only [hn_push, hn_set] at hbl
    simp only [H2.set]
    rw [if_neg (by omega), if_neg (by omega)]
    rw [show g7.get b = _ from l7.2 b (by simp only [hn_set]; omega)]
    simp only [hg, H2.set]
    rw [if_neg (by omega)]
    rw [show g6.get b = _ from l6.2 b (by simp only [hn_set]; omega)]
    simp only [hg, H2.set]
    rw [if_neg (by omega)]
    rw [show g5.get b = _ from l5.2 b (by simp only [hn_set]; omega)]
    simp only [hg, H2.set]
    rw [if_neg (by omega)]
  · refine OT.frame o4_2 fun b hb => ?_
    have hbl := bl4.2 b (by rw [hb4]; simp [hb])
    simp only [hn_push, hn_set] at hbl
    simp only [H2.set]
    rw [if_neg (by omega), if_neg (by omega)]
    rw [show g7.get b = _ from l7.2 b (by simp only [hn_set]; omega)]
    simp only [hg, H2.set]
    rw [if_neg (by omega)]
    rw [show g6.get b = _ from l6.2 b (by simp only [hn_set]; omega)]
    simp only [hg, H2.set]
    rw [if_neg (by omega)]
    rw [show g5.get b = _ from l5.2 b (by simp only [hn_set]; omega)]
    simp only [hg, H2.set]
    rw [if_neg (by omega)]
  · refine OT.frame o5 fun b hb => ?_
    have hbl := bl5.2 b (hb)
    simp only [hn_push, hn_set] at hbl
    simp only [H2.set]
    rw [if_neg (by omega), if_neg (by omega)]
    rw [show g7.get b = _ from l7.2 b (by simp only [hn_set]; omega)]
    simp only [hg, H2.set]
    rw [if_neg (by omega)]
    rw [show g6.get b = _ from l6.2 b (by simp only [hn_set]; omega)]
    simp only [hg, H2.set]
    rw [if_neg (by omega)]
  · refine OT.frame o6_1 fun b hb => ?_
    have hbl := bl6.2 b (by rw [hb6]; simp [hb])
    simp only [hn_push, hn_set] at hbl
    simp only [H2.set]
    rw [if_neg (by omega), if_neg (by omega)]
    rw [show g7.get b = _ from l7.2 b (by simp only [hn_set]; omega)]
    simp only [hg, H2.set]
    rw [if_neg (by omega)]
  · refine OT.frame o6_2 fun b hb => ?_
    have hbl := bl6.2 b (by rw [hb6]; simp [hb])
    simp only [hn_push, hn_set] at hbl
    simp only [H2.set]
    rw [if_neg (by omega), if_neg (by omega)]
    rw [show g7.get b = _ from l7.2 b (by simp only [hn_set]; omega)]
    simp only [hg, H2.set]
    rw [if_neg (by omega)]
  · refine OT.frame o7_1 fun b hb => ?_
    have hbl := bl7.2 b (by rw [hb7]; simp [hb])
    simp only [hn_push, hn_set] at hbl
    simp only [H2.set]
    rw [if_neg (by omega), if_neg (by omega)]
  · refine OT.frame o7_2 fun b hb => ?_
    have hbl := bl7.2 b (by rw [hb7]; simp [hb])
    simp only [hn_push, hn_set] at hbl
    simp only [H2.set]
    rw [if_neg (by omega), if_neg (by omega)]
  · simp only [hn_set]
    have m0 := bl0
    simp only [hn_push, hn_set] at m0
    have m1 := bl1
    simp only [hn_push, hn_set] at m1
    rw [hb1] at m1
    have m2 := bl2
    simp only [hn_push, hn_set] at m2
    rw [hb2] at m2
    have m3 := bl3
    simp only [hn_push, hn_set] at m3
    rw [hb3] at m3
    have m4 := bl4
    simp only [hn_push, hn_set] at m4
    rw [hb4] at m4
    have m5 := bl5
    simp only [hn_push, hn_set] at m5
    have m6 := bl6
    simp only [hn_push, hn_set] at m6
    rw [hb6] at m6
    have m7 := bl7
    simp only [hn_push, hn_set] at m7
    rw [hb7] at m7
    have := ((Bl.append m0 (Bl.append m1 (Bl.append m2 (Bl.append m3 (Bl.append m4 (Bl.append m5 (Bl.append m6 m7 (by omega) (by omega)) (by omega) (by omega)) (by omega) (by omega)) (by omega) (by omega)) (by omega) (by omega)) (by omega) (by omega)) (by omega) (by omega))).wide (N' := hn h .mk) (by omega) (Nat.le_refl _)
    simpa only [List.append_assoc] using this

end Go.Bi
