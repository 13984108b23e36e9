/- Own lemmas that the theorem of this claim needs: the abstract machine and walks of functions. -/
import Derived.Test.YtjofbadmkigkjaaGreatMlLawAA
import Derived.Test.YtjofbadmkigkjaaGreatMlLawAB
import Derived.Test.YtjofbadmkigkjaaGreatMlLawAC
import Derived.Test.YtjofbadmkigkjaaGreatMlLawAD
import Derived.Test.YtjofbadmkigkjaaGreatMlLawAE
import Derived.Test.YtjofbadmkigkjaaGreatMlLawAF
section
set_option linter.unusedSimpArgs false
set_option linter.unusedVariables false
set_option maxRecDepth 20000
namespace Go.Bi
open Go.Proofs
open Go.Ai (wrap_i64 wrap_u8)
variable {W0 : World}
structure LLayer where
  gain1 : List Int
  q : LMatrix
  k : LMatrix
  v : LMatrix
  o : LMatrix
  gain2 : List Int
  up : LMatrix
  down : LMatrix
instance : Inhabited LLayer := ⟨⟨default, default, default, default, default, default, default, default⟩⟩
def eLayer (c : LLayer) : List T := [.l 1 (ints c.gain1), .v (.int .i64 c.q.width), .l 1 (rIntSS c.q.rows), .l 1 (rIntSS c.q.scales), .v (.int .i64 c.q.mul), .v (.int .i64 c.q.shift), .v (.int .i64 c.k.width), .l 1 (rIntSS c.k.rows), .l 1 (rIntSS c.k.scales), .v (.int .i64 c.k.mul), .v (.int .i64 c.k.shift), .v (.int .i64 c.v.width), .l 1 (rIntSS c.v.rows), .l 1 (rIntSS c.v.scales), .v (.int .i64 c.v.mul), .v (.int .i64 c.v.shift), .v (.int .i64 c.o.width), .l 1 (rIntSS c.o.rows), .l 1 (rIntSS c.o.scales), .v (.int .i64 c.o.mul), .v (.int .i64 c.o.shift), .l 1 (ints c.gain2), .v (.int .i64 c.up.width), .l 1 (rIntSS c.up.rows), .l 1 (rIntSS c.up.scales), .v (.int .i64 c.up.mul), .v (.int .i64 c.up.shift), .v (.int .i64 c.down.width), .l 1 (rIntSS c.down.rows), .l 1 (rIntSS c.down.scales), .v (.int .i64 c.down.mul), .v (.int .i64 c.down.shift)]
def xLayer (F : Nat → Adr) (c : LLayer) : List X := [.sl (F 0) 1 (ints c.gain1), .raw (.int .i64 c.q.width), .sl (F 2) 1 (rIntSS c.q.rows), .sl (F 3) 1 (rIntSS c.q.scales), .raw (.int .i64 c.q.mul), .raw (.int .i64 c.q.shift), .raw (.int .i64 c.k.width), .sl (F 7) 1 (rIntSS c.k.rows), .sl (F 8) 1 (rIntSS c.k.scales), .raw (.int .i64 c.k.mul), .raw (.int .i64 c.k.shift), .raw (.int .i64 c.v.width), .sl (F 12) 1 (rIntSS c.v.rows), .sl (F 13) 1 (rIntSS c.v.scales), .raw (.int .i64 c.v.mul), .raw (.int .i64 c.v.shift), .raw (.int .i64 c.o.width), .sl (F 17) 1 (rIntSS c.o.rows), .sl (F 18) 1 (rIntSS c.o.scales), .raw (.int .i64 c.o.mul), .raw (.int .i64 c.o.shift), .sl (F 21) 1 (ints c.gain2), .raw (.int .i64 c.up.width), .sl (F 23) 1 (rIntSS c.up.rows), .sl (F 24) 1 (rIntSS c.up.scales), .raw (.int .i64 c.up.mul), .raw (.int .i64 c.up.shift), .raw (.int .i64 c.down.width), .sl (F 28) 1 (rIntSS c.down.rows), .sl (F 29) 1 (rIntSS c.down.scales), .raw (.int .i64 c.down.mul), .raw (.int .i64 c.down.shift)]
theorem eLayer_def {c : LLayer} : eLayer c = [.l 1 (ints c.gain1), .v (.int .i64 c.q.width), .l 1 (rIntSS c.q.rows), .l 1 (rIntSS c.q.scales), .v (.int .i64 c.q.mul), .v (.int .i64 c.q.shift), .v (.int .i64 c.k.width), .l 1 (rIntSS c.k.rows), .l 1 (rIntSS c.k.scales), .v (.int .i64 c.k.mul), .v (.int .i64 c.k.shift), .v (.int .i64 c.v.width), .l 1 (rIntSS c.v.rows), .l 1 (rIntSS c.v.scales), .v (.int .i64 c.v.mul), .v (.int .i64 c.v.shift), .v (.int .i64 c.o.width), .l 1 (rIntSS c.o.rows), .l 1 (rIntSS c.o.scales), .v (.int .i64 c.o.mul), .v (.int .i64 c.o.shift), .l 1 (ints c.gain2), .v (.int .i64 c.up.width), .l 1 (rIntSS c.up.rows), .l 1 (rIntSS c.up.scales), .v (.int .i64 c.up.mul), .v (.int .i64 c.up.shift), .v (.int .i64 c.down.width), .l 1 (rIntSS c.down.rows), .l 1 (rIntSS c.down.scales), .v (.int .i64 c.down.mul), .v (.int .i64 c.down.shift)] := rfl
theorem xLayer_def {F : Nat → Adr} {c : LLayer} : xLayer F c = [.sl (F 0) 1 (ints c.gain1), .raw (.int .i64 c.q.width), .sl (F 2) 1 (rIntSS c.q.rows), .sl (F 3) 1 (rIntSS c.q.scales), .raw (.int .i64 c.q.mul), .raw (.int .i64 c.q.shift), .raw (.int .i64 c.k.width), .sl (F 7) 1 (rIntSS c.k.rows), .sl (F 8) 1 (rIntSS c.k.scales), .raw (.int .i64 c.k.mul), .raw (.int .i64 c.k.shift), .raw (.int .i64 c.v.width), .sl (F 12) 1 (rIntSS c.v.rows), .sl (F 13) 1 (rIntSS c.v.scales), .raw (.int .i64 c.v.mul), .raw (.int .i64 c.v.shift), .raw (.int .i64 c.o.width), .sl (F 17) 1 (rIntSS c.o.rows), .sl (F 18) 1 (rIntSS c.o.scales), .raw (.int .i64 c.o.mul), .raw (.int .i64 c.o.shift), .sl (F 21) 1 (ints c.gain2), .raw (.int .i64 c.up.width), .sl (F 23) 1 (rIntSS c.up.rows), .sl (F 24) 1 (rIntSS c.up.scales), .raw (.int .i64 c.up.mul), .raw (.int .i64 c.up.shift), .raw (.int .i64 c.down.width), .sl (F 28) 1 (rIntSS c.down.rows), .sl (F 29) 1 (rIntSS c.down.scales), .raw (.int .i64 c.down.mul), .raw (.int .i64 c.down.shift)] := rfl
def szLayer (c : LLayer) : Nat := c.gain1.length + szMatrix c.q + szMatrix c.k + szMatrix c.v + szMatrix c.o + c.gain2.length + szMatrix c.up + szMatrix c.down
def fitLayer (c : LLayer) : Prop := c.gain1.length ≤ 9223372036854775807 ∧ fitMatrix c.q ∧ fitMatrix c.k ∧ fitMatrix c.v ∧ fitMatrix c.o ∧ c.gain2.length ≤ 9223372036854775807 ∧ fitMatrix c.up ∧ fitMatrix c.down
attribute [go_sem] eLayer_def xLayer_def
theorem outLayer {g : H2} {c : LLayer} {b0 b2 b3 b7 b8 b12 b13 b17 b18 b21 b23 b24 b28 b29 : List Nat} {s0 s2 s3 s7 s8 s12 s13 s17 s18 s21 s23 s24 s28 s29 : X} (a0 : OT g b0 s0 (.l 1 (ints c.gain1))) (a2 : OT g b2 s2 (.l 1 (rIntSS c.q.rows))) (a3 : OT g b3 s3 (.l 1 (rIntSS c.q.scales))) (a7 : OT g b7 s7 (.l 1 (rIntSS c.k.rows))) (a8 : OT g b8 s8 (.l 1 (rIntSS c.k.scales))) (a12 : OT g b12 s12 (.l 1 (rIntSS c.v.rows))) (a13 : OT g b13 s13 (.l 1 (rIntSS c.v.scales))) (a17 : OT g b17 s17 (.l 1 (rIntSS c.o.rows))) (a18 : OT g b18 s18 (.l 1 (rIntSS c.o.scales))) (a21 : OT g b21 s21 (.l 1 (ints c.gain2))) (a23 : OT g b23 s23 (.l 1 (rIntSS c.up.rows))) (a24 : OT g b24 s24 (.l 1 (rIntSS c.up.scales))) (a28 : OT g b28 s28 (.l 1 (rIntSS c.down.rows))) (a29 : OT g b29 s29 (.l 1 (rIntSS c.down.scales))) : OTs g (b0 ++ (b2 ++ (b3 ++ (b7 ++ (b8 ++ (b12 ++ (b13 ++ (b17 ++ (b18 ++ (b21 ++ (b23 ++ (b24 ++ (b28 ++ b29))))))))))))) [s0, .raw (.int .i64 c.q.width), s2, s3, .raw (.int .i64 c.q.mul), .raw (.int .i64 c.q.shift), .raw (.int .i64 c.k.width), s7, s8, .raw (.int .i64 c.k.mul), .raw (.int .i64 c.k.shift), .raw (.int .i64 c.v.width), s12, s13, .raw (.int .i64 c.v.mul), .raw (.int .i64 c.v.shift), .raw (.int .i64 c.o.width), s17, s18, .raw (.int .i64 c.o.mul), .raw (.int .i64 c.o.shift), s21, .raw (.int .i64 c.up.width), s23, s24, .raw (.int .i64 c.up.mul), .raw (.int .i64 c.up.shift), .raw (.int .i64 c.down.width), s28, s29, .raw (.int .i64 c.down.mul), .raw (.int .i64 c.down.shift)] (eLayer c) := by
  have := OTs.cons a0 (OTs.cons (OT.raw (v := .int .i64 c.q.width) rfl) (OTs.cons a2 (OTs.cons a3 (OTs.cons (OT.raw (v := .int .i64 c.q.mul) rfl) (OTs.cons (OT.raw (v := .int .i64 c.q.shift) rfl) (OTs.cons (OT.raw (v := .int .i64 c.k.width) rfl) (OTs.cons a7 (OTs.cons a8 (OTs.cons (OT.raw (v := .int .i64 c.k.mul) rfl) (OTs.cons (OT.raw (v := .int .i64 c.k.shift) rfl) (OTs.cons (OT.raw (v := .int .i64 c.v.width) rfl) (OTs.cons a12 (OTs.cons a13 (OTs.cons (OT.raw (v := .int .i64 c.v.mul) rfl) (OTs.cons (OT.raw (v := .int .i64 c.v.shift) rfl) (OTs.cons (OT.raw (v := .int .i64 c.o.width) rfl) (OTs.cons a17 (OTs.cons a18 (OTs.cons (OT.raw (v := .int .i64 c.o.mul) rfl) (OTs.cons (OT.raw (v := .int .i64 c.o.shift) rfl) (OTs.cons a21 (OTs.cons (OT.raw (v := .int .i64 c.up.width) rfl) (OTs.cons a23 (OTs.cons a24 (OTs.cons (OT.raw (v := .int .i64 c.up.mul) rfl) (OTs.cons (OT.raw (v := .int .i64 c.up.shift) rfl) (OTs.cons (OT.raw (v := .int .i64 c.down.width) rfl) (OTs.cons a28 (OTs.cons a29 (OTs.cons (OT.raw (v := .int .i64 c.down.mul) rfl) (OTs.cons (OT.raw (v := .int .i64 c.down.shift) rfl) (OTs.nil))))))))))))))))))))))))))))))))
  simpa only [eLayer, List.append_nil, List.nil_append] using this
theorem szLayer_ok {F : Nat → Adr} {c : LLayer} {left : Int} {h : H2} (hf : fitLayer c) (hl : 0 ≤ left ∧ left ≤ 1048576) : PW Tryz.prog W0 168 [.st (xLayer F c), .raw (.int .i64 left)] h (fun y => ∃ k : Int, y = .raw (.int .i64 k) ∧ (0 ≤ k → (szLayer c : Int) + k ≤ left)) := by
  unfold fitLayer at hf
  refine PW.scalar ?_
  refine start (P := Tryz.prog) [[0, 1], [1, 2], [1, 2], [], [1, 2], [1, 2], [], [1, 2], [1, 2], [], [1, 2], [1, 2], [], [1, 2], [1, 2], [], [1, 2], [1, 2], [], [1, 2], [1, 2], [], [1, 2], [1], [], [1]] (by kernel_rfl) Tryz.func168 rfl (by decide) (by decide +kernel) (rs := [.tmp 4]) rfl rfl (Nat.le_of_ble_eq_true rfl) ?_
  intro wf
  repeat (first | rw [kz_o] | rw [kz_r0] | simp -dsimp -implicitDefEqProofs only [go_sem, Nat.reduceBEq, Nat.reduceAdd, Nat.reduceLeDiff, Nat.reduceMul, Int.reduceLE, Int.reduceLT, Int.reduceBEq])
  refine pw_intro (szIntS_pw  hf.1 ⟨by omega, by omega⟩) ?_
  rintro _ n0 hn0 ⟨k0, rfl, hk0⟩
  repeat (first | rw [kz_o] | rw [kz_r0] | simp -dsimp -implicitDefEqProofs only [go_sem, Nat.reduceBEq, Nat.reduceAdd, Nat.reduceLeDiff, Nat.reduceMul, Int.reduceLE, Int.reduceLT, Int.reduceBEq])
  refine gz_dec (fun q0 => ?_) (fun q0 => ?_)
  · repeat (first | rw [kz_o] | rw [kz_r0] | simp -dsimp -implicitDefEqProofs only [go_sem, Nat.reduceBEq, Nat.reduceAdd, Nat.reduceLeDiff, Nat.reduceMul, Int.reduceLE, Int.reduceLT, Int.reduceBEq])
    exact ⟨by repeat (first | exact H2.le.refl _ | apply le_push | refine le_up ?_ (by assumption)), ⟨_, rfl⟩, _, rfl, fun hh => by omega⟩
  repeat (first | rw [kz_o] | rw [kz_r0] | simp -dsimp -implicitDefEqProofs only [go_sem, Nat.reduceBEq, Nat.reduceAdd, Nat.reduceLeDiff, Nat.reduceMul, Int.reduceLE, Int.reduceLT, Int.reduceBEq])
  refine pw_intro (szMatrix_ok (F := fun j => F (j + 1)) hf.2.1 ⟨by omega, by omega⟩) ?_
  rintro _ n1 hn1 ⟨k1, rfl, hk1⟩
  repeat (first | rw [kz_o] | rw [kz_r0] | simp -dsimp -implicitDefEqProofs only [go_sem, Nat.reduceBEq, Nat.reduceAdd, Nat.reduceLeDiff, Nat.reduceMul, Int.reduceLE, Int.reduceLT, Int.reduceBEq])
  refine gz_dec (fun q1 => ?_) (fun q1 => ?_)
  · repeat (first | rw [kz_o] | rw [kz_r0] | simp -dsimp -implicitDefEqProofs only [go_sem, Nat.reduceBEq, Nat.reduceAdd, Nat.reduceLeDiff, Nat.reduceMul, Int.reduceLE, Int.reduceLT, Int.reduceBEq])
    exact ⟨by repeat (first | exact H2.le.refl _ | apply le_push | refine le_up ?_ (by assumption)), ⟨_, rfl⟩, _, rfl, fun hh => by omega⟩
  repeat (first | rw [kz_o] | rw [kz_r0] | simp -dsimp -implicitDefEqProofs only [go_sem, Nat.reduceBEq, Nat.reduceAdd, Nat.reduceLeDiff, Nat.reduceMul, Int.reduceLE, Int.reduceLT, Int.reduceBEq])
  refine pw_intro (szMatrix_ok (F := fun j => F (j + 6)) hf.2.2.1 ⟨by omega, by omega⟩) ?_
  rintro _ n2 hn2 ⟨k2, rfl, hk2⟩
  repeat (first | rw [kz_o] | rw [kz_r0] | simp -dsimp -implicitDefEqProofs only [go_sem, Nat.reduceBEq, Nat.reduceAdd, Nat.reduceLeDiff, Nat.reduceMul, Int.reduceLE, Int.reduceLT, Int.reduceBEq])
  refine gz_dec (fun q2 => ?_) (fun q2 => ?_)
  · repeat (first | rw [kz_o] | rw [kz_r0] | simp -dsimp -implicitDefEqProofs only [go_sem, Nat.reduceBEq, Nat.reduceAdd, Nat.reduceLeDiff, Nat.reduceMul, Int.reduceLE, Int.reduceLT, Int.reduceBEq])
    exact ⟨by repeat (first | exact H2.le.refl _ | apply le_push | refine le_up ?_ (by assumption)), ⟨_, rfl⟩, _, rfl, fun hh => by omega⟩
  repeat (first | rw [kz_o] | rw [kz_r0] | simp -dsimp -implicitDefEqProofs only [go_sem, Nat.reduceBEq, Nat.reduceAdd, Nat.reduceLeDiff, Nat.reduceMul, Int.reduceLE, Int.reduceLT, Int.reduceBEq])
  refine pw_intro (szMatrix_ok (F := fun j => F (j + 11)) hf.2.2.2.1 ⟨by omega, by omega⟩) ?_
  rintro _ n3 hn3 ⟨k3, rfl, hk3⟩
  repeat (first | rw [kz_o] | rw [kz_r0] | simp -dsimp -implicitDefEqProofs only [go_sem, Nat.reduceBEq, Nat.reduceAdd, Nat.reduceLeDiff, Nat.reduceMul, Int.reduceLE, Int.reduceLT, Int.reduceBEq])
  refine gz_dec (fun q3 => ?_) (fun q3 => ?_)
  · repeat (first | rw [kz_o] | rw [kz_r0] | simp -dsimp -implicitDefEqProofs only [go_sem, Nat.reduceBEq, Nat.reduceAdd, Nat.reduceLeDiff, Nat.reduceMul, Int.reduceLE, Int.reduceLT, Int.reduceBEq])
    exact ⟨by repeat (first | exact H2.le.refl _ | apply le_push | refine le_up ?_ (by assumption)), ⟨_, rfl⟩, _, rfl, fun hh => by omega⟩
  repeat (first | rw [kz_o] | rw [kz_r0] | simp -dsimp -implicitDefEqProofs only [go_sem, Nat.reduceBEq, Nat.reduceAdd, Nat.reduceLeDiff, Nat.reduceMul, Int.reduceLE, Int.reduceLT, Int.reduceBEq])
  refine pw_intro (szMatrix_ok (F := fun j => F (j + 16)) hf.2.2.2.2.1 ⟨by omega, by omega⟩) ?_
  rintro _ n4 hn4 ⟨k4, rfl, hk4⟩
  repeat (first | rw [kz_o] | rw [kz_r0] | simp -dsimp -implicitDefEqProofs only [go_sem, Nat.reduceBEq, Nat.reduceAdd, Nat.reduceLeDiff, Nat.reduceMul, Int.reduceLE, Int.reduceLT, Int.reduceBEq])
  refine gz_dec (fun q4 => ?_) (fun q4 => ?_)
  · repeat (first | rw [kz_o] | rw [kz_r0] | simp -dsimp -implicitDefEqProofs only [go_sem, Nat.reduceBEq, Nat.reduceAdd, Nat.reduceLeDiff, Nat.reduceMul, Int.reduceLE, Int.reduceLT, Int.reduceBEq])
    exact ⟨by repeat (first | exact H2.le.refl _ | apply le_push | refine le_up ?_ (by assumption)), ⟨_, rfl⟩, _, rfl, fun hh => by omega⟩
  repeat (first | rw [kz_o] | rw [kz_r0] | simp -dsimp -implicitDefEqProofs only [go_sem, Nat.reduceBEq, Nat.reduceAdd, Nat.reduceLeDiff, Nat.reduceMul, Int.reduceLE, Int.reduceLT, Int.reduceBEq])
  refine pw_intro (szIntS_pw  hf.2.2.2.2.2.1 ⟨by omega, by omega⟩) ?_
  rintro _ n5 hn5 ⟨k5, rfl, hk5⟩
  repeat (first | rw [kz_o] | rw [kz_r0] | simp -dsimp -implicitDefEqProofs only [go_sem, Nat.reduceBEq, Nat.reduceAdd, Nat.reduceLeDiff, Nat.reduceMul, Int.reduceLE, Int.reduceLT, Int.reduceBEq])
  refine gz_dec (fun q5 => ?_) (fun q5 => ?_)
  · repeat (first | rw [kz_o] | rw [kz_r0] | simp -dsimp -implicitDefEqProofs only [go_sem, Nat.reduceBEq, Nat.reduceAdd, Nat.reduceLeDiff, Nat.reduceMul, Int.reduceLE, Int.reduceLT, Int.reduceBEq])
    exact ⟨by repeat (first | exact H2.le.refl _ | apply le_push | refine le_up ?_ (by assumption)), ⟨_, rfl⟩, _, rfl, fun hh => by omega⟩
  repeat (first | rw [kz_o] | rw [kz_r0] | simp -dsimp -implicitDefEqProofs only [go_sem, Nat.reduceBEq, Nat.reduceAdd, Nat.reduceLeDiff, Nat.reduceMul, Int.reduceLE, Int.reduceLT, Int.reduceBEq])
  refine pw_intro (szMatrix_ok (F := fun j => F (j + 22)) hf.2.2.2.2.2.2.1 ⟨by omega, by omega⟩) ?_
  rintro _ n6 hn6 ⟨k6, rfl, hk6⟩
  repeat (first | rw [kz_o] | rw [kz_r0] | simp -dsimp -implicitDefEqProofs only [go_sem, Nat.reduceBEq, Nat.reduceAdd, Nat.reduceLeDiff, Nat.reduceMul, Int.reduceLE, Int.reduceLT, Int.reduceBEq])
  refine gz_dec (fun q6 => ?_) (fun q6 => ?_)
  · repeat (first | rw [kz_o] | rw [kz_r0] | simp -dsimp -implicitDefEqProofs only [go_sem, Nat.reduceBEq, Nat.reduceAdd, Nat.reduceLeDiff, Nat.reduceMul, Int.reduceLE, Int.reduceLT, Int.reduceBEq])
    exact ⟨by repeat (first | exact H2.le.refl _ | apply le_push | refine le_up ?_ (by assumption)), ⟨_, rfl⟩, _, rfl, fun hh => by omega⟩
  repeat (first | rw [kz_o] | rw [kz_r0] | simp -dsimp -implicitDefEqProofs only [go_sem, Nat.reduceBEq, Nat.reduceAdd, Nat.reduceLeDiff, Nat.reduceMul, Int.reduceLE, Int.reduceLT, Int.reduceBEq])
  refine pw_intro (szMatrix_ok (F := fun j => F (j + 27)) hf.2.2.2.2.2.2.2 ⟨by omega, by omega⟩) ?_
  rintro _ n7 hn7 ⟨k7, rfl, hk7⟩
  repeat (first | rw [kz_o] | rw [kz_r0] | simp -dsimp -implicitDefEqProofs only [go_sem, Nat.reduceBEq, Nat.reduceAdd, Nat.reduceLeDiff, Nat.reduceMul, Int.reduceLE, Int.reduceLT, Int.reduceBEq])
  refine gz_dec (fun q7 => ?_) (fun q7 => ?_)
  · repeat (first | rw [kz_o] | rw [kz_r0] | simp -dsimp -implicitDefEqProofs only [go_sem, Nat.reduceBEq, Nat.reduceAdd, Nat.reduceLeDiff, Nat.reduceMul, Int.reduceLE, Int.reduceLT, Int.reduceBEq])
    exact ⟨by repeat (first | exact H2.le.refl _ | apply le_push | refine le_up ?_ (by assumption)), ⟨_, rfl⟩, _, rfl, fun hh => by omega⟩
  repeat (first | rw [kz_o] | rw [kz_r0] | simp -dsimp -implicitDefEqProofs only [go_sem, Nat.reduceBEq, Nat.reduceAdd, Nat.reduceLeDiff, Nat.reduceMul, Int.reduceLE, Int.reduceLT, Int.reduceBEq])
  exact ⟨by repeat (first | exact H2.le.refl _ | apply le_push | refine le_up ?_ (by assumption)), ⟨_, rfl⟩, _, rfl, fun hh => by unfold szLayer; omega⟩
theorem eqLayer_ok {F F' : Nat → Adr} {c : LLayer} {h : H2} (hf : fitLayer c) : PW Tryz.prog W0 172 [.st (xLayer F c), .st (xLayer F' c)] h (fun y => y = .raw (.bool true)) := by
  unfold fitLayer at hf
  refine PW.scalar ?_
  refine start (P := Tryz.prog) [[0, 1], [2, 3], [], [2, 3], [], [2, 3], [], [2, 3], [], [2, 3], [], [2, 3], [], [2, 3], [], [2, 3], [], []] (by kernel_rfl) Tryz.func172 rfl (by decide) (by decide +kernel) (rs := [.tmp 4]) rfl rfl (Nat.le_of_ble_eq_true rfl) ?_
  intro wf
  repeat (first | rw [kz_o] | rw [kz_r0] | simp -dsimp -implicitDefEqProofs only [go_sem, Nat.reduceBEq, Nat.reduceAdd, Nat.reduceLeDiff, Nat.reduceMul, Int.reduceLE, Int.reduceLT, Int.reduceBEq])
  refine pw_intro (eqIntS_pw  hf.1) ?_
  rintro _ n0 hn0 rfl
  repeat (first | rw [kz_o] | rw [kz_r0] | simp -dsimp -implicitDefEqProofs only [go_sem, Nat.reduceBEq, Nat.reduceAdd, Nat.reduceLeDiff, Nat.reduceMul, Int.reduceLE, Int.reduceLT, Int.reduceBEq])
  refine pw_intro (eqMatrix_ok (F := fun j => F (j + 1)) (F' := fun j => F' (j + 1)) hf.2.1) ?_
  rintro _ n1 hn1 rfl
  repeat (first | rw [kz_o] | rw [kz_r0] | simp -dsimp -implicitDefEqProofs only [go_sem, Nat.reduceBEq, Nat.reduceAdd, Nat.reduceLeDiff, Nat.reduceMul, Int.reduceLE, Int.reduceLT, Int.reduceBEq])
  refine pw_intro (eqMatrix_ok (F := fun j => F (j + 6)) (F' := fun j => F' (j + 6)) hf.2.2.1) ?_
  rintro _ n2 hn2 rfl
  repeat (first | rw [kz_o] | rw [kz_r0] | simp -dsimp -implicitDefEqProofs only [go_sem, Nat.reduceBEq, Nat.reduceAdd, Nat.reduceLeDiff, Nat.reduceMul, Int.reduceLE, Int.reduceLT, Int.reduceBEq])
  refine pw_intro (eqMatrix_ok (F := fun j => F (j + 11)) (F' := fun j => F' (j + 11)) hf.2.2.2.1) ?_
  rintro _ n3 hn3 rfl
  repeat (first | rw [kz_o] | rw [kz_r0] | simp -dsimp -implicitDefEqProofs only [go_sem, Nat.reduceBEq, Nat.reduceAdd, Nat.reduceLeDiff, Nat.reduceMul, Int.reduceLE, Int.reduceLT, Int.reduceBEq])
  refine pw_intro (eqMatrix_ok (F := fun j => F (j + 16)) (F' := fun j => F' (j + 16)) hf.2.2.2.2.1) ?_
  rintro _ n4 hn4 rfl
  repeat (first | rw [kz_o] | rw [kz_r0] | simp -dsimp -implicitDefEqProofs only [go_sem, Nat.reduceBEq, Nat.reduceAdd, Nat.reduceLeDiff, Nat.reduceMul, Int.reduceLE, Int.reduceLT, Int.reduceBEq])
  refine pw_intro (eqIntS_pw  hf.2.2.2.2.2.1) ?_
  rintro _ n5 hn5 rfl
  repeat (first | rw [kz_o] | rw [kz_r0] | simp -dsimp -implicitDefEqProofs only [go_sem, Nat.reduceBEq, Nat.reduceAdd, Nat.reduceLeDiff, Nat.reduceMul, Int.reduceLE, Int.reduceLT, Int.reduceBEq])
  refine pw_intro (eqMatrix_ok (F := fun j => F (j + 22)) (F' := fun j => F' (j + 22)) hf.2.2.2.2.2.2.1) ?_
  rintro _ n6 hn6 rfl
  repeat (first | rw [kz_o] | rw [kz_r0] | simp -dsimp -implicitDefEqProofs only [go_sem, Nat.reduceBEq, Nat.reduceAdd, Nat.reduceLeDiff, Nat.reduceMul, Int.reduceLE, Int.reduceLT, Int.reduceBEq])
  refine pw_intro (eqMatrix_ok (F := fun j => F (j + 27)) (F' := fun j => F' (j + 27)) hf.2.2.2.2.2.2.2) ?_
  rintro _ n7 hn7 rfl
  repeat (first | rw [kz_o] | rw [kz_r0] | simp -dsimp -implicitDefEqProofs only [go_sem, Nat.reduceBEq, Nat.reduceAdd, Nat.reduceLeDiff, Nat.reduceMul, Int.reduceLE, Int.reduceLT, Int.reduceBEq])
  exact ⟨by repeat (first | exact H2.le.refl _ | apply le_push | refine le_up ?_ (by assumption)), ⟨_, rfl⟩, rfl⟩
theorem toLayer_ok {F : Nat → Adr} {c : LLayer} {h : H2} (hs : szLayer c ≤ 1048576) : NewS Tryz.prog W0 170 [.st (xLayer F c)] h (eLayer c) := by
  unfold szLayer at hs
  refine start (P := Tryz.prog) [[0], [1, 2], [1, 2, 3], [1, 2, 3], [1, 2, 3], [1, 2, 3], [1, 2, 3], [1, 2, 3], [1, 2, 3], [1, 2, 3], [2, 3]] (by kernel_rfl) Tryz.func170 rfl (by decide) (by decide +kernel) (rs := [.cell 2 155]) rfl rfl (Nat.le_of_ble_eq_true rfl) ?_
  intro wf
  repeat (first | rw [kz_o] | rw [kz_r0] | simp -dsimp -implicitDefEqProofs only [go_sem, Nat.reduceBEq, Nat.reduceAdd, Nat.reduceLeDiff, Nat.reduceMul, Int.reduceLE, Int.reduceLT, Int.reduceBEq])
  refine wz_intro (toIntS_new  (by omega)) ?_
  rintro s0 g0 ⟨l0, b0, o0, bl0⟩
  have ce0 := OT.cell o0
  have n0 := l0.n
  have a00 := l0.2 (hn h .mk) (by simp only [hn_push, hn_set]; omega)
  have a01 := l0.2 (hn h .mk + 1) (by simp only [hn_push, hn_set]; omega)
  have a02 := l0.2 (hn h .mk + 1 + 1) (by simp only [hn_push, hn_set]; omega)
  simp -dsimp -implicitDefEqProofs only [go_sem, Nat.reduceBEq, Nat.reduceAdd, Nat.reduceLeDiff, Nat.reduceMul, Int.reduceLE, Int.reduceLT, Int.reduceBEq, hoo] at n0 a00 a01 a02
  have L0 : h.le g0 := H2.le.trans (by repeat (first | exact H2.le.refl _ | apply le_push | refine le_set ?_ (by omega))) l0
  repeat (first | rw [kz_o] | rw [kz_r0] | simp -dsimp -implicitDefEqProofs only [go_sem, Nat.reduceBEq, Nat.reduceAdd, Nat.reduceLeDiff, Nat.reduceMul, Int.reduceLE, Int.reduceLT, Int.reduceBEq, a00, a01, a02, ce0])
  refine wz_intro (toMatrix_ok (F := fun j => F (j + 1)) (by omega)) ?_
  rintro _ g1 ⟨l1, ys1, b1, rfl, o1, bl1⟩
  obtain ⟨b1_1, s2, b1_2, s3, rfl, hb1, o1_1, o1_2⟩ := invMatrix o1
  have ce2 := OT.cell o1_1
  have ce3 := OT.cell o1_2
  have n1 := l1.n
  have a10 := l1.2 (hn h .mk) (by simp only [hn_push, hn_set]; omega)
  have a11 := l1.2 (hn h .mk + 1) (by simp only [hn_push, hn_set]; omega)
  have a12 := l1.2 (hn h .mk + 1 + 1) (by simp only [hn_push, hn_set]; omega)
  simp -dsimp -implicitDefEqProofs only [go_sem, Nat.reduceBEq, Nat.reduceAdd, Nat.reduceLeDiff, Nat.reduceMul, Int.reduceLE, Int.reduceLT, Int.reduceBEq, a00, a01, a02, hoo] at n1 a10 a11 a12
  have L1 : h.le g1 := H2.le.trans (by repeat (first | exact L0 | exact H2.le.refl _ | apply le_push | refine le_set ?_ (by omega))) l1
  repeat (first | rw [kz_o] | rw [kz_r0] | simp -dsimp -implicitDefEqProofs only [go_sem, Nat.reduceBEq, Nat.reduceAdd, Nat.reduceLeDiff, Nat.reduceMul, Int.reduceLE, Int.reduceLT, Int.reduceBEq, a10, a11, a12, ce0, ce2, ce3])
  refine wz_intro (toMatrix_ok (F := fun j => F (j + 6)) (by omega)) ?_
  rintro _ g2 ⟨l2, ys2, b2, rfl, o2, bl2⟩
  obtain ⟨b2_1, s7, b2_2, s8, rfl, hb2, o2_1, o2_2⟩ := invMatrix o2
  have ce7 := OT.cell o2_1
  have ce8 := OT.cell o2_2
  have n2 := l2.n
  have a20 := l2.2 (hn h .mk) (by simp only [hn_push, hn_set]; omega)
  have a21 := l2.2 (hn h .mk + 1) (by simp only [hn_push, hn_set]; omega)
  have a22 := l2.2 (hn h .mk + 1 + 1) (by simp only [hn_push, hn_set]; omega)
  simp -dsimp -implicitDefEqProofs only [go_sem, Nat.reduceBEq, Nat.reduceAdd, Nat.reduceLeDiff, Nat.reduceMul, Int.reduceLE, Int.reduceLT, Int.reduceBEq, a10, a11, a12, hoo] at n2 a20 a21 a22
  have L2 : h.le g2 := H2.le.trans (by repeat (first | exact L1 | exact H2.le.refl _ | apply le_push | refine le_set ?_ (by omega))) l2
  repeat (first | rw [kz_o] | rw [kz_r0] | simp -dsimp -implicitDefEqProofs only [go_sem, Nat.reduceBEq, Nat.reduceAdd, Nat.reduceLeDiff, Nat.reduceMul, Int.reduceLE, Int.reduceLT, Int.reduceBEq, a20, a21, a22, ce0, ce2, ce3, ce7, ce8])
  refine wz_intro (toMatrix_ok (F := fun j => F (j + 11)) (by omega)) ?_
  rintro _ g3 ⟨l3, ys3, b3, rfl, o3, bl3⟩
  obtain ⟨b3_1, s12, b3_2, s13, rfl, hb3, o3_1, o3_2⟩ := invMatrix o3
  have ce12 := OT.cell o3_1
  have ce13 := OT.cell o3_2
  have n3 := l3.n
  have a30 := l3.2 (hn h .mk) (by simp only [hn_push, hn_set]; omega)
  have a31 := l3.2 (hn h .mk + 1) (by simp only [hn_push, hn_set]; omega)
  have a32 := l3.2 (hn h .mk + 1 + 1) (by simp only [hn_push, hn_set]; omega)
  simp -dsimp -implicitDefEqProofs only [go_sem, Nat.reduceBEq, Nat.reduceAdd, Nat.reduceLeDiff, Nat.reduceMul, Int.reduceLE, Int.reduceLT, Int.reduceBEq, a20, a21, a22, hoo] at n3 a30 a31 a32
  have L3 : h.le g3 := H2.le.trans (by repeat (first | exact L2 | exact H2.le.refl _ | apply le_push | refine le_set ?_ (by omega))) l3
  repeat (first | rw [kz_o] | rw [kz_r0] | simp -dsimp -implicitDefEqProofs only [go_sem, Nat.reduceBEq, Nat.reduceAdd, Nat.reduceLeDiff, Nat.reduceMul, Int.reduceLE, Int.reduceLT, Int.reduceBEq, a30, a31, a32, ce0, ce2, ce3, ce7, ce8, ce12, ce13])
  refine wz_intro (toMatrix_ok (F := fun j => F (j + 16)) (by omega)) ?_
  rintro _ g4 ⟨l4, ys4, b4, rfl, o4, bl4⟩
  obtain ⟨b4_1, s17, b4_2, s18, rfl, hb4, o4_1, o4_2⟩ := invMatrix o4
  have ce17 := OT.cell o4_1
  have ce18 := OT.cell o4_2
  have n4 := l4.n
  have a40 := l4.2 (hn h .mk) (by simp only [hn_push, hn_set]; omega)
  have a41 := l4.2 (hn h .mk + 1) (by simp only [hn_push, hn_set]; omega)
  have a42 := l4.2 (hn h .mk + 1 + 1) (by simp only [hn_push, hn_set]; omega)
  simp -dsimp -implicitDefEqProofs only [go_sem, Nat.reduceBEq, Nat.reduceAdd, Nat.reduceLeDiff, Nat.reduceMul, Int.reduceLE, Int.reduceLT, Int.reduceBEq, a30, a31, a32, hoo] at n4 a40 a41 a42
  have L4 : h.le g4 := H2.le.trans (by repeat (first | exact L3 | exact H2.le.refl _ | apply le_push | refine le_set ?_ (by omega))) l4
  repeat (first | rw [kz_o] | rw [kz_r0] | simp -dsimp -implicitDefEqProofs only [go_sem, Nat.reduceBEq, Nat.reduceAdd, Nat.reduceLeDiff, Nat.reduceMul, Int.reduceLE, Int.reduceLT, Int.reduceBEq, a40, a41, a42, ce0, ce2, ce3, ce7, ce8, ce12, ce13, ce17, ce18])
  refine wz_intro (toIntS_new  (by omega)) ?_
  rintro s21 g5 ⟨l5, b5, o5, bl5⟩
  have ce21 := OT.cell o5
  have n5 := l5.n
  have a50 := l5.2 (hn h .mk) (by simp only [hn_push, hn_set]; omega)
  have a51 := l5.2 (hn h .mk + 1) (by simp only [hn_push, hn_set]; omega)
  have a52 := l5.2 (hn h .mk + 1 + 1) (by simp only [hn_push, hn_set]; omega)
  simp -dsimp -implicitDefEqProofs only [go_sem, Nat.reduceBEq, Nat.reduceAdd, Nat.reduceLeDiff, Nat.reduceMul, Int.reduceLE, Int.reduceLT, Int.reduceBEq, a40, a41, a42, hoo] at n5 a50 a51 a52
  have L5 : h.le g5 := H2.le.trans (by repeat (first | exact L4 | exact H2.le.refl _ | apply le_push | refine le_set ?_ (by omega))) l5
  repeat (first | rw [kz_o] | rw [kz_r0] | simp -dsimp -implicitDefEqProofs only [go_sem, Nat.reduceBEq, Nat.reduceAdd, Nat.reduceLeDiff, Nat.reduceMul, Int.reduceLE, Int.reduceLT, Int.reduceBEq, a50, a51, a52, ce0, ce2, ce3, ce7, ce8, ce12, ce13, ce17, ce18, ce21])
  refine wz_intro (toMatrix_ok (F := fun j => F (j + 22)) (by omega)) ?_
  rintro _ g6 ⟨l6, ys6, b6, rfl, o6, bl6⟩
  obtain ⟨b6_1, s23, b6_2, s24, rfl, hb6, o6_1, o6_2⟩ := invMatrix o6
  have ce23 := OT.cell o6_1
  have ce24 := OT.cell o6_2
  have n6 := l6.n
  have a60 := l6.2 (hn h .mk) (by simp only [hn_push, hn_set]; omega)
  have a61 := l6.2 (hn h .mk + 1) (by simp only [hn_push, hn_set]; omega)
  have a62 := l6.2 (hn h .mk + 1 + 1) (by simp only [hn_push, hn_set]; omega)
  simp -dsimp -implicitDefEqProofs only [go_sem, Nat.reduceBEq, Nat.reduceAdd, Nat.reduceLeDiff, Nat.reduceMul, Int.reduceLE, Int.reduceLT, Int.reduceBEq, a50, a51, a52, hoo] at n6 a60 a61 a62
  have L6 : h.le g6 := H2.le.trans (by repeat (first | exact L5 | exact H2.le.refl _ | apply le_push | refine le_set ?_ (by omega))) l6
  repeat (first | rw [kz_o] | rw [kz_r0] | simp -dsimp -implicitDefEqProofs only [go_sem, Nat.reduceBEq, Nat.reduceAdd, Nat.reduceLeDiff, Nat.reduceMul, Int.reduceLE, Int.reduceLT, Int.reduceBEq, a60, a61, a62, ce0, ce2, ce3, ce7, ce8, ce12, ce13, ce17, ce18, ce21, ce23, ce24])
  refine wz_intro (toMatrix_ok (F := fun j => F (j + 27)) (by omega)) ?_
  rintro _ g7 ⟨l7, ys7, b7, rfl, o7, bl7⟩
  obtain ⟨b7_1, s28, b7_2, s29, rfl, hb7, o7_1, o7_2⟩ := invMatrix o7
  have ce28 := OT.cell o7_1
  have ce29 := OT.cell o7_2
  have n7 := l7.n
  have a70 := l7.2 (hn h .mk) (by simp only [hn_push, hn_set]; omega)
  have a71 := l7.2 (hn h .mk + 1) (by simp only [hn_push, hn_set]; omega)
  have a72 := l7.2 (hn h .mk + 1 + 1) (by simp only [hn_push, hn_set]; omega)
  simp -dsimp -implicitDefEqProofs only [go_sem, Nat.reduceBEq, Nat.reduceAdd, Nat.reduceLeDiff, Nat.reduceMul, Int.reduceLE, Int.reduceLT, Int.reduceBEq, a60, a61, a62, hoo] at n7 a70 a71 a72
  have L7 : h.le g7 := H2.le.trans (by repeat (first | exact L6 | exact H2.le.refl _ | apply le_push | refine le_set ?_ (by omega))) l7
  repeat (first | rw [kz_o] | rw [kz_r0] | simp -dsimp -implicitDefEqProofs only [go_sem, Nat.reduceBEq, Nat.reduceAdd, Nat.reduceLeDiff, Nat.reduceMul, Int.reduceLE, Int.reduceLT, Int.reduceBEq, a70, a71, a72, ce0, ce2, ce3, ce7, ce8, ce12, ce13, ce17, ce18, ce21, ce23, ce24, ce28, ce29])
  refine ⟨by repeat (first | exact L7 | refine le_set ?_ (by omega)), _, b0 ++ (b1_1 ++ (b1_2 ++ (b2_1 ++ (b2_2 ++ (b3_1 ++ (b3_2 ++ (b4_1 ++ (b4_2 ++ (b5 ++ (b6_1 ++ (b6_2 ++ (b7_1 ++ b7_2)))))))))))), rfl, outLayer (c := c) ?_ ?_ ?_ ?_ ?_ ?_ ?_ ?_ ?_ ?_ ?_ ?_ ?_ ?_, ?_⟩
  · refine OT.frame o0 fun b hb => ?_
    have hbl := bl0.2 b (hb)
    simp only [hn_push, hn_set] at hbl
    simp only [H2.set]
    rw [if_neg (by omega), if_neg (by omega)]
    rw [show g7.get b = _ from l7.2 b (by simp only [hn_set]; omega)]
    simp only [hg, H2.set]
    rw [if_neg (by omega)]
    rw [show g6.get b = _ from l6.2 b (by simp only [hn_set]; omega)]
    simp only [hg, H2.set]
    rw [if_neg (by omega)]
    rw [show g5.get b = _ from l5.2 b (by simp only [hn_set]; omega)]
    simp only [hg, H2.set]
    rw [if_neg (by omega)]
    rw [show g4.get b = _ from l4.2 b (by simp only [hn_set]; omega)]
    simp only [hg, H2.set]
    rw [if_neg (by omega)]
    rw [show g3.get b = _ from l3.2 b (by simp only [hn_set]; omega)]
    simp only [hg, H2.set]
    rw [if_neg (by omega)]
    rw [show g2.get b = _ from l2.2 b (by simp only [hn_set]; omega)]
    simp only [hg, H2.set]
    rw [if_neg (by omega)]
    rw [show g1.get b = _ from l1.2 b (by simp only [hn_set]; omega)]
    simp only [hg, H2.set]
    rw [if_neg (by omega)]
  · refine OT.frame o1_1 fun b hb => ?_
    have hbl := bl1.2 b (by rw [hb1]; simp [hb])
    simp only [hn_push, hn_set] at hbl
    simp only [H2.set]
    rw [if_neg (by omega), if_neg (by omega)]
    rw [show g7.get b = _ from l7.2 b (by simp only [hn_set]; omega)]
    simp only [hg, H2.set]
    rw [if_neg (by omega)]
    rw [show g6.get b = _ from l6.2 b (by simp only [hn_set]; omega)]
    simp only [hg, H2.set]
    rw [if_neg (by omega)]
    rw [show g5.get b = _ from l5.2 b (by simp only [hn_set]; omega)]
    simp only [hg, H2.set]
    rw [if_neg (by omega)]
    rw [show g4.get b = _ from l4.2 b (by simp only [hn_set]; omega)]
    simp only [hg, H2.set]
    rw [if_neg (by omega)]
    rw [show g3.get b = _ from l3.2 b (by simp only [hn_set]; omega)]
    simp only [hg, H2.set]
    rw [if_neg (by omega)]
    rw [show g2.get b = _ from l2.2 b (by simp only [hn_set]; omega)]
    simp only [hg, H2.set]
    rw [if_neg (by omega)]
  · refine OT.frame o1_2 fun b hb => ?_
    have hbl := bl1.2 b (by rw [hb1]; simp [hb])
    simp only [hn_push, hn_set] at hbl
    simp only [H2.set]
    rw [if_neg (by omega), if_neg (by omega)]
    rw [show g7.get b = _ from l7.2 b (by simp only [hn_set]; omega)]
    simp only [hg, H2.set]
    rw [if_neg (by omega)]
    rw [show g6.get b = _ from l6.2 b (by simp only [hn_set]; omega)]
    simp only [hg, H2.set]
    rw [if_neg (by omega)]
    rw [show g5.get b = _ from l5.2 b (by simp only [hn_set]; omega)]
    simp only [hg, H2.set]
    rw [if_neg (by omega)]
    rw [show g4.get b = _ from l4.2 b (by simp only [hn_set]; omega)]
    simp only [hg, H2.set]
    rw [if_neg (by omega)]
    rw [show g3.get b = _ from l3.2 b (by simp only [hn_set]; omega)]
    simp only [hg, H2.set]
    rw [if_neg (by omega)]
    rw [show g2.get b = _ from l2.2 b (by simp only [hn_set]; omega)]
    simp only [hg, H2.set]
    rw [if_neg (by omega)]
  · refine OT.frame o2_1 fun b hb => ?_
    have hbl := bl2.2 b (by rw [hb2]; simp [hb])
    simp only [hn_push, hn_set] at hbl
    simp only [H2.set]
    rw [if_neg (by omega), if_neg (by omega)]
    rw [show g7.get b = _ from l7.2 b (by simp only [hn_set]; omega)]
    simp only [hg, H2.set]
    rw [if_neg (by omega)]
    rw [show g6.get b = _ from l6.2 b (by simp only [hn_set]; omega)]
    simp only [hg, H2.set]
    rw [if_neg (by omega)]
    rw [show g5.get b = _ from l5.2 b (by simp only [hn_set]; omega)]
    simp only [hg, H2.set]
    rw [if_neg (by omega)]
    rw [show g4.get b = _ from l4.2 b (by simp only [hn_set]; omega)]
    simp only [hg, H2.set]
    rw [if_neg (by omega)]
    rw [show g3.get b = _ from l3.2 b (by simp only [hn_set]; omega)]
    simp only [hg, H2.set]
    rw [if_neg (by omega)]
  · refine OT.frame o2_2 fun b hb => ?_
    have hbl := bl2.2 b (by rw [hb2]; simp [hb])
    simp only [hn_push, hn_set] at hbl
    simp only [H2.set]
    rw [if_neg (by omega), if_neg (by omega)]
    rw [show g7.get b = _ from l7.2 b (by simp only [hn_set]; omega)]
    simp only [hg, H2.set]
    rw [if_neg (by omega)]
    rw [show g6.get b = _ from l6.2 b (by simp only [hn_set]; omega)]
    simp only [hg, H2.set]
    rw [if_neg (by omega)]
    rw [show g5.get b = _ from l5.2 b (by simp only [hn_set]; omega)]
    simp only [hg, H2.set]
    rw [if_neg (by omega)]
    rw [show g4.get b = _ from l4.2 b (by simp only [hn_set]; omega)]
    simp only [hg, H2.set]
    rw [if_neg (by omega)]
    rw [show g3.get b = _ from l3.2 b (by simp only [hn_set]; omega)]
    simp only [hg, H2.set]
    rw [if_neg (by omega)]
  · refine OT.frame o3_1 fun b hb => ?_
    have hbl := bl3.2 b (by rw [hb3]; simp [hb])
    simp only [hn_push, hn_set] at hbl
    simp only [H2.set]
    rw [if_neg (by omega), if_neg (by omega)]
    rw [show g7.get b = _ from l7.2 b (by simp only [hn_set]; omega)]
    simp only [hg, H2.set]
    rw [if_neg (by omega)]
    rw [show g6.get b = _ from l6.2 b (by simp only [hn_set]; omega)]
    simp only [hg, H2.set]
    rw [if_neg (by omega)]
    rw [show g5.get b = _ from l5.2 b (by simp only [hn_set]; omega)]
    simp only [hg, H2.set]
    rw [if_neg (by omega)]
    rw [show g4.get b = _ from l4.2 b (by simp only [hn_set]; omega)]
    simp only [hg, H2.set]
    rw [if_neg (by omega)]
  · refine OT.frame o3_2 fun b hb => ?_
    have hbl := bl3.2 b (by rw [hb3]; simp [hb])
    simp only [hn_push, hn_set] at hbl
    simp only [H2.set]
    rw [if_neg (by omega), if_neg (by omega)]
    rw [show g7.get b = _ from l7.2 b (by simp only [hn_set]; omega)]
    simp only [hg, H2.set]
    rw [if_neg (by omega)]
    rw [show g6.get b = _ from l6.2 b (by simp only [hn_set]; omega)]
    simp only [hg, H2.set]
    rw [if_neg (by omega)]
    rw [show g5.get b = _ from l5.2 b (by simp only [hn_set]; omega)]
    simp only [hg, H2.set]
    rw [if_neg (by omega)]
    rw [show g4.get b = _ from l4.2 b (by simp only [hn_set]; omega)]
    simp only [hg, H2.set]
    rw [if_neg (by omega)]
  · refine OT.frame o4_1 fun b hb => ?_
    have hbl := bl4.2 b (by rw [hb4]; simp [hb])
    simp only [hn_push, hn_set] at hbl
    simp only [H2.set]
    rw [if_neg (by omega), if_neg (by omega)]
    rw [show g7.get b = _ from l7.2 b (by simp only [hn_set]; omega)]
    simp only [hg, H2.set]
    rw [if_neg (by omega)]
    rw [show g6.get b = _ from l6.2 b (by simp only [hn_set]; omega)]
    simp only [hg, H2.set]
    rw [if_neg (by omega)]
    rw [show g5.get b = _ from l5.2 b (by simp only [hn_set]; omega)]
    simp only [hg, H2.set]
    rw [if_neg (by omega)]
  · refine OT.frame o4_2 fun b hb => ?_
    have hbl := bl4.2 b (by rw [hb4]; simp [hb])
    simp only [hn_push, hn_set] at hbl
    simp only [H2.set]
    rw [if_neg (by omega), if_neg (by omega)]
    rw [show g7.get b = _ from l7.2 b (by simp only [hn_set]; omega)]
    simp only [hg, H2.set]
    rw [if_neg (by omega)]
    rw [show g6.get b = _ from l6.2 b (by simp only [hn_set]; omega)]
    simp only [hg, H2.set]
    rw [if_neg (by omega)]
    rw [show g5.get b = _ from l5.2 b (by simp only [hn_set]; omega)]
    simp only [hg, H2.set]
    rw [if_neg (by omega)]
  · refine OT.frame o5 fun b hb => ?_
    have hbl := bl5.2 b (hb)
    simp only [hn_push, hn_set] at hbl
    simp only [H2.set]
    rw [if_neg (by omega), if_neg (by omega)]
    rw [show g7.get b = _ from l7.2 b (by simp only [hn_set]; omega)]
    simp only [hg, H2.set]
    rw [if_neg (by omega)]
    rw [show g6.get b = _ from l6.2 b (by simp only [hn_set]; omega)]
    simp only [hg, H2.set]
    rw [if_neg (by omega)]
  · refine OT.frame o6_1 fun b hb => ?_
    have hbl := bl6.2 b (by rw [hb6]; simp [hb])
    simp only [hn_push, hn_set] at hbl
    simp only [H2.set]
    rw [if_neg (by omega), if_neg (by omega)]
    rw [show g7.get b = _ from l7.2 b (by simp only [hn_set]; omega)]
    simp only [hg, H2.set]
    rw [if_neg (by omega)]
  · refine OT.frame o6_2 fun b hb => ?_
    have hbl := bl6.2 b (by rw [hb6]; simp [hb])
    simp only [hn_push, hn_set] at hbl
    simp only [H2.set]
    rw [if_neg (by omega), if_neg (by omega)]
    rw [show g7.get b = _ from l7.2 b (by simp only [hn_set]; omega)]
    simp only [hg, H2.set]
    rw [if_neg (by omega)]
  · refine OT.frame o7_1 fun b hb => ?_
    have hbl := bl7.2 b (by rw [hb7]; simp [hb])
    simp only [hn_push, hn_set] at hbl
    simp only [H2.set]
    rw [if_neg (by omega), if_neg (by omega)]
  · refine OT.frame o7_2 fun b hb => ?_
    have hbl := bl7.2 b (by rw [hb7]; simp [hb])
    simp only [hn_push, hn_set] at hbl
    simp only [H2.set]
    rw [if_neg (by omega), if_neg (by omega)]
  · simp only [hn_set]
    have m0 := bl0
    simp only [hn_push, hn_set] at m0
    have m1 := bl1
    simp only [hn_push, hn_set] at m1
    rw [hb1] at m1
    have m2 := bl2
    simp only [hn_push, hn_set] at m2
    rw [hb2] at m2
    have m3 := bl3
    simp only [hn_push, hn_set] at m3
    rw [hb3] at m3
    have m4 := bl4
    simp only [hn_push, hn_set] at m4
    rw [hb4] at m4
    have m5 := bl5
    simp only [hn_push, hn_set] at m5
    have m6 := bl6
    simp only [hn_push, hn_set] at m6
    rw [hb6] at m6
    have m7 := bl7
    simp only [hn_push, hn_set] at m7
    rw [hb7] at m7
    have := ((Bl.append m0 (Bl.append m1 (Bl.append m2 (Bl.append m3 (Bl.append m4 (Bl.append m5 (Bl.append m6 m7 (by omega) (by omega)) (by omega) (by omega)) (by omega) (by omega)) (by omega) (by omega)) (by omega) (by omega)) (by omega) (by omega)) (by omega) (by omega))).wide (N' := hn h .mk) (by omega) (Nat.le_refl _)
    simpa only [List.append_assoc] using this
end Go.Bi
end
section
set_option linter.unusedSimpArgs false
set_option linter.unusedVariables false
set_option maxRecDepth 20000
namespace Go.Bi
open Go.Proofs
open Go.Ai (wrap_i64 wrap_u8)
variable {W0 : World}
def rLayerS (zs : List LLayer) : List (List T) := zs.map eLayer
theorem rLayerS_len {zs : List LLayer} : (rLayerS zs).length = zs.length := by simp [rLayerS]
theorem rLayerS_el {zs : List LLayer} {i : Nat} (hi : i < zs.length) : el (rLayerS zs) i = eLayer (zs.getD i default) := el_map hi
attribute [go_sem] rLayerS_len rLayerS_el
def szLayerS (zs : List LLayer) : Nat := zs.length + sumN szLayer zs
def fitLayerS (zs : List LLayer) : Prop := zs.length ≤ 9223372036854775807 ∧ ∀ x ∈ zs, fitLayer x
theorem szLayerS_pw {f : Adr} {zs : List LLayer} {left : Int} {h : H2} (hf : fitLayerS zs) (hl : 0 ≤ left ∧ left ≤ 1048576) : PW Tryz.prog W0 73 [.sl f 32 (rLayerS zs), .raw (.int .i64 left)] h (fun y => ∃ k : Int, y = .raw (.int .i64 k) ∧ (0 ≤ k → (szLayerS zs : Int) + k ≤ left)) := by
  obtain ⟨hf1, hf2⟩ := hf
  unfold szLayerS
  have hw : IntKind.i64.wrap (left - zs.length) = left - zs.length := by rw [wrap_i64] <;> omega
  refine PW.scalar ?_
  refine start (P := Tryz.prog) [[0, 1], [0, 1], [0, 1], [], [0, 1], [0, 1, 5], [0, 1, 5], [0, 1, 5], [0, 1, 5], [], [1]] (by kernel_rfl) Tryz.func73 rfl (by decide) (by decide +kernel) (rs := [.tmp 4]) rfl rfl (Nat.le_of_ble_eq_true rfl) ?_
  intro wf
  repeat (first | rw [kz_o] | rw [kz_r0] | simp -dsimp -implicitDefEqProofs only [go_sem, Nat.reduceBEq, Nat.reduceAdd, Nat.reduceLeDiff, Nat.reduceMul, Int.reduceLE, Int.reduceLT, Int.reduceBEq, hw])
  refine gz_dec (fun h1 => ?_) (fun h1 => ?_)
  · repeat (first | rw [kz_o] | rw [kz_r0] | simp -dsimp -implicitDefEqProofs only [go_sem, Nat.reduceBEq, Nat.reduceAdd, Nat.reduceLeDiff, Nat.reduceMul, Int.reduceLE, Int.reduceLT, Int.reduceBEq])
    exact ⟨H2.le.refl _, ⟨_, rfl⟩, _, rfl, fun hh => by omega⟩
  · repeat (first | rw [kz_o] | rw [kz_r0] | simp -dsimp -implicitDefEqProofs only [go_sem, Nat.reduceBEq, Nat.reduceAdd, Nat.reduceLeDiff, Nat.reduceMul, Int.reduceLE, Int.reduceLT, Int.reduceBEq])
    refine lz_keep [0] (fun m e h' => ∃ (k n : Nat) (x : Int), h' = h.up n ∧ hn h .mk ≤ n ∧ look e 5 .mk = .raw (.int .i64 k) ∧ look e 1 .mk = .raw (.int .i64 x) ∧ 0 ≤ x ∧ (zs.length : Int) + sumN szLayer (zs.take k) + x ≤ left ∧ m + k = zs.length) zs.length ?_ ?_
    · exact ⟨0, hn h .mk, left - zs.length, up_self, Nat.le_refl _, by simp -dsimp -implicitDefEqProofs only [go_sem, Nat.reduceBEq, Nat.reduceAdd, Nat.reduceLeDiff, Nat.reduceMul, Int.reduceLE, Int.reduceLT, Int.reduceBEq], by simp -dsimp -implicitDefEqProofs only [go_sem, Nat.reduceBEq, Nat.reduceAdd, Nat.reduceLeDiff, Nat.reduceMul, Int.reduceLE, Int.reduceLT, Int.reduceBEq], by omega, by simp [sumN]; omega, by omega⟩
    · rintro m e h' hks ⟨k, n, x, rfl, hnn, e5, e1, hx, hsum, hk⟩
      simp -dsimp -implicitDefEqProofs only [go_sem, Nat.reduceBEq, Nat.reduceAdd, Nat.reduceLeDiff, Nat.reduceMul, Int.reduceLE, Int.reduceLT, Int.reduceBEq] at hks
      by_cases h2 : (k : Int) < (zs.length : Int)
      · have h3 : k < zs.length := by omega
        have hst : sumN szLayer (zs.take (k + 1)) = sumN szLayer (zs.take k) + szLayer (zs.getD k default) := sumN_take (f := szLayer) h3
        repeat (first | rw [kz_o] | rw [kz_r0] | simp -dsimp -implicitDefEqProofs only [go_sem, Nat.reduceBEq, Nat.reduceAdd, Nat.reduceLeDiff, Nat.reduceMul, Int.reduceLE, Int.reduceLT, Int.reduceBEq, hks, e5, e1, h2, h3])
        refine pw_intro (szLayer_ok (F := under (under f k)) (c := zs.getD k default) (hf2 _ (getD_mem h3)) ⟨by omega, by omega⟩) ?_
        rintro _ n2 hn2 ⟨x2, rfl, hx2⟩
        simp only [hn_up] at hn2
        repeat (first | rw [kz_o] | rw [kz_r0] | simp -dsimp -implicitDefEqProofs only [go_sem, Nat.reduceBEq, Nat.reduceAdd, Nat.reduceLeDiff, Nat.reduceMul, Int.reduceLE, Int.reduceLT, Int.reduceBEq])
        refine gz_dec (fun h4 => ?_) (fun h4 => ?_)
        · repeat (first | rw [kz_o] | rw [kz_r0] | simp -dsimp -implicitDefEqProofs only [go_sem, Nat.reduceBEq, Nat.reduceAdd, Nat.reduceLeDiff, Nat.reduceMul, Int.reduceLE, Int.reduceLT, Int.reduceBEq])
          exact ⟨(by first | exact le_up (H2.le.refl _) (by omega) | exact le_up (le_up (H2.le.refl _) hnn) (by rw [hn_up]; omega)), ⟨_, rfl⟩, _, rfl, fun hh => by omega⟩
        · repeat (first | rw [kz_o] | rw [kz_r0] | simp -dsimp -implicitDefEqProofs only [go_sem, Nat.reduceBEq, Nat.reduceAdd, Nat.reduceLeDiff, Nat.reduceMul, Int.reduceLE, Int.reduceLT, Int.reduceBEq, hks, e5, wrap_succ h3 hf1])
          exact nx_keep (m - 1) (by omega) (by simp -dsimp -implicitDefEqProofs only [go_sem, Nat.reduceBEq, Nat.reduceAdd, Nat.reduceLeDiff, Nat.reduceMul, Int.reduceLE, Int.reduceLT, Int.reduceBEq, hks]) ⟨k + 1, n2, x2, up_up, by omega, by simp -dsimp -implicitDefEqProofs only [go_sem, Nat.reduceBEq, Nat.reduceAdd, Nat.reduceLeDiff, Nat.reduceMul, Int.reduceLE, Int.reduceLT, Int.reduceBEq], by simp -dsimp -implicitDefEqProofs only [go_sem, Nat.reduceBEq, Nat.reduceAdd, Nat.reduceLeDiff, Nat.reduceMul, Int.reduceLE, Int.reduceLT, Int.reduceBEq], by omega, by have := hx2 (by omega); omega, by omega⟩
      · repeat (first | rw [kz_o] | rw [kz_r0] | simp -dsimp -implicitDefEqProofs only [go_sem, Nat.reduceBEq, Nat.reduceAdd, Nat.reduceLeDiff, Nat.reduceMul, Int.reduceLE, Int.reduceLT, Int.reduceBEq, hks, e5, e1, h2])
        refine ⟨le_up (H2.le.refl _) hnn, ⟨_, rfl⟩, x, rfl, fun _ => ?_⟩
        rw [List.take_of_length_le (by omega)] at hsum
        omega
theorem eqLayerS_pw {f f' : Adr} {zs : List LLayer} {h : H2} (hf : fitLayerS zs) : PW Tryz.prog W0 84 [.sl f 32 (rLayerS zs), .sl f' 32 (rLayerS zs)] h (fun y => y = .raw (.bool true)) := by
  obtain ⟨hf1, hf2⟩ := hf
  refine PW.scalar ?_
  refine start (P := Tryz.prog) [[0, 1], [0, 1], [], [0, 1], [0, 1, 5], [0, 1, 5], [0, 1, 5], [], []] (by kernel_rfl) Tryz.func84 rfl (by decide) (by decide +kernel) (rs := [.tmp 4]) rfl rfl (Nat.le_of_ble_eq_true rfl) ?_
  intro wf
  repeat (first | rw [kz_o] | rw [kz_r0] | simp -dsimp -implicitDefEqProofs only [go_sem, Nat.reduceBEq, Nat.reduceAdd, Nat.reduceLeDiff, Nat.reduceMul, Int.reduceLE, Int.reduceLT, Int.reduceBEq])
  refine lz_keep [0, 1] (fun m e h' => ∃ (k n : Nat), h' = h.up n ∧ hn h .mk ≤ n ∧ look e 5 .mk = .raw (.int .i64 k) ∧ m + k = zs.length) zs.length ?_ ?_
  · exact ⟨0, hn h .mk, up_self, Nat.le_refl _, by simp -dsimp -implicitDefEqProofs only [go_sem, Nat.reduceBEq, Nat.reduceAdd, Nat.reduceLeDiff, Nat.reduceMul, Int.reduceLE, Int.reduceLT, Int.reduceBEq], by omega⟩
  · rintro m e h' hks ⟨k, n, rfl, hnn, e5, hk⟩
    simp -dsimp -implicitDefEqProofs only [go_sem, Nat.reduceBEq, Nat.reduceAdd, Nat.reduceLeDiff, Nat.reduceMul, Int.reduceLE, Int.reduceLT, Int.reduceBEq] at hks
    by_cases h2 : (k : Int) < (zs.length : Int)
    · have h3 : k < zs.length := by omega
      repeat (first | rw [kz_o] | rw [kz_r0] | simp -dsimp -implicitDefEqProofs only [go_sem, Nat.reduceBEq, Nat.reduceAdd, Nat.reduceLeDiff, Nat.reduceMul, Int.reduceLE, Int.reduceLT, Int.reduceBEq, hks, e5, h2])
      refine dq_intro [(0, []), (1, []), (2, []), (3, []), (4, []), (5, []), (6, []), (7, []), (8, []), (9, [])] (by kernel_rfl) ?_
      repeat (first | rw [kz_o] | rw [kz_r0] | simp -dsimp -implicitDefEqProofs only [go_sem, Nat.reduceBEq, Nat.reduceAdd, Nat.reduceLeDiff, Nat.reduceMul, Int.reduceLE, Int.reduceLT, Int.reduceBEq, hks, e5, h3])
      refine pw_intro (eqLayer_ok (F := under (under f k)) (F' := under (under f' k)) (c := zs.getD k default) (hf2 _ (getD_mem h3))) ?_
      rintro _ n2 hn2 rfl
      simp only [hn_up] at hn2
      repeat (first | rw [kz_o] | rw [kz_r0] | simp -dsimp -implicitDefEqProofs only [go_sem, Nat.reduceBEq, Nat.reduceAdd, Nat.reduceLeDiff, Nat.reduceMul, Int.reduceLE, Int.reduceLT, Int.reduceBEq, hks, e5, wrap_succ h3 hf1])
      exact nx_keep (m - 1) (by omega) (by simp -dsimp -implicitDefEqProofs only [go_sem, Nat.reduceBEq, Nat.reduceAdd, Nat.reduceLeDiff, Nat.reduceMul, Int.reduceLE, Int.reduceLT, Int.reduceBEq, hks]) ⟨k + 1, n2, up_up, by omega, by simp -dsimp -implicitDefEqProofs only [go_sem, Nat.reduceBEq, Nat.reduceAdd, Nat.reduceLeDiff, Nat.reduceMul, Int.reduceLE, Int.reduceLT, Int.reduceBEq], by omega⟩
    · repeat (first | rw [kz_o] | rw [kz_r0] | simp -dsimp -implicitDefEqProofs only [go_sem, Nat.reduceBEq, Nat.reduceAdd, Nat.reduceLeDiff, Nat.reduceMul, Int.reduceLE, Int.reduceLT, Int.reduceBEq, hks, e5, h2])
      exact ⟨le_up (H2.le.refl _) hnn, ⟨_, rfl⟩, rfl⟩
theorem toLayerS_new {f : Adr} {zs : List LLayer} {h : H2} (hs : szLayerS zs ≤ 1048576) : NewT Tryz.prog W0 79 [.sl f 32 (rLayerS zs)] h (.l 32 (rLayerS zs)) := by
  unfold szLayerS at hs
  have hE : ∀ a, (eLayer a).length = 32 := fun a => rfl
  refine start (P := Tryz.prog) [[0], [0], [0, 3], [0, 3, 4], [0, 3, 4], [0, 3, 4], [3]] (by kernel_rfl) Tryz.func79 rfl (by decide) (by decide +kernel) (rs := [.tmp 2]) rfl rfl (Nat.le_of_ble_eq_true rfl) ?_
  intro wf
  repeat (first | rw [kz_o] | rw [kz_r0] | simp -dsimp -implicitDefEqProofs only [go_sem, Nat.reduceBEq, Nat.reduceAdd, Nat.reduceLeDiff, Nat.reduceMul, Int.reduceLE, Int.reduceLT, Int.reduceBEq])
  refine make_intro Ai.ty_el26 Ai.ty_zr155 (by decide) ⟨by omega, by simp only [Int.toNat_natCast]; have : Ai.most = 1099511627776 := rfl; omega⟩ ?_
  repeat (first | rw [kz_o] | rw [kz_r0] | simp -dsimp -implicitDefEqProofs only [go_sem, Nat.reduceBEq, Nat.reduceAdd, Nat.reduceLeDiff, Nat.reduceMul, Int.reduceLE, Int.reduceLT, Int.reduceBEq])
  refine lz_keep [0, 3] (fun m e h' => ∃ (k : Nat) (cs : List X) (bs : List Nat), look e 4 .mk = .raw (.int .i64 k) ∧ m + k = zs.length ∧ hg h' (hn h .mk) .mk = some ⟨32, cs⟩ ∧ cs.length = zs.length * 32 ∧ OTs h' bs (cs.take (k * 32)) (((zs.take k).map eLayer).flatten) ∧ Bl (hn h .mk + 1) (hn h' .mk) bs ∧ h.le h' ∧ hn h .mk < hn h' .mk) zs.length ?_ ?_
  · exact ⟨0, _, [], by simp -dsimp -implicitDefEqProofs only [go_sem, Nat.reduceBEq, Nat.reduceAdd, Nat.reduceLeDiff, Nat.reduceMul, Int.reduceLE, Int.reduceLT, Int.reduceBEq], by omega, (by rw [hg_push, hoo]; rfl), by simp [rep_len], by simpa using OTs.nil, Bl.nil, le_push (H2.le.refl _), by rw [hn_push]; omega⟩
  · rintro m e h' hks ⟨k, cs, bs, e4, hk, hrow, hcs, ho, hbl, hle, hlt⟩
    simp -dsimp -implicitDefEqProofs only [go_sem, Nat.reduceBEq, Nat.reduceAdd, Nat.reduceLeDiff, Nat.reduceMul, Int.reduceLE, Int.reduceLT, Int.reduceBEq, Int.toNat_natCast] at hks
    by_cases h2 : (k : Int) < (zs.length : Int)
    · have h3 : k < zs.length := by omega
      have hsm : szLayer (zs.getD k default) ≤ sumN szLayer zs := sumN_mem (f := szLayer) (getD_mem h3)
      repeat (first | rw [kz_o] | rw [kz_r0] | simp -dsimp -implicitDefEqProofs only [go_sem, Nat.reduceBEq, Nat.reduceAdd, Nat.reduceLeDiff, Nat.reduceMul, Int.reduceLE, Int.reduceLT, Int.reduceBEq, hks, e4, h2, h3])
      refine wz_intro (toLayer_ok (F := under (under f k)) (c := zs.getD k default) (by omega)) ?_
      rintro _ g2 ⟨l2, ys, b2, rfl, o2, bl2⟩
      have nn2 := l2.1
      have hyl : (ys).length = 32 := (OTs.len o2).trans (hE _)
      have hyo := OTs.okx o2
      obtain ⟨w1, w2, w3⟩ := wrt_next hcs h3 hyl
      have row2 := (l2.2 (hn h .mk) hlt).trans hrow
      have hi2 : (0 : Int) ≤ (k : Int) ∧ (k : Int) < (zs.length : Int) := by omega
      repeat (first | rw [kz_o] | rw [kz_r0] | simp -dsimp -implicitDefEqProofs only [go_sem, Nat.reduceBEq, Nat.reduceAdd, Nat.reduceLeDiff, Nat.reduceMul, Int.reduceLE, Int.reduceLT, Int.reduceBEq, hks, e4, row2, hi2, hyl, hyo, w1, wrap_succ h3 (by omega)])
      have hset : ∀ {b : Nat} {kk : OB}, b ≠ hn h .mk → (g2.set (hn h .mk) kk).get b = g2.get b := fun hb => by simp only [H2.set]; rw [if_neg hb]
      refine nx_keep (m - 1) (by omega) (by simp -dsimp -implicitDefEqProofs only [go_sem, Nat.reduceBEq, Nat.reduceAdd, Nat.reduceLeDiff, Nat.reduceMul, Int.reduceLE, Int.reduceLT, Int.reduceBEq, hks]) ⟨k + 1, _, bs ++ b2, by simp -dsimp -implicitDefEqProofs only [go_sem, Nat.reduceBEq, Nat.reduceAdd, Nat.reduceLeDiff, Nat.reduceMul, Int.reduceLE, Int.reduceLT, Int.reduceBEq], by omega, (by rw [hg_set, hoo]; rfl), w2, ?_, ?_, le_set (hle.trans l2) (Nat.le_refl _), by simp -dsimp -implicitDefEqProofs only [go_sem, Nat.reduceBEq, Nat.reduceAdd, Nat.reduceLeDiff, Nat.reduceMul, Int.reduceLE, Int.reduceLT, Int.reduceBEq] <;> omega⟩
      · rw [w3, flat_next h3]
        refine OTs.append ((OTs.keep ho l2 hbl).frame fun b hb => hset (by have := (hbl.2 b hb).1; omega)) (o2.frame fun b hb => hset (by have := (bl2.2 b hb).1; omega))
      · rw [hn_set]
        exact hbl.append bl2 (by omega) nn2
    · repeat (first | rw [kz_o] | rw [kz_r0] | simp -dsimp -implicitDefEqProofs only [go_sem, Nat.reduceBEq, Nat.reduceAdd, Nat.reduceLeDiff, Nat.reduceMul, Int.reduceLE, Int.reduceLT, Int.reduceBEq, hks, e4, h2])
      have : k = zs.length := by omega
      subst this
      obtain ⟨q1, q2⟩ := OT.full hE hrow hcs ho hbl hlt
      exact ⟨hle, _, q1, q2⟩
structure LModel where
  dim : Int
  heads : Int
  context : Int
  merges : List LMerge
  embed : List (List Int)
  layers : List LLayer
  gainEnd : List Int
  head : LMatrix
  turns : LTurns
instance : Inhabited LModel := ⟨⟨default, default, default, default, default, default, default, default, default⟩⟩
def eModel (c : LModel) : List T := [.v (.int .i64 c.dim), .v (.int .i64 c.heads), .v (.int .i64 c.context), .l 2 (rMergeS c.merges), .l 1 (rIntSS c.embed), .l 32 (rLayerS c.layers), .l 1 (ints c.gainEnd), .v (.int .i64 c.head.width), .l 1 (rIntSS c.head.rows), .l 1 (rIntSS c.head.scales), .v (.int .i64 c.head.mul), .v (.int .i64 c.head.shift), .l 1 (rIntSS c.turns.cos), .l 1 (rIntSS c.turns.sin)]
def xModel (F : Nat → Adr) (c : LModel) : List X := [.raw (.int .i64 c.dim), .raw (.int .i64 c.heads), .raw (.int .i64 c.context), .sl (F 3) 2 (rMergeS c.merges), .sl (F 4) 1 (rIntSS c.embed), .sl (F 5) 32 (rLayerS c.layers), .sl (F 6) 1 (ints c.gainEnd), .raw (.int .i64 c.head.width), .sl (F 8) 1 (rIntSS c.head.rows), .sl (F 9) 1 (rIntSS c.head.scales), .raw (.int .i64 c.head.mul), .raw (.int .i64 c.head.shift), .sl (F 12) 1 (rIntSS c.turns.cos), .sl (F 13) 1 (rIntSS c.turns.sin)]
theorem xModel_def {F : Nat → Adr} {c : LModel} : xModel F c = [.raw (.int .i64 c.dim), .raw (.int .i64 c.heads), .raw (.int .i64 c.context), .sl (F 3) 2 (rMergeS c.merges), .sl (F 4) 1 (rIntSS c.embed), .sl (F 5) 32 (rLayerS c.layers), .sl (F 6) 1 (ints c.gainEnd), .raw (.int .i64 c.head.width), .sl (F 8) 1 (rIntSS c.head.rows), .sl (F 9) 1 (rIntSS c.head.scales), .raw (.int .i64 c.head.mul), .raw (.int .i64 c.head.shift), .sl (F 12) 1 (rIntSS c.turns.cos), .sl (F 13) 1 (rIntSS c.turns.sin)] := rfl
def szModel (c : LModel) : Nat := szMergeS c.merges + szIntSS c.embed + szLayerS c.layers + c.gainEnd.length + szMatrix c.head + szTurns c.turns
def fitModel (c : LModel) : Prop := fitMergeS c.merges ∧ fitIntSS c.embed ∧ fitLayerS c.layers ∧ c.gainEnd.length ≤ 9223372036854775807 ∧ fitMatrix c.head ∧ fitTurns c.turns
attribute [go_sem] xModel_def
theorem invModel {g : H2} {bs : List Nat} {ys : List X} {c : LModel} (o : OTs g bs ys (eModel c)) : ∃ b3 s3 b4 s4 b5 s5 b6 s6 b8 s8 b9 s9 b12 s12 b13 s13, ys = [.raw (.int .i64 c.dim), .raw (.int .i64 c.heads), .raw (.int .i64 c.context), s3, s4, s5, s6, .raw (.int .i64 c.head.width), s8, s9, .raw (.int .i64 c.head.mul), .raw (.int .i64 c.head.shift), s12, s13] ∧ bs = b3 ++ (b4 ++ (b5 ++ (b6 ++ (b8 ++ (b9 ++ (b12 ++ b13)))))) ∧ OT g b3 s3 (.l 2 (rMergeS c.merges)) ∧ OT g b4 s4 (.l 1 (rIntSS c.embed)) ∧ OT g b5 s5 (.l 32 (rLayerS c.layers)) ∧ OT g b6 s6 (.l 1 (ints c.gainEnd)) ∧ OT g b8 s8 (.l 1 (rIntSS c.head.rows)) ∧ OT g b9 s9 (.l 1 (rIntSS c.head.scales)) ∧ OT g b12 s12 (.l 1 (rIntSS c.turns.cos)) ∧ OT g b13 s13 (.l 1 (rIntSS c.turns.sin)) := by
  unfold eModel at o
  obtain ⟨ys0, rfl, o0⟩ := OTs.headv o
  obtain ⟨ys1, rfl, o1⟩ := OTs.headv o0
  obtain ⟨ys2, rfl, o2⟩ := OTs.headv o1
  obtain ⟨b3, bs3, s3, ys3, rfl, rfl, a3, o3⟩ := OTs.head o2
  obtain ⟨b4, bs4, s4, ys4, rfl, rfl, a4, o4⟩ := OTs.head o3
  obtain ⟨b5, bs5, s5, ys5, rfl, rfl, a5, o5⟩ := OTs.head o4
  obtain ⟨b6, bs6, s6, ys6, rfl, rfl, a6, o6⟩ := OTs.head o5
  obtain ⟨ys7, rfl, o7⟩ := OTs.headv o6
  obtain ⟨b8, bs8, s8, ys8, rfl, rfl, a8, o8⟩ := OTs.head o7
  obtain ⟨b9, bs9, s9, ys9, rfl, rfl, a9, o9⟩ := OTs.head o8
  obtain ⟨ys10, rfl, o10⟩ := OTs.headv o9
  obtain ⟨ys11, rfl, o11⟩ := OTs.headv o10
  obtain ⟨b12, bs12, s12, ys12, rfl, rfl, a12, o12⟩ := OTs.head o11
  obtain ⟨b13, bs13, s13, ys13, rfl, rfl, a13, o13⟩ := OTs.head o12
  obtain ⟨rfl, rfl⟩ := OTs.tail0 o13
  exact ⟨_, _, _, _, _, _, _, _, _, _, _, _, _, _, _, _, rfl, by simp only [List.append_nil], a3, a4, a5, a6, a8, a9, a12, a13⟩
theorem outModel {g : H2} {c : LModel} {b3 b4 b5 b6 b8 b9 b12 b13 : List Nat} {s3 s4 s5 s6 s8 s9 s12 s13 : X} (a3 : OT g b3 s3 (.l 2 (rMergeS c.merges))) (a4 : OT g b4 s4 (.l 1 (rIntSS c.embed))) (a5 : OT g b5 s5 (.l 32 (rLayerS c.layers))) (a6 : OT g b6 s6 (.l 1 (ints c.gainEnd))) (a8 : OT g b8 s8 (.l 1 (rIntSS c.head.rows))) (a9 : OT g b9 s9 (.l 1 (rIntSS c.head.scales))) (a12 : OT g b12 s12 (.l 1 (rIntSS c.turns.cos))) (a13 : OT g b13 s13 (.l 1 (rIntSS c.turns.sin))) : OTs g (b3 ++ (b4 ++ (b5 ++ (b6 ++ (b8 ++ (b9 ++ (b12 ++ b13))))))) [.raw (.int .i64 c.dim), .raw (.int .i64 c.heads), .raw (.int .i64 c.context), s3, s4, s5, s6, .raw (.int .i64 c.head.width), s8, s9, .raw (.int .i64 c.head.mul), .raw (.int .i64 c.head.shift), s12, s13] (eModel c) := by
  have := OTs.cons (OT.raw (v := .int .i64 c.dim) rfl) (OTs.cons (OT.raw (v := .int .i64 c.heads) rfl) (OTs.cons (OT.raw (v := .int .i64 c.context) rfl) (OTs.cons a3 (OTs.cons a4 (OTs.cons a5 (OTs.cons a6 (OTs.cons (OT.raw (v := .int .i64 c.head.width) rfl) (OTs.cons a8 (OTs.cons a9 (OTs.cons (OT.raw (v := .int .i64 c.head.mul) rfl) (OTs.cons (OT.raw (v := .int .i64 c.head.shift) rfl) (OTs.cons a12 (OTs.cons a13 (OTs.nil))))))))))))))
  simpa only [eModel, List.append_nil, List.nil_append] using this
theorem szModel_ok {F : Nat → Adr} {c : LModel} {left : Int} {h : H2} (hf : fitModel c) (hl : 0 ≤ left ∧ left ≤ 1048576) : PW Tryz.prog W0 24 [.st (xModel F c), .raw (.int .i64 left)] h (fun y => ∃ k : Int, y = .raw (.int .i64 k) ∧ (0 ≤ k → (szModel c : Int) + k ≤ left)) := by
  unfold fitModel at hf
  refine PW.scalar ?_
  refine start (P := Tryz.prog) [[0, 1], [1, 2], [1, 2], [], [1, 2], [1, 2], [], [1, 2], [1, 2], [], [1, 2], [1, 2], [], [1, 2], [1, 2], [], [1, 2], [1], [], [1]] (by kernel_rfl) Tryz.func24 rfl (by decide) (by decide +kernel) (rs := [.tmp 4]) rfl rfl (Nat.le_of_ble_eq_true rfl) ?_
  intro wf
  repeat (first | rw [kz_o] | rw [kz_r0] | simp -dsimp -implicitDefEqProofs only [go_sem, Nat.reduceBEq, Nat.reduceAdd, Nat.reduceLeDiff, Nat.reduceMul, Int.reduceLE, Int.reduceLT, Int.reduceBEq])
  refine pw_intro (szMergeS_pw  hf.1 ⟨by omega, by omega⟩) ?_
  rintro _ n3 hn3 ⟨k3, rfl, hk3⟩
  repeat (first | rw [kz_o] | rw [kz_r0] | simp -dsimp -implicitDefEqProofs only [go_sem, Nat.reduceBEq, Nat.reduceAdd, Nat.reduceLeDiff, Nat.reduceMul, Int.reduceLE, Int.reduceLT, Int.reduceBEq])
  refine gz_dec (fun q3 => ?_) (fun q3 => ?_)
  · repeat (first | rw [kz_o] | rw [kz_r0] | simp -dsimp -implicitDefEqProofs only [go_sem, Nat.reduceBEq, Nat.reduceAdd, Nat.reduceLeDiff, Nat.reduceMul, Int.reduceLE, Int.reduceLT, Int.reduceBEq])
    exact ⟨by repeat (first | exact H2.le.refl _ | apply le_push | refine le_up ?_ (by assumption)), ⟨_, rfl⟩, _, rfl, fun hh => by omega⟩
  repeat (first | rw [kz_o] | rw [kz_r0] | simp -dsimp -implicitDefEqProofs only [go_sem, Nat.reduceBEq, Nat.reduceAdd, Nat.reduceLeDiff, Nat.reduceMul, Int.reduceLE, Int.reduceLT, Int.reduceBEq])
  refine pw_intro (szIntSS_pw  hf.2.1 ⟨by omega, by omega⟩) ?_
  rintro _ n4 hn4 ⟨k4, rfl, hk4⟩
  repeat (first | rw [kz_o] | rw [kz_r0] | simp -dsimp -implicitDefEqProofs only [go_sem, Nat.reduceBEq, Nat.reduceAdd, Nat.reduceLeDiff, Nat.reduceMul, Int.reduceLE, Int.reduceLT, Int.reduceBEq])
  refine gz_dec (fun q4 => ?_) (fun q4 => ?_)
  · repeat (first | rw [kz_o] | rw [kz_r0] | simp -dsimp -implicitDefEqProofs only [go_sem, Nat.reduceBEq, Nat.reduceAdd, Nat.reduceLeDiff, Nat.reduceMul, Int.reduceLE, Int.reduceLT, Int.reduceBEq])
    exact ⟨by repeat (first | exact H2.le.refl _ | apply le_push | refine le_up ?_ (by assumption)), ⟨_, rfl⟩, _, rfl, fun hh => by omega⟩
  repeat (first | rw [kz_o] | rw [kz_r0] | simp -dsimp -implicitDefEqProofs only [go_sem, Nat.reduceBEq, Nat.reduceAdd, Nat.reduceLeDiff, Nat.reduceMul, Int.reduceLE, Int.reduceLT, Int.reduceBEq])
  refine pw_intro (szLayerS_pw  hf.2.2.1 ⟨by omega, by omega⟩) ?_
  rintro _ n5 hn5 ⟨k5, rfl, hk5⟩
  repeat (first | rw [kz_o] | rw [kz_r0] | simp -dsimp -implicitDefEqProofs only [go_sem, Nat.reduceBEq, Nat.reduceAdd, Nat.reduceLeDiff, Nat.reduceMul, Int.reduceLE, Int.reduceLT, Int.reduceBEq])
  refine gz_dec (fun q5 => ?_) (fun q5 => ?_)
  · repeat (first | rw [kz_o] | rw [kz_r0] | simp -dsimp -implicitDefEqProofs only [go_sem, Nat.reduceBEq, Nat.reduceAdd, Nat.reduceLeDiff, Nat.reduceMul, Int.reduceLE, Int.reduceLT, Int.reduceBEq])
    exact ⟨by repeat (first | exact H2.le.refl _ | apply le_push | refine le_up ?_ (by assumption)), ⟨_, rfl⟩, _, rfl, fun hh => by omega⟩
  repeat (first | rw [kz_o] | rw [kz_r0] | simp -dsimp -implicitDefEqProofs only [go_sem, Nat.reduceBEq, Nat.reduceAdd, Nat.reduceLeDiff, Nat.reduceMul, Int.reduceLE, Int.reduceLT, Int.reduceBEq])
  refine pw_intro (szIntS_pw  hf.2.2.2.1 ⟨by omega, by omega⟩) ?_
  rintro _ n6 hn6 ⟨k6, rfl, hk6⟩
  repeat (first | rw [kz_o] | rw [kz_r0] | simp -dsimp -implicitDefEqProofs only [go_sem, Nat.reduceBEq, Nat.reduceAdd, Nat.reduceLeDiff, Nat.reduceMul, Int.reduceLE, Int.reduceLT, Int.reduceBEq])
  refine gz_dec (fun q6 => ?_) (fun q6 => ?_)
  · repeat (first | rw [kz_o] | rw [kz_r0] | simp -dsimp -implicitDefEqProofs only [go_sem, Nat.reduceBEq, Nat.reduceAdd, Nat.reduceLeDiff, Nat.reduceMul, Int.reduceLE, Int.reduceLT, Int.reduceBEq])
    exact ⟨by repeat (first | exact H2.le.refl _ | apply le_push | refine le_up ?_ (by assumption)), ⟨_, rfl⟩, _, rfl, fun hh => by omega⟩
  repeat (first | rw [kz_o] | rw [kz_r0] | simp -dsimp -implicitDefEqProofs only [go_sem, Nat.reduceBEq, Nat.reduceAdd, Nat.reduceLeDiff, Nat.reduceMul, Int.reduceLE, Int.reduceLT, Int.reduceBEq])
  refine pw_intro (szMatrix_ok (F := fun j => F (j + 7)) hf.2.2.2.2.1 ⟨by omega, by omega⟩) ?_
  rintro _ n7 hn7 ⟨k7, rfl, hk7⟩
  repeat (first | rw [kz_o] | rw [kz_r0] | simp -dsimp -implicitDefEqProofs only [go_sem, Nat.reduceBEq, Nat.reduceAdd, Nat.reduceLeDiff, Nat.reduceMul, Int.reduceLE, Int.reduceLT, Int.reduceBEq])
  refine gz_dec (fun q7 => ?_) (fun q7 => ?_)
  · repeat (first | rw [kz_o] | rw [kz_r0] | simp -dsimp -implicitDefEqProofs only [go_sem, Nat.reduceBEq, Nat.reduceAdd, Nat.reduceLeDiff, Nat.reduceMul, Int.reduceLE, Int.reduceLT, Int.reduceBEq])
    exact ⟨by repeat (first | exact H2.le.refl _ | apply le_push | refine le_up ?_ (by assumption)), ⟨_, rfl⟩, _, rfl, fun hh => by omega⟩
  repeat (first | rw [kz_o] | rw [kz_r0] | simp -dsimp -implicitDefEqProofs only [go_sem, Nat.reduceBEq, Nat.reduceAdd, Nat.reduceLeDiff, Nat.reduceMul, Int.reduceLE, Int.reduceLT, Int.reduceBEq])
  refine pw_intro (szTurns_ok (F := fun j => F (j + 12)) hf.2.2.2.2.2 ⟨by omega, by omega⟩) ?_
  rintro _ n8 hn8 ⟨k8, rfl, hk8⟩
  repeat (first | rw [kz_o] | rw [kz_r0] | simp -dsimp -implicitDefEqProofs only [go_sem, Nat.reduceBEq, Nat.reduceAdd, Nat.reduceLeDiff, Nat.reduceMul, Int.reduceLE, Int.reduceLT, Int.reduceBEq])
  refine gz_dec (fun q8 => ?_) (fun q8 => ?_)
  · repeat (first | rw [kz_o] | rw [kz_r0] | simp -dsimp -implicitDefEqProofs only [go_sem, Nat.reduceBEq, Nat.reduceAdd, Nat.reduceLeDiff, Nat.reduceMul, Int.reduceLE, Int.reduceLT, Int.reduceBEq])
    exact ⟨by repeat (first | exact H2.le.refl _ | apply le_push | refine le_up ?_ (by assumption)), ⟨_, rfl⟩, _, rfl, fun hh => by omega⟩
  repeat (first | rw [kz_o] | rw [kz_r0] | simp -dsimp -implicitDefEqProofs only [go_sem, Nat.reduceBEq, Nat.reduceAdd, Nat.reduceLeDiff, Nat.reduceMul, Int.reduceLE, Int.reduceLT, Int.reduceBEq])
  exact ⟨by repeat (first | exact H2.le.refl _ | apply le_push | refine le_up ?_ (by assumption)), ⟨_, rfl⟩, _, rfl, fun hh => by unfold szModel; omega⟩
theorem eqModel_ok {F F' : Nat → Adr} {c : LModel} {h : H2} (hf : fitModel c) : PW Tryz.prog W0 26 [.st (xModel F c), .st (xModel F' c)] h (fun y => y = .raw (.bool true)) := by
  unfold fitModel at hf
  refine PW.scalar ?_
  refine start (P := Tryz.prog) [[0, 1], [2, 3], [], [2, 3], [], [2, 3], [], [2, 3], [], [2, 3], [], [2, 3], [], [2, 3], [], [2, 3], [], [2, 3], [], []] (by kernel_rfl) Tryz.func26 rfl (by decide) (by decide +kernel) (rs := [.tmp 4]) rfl rfl (Nat.le_of_ble_eq_true rfl) ?_
  intro wf
  repeat (first | rw [kz_o] | rw [kz_r0] | simp -dsimp -implicitDefEqProofs only [go_sem, Nat.reduceBEq, Nat.reduceAdd, Nat.reduceLeDiff, Nat.reduceMul, Int.reduceLE, Int.reduceLT, Int.reduceBEq])
  refine pw_intro (eqMergeS_pw  hf.1) ?_
  rintro _ n3 hn3 rfl
  repeat (first | rw [kz_o] | rw [kz_r0] | simp -dsimp -implicitDefEqProofs only [go_sem, Nat.reduceBEq, Nat.reduceAdd, Nat.reduceLeDiff, Nat.reduceMul, Int.reduceLE, Int.reduceLT, Int.reduceBEq])
  refine pw_intro (eqIntSS_pw  hf.2.1) ?_
  rintro _ n4 hn4 rfl
  repeat (first | rw [kz_o] | rw [kz_r0] | simp -dsimp -implicitDefEqProofs only [go_sem, Nat.reduceBEq, Nat.reduceAdd, Nat.reduceLeDiff, Nat.reduceMul, Int.reduceLE, Int.reduceLT, Int.reduceBEq])
  refine pw_intro (eqLayerS_pw  hf.2.2.1) ?_
  rintro _ n5 hn5 rfl
  repeat (first | rw [kz_o] | rw [kz_r0] | simp -dsimp -implicitDefEqProofs only [go_sem, Nat.reduceBEq, Nat.reduceAdd, Nat.reduceLeDiff, Nat.reduceMul, Int.reduceLE, Int.reduceLT, Int.reduceBEq])
  refine pw_intro (eqIntS_pw  hf.2.2.2.1) ?_
  rintro _ n6 hn6 rfl
  repeat (first | rw [kz_o] | rw [kz_r0] | simp -dsimp -implicitDefEqProofs only [go_sem, Nat.reduceBEq, Nat.reduceAdd, Nat.reduceLeDiff, Nat.reduceMul, Int.reduceLE, Int.reduceLT, Int.reduceBEq])
  refine pw_intro (eqMatrix_ok (F := fun j => F (j + 7)) (F' := fun j => F' (j + 7)) hf.2.2.2.2.1) ?_
  rintro _ n7 hn7 rfl
  repeat (first | rw [kz_o] | rw [kz_r0] | simp -dsimp -implicitDefEqProofs only [go_sem, Nat.reduceBEq, Nat.reduceAdd, Nat.reduceLeDiff, Nat.reduceMul, Int.reduceLE, Int.reduceLT, Int.reduceBEq])
  refine pw_intro (eqTurns_ok (F := fun j => F (j + 12)) (F' := fun j => F' (j + 12)) hf.2.2.2.2.2) ?_
  rintro _ n8 hn8 rfl
  repeat (first | rw [kz_o] | rw [kz_r0] | simp -dsimp -implicitDefEqProofs only [go_sem, Nat.reduceBEq, Nat.reduceAdd, Nat.reduceLeDiff, Nat.reduceMul, Int.reduceLE, Int.reduceLT, Int.reduceBEq])
  exact ⟨by repeat (first | exact H2.le.refl _ | apply le_push | refine le_up ?_ (by assumption)), ⟨_, rfl⟩, rfl⟩
theorem toModel_ok {F : Nat → Adr} {c : LModel} {h : H2} (hs : szModel c ≤ 1048576) : NewS Tryz.prog W0 25 [.st (xModel F c)] h (eModel c) := by
  unfold szModel at hs
  refine start (P := Tryz.prog) [[0], [1, 2], [1, 2, 3], [1, 2, 3], [1, 2, 3], [1, 2, 3], [1, 2, 3], [1, 2, 3], [1, 2, 3], [1, 2, 3], [1, 2, 3], [2, 3]] (by kernel_rfl) Tryz.func25 rfl (by decide) (by decide +kernel) (rs := [.cell 2 33]) rfl rfl (Nat.le_of_ble_eq_true rfl) ?_
  intro wf
  repeat (first | rw [kz_o] | rw [kz_r0] | simp -dsimp -implicitDefEqProofs only [go_sem, Nat.reduceBEq, Nat.reduceAdd, Nat.reduceLeDiff, Nat.reduceMul, Int.reduceLE, Int.reduceLT, Int.reduceBEq])
  refine wz_intro (toMergeS_new  (by omega)) ?_
  rintro s3 g3 ⟨l3, b3, o3, bl3⟩
  have ce3 := OT.cell o3
  have n3 := l3.n
  have a30 := l3.2 (hn h .mk) (by simp only [hn_push, hn_set]; omega)
  have a31 := l3.2 (hn h .mk + 1) (by simp only [hn_push, hn_set]; omega)
  have a32 := l3.2 (hn h .mk + 1 + 1) (by simp only [hn_push, hn_set]; omega)
  simp -dsimp -implicitDefEqProofs only [go_sem, Nat.reduceBEq, Nat.reduceAdd, Nat.reduceLeDiff, Nat.reduceMul, Int.reduceLE, Int.reduceLT, Int.reduceBEq, hoo] at n3 a30 a31 a32
  have L3 : h.le g3 := H2.le.trans (by repeat (first | exact H2.le.refl _ | apply le_push | refine le_set ?_ (by omega))) l3
  repeat (first | rw [kz_o] | rw [kz_r0] | simp -dsimp -implicitDefEqProofs only [go_sem, Nat.reduceBEq, Nat.reduceAdd, Nat.reduceLeDiff, Nat.reduceMul, Int.reduceLE, Int.reduceLT, Int.reduceBEq, a30, a31, a32, ce3])
  refine wz_intro (toIntSS_new  (by omega)) ?_
  rintro s4 g4 ⟨l4, b4, o4, bl4⟩
  have ce4 := OT.cell o4
  have n4 := l4.n
  have a40 := l4.2 (hn h .mk) (by simp only [hn_push, hn_set]; omega)
  have a41 := l4.2 (hn h .mk + 1) (by simp only [hn_push, hn_set]; omega)
  have a42 := l4.2 (hn h .mk + 1 + 1) (by simp only [hn_push, hn_set]; omega)
  simp -dsimp -implicitDefEqProofs only [go_sem, Nat.reduceBEq, Nat.reduceAdd, Nat.reduceLeDiff, Nat.reduceMul, Int.reduceLE, Int.reduceLT, Int.reduceBEq, a30, a31, a32, hoo] at n4 a40 a41 a42
  have L4 : h.le g4 := H2.le.trans (by repeat (first | exact L3 | exact H2.le.refl _ | apply le_push | refine le_set ?_ (by omega))) l4
  repeat (first | rw [kz_o] | rw [kz_r0] | simp -dsimp -implicitDefEqProofs only [go_sem, Nat.reduceBEq, Nat.reduceAdd, Nat.reduceLeDiff, Nat.reduceMul, Int.reduceLE, Int.reduceLT, Int.reduceBEq, a40, a41, a42, ce3, ce4])
  refine wz_intro (toLayerS_new  (by omega)) ?_
  rintro s5 g5 ⟨l5, b5, o5, bl5⟩
  have ce5 := OT.cell o5
  have n5 := l5.n
  have a50 := l5.2 (hn h .mk) (by simp only [hn_push, hn_set]; omega)
  have a51 := l5.2 (hn h .mk + 1) (by simp only [hn_push, hn_set]; omega)
  have a52 := l5.2 (hn h .mk + 1 + 1) (by simp only [hn_push, hn_set]; omega)
  simp -dsimp -implicitDefEqProofs only [go_sem, Nat.reduceBEq, Nat.reduceAdd, Nat.reduceLeDiff, Nat.reduceMul, Int.reduceLE, Int.reduceLT, Int.reduceBEq, a40, a41, a42, hoo] at n5 a50 a51 a52
  have L5 : h.le g5 := H2.le.trans (by repeat (first | exact L4 | exact H2.le.refl _ | apply le_push | refine le_set ?_ (by omega))) l5
  repeat (first | rw [kz_o] | rw [kz_r0] | simp -dsimp -implicitDefEqProofs only [go_sem, Nat.reduceBEq, Nat.reduceAdd, Nat.reduceLeDiff, Nat.reduceMul, Int.reduceLE, Int.reduceLT, Int.reduceBEq, a50, a51, a52, ce3, ce4, ce5])
  refine wz_intro (toIntS_new  (by omega)) ?_
  rintro s6 g6 ⟨l6, b6, o6, bl6⟩
  have ce6 := OT.cell o6
  have n6 := l6.n
  have a60 := l6.2 (hn h .mk) (by simp only [hn_push, hn_set]; omega)
  have a61 := l6.2 (hn h .mk + 1) (by simp only [hn_push, hn_set]; omega)
  have a62 := l6.2 (hn h .mk + 1 + 1) (by simp only [hn_push, hn_set]; omega)
  simp -dsimp -implicitDefEqProofs only [go_sem, Nat.reduceBEq, Nat.reduceAdd, Nat.reduceLeDiff, Nat.reduceMul, Int.reduceLE, Int.reduceLT, Int.reduceBEq, a50, a51, a52, hoo] at n6 a60 a61 a62
  have L6 : h.le g6 := H2.le.trans (by repeat (first | exact L5 | exact H2.le.refl _ | apply le_push | refine le_set ?_ (by omega))) l6
  repeat (first | rw [kz_o] | rw [kz_r0] | simp -dsimp -implicitDefEqProofs only [go_sem, Nat.reduceBEq, Nat.reduceAdd, Nat.reduceLeDiff, Nat.reduceMul, Int.reduceLE, Int.reduceLT, Int.reduceBEq, a60, a61, a62, ce3, ce4, ce5, ce6])
  refine wz_intro (toMatrix_ok (F := fun j => F (j + 7)) (by omega)) ?_
  rintro _ g7 ⟨l7, ys7, b7, rfl, o7, bl7⟩
  obtain ⟨b7_1, s8, b7_2, s9, rfl, hb7, o7_1, o7_2⟩ := invMatrix o7
  have ce8 := OT.cell o7_1
  have ce9 := OT.cell o7_2
  have n7 := l7.n
  have a70 := l7.2 (hn h .mk) (by simp only [hn_push, hn_set]; omega)
  have a71 := l7.2 (hn h .mk + 1) (by simp only [hn_push, hn_set]; omega)
  have a72 := l7.2 (hn h .mk + 1 + 1) (by simp only [hn_push, hn_set]; omega)
  simp -dsimp -implicitDefEqProofs only [go_sem, Nat.reduceBEq, Nat.reduceAdd, Nat.reduceLeDiff, Nat.reduceMul, Int.reduceLE, Int.reduceLT, Int.reduceBEq, a60, a61, a62, hoo] at n7 a70 a71 a72
  have L7 : h.le g7 := H2.le.trans (by repeat (first | exact L6 | exact H2.le.refl _ | apply le_push | refine le_set ?_ (by omega))) l7
  repeat (first | rw [kz_o] | rw [kz_r0] | simp -dsimp -implicitDefEqProofs only [go_sem, Nat.reduceBEq, Nat.reduceAdd, Nat.reduceLeDiff, Nat.reduceMul, Int.reduceLE, Int.reduceLT, Int.reduceBEq, a70, a71, a72, ce3, ce4, ce5, ce6, ce8, ce9])
  refine wz_intro (toTurns_ok (F := fun j => F (j + 12)) (by omega)) ?_
  rintro _ g8 ⟨l8, ys8, b8, rfl, o8, bl8⟩
  obtain ⟨b8_0, s12, b8_1, s13, rfl, hb8, o8_0, o8_1⟩ := invTurns o8
  have ce12 := OT.cell o8_0
  have ce13 := OT.cell o8_1
  have n8 := l8.n
  have a80 := l8.2 (hn h .mk) (by simp only [hn_push, hn_set]; omega)
  have a81 := l8.2 (hn h .mk + 1) (by simp only [hn_push, hn_set]; omega)
  have a82 := l8.2 (hn h .mk + 1 + 1) (by simp only [hn_push, hn_set]; omega)
  simp -dsimp -implicitDefEqProofs only [go_sem, Nat.reduceBEq, Nat.reduceAdd, Nat.reduceLeDiff, Nat.reduceMul, Int.reduceLE, Int.reduceLT, Int.reduceBEq, a70, a71, a72, hoo] at n8 a80 a81 a82
  have L8 : h.le g8 := H2.le.trans (by repeat (first | exact L7 | exact H2.le.refl _ | apply le_push | refine le_set ?_ (by omega))) l8
  repeat (first | rw [kz_o] | rw [kz_r0] | simp -dsimp -implicitDefEqProofs only [go_sem, Nat.reduceBEq, Nat.reduceAdd, Nat.reduceLeDiff, Nat.reduceMul, Int.reduceLE, Int.reduceLT, Int.reduceBEq, a80, a81, a82, ce3, ce4, ce5, ce6, ce8, ce9, ce12, ce13])
  refine ⟨by repeat (first | exact L8 | refine le_set ?_ (by omega)), _, b3 ++ (b4 ++ (b5 ++ (b6 ++ (b7_1 ++ (b7_2 ++ (b8_0 ++ b8_1)))))), rfl, outModel (c := c) ?_ ?_ ?_ ?_ ?_ ?_ ?_ ?_, ?_⟩
  · refine OT.frame o3 fun b hb => ?_
    have hbl := bl3.2 b (hb)
    simp only [hn_push, hn_set] at hbl
    simp only [H2.set]
    rw [if_neg (by omega), if_neg (by omega)]
    rw [show g8.get b = _ from l8.2 b (by simp only [hn_set]; omega)]
    simp only [hg, H2.set]
    rw [if_neg (by omega)]
    rw [show g7.get b = _ from l7.2 b (by simp only [hn_set]; omega)]
    simp only [hg, H2.set]
    rw [if_neg (by omega)]
    rw [show g6.get b = _ from l6.2 b (by simp only [hn_set]; omega)]
    simp only [hg, H2.set]
    rw [if_neg (by omega)]
    rw [show g5.get b = _ from l5.2 b (by simp only [hn_set]; omega)]
    simp only [hg, H2.set]
    rw [if_neg (by omega)]
    rw [show g4.get b = _ from l4.2 b (by simp only [hn_set]; omega)]
    simp only [hg, H2.set]
    rw [if_neg (by omega)]
  · refine OT.frame o4 fun b hb => ?_
    have hbl := bl4.2 b (hb)
    simp only [hn_push, hn_set] at hbl
    simp only [H2.set]
    rw [if_neg (by omega), if_neg (by omega)]
    rw [show g8.get b = _ from l8.2 b (by simp only [hn_set]; omega)]
    simp only [hg, H2.set]
    rw [if_neg (by omega)]
    rw [show g7.get b = _ from l7.2 b (by simp only [hn_set]; omega)]
    simp only [hg, H2.set]
    rw [if_neg (by omega)]
    rw [show g6.get b = _ from l6.2 b (by simp only [hn_set]; omega)]
    simp only [hg, H2.set]
    rw [if_neg (by omega)]
    rw [show g5.get b = _ from l5.2 b (by simp only [hn_set]; omega)]
    simp only [hg, H2.set]
    rw [if_neg (by omega)]
  · refine OT.frame o5 fun b hb => ?_
    have hbl := bl5.2 b (hb)
    simp only [hn_push, hn_set] at hbl
    simp only [H2.set]
    rw [if_neg (by omega), if_neg (by omega)]
    rw [show g8.get b = _ from l8.2 b (by simp only [hn_set]; omega)]
    simp only [hg, H2.set]
    rw [if_neg (by omega)]
    rw [show g7.get b = _ from l7.2 b (by simp only [hn_set]; omega)]
    simp only [hg, H2.set]
    rw [if_neg (by omega)]
    rw [show g6.get b = _ from l6.2 b (by simp only [hn_set]; omega)]
    simp only [hg, H2.set]
    rw [if_neg (by omega)]
  · refine OT.frame o6 fun b hb => ?_
    have hbl := bl6.2 b (hb)
    simp only [hn_push, hn_set] at hbl
    simp only [H2.set]
    rw [if_neg (by omega), if_neg (by omega)]
    rw [show g8.get b = _ from l8.2 b (by simp only [hn_set]; omega)]
    simp only [hg, H2.set]
    rw [if_neg (by omega)]
    rw [show g7.get b = _ from l7.2 b (by simp only [hn_set]; omega)]
    simp only [hg, H2.set]
    rw [if_neg (by omega)]
  · refine OT.frame o7_1 fun b hb => ?_
    have hbl := bl7.2 b (by rw [hb7]; simp [hb])
    simp only [hn_push, hn_set] at hbl
    simp only [H2.set]
    rw [if_neg (by omega), if_neg (by omega)]
    rw [show g8.get b = _ from l8.2 b (by simp only [hn_set]; omega)]
    simp only [hg, H2.set]
    rw [if_neg (by omega)]
  · refine OT.frame o7_2 fun b hb => ?_
    have hbl := bl7.2 b (by rw [hb7]; simp [hb])
    simp only [hn_push, hn_set] at hbl
    simp only [H2.set]
    rw [if_neg (by omega), if_neg (by omega)]
    rw [show g8.get b = _ from l8.2 b (by simp only [hn_set]; omega)]
    simp only [hg, H2.set]
    rw [if_neg (by omega)]
  · refine OT.frame o8_0 fun b hb => ?_
    have hbl := bl8.2 b (by rw [hb8]; simp [hb])
    simp only [hn_push, hn_set] at hbl
    simp only [H2.set]
    rw [if_neg (by omega), if_neg (by omega)]
  · refine OT.frame o8_1 fun b hb => ?_
    have hbl := bl8.2 b (by rw [hb8]; simp [hb])
    simp only [hn_push, hn_set] at hbl
    simp only [H2.set]
    rw [if_neg (by omega), if_neg (by omega)]
  · simp only [hn_set]
    have m3 := bl3
    simp only [hn_push, hn_set] at m3
    have m4 := bl4
    simp only [hn_push, hn_set] at m4
    have m5 := bl5
    simp only [hn_push, hn_set] at m5
    have m6 := bl6
    simp only [hn_push, hn_set] at m6
    have m7 := bl7
    simp only [hn_push, hn_set] at m7
    rw [hb7] at m7
    have m8 := bl8
    simp only [hn_push, hn_set] at m8
    rw [hb8] at m8
    have := ((Bl.append m3 (Bl.append m4 (Bl.append m5 (Bl.append m6 (Bl.append m7 m8 (by omega) (by omega)) (by omega) (by omega)) (by omega) (by omega)) (by omega) (by omega)) (by omega) (by omega))).wide (N' := hn h .mk) (by omega) (Nat.le_refl _)
    simpa only [List.append_assoc] using this
end Go.Bi
end
section
set_option linter.unusedSimpArgs false
set_option linter.unusedVariables false
set_option maxRecDepth 20000
namespace Go.Bi
open Go.Proofs
open Go.Ai (wrap_i64 wrap_u8)
variable {W0 : World}
structure LConfig where
  top : Int
  seed : Int
  new : Int
  stops : List ByteArray
instance : Inhabited LConfig := ⟨⟨default, default, default, default⟩⟩
def eConfig (c : LConfig) : List T := [.v (.int .i64 c.top), .v (.int .i64 c.seed), .v (.int .i64 c.new), .l 1 (strs c.stops)]
def xConfig (F : Nat → Adr) (c : LConfig) : List X := [.raw (.int .i64 c.top), .raw (.int .i64 c.seed), .raw (.int .i64 c.new), .sl (F 3) 1 (strs c.stops)]
theorem xConfig_def {F : Nat → Adr} {c : LConfig} : xConfig F c = [.raw (.int .i64 c.top), .raw (.int .i64 c.seed), .raw (.int .i64 c.new), .sl (F 3) 1 (strs c.stops)] := rfl
def szConfig (c : LConfig) : Nat := (c.stops.length + sumL c.stops)
def fitConfig (c : LConfig) : Prop := (c.stops.length ≤ 9223372036854775807 ∧ ∀ s ∈ c.stops, s.size ≤ 9223372036854775807)
attribute [go_sem] xConfig_def
theorem invConfig {g : H2} {bs : List Nat} {ys : List X} {c : LConfig} (o : OTs g bs ys (eConfig c)) : ∃ b3 s3, ys = [.raw (.int .i64 c.top), .raw (.int .i64 c.seed), .raw (.int .i64 c.new), s3] ∧ bs = b3 ∧ OT g b3 s3 (.l 1 (strs c.stops)) := by
  unfold eConfig at o
  obtain ⟨ys0, rfl, o0⟩ := OTs.headv o
  obtain ⟨ys1, rfl, o1⟩ := OTs.headv o0
  obtain ⟨ys2, rfl, o2⟩ := OTs.headv o1
  obtain ⟨b3, bs3, s3, ys3, rfl, rfl, a3, o3⟩ := OTs.head o2
  obtain ⟨rfl, rfl⟩ := OTs.tail0 o3
  exact ⟨_, _, rfl, by simp only [List.append_nil], a3⟩
theorem outConfig {g : H2} {c : LConfig} {b3 : List Nat} {s3 : X} (a3 : OT g b3 s3 (.l 1 (strs c.stops))) : OTs g (b3) [.raw (.int .i64 c.top), .raw (.int .i64 c.seed), .raw (.int .i64 c.new), s3] (eConfig c) := by
  have := OTs.cons (OT.raw (v := .int .i64 c.top) rfl) (OTs.cons (OT.raw (v := .int .i64 c.seed) rfl) (OTs.cons (OT.raw (v := .int .i64 c.new) rfl) (OTs.cons a3 (OTs.nil))))
  simpa only [eConfig, List.append_nil, List.nil_append] using this
theorem szConfig_ok {F : Nat → Adr} {c : LConfig} {left : Int} {h : H2} (hf : fitConfig c) (hl : 0 ≤ left ∧ left ≤ 1048576) : PW Tryz.prog W0 36 [.st (xConfig F c), .raw (.int .i64 left)] h (fun y => ∃ k : Int, y = .raw (.int .i64 k) ∧ (0 ≤ k → (szConfig c : Int) + k ≤ left)) := by
  unfold fitConfig at hf
  refine PW.scalar ?_
  refine start (P := Tryz.prog) [[0, 1], [1, 2], [1], [], [1]] (by kernel_rfl) Tryz.func36 rfl (by decide) (by decide +kernel) (rs := [.tmp 4]) rfl rfl (Nat.le_of_ble_eq_true rfl) ?_
  intro wf
  repeat (first | rw [kz_o] | rw [kz_r0] | simp -dsimp -implicitDefEqProofs only [go_sem, Nat.reduceBEq, Nat.reduceAdd, Nat.reduceLeDiff, Nat.reduceMul, Int.reduceLE, Int.reduceLT, Int.reduceBEq])
  refine pw_intro (szStringS_pw  hf ⟨by omega, by omega⟩) ?_
  rintro _ n3 hn3 ⟨k3, rfl, hk3⟩
  repeat (first | rw [kz_o] | rw [kz_r0] | simp -dsimp -implicitDefEqProofs only [go_sem, Nat.reduceBEq, Nat.reduceAdd, Nat.reduceLeDiff, Nat.reduceMul, Int.reduceLE, Int.reduceLT, Int.reduceBEq])
  refine gz_dec (fun q3 => ?_) (fun q3 => ?_)
  · repeat (first | rw [kz_o] | rw [kz_r0] | simp -dsimp -implicitDefEqProofs only [go_sem, Nat.reduceBEq, Nat.reduceAdd, Nat.reduceLeDiff, Nat.reduceMul, Int.reduceLE, Int.reduceLT, Int.reduceBEq])
    exact ⟨by repeat (first | exact H2.le.refl _ | apply le_push | refine le_up ?_ (by assumption)), ⟨_, rfl⟩, _, rfl, fun hh => by omega⟩
  repeat (first | rw [kz_o] | rw [kz_r0] | simp -dsimp -implicitDefEqProofs only [go_sem, Nat.reduceBEq, Nat.reduceAdd, Nat.reduceLeDiff, Nat.reduceMul, Int.reduceLE, Int.reduceLT, Int.reduceBEq])
  exact ⟨by repeat (first | exact H2.le.refl _ | apply le_push | refine le_up ?_ (by assumption)), ⟨_, rfl⟩, _, rfl, fun hh => by unfold szConfig; omega⟩
theorem eqConfig_ok {F F' : Nat → Adr} {c : LConfig} {h : H2} (hf : fitConfig c) : PW Tryz.prog W0 42 [.st (xConfig F c), .st (xConfig F' c)] h (fun y => y = .raw (.bool true)) := by
  unfold fitConfig at hf
  refine PW.scalar ?_
  refine start (P := Tryz.prog) [[0, 1], [2, 3], [], [2, 3], [], [2, 3], [], [2, 3], [], []] (by kernel_rfl) Tryz.func42 rfl (by decide) (by decide +kernel) (rs := [.tmp 4]) rfl rfl (Nat.le_of_ble_eq_true rfl) ?_
  intro wf
  repeat (first | rw [kz_o] | rw [kz_r0] | simp -dsimp -implicitDefEqProofs only [go_sem, Nat.reduceBEq, Nat.reduceAdd, Nat.reduceLeDiff, Nat.reduceMul, Int.reduceLE, Int.reduceLT, Int.reduceBEq])
  refine pw_intro (eqStringS_pw  hf.1) ?_
  rintro _ n3 hn3 rfl
  repeat (first | rw [kz_o] | rw [kz_r0] | simp -dsimp -implicitDefEqProofs only [go_sem, Nat.reduceBEq, Nat.reduceAdd, Nat.reduceLeDiff, Nat.reduceMul, Int.reduceLE, Int.reduceLT, Int.reduceBEq])
  exact ⟨by repeat (first | exact H2.le.refl _ | apply le_push | refine le_up ?_ (by assumption)), ⟨_, rfl⟩, rfl⟩
structure LTable where
  pages : List Int
  count : Int
instance : Inhabited LTable := ⟨⟨default, default⟩⟩
def eTable (c : LTable) : List T := [.l 1 (ints c.pages), .v (.int .i64 c.count)]
def xTable (F : Nat → Adr) (c : LTable) : List X := [.sl (F 0) 1 (ints c.pages), .raw (.int .i64 c.count)]
theorem xTable_def {F : Nat → Adr} {c : LTable} : xTable F c = [.sl (F 0) 1 (ints c.pages), .raw (.int .i64 c.count)] := rfl
def szTable (c : LTable) : Nat := c.pages.length
def fitTable (c : LTable) : Prop := c.pages.length ≤ 9223372036854775807
attribute [go_sem] xTable_def
theorem invTable {g : H2} {bs : List Nat} {ys : List X} {c : LTable} (o : OTs g bs ys (eTable c)) : ∃ b0 s0, ys = [s0, .raw (.int .i64 c.count)] ∧ bs = b0 ∧ OT g b0 s0 (.l 1 (ints c.pages)) := by
  unfold eTable at o
  obtain ⟨b0, bs0, s0, ys0, rfl, rfl, a0, o0⟩ := OTs.head o
  obtain ⟨ys1, rfl, o1⟩ := OTs.headv o0
  obtain ⟨rfl, rfl⟩ := OTs.tail0 o1
  exact ⟨_, _, rfl, by simp only [List.append_nil], a0⟩
theorem outTable {g : H2} {c : LTable} {b0 : List Nat} {s0 : X} (a0 : OT g b0 s0 (.l 1 (ints c.pages))) : OTs g (b0) [s0, .raw (.int .i64 c.count)] (eTable c) := by
  have := OTs.cons a0 (OTs.cons (OT.raw (v := .int .i64 c.count) rfl) (OTs.nil))
  simpa only [eTable, List.append_nil, List.nil_append] using this
theorem szTable_ok {F : Nat → Adr} {c : LTable} {left : Int} {h : H2} (hf : fitTable c) (hl : 0 ≤ left ∧ left ≤ 1048576) : PW Tryz.prog W0 216 [.st (xTable F c), .raw (.int .i64 left)] h (fun y => ∃ k : Int, y = .raw (.int .i64 k) ∧ (0 ≤ k → (szTable c : Int) + k ≤ left)) := by
  unfold fitTable at hf
  refine PW.scalar ?_
  refine start (P := Tryz.prog) [[0, 1], [1, 2], [1], [], [1]] (by kernel_rfl) Tryz.func216 rfl (by decide) (by decide +kernel) (rs := [.tmp 4]) rfl rfl (Nat.le_of_ble_eq_true rfl) ?_
  intro wf
  repeat (first | rw [kz_o] | rw [kz_r0] | simp -dsimp -implicitDefEqProofs only [go_sem, Nat.reduceBEq, Nat.reduceAdd, Nat.reduceLeDiff, Nat.reduceMul, Int.reduceLE, Int.reduceLT, Int.reduceBEq])
  refine pw_intro (szIntS_pw  hf ⟨by omega, by omega⟩) ?_
  rintro _ n0 hn0 ⟨k0, rfl, hk0⟩
  repeat (first | rw [kz_o] | rw [kz_r0] | simp -dsimp -implicitDefEqProofs only [go_sem, Nat.reduceBEq, Nat.reduceAdd, Nat.reduceLeDiff, Nat.reduceMul, Int.reduceLE, Int.reduceLT, Int.reduceBEq])
  refine gz_dec (fun q0 => ?_) (fun q0 => ?_)
  · repeat (first | rw [kz_o] | rw [kz_r0] | simp -dsimp -implicitDefEqProofs only [go_sem, Nat.reduceBEq, Nat.reduceAdd, Nat.reduceLeDiff, Nat.reduceMul, Int.reduceLE, Int.reduceLT, Int.reduceBEq])
    exact ⟨by repeat (first | exact H2.le.refl _ | apply le_push | refine le_up ?_ (by assumption)), ⟨_, rfl⟩, _, rfl, fun hh => by omega⟩
  repeat (first | rw [kz_o] | rw [kz_r0] | simp -dsimp -implicitDefEqProofs only [go_sem, Nat.reduceBEq, Nat.reduceAdd, Nat.reduceLeDiff, Nat.reduceMul, Int.reduceLE, Int.reduceLT, Int.reduceBEq])
  exact ⟨by repeat (first | exact H2.le.refl _ | apply le_push | refine le_up ?_ (by assumption)), ⟨_, rfl⟩, _, rfl, fun hh => by unfold szTable; omega⟩
theorem eqTable_ok {F F' : Nat → Adr} {c : LTable} {h : H2} (hf : fitTable c) : PW Tryz.prog W0 221 [.st (xTable F c), .st (xTable F' c)] h (fun y => y = .raw (.bool true)) := by
  unfold fitTable at hf
  refine PW.scalar ?_
  refine start (P := Tryz.prog) [[0, 1], [2, 3], [], [2, 3], [], []] (by kernel_rfl) Tryz.func221 rfl (by decide) (by decide +kernel) (rs := [.tmp 4]) rfl rfl (Nat.le_of_ble_eq_true rfl) ?_
  intro wf
  repeat (first | rw [kz_o] | rw [kz_r0] | simp -dsimp -implicitDefEqProofs only [go_sem, Nat.reduceBEq, Nat.reduceAdd, Nat.reduceLeDiff, Nat.reduceMul, Int.reduceLE, Int.reduceLT, Int.reduceBEq])
  refine pw_intro (eqIntS_pw  hf) ?_
  rintro _ n0 hn0 rfl
  repeat (first | rw [kz_o] | rw [kz_r0] | simp -dsimp -implicitDefEqProofs only [go_sem, Nat.reduceBEq, Nat.reduceAdd, Nat.reduceLeDiff, Nat.reduceMul, Int.reduceLE, Int.reduceLT, Int.reduceBEq])
  exact ⟨by repeat (first | exact H2.le.refl _ | apply le_push | refine le_up ?_ (by assumption)), ⟨_, rfl⟩, rfl⟩
structure LRequest where
  prompt : Int
  tokens : List Int
  config : LConfig
  state : Int
  table : LTable
  status : Int
instance : Inhabited LRequest := ⟨⟨default, default, default, default, default, default⟩⟩
def eRequest (c : LRequest) : List T := [.v (.int .i64 c.prompt), .l 1 (ints c.tokens), .v (.int .i64 c.config.top), .v (.int .i64 c.config.seed), .v (.int .i64 c.config.new), .l 1 (strs c.config.stops), .v (.int .u64 c.state), .l 1 (ints c.table.pages), .v (.int .i64 c.table.count), .v (.int .i64 c.status)]
def xRequest (F : Nat → Adr) (c : LRequest) : List X := [.raw (.int .i64 c.prompt), .sl (F 1) 1 (ints c.tokens), .raw (.int .i64 c.config.top), .raw (.int .i64 c.config.seed), .raw (.int .i64 c.config.new), .sl (F 5) 1 (strs c.config.stops), .raw (.int .u64 c.state), .sl (F 7) 1 (ints c.table.pages), .raw (.int .i64 c.table.count), .raw (.int .i64 c.status)]
theorem eRequest_def {c : LRequest} : eRequest c = [.v (.int .i64 c.prompt), .l 1 (ints c.tokens), .v (.int .i64 c.config.top), .v (.int .i64 c.config.seed), .v (.int .i64 c.config.new), .l 1 (strs c.config.stops), .v (.int .u64 c.state), .l 1 (ints c.table.pages), .v (.int .i64 c.table.count), .v (.int .i64 c.status)] := rfl
theorem xRequest_def {F : Nat → Adr} {c : LRequest} : xRequest F c = [.raw (.int .i64 c.prompt), .sl (F 1) 1 (ints c.tokens), .raw (.int .i64 c.config.top), .raw (.int .i64 c.config.seed), .raw (.int .i64 c.config.new), .sl (F 5) 1 (strs c.config.stops), .raw (.int .u64 c.state), .sl (F 7) 1 (ints c.table.pages), .raw (.int .i64 c.table.count), .raw (.int .i64 c.status)] := rfl
def szRequest (c : LRequest) : Nat := c.tokens.length + szConfig c.config + szTable c.table
def fitRequest (c : LRequest) : Prop := c.tokens.length ≤ 9223372036854775807 ∧ fitConfig c.config ∧ fitTable c.table
attribute [go_sem] eRequest_def xRequest_def
theorem outRequest {g : H2} {c : LRequest} {b1 b5 b7 : List Nat} {s1 s5 s7 : X} (a1 : OT g b1 s1 (.l 1 (ints c.tokens))) (a5 : OT g b5 s5 (.l 1 (strs c.config.stops))) (a7 : OT g b7 s7 (.l 1 (ints c.table.pages))) : OTs g (b1 ++ (b5 ++ b7)) [.raw (.int .i64 c.prompt), s1, .raw (.int .i64 c.config.top), .raw (.int .i64 c.config.seed), .raw (.int .i64 c.config.new), s5, .raw (.int .u64 c.state), s7, .raw (.int .i64 c.table.count), .raw (.int .i64 c.status)] (eRequest c) := by
  have := OTs.cons (OT.raw (v := .int .i64 c.prompt) rfl) (OTs.cons a1 (OTs.cons (OT.raw (v := .int .i64 c.config.top) rfl) (OTs.cons (OT.raw (v := .int .i64 c.config.seed) rfl) (OTs.cons (OT.raw (v := .int .i64 c.config.new) rfl) (OTs.cons a5 (OTs.cons (OT.raw (v := .int .u64 c.state) rfl) (OTs.cons a7 (OTs.cons (OT.raw (v := .int .i64 c.table.count) rfl) (OTs.cons (OT.raw (v := .int .i64 c.status) rfl) (OTs.nil))))))))))
  simpa only [eRequest, List.append_nil, List.nil_append] using this
theorem szRequest_ok {F : Nat → Adr} {c : LRequest} {left : Int} {h : H2} (hf : fitRequest c) (hl : 0 ≤ left ∧ left ≤ 1048576) : PW Tryz.prog W0 157 [.st (xRequest F c), .raw (.int .i64 left)] h (fun y => ∃ k : Int, y = .raw (.int .i64 k) ∧ (0 ≤ k → (szRequest c : Int) + k ≤ left)) := by
  unfold fitRequest at hf
  refine PW.scalar ?_
  refine start (P := Tryz.prog) [[0, 1], [1, 2], [1, 2], [], [1, 2], [1, 2], [], [1, 2], [1], [], [1]] (by kernel_rfl) Tryz.func157 rfl (by decide) (by decide +kernel) (rs := [.tmp 4]) rfl rfl (Nat.le_of_ble_eq_true rfl) ?_
  intro wf
  repeat (first | rw [kz_o] | rw [kz_r0] | simp -dsimp -implicitDefEqProofs only [go_sem, Nat.reduceBEq, Nat.reduceAdd, Nat.reduceLeDiff, Nat.reduceMul, Int.reduceLE, Int.reduceLT, Int.reduceBEq])
  refine pw_intro (szIntS_pw  hf.1 ⟨by omega, by omega⟩) ?_
  rintro _ n1 hn1 ⟨k1, rfl, hk1⟩
  repeat (first | rw [kz_o] | rw [kz_r0] | simp -dsimp -implicitDefEqProofs only [go_sem, Nat.reduceBEq, Nat.reduceAdd, Nat.reduceLeDiff, Nat.reduceMul, Int.reduceLE, Int.reduceLT, Int.reduceBEq])
  refine gz_dec (fun q1 => ?_) (fun q1 => ?_)
  · repeat (first | rw [kz_o] | rw [kz_r0] | simp -dsimp -implicitDefEqProofs only [go_sem, Nat.reduceBEq, Nat.reduceAdd, Nat.reduceLeDiff, Nat.reduceMul, Int.reduceLE, Int.reduceLT, Int.reduceBEq])
    exact ⟨by repeat (first | exact H2.le.refl _ | apply le_push | refine le_up ?_ (by assumption)), ⟨_, rfl⟩, _, rfl, fun hh => by omega⟩
  repeat (first | rw [kz_o] | rw [kz_r0] | simp -dsimp -implicitDefEqProofs only [go_sem, Nat.reduceBEq, Nat.reduceAdd, Nat.reduceLeDiff, Nat.reduceMul, Int.reduceLE, Int.reduceLT, Int.reduceBEq])
  refine pw_intro (szConfig_ok (F := fun j => F (j + 2)) hf.2.1 ⟨by omega, by omega⟩) ?_
  rintro _ n2 hn2 ⟨k2, rfl, hk2⟩
  repeat (first | rw [kz_o] | rw [kz_r0] | simp -dsimp -implicitDefEqProofs only [go_sem, Nat.reduceBEq, Nat.reduceAdd, Nat.reduceLeDiff, Nat.reduceMul, Int.reduceLE, Int.reduceLT, Int.reduceBEq])
  refine gz_dec (fun q2 => ?_) (fun q2 => ?_)
  · repeat (first | rw [kz_o] | rw [kz_r0] | simp -dsimp -implicitDefEqProofs only [go_sem, Nat.reduceBEq, Nat.reduceAdd, Nat.reduceLeDiff, Nat.reduceMul, Int.reduceLE, Int.reduceLT, Int.reduceBEq])
    exact ⟨by repeat (first | exact H2.le.refl _ | apply le_push | refine le_up ?_ (by assumption)), ⟨_, rfl⟩, _, rfl, fun hh => by omega⟩
  repeat (first | rw [kz_o] | rw [kz_r0] | simp -dsimp -implicitDefEqProofs only [go_sem, Nat.reduceBEq, Nat.reduceAdd, Nat.reduceLeDiff, Nat.reduceMul, Int.reduceLE, Int.reduceLT, Int.reduceBEq])
  refine pw_intro (szTable_ok (F := fun j => F (j + 7)) hf.2.2 ⟨by omega, by omega⟩) ?_
  rintro _ n4 hn4 ⟨k4, rfl, hk4⟩
  repeat (first | rw [kz_o] | rw [kz_r0] | simp -dsimp -implicitDefEqProofs only [go_sem, Nat.reduceBEq, Nat.reduceAdd, Nat.reduceLeDiff, Nat.reduceMul, Int.reduceLE, Int.reduceLT, Int.reduceBEq])
  refine gz_dec (fun q4 => ?_) (fun q4 => ?_)
  · repeat (first | rw [kz_o] | rw [kz_r0] | simp -dsimp -implicitDefEqProofs only [go_sem, Nat.reduceBEq, Nat.reduceAdd, Nat.reduceLeDiff, Nat.reduceMul, Int.reduceLE, Int.reduceLT, Int.reduceBEq])
    exact ⟨by repeat (first | exact H2.le.refl _ | apply le_push | refine le_up ?_ (by assumption)), ⟨_, rfl⟩, _, rfl, fun hh => by omega⟩
  repeat (first | rw [kz_o] | rw [kz_r0] | simp -dsimp -implicitDefEqProofs only [go_sem, Nat.reduceBEq, Nat.reduceAdd, Nat.reduceLeDiff, Nat.reduceMul, Int.reduceLE, Int.reduceLT, Int.reduceBEq])
  exact ⟨by repeat (first | exact H2.le.refl _ | apply le_push | refine le_up ?_ (by assumption)), ⟨_, rfl⟩, _, rfl, fun hh => by unfold szRequest; omega⟩
theorem eqRequest_ok {F F' : Nat → Adr} {c : LRequest} {h : H2} (hf : fitRequest c) : PW Tryz.prog W0 167 [.st (xRequest F c), .st (xRequest F' c)] h (fun y => y = .raw (.bool true)) := by
  unfold fitRequest at hf
  refine PW.scalar ?_
  refine start (P := Tryz.prog) [[0, 1], [2, 3], [], [2, 3], [], [2, 3], [], [2, 3], [], [2, 3], [], [2, 3], [], []] (by kernel_rfl) Tryz.func167 rfl (by decide) (by decide +kernel) (rs := [.tmp 4]) rfl rfl (Nat.le_of_ble_eq_true rfl) ?_
  intro wf
  repeat (first | rw [kz_o] | rw [kz_r0] | simp -dsimp -implicitDefEqProofs only [go_sem, Nat.reduceBEq, Nat.reduceAdd, Nat.reduceLeDiff, Nat.reduceMul, Int.reduceLE, Int.reduceLT, Int.reduceBEq])
  refine pw_intro (eqIntS_pw  hf.1) ?_
  rintro _ n1 hn1 rfl
  repeat (first | rw [kz_o] | rw [kz_r0] | simp -dsimp -implicitDefEqProofs only [go_sem, Nat.reduceBEq, Nat.reduceAdd, Nat.reduceLeDiff, Nat.reduceMul, Int.reduceLE, Int.reduceLT, Int.reduceBEq])
  refine pw_intro (eqConfig_ok (F := fun j => F (j + 2)) (F' := fun j => F' (j + 2)) hf.2.1) ?_
  rintro _ n2 hn2 rfl
  repeat (first | rw [kz_o] | rw [kz_r0] | simp -dsimp -implicitDefEqProofs only [go_sem, Nat.reduceBEq, Nat.reduceAdd, Nat.reduceLeDiff, Nat.reduceMul, Int.reduceLE, Int.reduceLT, Int.reduceBEq])
  refine pw_intro (eqTable_ok (F := fun j => F (j + 7)) (F' := fun j => F' (j + 7)) hf.2.2) ?_
  rintro _ n4 hn4 rfl
  repeat (first | rw [kz_o] | rw [kz_r0] | simp -dsimp -implicitDefEqProofs only [go_sem, Nat.reduceBEq, Nat.reduceAdd, Nat.reduceLeDiff, Nat.reduceMul, Int.reduceLE, Int.reduceLT, Int.reduceBEq])
  exact ⟨by repeat (first | exact H2.le.refl _ | apply le_push | refine le_up ?_ (by assumption)), ⟨_, rfl⟩, rfl⟩
structure LAsk where
  op : Int
  text : ByteArray
  pos : Int
  config : LConfig
  picks : List Int
instance : Inhabited LAsk := ⟨⟨default, default, default, default, default⟩⟩
end Go.Bi
end
