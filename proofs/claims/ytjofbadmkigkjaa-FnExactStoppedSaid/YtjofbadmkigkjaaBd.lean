/- Walks of what the laws use to measure, copy, compare, mark and look again at structs (Config:d,sz,eq, Table:d,sz,eq, Request:d,sz,eq, Ask:d,sz,eq). -/
import Derived.Test.YtjofbadmkigkjaaBc
set_option linter.unusedSimpArgs false
set_option linter.unusedVariables false
set_option maxRecDepth 20000
namespace Go.Bi
open Go.Proofs
open Go.Ai (wrap_i64 wrap_u64 wrap_u8)
variable {W0 : World}
structure LConfig where
  top : Int
  seed : Int
  new : Int
  stops : List ByteArray
instance : Inhabited LConfig := ⟨⟨default, default, default, default⟩⟩
def eConfig (c : LConfig) : List T := [.v (.int .i64 c.top), .v (.int .i64 c.seed), .v (.int .i64 c.new), .l 1 (strs c.stops)]
def xConfig (F : Nat → Adr) (c : LConfig) : List X := [.raw (.int .i64 c.top), .raw (.int .i64 c.seed), .raw (.int .i64 c.new), .sl (F 3) 1 (strs c.stops)]
theorem mkConfig {F : Nat → Adr} {c : LConfig} : mkF F 0 (eConfig c) = xConfig F c := rfl
theorem eConfig_def {c : LConfig} : eConfig c = [.v (.int .i64 c.top), .v (.int .i64 c.seed), .v (.int .i64 c.new), .l 1 (strs c.stops)] := rfl
theorem xConfig_def {F : Nat → Adr} {c : LConfig} : xConfig F c = [.raw (.int .i64 c.top), .raw (.int .i64 c.seed), .raw (.int .i64 c.new), .sl (F 3) 1 (strs c.stops)] := rfl
def szConfig (c : LConfig) : Nat := (c.stops.length + sumL c.stops)
def cntConfig (c : LConfig) : Nat := c.stops.length
def fitConfig (c : LConfig) : Prop := (c.stops.length ≤ 9223372036854775807 ∧ ∀ s ∈ c.stops, s.size ≤ 9223372036854775807)
attribute [go_sem] eConfig_def xConfig_def
theorem invConfig {g : H2} {bs : List Nat} {ys : List X} {c : LConfig} (o : OTs g bs ys (eConfig c)) : ∃ b3 s3, ys = [.raw (.int .i64 c.top), .raw (.int .i64 c.seed), .raw (.int .i64 c.new), s3] ∧ bs = b3 ∧ OT g b3 s3 (.l 1 (strs c.stops)) := by
  unfold eConfig at o
  obtain ⟨ys0, rfl, o0⟩ := OTs.headv o
  obtain ⟨ys1, rfl, o1⟩ := OTs.headv o0
  obtain ⟨ys2, rfl, o2⟩ := OTs.headv o1
  obtain ⟨b3, bs3, s3, ys3, rfl, rfl, a3, o3⟩ := OTs.head o2
  obtain ⟨rfl, rfl⟩ := OTs.tail0 o3
  exact ⟨_, _, rfl, by simp only [List.append_nil], a3⟩
theorem outConfig {g : H2} {c : LConfig} {b3 : List Nat} {s3 : X} (a3 : OT g b3 s3 (.l 1 (strs c.stops))) : OTs g (b3) [.raw (.int .i64 c.top), .raw (.int .i64 c.seed), .raw (.int .i64 c.new), s3] (eConfig c) := by
  have := OTs.cons (OT.raw (v := .int .i64 c.top) rfl) (OTs.cons (OT.raw (v := .int .i64 c.seed) rfl) (OTs.cons (OT.raw (v := .int .i64 c.new) rfl) (OTs.cons a3 (OTs.nil))))
  simpa only [eConfig, List.append_nil, List.nil_append] using this

theorem szConfig_ok {F : Nat → Adr} {c : LConfig} {left : Int} {h : H2} (hf : fitConfig c) (hl : 0 ≤ left ∧ left ≤ 1048576) : PW Try.prog W0 16 [.st (xConfig F c), .raw (.int .i64 left)] h (fun y => ∃ k : Int, y = .raw (.int .i64 k) ∧ (0 ≤ k → (szConfig c : Int) + k ≤ left)) := by
  unfold fitConfig at hf
  refine PW.scalar ?_
  refine start (P := Try.prog) [[0, 1], [1, 2], [1], [], [1]] (by kernel_rfl) Try.func16 rfl (by decide) (by decide +kernel) (rs := [.tmp 4]) rfl rfl (Nat.le_of_ble_eq_true rfl) ?_
  intro wf
  repeat (first | rw [kz_o] | rw [kz_r0] | simp -dsimp -implicitDefEqProofs only [go_sem, Nat.reduceBEq, Nat.reduceAdd, Nat.reduceLeDiff, Nat.reduceMul, Int.reduceLE, Int.reduceLT, Int.reduceBEq])
  refine pw_intro (szStringS_pw  hf ⟨by omega, by omega⟩) ?_
  rintro _ n3 hn3 ⟨k3, rfl, hk3⟩
  repeat (first | rw [kz_o] | rw [kz_r0] | simp -dsimp -implicitDefEqProofs only [go_sem, Nat.reduceBEq, Nat.reduceAdd, Nat.reduceLeDiff, Nat.reduceMul, Int.reduceLE, Int.reduceLT, Int.reduceBEq])
  refine gz_dec (fun q3 => ?_) (fun q3 => ?_)
  · repeat (first | rw [kz_o] | rw [kz_r0] | simp -dsimp -implicitDefEqProofs only [go_sem, Nat.reduceBEq, Nat.reduceAdd, Nat.reduceLeDiff, Nat.reduceMul, Int.reduceLE, Int.reduceLT, Int.reduceBEq])
    exact ⟨by repeat (first | exact H2.le.refl _ | apply le_push | refine le_up ?_ (by assumption)), ⟨_, rfl⟩, _, rfl, fun hh => by omega⟩
  repeat (first | rw [kz_o] | rw [kz_r0] | simp -dsimp -implicitDefEqProofs only [go_sem, Nat.reduceBEq, Nat.reduceAdd, Nat.reduceLeDiff, Nat.reduceMul, Int.reduceLE, Int.reduceLT, Int.reduceBEq])
  exact ⟨by repeat (first | exact H2.le.refl _ | apply le_push | refine le_up ?_ (by assumption)), ⟨_, rfl⟩, _, rfl, fun hh => by unfold szConfig; omega⟩

theorem eqConfig_ok {F F' : Nat → Adr} {c : LConfig} {h : H2} (hf : fitConfig c) : PW Try.prog W0 23 [.st (xConfig F c), .st (xConfig F' c)] h (fun y => y = .raw (.bool true)) := by
  unfold fitConfig at hf
  refine PW.scalar ?_
  refine start (P := Try.prog) [[0, 1], [2, 3], [], [2, 3], [], [2, 3], [], [2, 3], [], []] (by kernel_rfl) Try.func23 rfl (by decide) (by decide +kernel) (rs := [.tmp 4]) rfl rfl (Nat.le_of_ble_eq_true rfl) ?_
  intro wf
  repeat (first | rw [kz_o] | rw [kz_r0] | simp -dsimp -implicitDefEqProofs only [go_sem, Nat.reduceBEq, Nat.reduceAdd, Nat.reduceLeDiff, Nat.reduceMul, Int.reduceLE, Int.reduceLT, Int.reduceBEq])
  refine pw_intro (eqStringS_pw  hf.1) ?_
  rintro _ n3 hn3 rfl
  repeat (first | rw [kz_o] | rw [kz_r0] | simp -dsimp -implicitDefEqProofs only [go_sem, Nat.reduceBEq, Nat.reduceAdd, Nat.reduceLeDiff, Nat.reduceMul, Int.reduceLE, Int.reduceLT, Int.reduceBEq])
  exact ⟨by repeat (first | exact H2.le.refl _ | apply le_push | refine le_up ?_ (by assumption)), ⟨_, rfl⟩, rfl⟩

structure LTable where
  pages : List Int
  count : Int
instance : Inhabited LTable := ⟨⟨default, default⟩⟩
def eTable (c : LTable) : List T := [.l 1 (ints c.pages), .v (.int .i64 c.count)]
def xTable (F : Nat → Adr) (c : LTable) : List X := [.sl (F 0) 1 (ints c.pages), .raw (.int .i64 c.count)]
theorem mkTable {F : Nat → Adr} {c : LTable} : mkF F 0 (eTable c) = xTable F c := rfl
theorem eTable_def {c : LTable} : eTable c = [.l 1 (ints c.pages), .v (.int .i64 c.count)] := rfl
theorem xTable_def {F : Nat → Adr} {c : LTable} : xTable F c = [.sl (F 0) 1 (ints c.pages), .raw (.int .i64 c.count)] := rfl
def szTable (c : LTable) : Nat := c.pages.length
def cntTable (c : LTable) : Nat := c.pages.length
def fitTable (c : LTable) : Prop := c.pages.length ≤ 9223372036854775807
attribute [go_sem] eTable_def xTable_def
theorem invTable {g : H2} {bs : List Nat} {ys : List X} {c : LTable} (o : OTs g bs ys (eTable c)) : ∃ b0 s0, ys = [s0, .raw (.int .i64 c.count)] ∧ bs = b0 ∧ OT g b0 s0 (.l 1 (ints c.pages)) := by
  unfold eTable at o
  obtain ⟨b0, bs0, s0, ys0, rfl, rfl, a0, o0⟩ := OTs.head o
  obtain ⟨ys1, rfl, o1⟩ := OTs.headv o0
  obtain ⟨rfl, rfl⟩ := OTs.tail0 o1
  exact ⟨_, _, rfl, by simp only [List.append_nil], a0⟩
theorem outTable {g : H2} {c : LTable} {b0 : List Nat} {s0 : X} (a0 : OT g b0 s0 (.l 1 (ints c.pages))) : OTs g (b0) [s0, .raw (.int .i64 c.count)] (eTable c) := by
  have := OTs.cons a0 (OTs.cons (OT.raw (v := .int .i64 c.count) rfl) (OTs.nil))
  simpa only [eTable, List.append_nil, List.nil_append] using this

theorem szTable_ok {F : Nat → Adr} {c : LTable} {left : Int} {h : H2} (hf : fitTable c) (hl : 0 ≤ left ∧ left ≤ 1048576) : PW Try.prog W0 133 [.st (xTable F c), .raw (.int .i64 left)] h (fun y => ∃ k : Int, y = .raw (.int .i64 k) ∧ (0 ≤ k → (szTable c : Int) + k ≤ left)) := by
  unfold fitTable at hf
  refine PW.scalar ?_
  refine start (P := Try.prog) [[0, 1], [1, 2], [1], [], [1]] (by kernel_rfl) Try.func133 rfl (by decide) (by decide +kernel) (rs := [.tmp 4]) rfl rfl (Nat.le_of_ble_eq_true rfl) ?_
  intro wf
  repeat (first | rw [kz_o] | rw [kz_r0] | simp -dsimp -implicitDefEqProofs only [go_sem, Nat.reduceBEq, Nat.reduceAdd, Nat.reduceLeDiff, Nat.reduceMul, Int.reduceLE, Int.reduceLT, Int.reduceBEq])
  refine pw_intro (szIntS_pw  hf ⟨by omega, by omega⟩) ?_
  rintro _ n0 hn0 ⟨k0, rfl, hk0⟩
  repeat (first | rw [kz_o] | rw [kz_r0] | simp -dsimp -implicitDefEqProofs only [go_sem, Nat.reduceBEq, Nat.reduceAdd, Nat.reduceLeDiff, Nat.reduceMul, Int.reduceLE, Int.reduceLT, Int.reduceBEq])
  refine gz_dec (fun q0 => ?_) (fun q0 => ?_)
  · repeat (first | rw [kz_o] | rw [kz_r0] | simp -dsimp -implicitDefEqProofs only [go_sem, Nat.reduceBEq, Nat.reduceAdd, Nat.reduceLeDiff, Nat.reduceMul, Int.reduceLE, Int.reduceLT, Int.reduceBEq])
    exact ⟨by repeat (first | exact H2.le.refl _ | apply le_push | refine le_up ?_ (by assumption)), ⟨_, rfl⟩, _, rfl, fun hh => by omega⟩
  repeat (first | rw [kz_o] | rw [kz_r0] | simp -dsimp -implicitDefEqProofs only [go_sem, Nat.reduceBEq, Nat.reduceAdd, Nat.reduceLeDiff, Nat.reduceMul, Int.reduceLE, Int.reduceLT, Int.reduceBEq])
  exact ⟨by repeat (first | exact H2.le.refl _ | apply le_push | refine le_up ?_ (by assumption)), ⟨_, rfl⟩, _, rfl, fun hh => by unfold szTable; omega⟩

theorem eqTable_ok {F F' : Nat → Adr} {c : LTable} {h : H2} (hf : fitTable c) : PW Try.prog W0 139 [.st (xTable F c), .st (xTable F' c)] h (fun y => y = .raw (.bool true)) := by
  unfold fitTable at hf
  refine PW.scalar ?_
  refine start (P := Try.prog) [[0, 1], [2, 3], [], [2, 3], [], []] (by kernel_rfl) Try.func139 rfl (by decide) (by decide +kernel) (rs := [.tmp 4]) rfl rfl (Nat.le_of_ble_eq_true rfl) ?_
  intro wf
  repeat (first | rw [kz_o] | rw [kz_r0] | simp -dsimp -implicitDefEqProofs only [go_sem, Nat.reduceBEq, Nat.reduceAdd, Nat.reduceLeDiff, Nat.reduceMul, Int.reduceLE, Int.reduceLT, Int.reduceBEq])
  refine pw_intro (eqIntS_pw  hf) ?_
  rintro _ n0 hn0 rfl
  repeat (first | rw [kz_o] | rw [kz_r0] | simp -dsimp -implicitDefEqProofs only [go_sem, Nat.reduceBEq, Nat.reduceAdd, Nat.reduceLeDiff, Nat.reduceMul, Int.reduceLE, Int.reduceLT, Int.reduceBEq])
  exact ⟨by repeat (first | exact H2.le.refl _ | apply le_push | refine le_up ?_ (by assumption)), ⟨_, rfl⟩, rfl⟩

structure LRequest where
  prompt : Int
  tokens : List Int
  config : LConfig
  state : Int
  table : LTable
  status : Int
instance : Inhabited LRequest := ⟨⟨default, default, default, default, default, default⟩⟩
def eRequest (c : LRequest) : List T := [.v (.int .i64 c.prompt), .l 1 (ints c.tokens), .v (.int .i64 c.config.top), .v (.int .i64 c.config.seed), .v (.int .i64 c.config.new), .l 1 (strs c.config.stops), .v (.int .u64 c.state), .l 1 (ints c.table.pages), .v (.int .i64 c.table.count), .v (.int .i64 c.status)]
def xRequest (F : Nat → Adr) (c : LRequest) : List X := [.raw (.int .i64 c.prompt), .sl (F 1) 1 (ints c.tokens), .raw (.int .i64 c.config.top), .raw (.int .i64 c.config.seed), .raw (.int .i64 c.config.new), .sl (F 5) 1 (strs c.config.stops), .raw (.int .u64 c.state), .sl (F 7) 1 (ints c.table.pages), .raw (.int .i64 c.table.count), .raw (.int .i64 c.status)]
theorem mkRequest {F : Nat → Adr} {c : LRequest} : mkF F 0 (eRequest c) = xRequest F c := rfl
theorem eRequest_def {c : LRequest} : eRequest c = [.v (.int .i64 c.prompt), .l 1 (ints c.tokens), .v (.int .i64 c.config.top), .v (.int .i64 c.config.seed), .v (.int .i64 c.config.new), .l 1 (strs c.config.stops), .v (.int .u64 c.state), .l 1 (ints c.table.pages), .v (.int .i64 c.table.count), .v (.int .i64 c.status)] := rfl
theorem xRequest_def {F : Nat → Adr} {c : LRequest} : xRequest F c = [.raw (.int .i64 c.prompt), .sl (F 1) 1 (ints c.tokens), .raw (.int .i64 c.config.top), .raw (.int .i64 c.config.seed), .raw (.int .i64 c.config.new), .sl (F 5) 1 (strs c.config.stops), .raw (.int .u64 c.state), .sl (F 7) 1 (ints c.table.pages), .raw (.int .i64 c.table.count), .raw (.int .i64 c.status)] := rfl
def szRequest (c : LRequest) : Nat := c.tokens.length + szConfig c.config + szTable c.table
def cntRequest (c : LRequest) : Nat := c.tokens.length + cntConfig c.config + cntTable c.table
def fitRequest (c : LRequest) : Prop := c.tokens.length ≤ 9223372036854775807 ∧ fitConfig c.config ∧ fitTable c.table
attribute [go_sem] eRequest_def xRequest_def
theorem invRequest {g : H2} {bs : List Nat} {ys : List X} {c : LRequest} (o : OTs g bs ys (eRequest c)) : ∃ b1 s1 b5 s5 b7 s7, ys = [.raw (.int .i64 c.prompt), s1, .raw (.int .i64 c.config.top), .raw (.int .i64 c.config.seed), .raw (.int .i64 c.config.new), s5, .raw (.int .u64 c.state), s7, .raw (.int .i64 c.table.count), .raw (.int .i64 c.status)] ∧ bs = b1 ++ (b5 ++ b7) ∧ OT g b1 s1 (.l 1 (ints c.tokens)) ∧ OT g b5 s5 (.l 1 (strs c.config.stops)) ∧ OT g b7 s7 (.l 1 (ints c.table.pages)) := by
  unfold eRequest at o
  obtain ⟨ys0, rfl, o0⟩ := OTs.headv o
  obtain ⟨b1, bs1, s1, ys1, rfl, rfl, a1, o1⟩ := OTs.head o0
  obtain ⟨ys2, rfl, o2⟩ := OTs.headv o1
  obtain ⟨ys3, rfl, o3⟩ := OTs.headv o2
  obtain ⟨ys4, rfl, o4⟩ := OTs.headv o3
  obtain ⟨b5, bs5, s5, ys5, rfl, rfl, a5, o5⟩ := OTs.head o4
  obtain ⟨ys6, rfl, o6⟩ := OTs.headv o5
  obtain ⟨b7, bs7, s7, ys7, rfl, rfl, a7, o7⟩ := OTs.head o6
  obtain ⟨ys8, rfl, o8⟩ := OTs.headv o7
  obtain ⟨ys9, rfl, o9⟩ := OTs.headv o8
  obtain ⟨rfl, rfl⟩ := OTs.tail0 o9
  exact ⟨_, _, _, _, _, _, rfl, by simp only [List.append_nil], a1, a5, a7⟩
theorem outRequest {g : H2} {c : LRequest} {b1 b5 b7 : List Nat} {s1 s5 s7 : X} (a1 : OT g b1 s1 (.l 1 (ints c.tokens))) (a5 : OT g b5 s5 (.l 1 (strs c.config.stops))) (a7 : OT g b7 s7 (.l 1 (ints c.table.pages))) : OTs g (b1 ++ (b5 ++ b7)) [.raw (.int .i64 c.prompt), s1, .raw (.int .i64 c.config.top), .raw (.int .i64 c.config.seed), .raw (.int .i64 c.config.new), s5, .raw (.int .u64 c.state), s7, .raw (.int .i64 c.table.count), .raw (.int .i64 c.status)] (eRequest c) := by
  have := OTs.cons (OT.raw (v := .int .i64 c.prompt) rfl) (OTs.cons a1 (OTs.cons (OT.raw (v := .int .i64 c.config.top) rfl) (OTs.cons (OT.raw (v := .int .i64 c.config.seed) rfl) (OTs.cons (OT.raw (v := .int .i64 c.config.new) rfl) (OTs.cons a5 (OTs.cons (OT.raw (v := .int .u64 c.state) rfl) (OTs.cons a7 (OTs.cons (OT.raw (v := .int .i64 c.table.count) rfl) (OTs.cons (OT.raw (v := .int .i64 c.status) rfl) (OTs.nil))))))))))
  simpa only [eRequest, List.append_nil, List.nil_append] using this

theorem szRequest_ok {F : Nat → Adr} {c : LRequest} {left : Int} {h : H2} (hf : fitRequest c) (hl : 0 ≤ left ∧ left ≤ 1048576) : PW Try.prog W0 107 [.st (xRequest F c), .raw (.int .i64 left)] h (fun y => ∃ k : Int, y = .raw (.int .i64 k) ∧ (0 ≤ k → (szRequest c : Int) + k ≤ left)) := by
  unfold fitRequest at hf
  refine PW.scalar ?_
  refine start (P := Try.prog) [[0, 1], [1, 2], [1, 2], [], [1, 2], [1, 2], [], [1, 2], [1], [], [1]] (by kernel_rfl) Try.func107 rfl (by decide) (by decide +kernel) (rs := [.tmp 4]) rfl rfl (Nat.le_of_ble_eq_true rfl) ?_
  intro wf
  repeat (first | rw [kz_o] | rw [kz_r0] | simp -dsimp -implicitDefEqProofs only [go_sem, Nat.reduceBEq, Nat.reduceAdd, Nat.reduceLeDiff, Nat.reduceMul, Int.reduceLE, Int.reduceLT, Int.reduceBEq])
  refine pw_intro (szIntS_pw  hf.1 ⟨by omega, by omega⟩) ?_
  rintro _ n1 hn1 ⟨k1, rfl, hk1⟩
  repeat (first | rw [kz_o] | rw [kz_r0] | simp -dsimp -implicitDefEqProofs only [go_sem, Nat.reduceBEq, Nat.reduceAdd, Nat.reduceLeDiff, Nat.reduceMul, Int.reduceLE, Int.reduceLT, Int.reduceBEq])
  refine gz_dec (fun q1 => ?_) (fun q1 => ?_)
  · repeat (first | rw [kz_o] | rw [kz_r0] | simp -dsimp -implicitDefEqProofs only [go_sem, Nat.reduceBEq, Nat.reduceAdd, Nat.reduceLeDiff, Nat.reduceMul, Int.reduceLE, Int.reduceLT, Int.reduceBEq])
    exact ⟨by repeat (first | exact H2.le.refl _ | apply le_push | refine le_up ?_ (by assumption)), ⟨_, rfl⟩, _, rfl, fun hh => by omega⟩
  repeat (first | rw [kz_o] | rw [kz_r0] | simp -dsimp -implicitDefEqProofs only [go_sem, Nat.reduceBEq, Nat.reduceAdd, Nat.reduceLeDiff, Nat.reduceMul, Int.reduceLE, Int.reduceLT, Int.reduceBEq])
  refine pw_intro (szConfig_ok (F := fun j => F (j + 2)) hf.2.1 ⟨by omega, by omega⟩) ?_
  rintro _ n2 hn2 ⟨k2, rfl, hk2⟩
  repeat (first | rw [kz_o] | rw [kz_r0] | simp -dsimp -implicitDefEqProofs only [go_sem, Nat.reduceBEq, Nat.reduceAdd, Nat.reduceLeDiff, Nat.reduceMul, Int.reduceLE, Int.reduceLT, Int.reduceBEq])
  refine gz_dec (fun q2 => ?_) (fun q2 => ?_)
  · repeat (first | rw [kz_o] | rw [kz_r0] | simp -dsimp -implicitDefEqProofs only [go_sem, Nat.reduceBEq, Nat.reduceAdd, Nat.reduceLeDiff, Nat.reduceMul, Int.reduceLE, Int.reduceLT, Int.reduceBEq])
    exact ⟨by repeat (first | exact H2.le.refl _ | apply le_push | refine le_up ?_ (by assumption)), ⟨_, rfl⟩, _, rfl, fun hh => by omega⟩
  repeat (first | rw [kz_o] | rw [kz_r0] | simp -dsimp -implicitDefEqProofs only [go_sem, Nat.reduceBEq, Nat.reduceAdd, Nat.reduceLeDiff, Nat.reduceMul, Int.reduceLE, Int.reduceLT, Int.reduceBEq])
  refine pw_intro (szTable_ok (F := fun j => F (j + 7)) hf.2.2 ⟨by omega, by omega⟩) ?_
  rintro _ n4 hn4 ⟨k4, rfl, hk4⟩
  repeat (first | rw [kz_o] | rw [kz_r0] | simp -dsimp -implicitDefEqProofs only [go_sem, Nat.reduceBEq, Nat.reduceAdd, Nat.reduceLeDiff, Nat.reduceMul, Int.reduceLE, Int.reduceLT, Int.reduceBEq])
  refine gz_dec (fun q4 => ?_) (fun q4 => ?_)
  · repeat (first | rw [kz_o] | rw [kz_r0] | simp -dsimp -implicitDefEqProofs only [go_sem, Nat.reduceBEq, Nat.reduceAdd, Nat.reduceLeDiff, Nat.reduceMul, Int.reduceLE, Int.reduceLT, Int.reduceBEq])
    exact ⟨by repeat (first | exact H2.le.refl _ | apply le_push | refine le_up ?_ (by assumption)), ⟨_, rfl⟩, _, rfl, fun hh => by omega⟩
  repeat (first | rw [kz_o] | rw [kz_r0] | simp -dsimp -implicitDefEqProofs only [go_sem, Nat.reduceBEq, Nat.reduceAdd, Nat.reduceLeDiff, Nat.reduceMul, Int.reduceLE, Int.reduceLT, Int.reduceBEq])
  exact ⟨by repeat (first | exact H2.le.refl _ | apply le_push | refine le_up ?_ (by assumption)), ⟨_, rfl⟩, _, rfl, fun hh => by unfold szRequest; omega⟩

theorem eqRequest_ok {F F' : Nat → Adr} {c : LRequest} {h : H2} (hf : fitRequest c) : PW Try.prog W0 116 [.st (xRequest F c), .st (xRequest F' c)] h (fun y => y = .raw (.bool true)) := by
  unfold fitRequest at hf
  refine PW.scalar ?_
  refine start (P := Try.prog) [[0, 1], [2, 3], [], [2, 3], [], [2, 3], [], [2, 3], [], [2, 3], [], [2, 3], [], []] (by kernel_rfl) Try.func116 rfl (by decide) (by decide +kernel) (rs := [.tmp 4]) rfl rfl (Nat.le_of_ble_eq_true rfl) ?_
  intro wf
  repeat (first | rw [kz_o] | rw [kz_r0] | simp -dsimp -implicitDefEqProofs only [go_sem, Nat.reduceBEq, Nat.reduceAdd, Nat.reduceLeDiff, Nat.reduceMul, Int.reduceLE, Int.reduceLT, Int.reduceBEq])
  refine pw_intro (eqIntS_pw  hf.1) ?_
  rintro _ n1 hn1 rfl
  repeat (first | rw [kz_o] | rw [kz_r0] | simp -dsimp -implicitDefEqProofs only [go_sem, Nat.reduceBEq, Nat.reduceAdd, Nat.reduceLeDiff, Nat.reduceMul, Int.reduceLE, Int.reduceLT, Int.reduceBEq])
  refine pw_intro (eqConfig_ok (F := fun j => F (j + 2)) (F' := fun j => F' (j + 2)) hf.2.1) ?_
  rintro _ n2 hn2 rfl
  repeat (first | rw [kz_o] | rw [kz_r0] | simp -dsimp -implicitDefEqProofs only [go_sem, Nat.reduceBEq, Nat.reduceAdd, Nat.reduceLeDiff, Nat.reduceMul, Int.reduceLE, Int.reduceLT, Int.reduceBEq])
  refine pw_intro (eqTable_ok (F := fun j => F (j + 7)) (F' := fun j => F' (j + 7)) hf.2.2) ?_
  rintro _ n4 hn4 rfl
  repeat (first | rw [kz_o] | rw [kz_r0] | simp -dsimp -implicitDefEqProofs only [go_sem, Nat.reduceBEq, Nat.reduceAdd, Nat.reduceLeDiff, Nat.reduceMul, Int.reduceLE, Int.reduceLT, Int.reduceBEq])
  exact ⟨by repeat (first | exact H2.le.refl _ | apply le_push | refine le_up ?_ (by assumption)), ⟨_, rfl⟩, rfl⟩

structure LAsk where
  op : Int
  text : ByteArray
  pos : Int
  config : LConfig
  picks : List Int
instance : Inhabited LAsk := ⟨⟨default, default, default, default, default⟩⟩
def eAsk (c : LAsk) : List T := [.v (.int .i64 c.op), .v (.string c.text), .v (.int .i64 c.pos), .v (.int .i64 c.config.top), .v (.int .i64 c.config.seed), .v (.int .i64 c.config.new), .l 1 (strs c.config.stops), .l 1 (ints c.picks)]
def xAsk (F : Nat → Adr) (c : LAsk) : List X := [.raw (.int .i64 c.op), .raw (.string c.text), .raw (.int .i64 c.pos), .raw (.int .i64 c.config.top), .raw (.int .i64 c.config.seed), .raw (.int .i64 c.config.new), .sl (F 6) 1 (strs c.config.stops), .sl (F 7) 1 (ints c.picks)]
theorem mkAsk {F : Nat → Adr} {c : LAsk} : mkF F 0 (eAsk c) = xAsk F c := rfl
theorem eAsk_def {c : LAsk} : eAsk c = [.v (.int .i64 c.op), .v (.string c.text), .v (.int .i64 c.pos), .v (.int .i64 c.config.top), .v (.int .i64 c.config.seed), .v (.int .i64 c.config.new), .l 1 (strs c.config.stops), .l 1 (ints c.picks)] := rfl
theorem xAsk_def {F : Nat → Adr} {c : LAsk} : xAsk F c = [.raw (.int .i64 c.op), .raw (.string c.text), .raw (.int .i64 c.pos), .raw (.int .i64 c.config.top), .raw (.int .i64 c.config.seed), .raw (.int .i64 c.config.new), .sl (F 6) 1 (strs c.config.stops), .sl (F 7) 1 (ints c.picks)] := rfl
def szAsk (c : LAsk) : Nat := c.text.size + szConfig c.config + c.picks.length
def cntAsk (c : LAsk) : Nat := cntConfig c.config + c.picks.length
def fitAsk (c : LAsk) : Prop := c.text.size ≤ 9223372036854775807 ∧ fitConfig c.config ∧ c.picks.length ≤ 9223372036854775807
attribute [go_sem] eAsk_def xAsk_def
theorem invAsk {g : H2} {bs : List Nat} {ys : List X} {c : LAsk} (o : OTs g bs ys (eAsk c)) : ∃ b6 s6 b7 s7, ys = [.raw (.int .i64 c.op), .raw (.string c.text), .raw (.int .i64 c.pos), .raw (.int .i64 c.config.top), .raw (.int .i64 c.config.seed), .raw (.int .i64 c.config.new), s6, s7] ∧ bs = b6 ++ b7 ∧ OT g b6 s6 (.l 1 (strs c.config.stops)) ∧ OT g b7 s7 (.l 1 (ints c.picks)) := by
  unfold eAsk at o
  obtain ⟨ys0, rfl, o0⟩ := OTs.headv o
  obtain ⟨ys1, rfl, o1⟩ := OTs.headv o0
  obtain ⟨ys2, rfl, o2⟩ := OTs.headv o1
  obtain ⟨ys3, rfl, o3⟩ := OTs.headv o2
  obtain ⟨ys4, rfl, o4⟩ := OTs.headv o3
  obtain ⟨ys5, rfl, o5⟩ := OTs.headv o4
  obtain ⟨b6, bs6, s6, ys6, rfl, rfl, a6, o6⟩ := OTs.head o5
  obtain ⟨b7, bs7, s7, ys7, rfl, rfl, a7, o7⟩ := OTs.head o6
  obtain ⟨rfl, rfl⟩ := OTs.tail0 o7
  exact ⟨_, _, _, _, rfl, by simp only [List.append_nil], a6, a7⟩
theorem outAsk {g : H2} {c : LAsk} {b6 b7 : List Nat} {s6 s7 : X} (a6 : OT g b6 s6 (.l 1 (strs c.config.stops))) (a7 : OT g b7 s7 (.l 1 (ints c.picks))) : OTs g (b6 ++ b7) [.raw (.int .i64 c.op), .raw (.string c.text), .raw (.int .i64 c.pos), .raw (.int .i64 c.config.top), .raw (.int .i64 c.config.seed), .raw (.int .i64 c.config.new), s6, s7] (eAsk c) := by
  have := OTs.cons (OT.raw (v := .int .i64 c.op) rfl) (OTs.cons (OT.raw (v := .string c.text) rfl) (OTs.cons (OT.raw (v := .int .i64 c.pos) rfl) (OTs.cons (OT.raw (v := .int .i64 c.config.top) rfl) (OTs.cons (OT.raw (v := .int .i64 c.config.seed) rfl) (OTs.cons (OT.raw (v := .int .i64 c.config.new) rfl) (OTs.cons a6 (OTs.cons a7 (OTs.nil))))))))
  simpa only [eAsk, List.append_nil, List.nil_append] using this

end Go.Bi
