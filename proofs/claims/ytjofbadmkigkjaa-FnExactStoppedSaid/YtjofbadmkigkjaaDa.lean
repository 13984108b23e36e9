/- Walks of numbers and texts as bytes, on both sides. -/
import Derived.Test.YtjofbadmkigkjaaCa
import Derived.Laws.Bits128
set_option linter.unusedSimpArgs false
set_option linter.unusedVariables false
set_option maxRecDepth 20000
namespace Go.Bi
open Go.Proofs
open Go.Ai (wrap_i64 wrap_u64 wrap_u8 Heap)
variable {W0 : World} {P : Program}
/-! ### Rows of bytes of one's own -/
def OwnB (N : Nat) (g : H2) (v : X) (bs : List UInt8) : Prop := Own N g v 1 bs.length (bs.map cB)
theorem OwnB.keep {N : Nat} {g g' : H2} {v : X} {bs : List UInt8} (o : OwnB N g v bs) (l : g.le g') : OwnB N g' v bs := Own.keep o l
theorem cv_ownB {s d : TypeId} {N : Nat} {h : H2} {v : X} {bs : List UInt8} (hs : Go.Ai.cls? P s = some .sl) (hd : Go.Ai.cls? P d = some .str) (he : (Go.Ai.elt? P s).isSome = true) (hz : (Go.Ai.eltZ (Go.Ai.elt? P s) == 1) = true) (hc : isU8 (Go.Ai.cls? P (Go.Ai.eltT (Go.Ai.elt? P s))) = true)
    (o : OwnB N h v bs) : convz P h s d v .mk = some (.raw (.string ⟨bs.toArray⟩), h) := by
  rw [cv_src hs hd he hz hc (src_own o), bytes_map]; rfl
theorem u8_wrap {n : Nat} : IntKind.u8.wrap (n : Int) = ((UInt8.ofNat n).toNat : Int) := by
  rw [wrap_u8]; simp
theorem append_byte {D : Nat → Option (List Nat)} {g : H2} {K : KT} {t u U y N : Nat} {bs : List UInt8} {x : X} {f : Adr} {b : UInt8} (he : Go.Ai.elt? P t = some (U, 1, y)) (hz : Go.Ai.zr? P U = some [.int .u8 0]) (hu : Go.Ai.cls? P u = some .sl)
    (hx : OwnB N g x bs) (hN0 : N ≤ hn g .mk) (hn0 : (bs.length + 1) * (y + 1) ≤ Go.Ai.most)
    (hk : ∀ v' g', OwnB N g' v' (bs ++ [b]) → hn g .mk ≤ hn g' .mk → (∀ g0 : H2, hn g0 .mk ≤ N → g0.le g → g0.le g') → (∀ c, c < hn g .mk → blockOf x ≠ some c → hg g' c .mk = hg g c .mk) → kz K v' g' .mk) :
    az (biz P g .append [t, u] [x, .sl f 1 [[.v (.int .u8 b.toNat)]]] .mk) K .mk := by
  refine append_own (z := 0) (m := 1) (news := [cB b]) (N := N) he hz rfl hu hx hN0 rfl rfl rfl hn0 ?_
  intro v' g' o
  refine hk v' g' ?_
  unfold OwnB
  rw [List.map_append, List.length_append]
  exact o
/-- The bytes of a number from 0 on. -/
def varN (n : Nat) : List UInt8 := if n > 127 then UInt8.ofNat (n % 128 + 128) :: varN (n / 128) else [UInt8.ofNat n]
termination_by n
decreasing_by omega
theorem varN_len (n : Nat) : (varN n).length ≤ n + 1 := by
  induction n using Nat.strongRecOn with
  | _ n ih =>
    rw [varN]; split
    · have := ih (n / 128) (by omega); simp; omega
    · simp
def varT (n : Nat) : ByteArray := ⟨(varN n).toArray⟩
theorem varBytes_ok {n : Nat} {g : H2} (hn0 : n ≤ 1000000000) : PW Try.prog W0 35 [.raw (.int .i64 n)] g (fun y => y = .raw (.string (varT n))) := by
  refine PW.scalar ?_
  refine start (P := Try.prog) [[0], [0], [0, 3], [0, 3], [0, 3], [0, 3]] (by kernel_rfl) Try.func35 rfl (by decide) (by decide +kernel) (rs := [.tmp 2]) rfl rfl (Nat.le_of_ble_eq_true rfl) ?_
  intro wf
  repeat (first | rw [kz_o] | rw [kz_r0] | simp -dsimp -implicitDefEqProofs only [go_sem, Nat.reduceBEq, Nat.reduceAdd, Nat.reduceLeDiff, Nat.reduceMul, Int.reduceLE, Int.reduceLT, Int.reduceBEq])
  refine lz_keep [] (fun m e h' => ∃ (v : X) (bs : List UInt8), look e 0 .mk = .raw (.int .i64 m) ∧ look e 3 .mk = v ∧ OwnB (hn g .mk) h' v bs ∧ g.le h' ∧ bs ++ varN m = varN n ∧ m ≤ n ∧ bs.length + m ≤ n) n ?_ ?_
  · exact ⟨_, [], by simp -dsimp -implicitDefEqProofs only [go_sem, Nat.reduceBEq, Nat.reduceAdd, Nat.reduceLeDiff, Nat.reduceMul, Int.reduceLE, Int.reduceLT, Int.reduceBEq], by simp -dsimp -implicitDefEqProofs only [go_sem, Nat.reduceBEq, Nat.reduceAdd, Nat.reduceLeDiff, Nat.reduceMul, Int.reduceLE, Int.reduceLT, Int.reduceBEq], Own.new (Nat.le_refl _) rfl, H2.le_push1 g _, by simp, Nat.le_refl _, by simp⟩
  · rintro m e h' hks ⟨v, bs, e0, e3, ob, le, hb, hm, hl⟩
    simp -dsimp -implicitDefEqProofs only [go_sem, Nat.reduceBEq, Nat.reduceAdd, Nat.reduceLeDiff, Nat.reduceMul, Int.reduceLE, Int.reduceLT, Int.reduceBEq] at hks
    repeat (first | rw [kz_o] | rw [kz_r0] | simp -dsimp -implicitDefEqProofs only [go_sem, Nat.reduceBEq, Nat.reduceAdd, Nat.reduceLeDiff, Nat.reduceMul, Int.reduceLE, Int.reduceLT, Int.reduceBEq, hks, e0, e3])
    refine gz_dec (fun h2 => ?_) (fun h2 => ?_)
    · have b1 : bits .and .i64 (m : Int) 127 = ((m % 128 : Nat) : Int) := by rw [i64_and127]; omega
      have b2 : bits .or .i64 ((m % 128 : Nat) : Int) 128 = ((m % 128 + 128 : Nat) : Int) := by
        have : ∀ k : Fin 128, bits .or .i64 ((k.val : Nat) : Int) 128 = ((k.val + 128 : Nat) : Int) := by decide +kernel
        exact this ⟨m % 128, by omega⟩
      have b3 : Go.Ai.shrI .i64 (m : Int) 7 = ((m / 128 : Nat) : Int) := by
        unfold Go.Ai.shrI
        show Int.fdiv (m : Int) 128 = _
        rw [Int.fdiv_eq_ediv_of_nonneg _ (by omega)]; omega
      have h7 : (0 : Int) ≤ 7 := by omega
      repeat (first | rw [kz_o] | rw [kz_r0] | simp -dsimp -implicitDefEqProofs only [go_sem, Nat.reduceBEq, Nat.reduceAdd, Nat.reduceLeDiff, Nat.reduceMul, Int.reduceLE, Int.reduceLT, Int.reduceBEq, hks, e0, e3, b1, b2, u8_wrap])
      refine append_byte (D := fun _ => none) (N := hn g .mk) (b := UInt8.ofNat (m % 128 + 128)) Go.Ai.ty_el22 Go.Ai.ty_zr5 Go.Ai.ty_cl22 (ob.keep (le_up1 (H2.le.refl _))) (by simp only [hn_up]; have := le.n; omega) (by have : Go.Ai.most = 1099511627776 := rfl; omega) ?_
      intro v' g' o' hn' hle _
      repeat (first | rw [kz_o] | rw [kz_r0] | simp -dsimp -implicitDefEqProofs only [go_sem, Nat.reduceBEq, Nat.reduceAdd, Nat.reduceLeDiff, Nat.reduceMul, Int.reduceLE, Int.reduceLT, Int.reduceBEq, hks, e0, e3, b3, h7])
      refine nx_keep (m / 128) (by omega) (by simp -dsimp -implicitDefEqProofs only [go_sem, Nat.reduceBEq, Nat.reduceAdd, Nat.reduceLeDiff, Nat.reduceMul, Int.reduceLE, Int.reduceLT, Int.reduceBEq, hks]) ⟨v', bs ++ [UInt8.ofNat (m % 128 + 128)], by simp -dsimp -implicitDefEqProofs only [go_sem, Nat.reduceBEq, Nat.reduceAdd, Nat.reduceLeDiff, Nat.reduceMul, Int.reduceLE, Int.reduceLT, Int.reduceBEq], by simp -dsimp -implicitDefEqProofs only [go_sem, Nat.reduceBEq, Nat.reduceAdd, Nat.reduceLeDiff, Nat.reduceMul, Int.reduceLE, Int.reduceLT, Int.reduceBEq], o', hle g (Nat.le_refl _) (le_up1 le), ?_, by omega, by simp; omega⟩
      have hv : varN m = UInt8.ofNat (m % 128 + 128) :: varN (m / 128) := by rw [varN, if_pos (by omega)]
      rw [← hb, hv, List.append_assoc]; rfl
    · repeat (first | rw [kz_o] | rw [kz_r0] | simp -dsimp -implicitDefEqProofs only [go_sem, Nat.reduceBEq, Nat.reduceAdd, Nat.reduceLeDiff, Nat.reduceMul, Int.reduceLE, Int.reduceLT, Int.reduceBEq, hks, e0, e3, u8_wrap])
      refine append_byte (D := fun _ => none) (N := hn g .mk) (b := UInt8.ofNat m) Go.Ai.ty_el22 Go.Ai.ty_zr5 Go.Ai.ty_cl22 (ob.keep (le_up1 (H2.le.refl _))) (by simp only [hn_up]; have := le.n; omega) (by have : Go.Ai.most = 1099511627776 := rfl; omega) ?_
      intro v' g' o' hn' hle _
      have hcv := cv_ownB (P := Try.prog) (s := 22) (d := 9) Go.Ai.ty_cl22 Go.Ai.ty_cl9 (by simp -dsimp -implicitDefEqProofs only [go_sem, Nat.reduceBEq, Nat.reduceAdd, Nat.reduceLeDiff, Nat.reduceMul, Int.reduceLE, Int.reduceLT, Int.reduceBEq]) (by simp -dsimp -implicitDefEqProofs only [go_sem, Nat.reduceBEq, Nat.reduceAdd, Nat.reduceLeDiff, Nat.reduceMul, Int.reduceLE, Int.reduceLT, Int.reduceBEq]) (by simp -dsimp -implicitDefEqProofs only [go_sem, Nat.reduceBEq, Nat.reduceAdd, Nat.reduceLeDiff, Nat.reduceMul, Int.reduceLE, Int.reduceLT, Int.reduceBEq]) o'
      repeat (first | rw [kz_o] | rw [kz_r0] | simp -dsimp -implicitDefEqProofs only [go_sem, Nat.reduceBEq, Nat.reduceAdd, Nat.reduceLeDiff, Nat.reduceMul, Int.reduceLE, Int.reduceLT, Int.reduceBEq, hcv])
      refine ⟨hle g (Nat.le_refl _) (le_up1 le), ⟨_, rfl⟩, ?_⟩
      have hv : varN m = [UInt8.ofNat m] := by rw [varN, if_neg (by omega)]
      rw [varT, ← hb, hv]
theorem l01Var_ok {n : Nat} {g : H2} (hn0 : n ≤ 1000000000) : PW Try.prog W0 41 [.raw (.int .i64 n)] g (fun y => y = .raw (.string (varT n))) := by
  refine PW.scalar ?_
  refine start (P := Try.prog) [[0], [0], [0, 3], [0, 3], [0, 3], [0, 3]] (by kernel_rfl) Try.func41 rfl (by decide) (by decide +kernel) (rs := [.tmp 2]) rfl rfl (Nat.le_of_ble_eq_true rfl) ?_
  intro wf
  repeat (first | rw [kz_o] | rw [kz_r0] | simp -dsimp -implicitDefEqProofs only [go_sem, Nat.reduceBEq, Nat.reduceAdd, Nat.reduceLeDiff, Nat.reduceMul, Int.reduceLE, Int.reduceLT, Int.reduceBEq])
  refine lz_keep [] (fun m e h' => ∃ (v : X) (bs : List UInt8), look e 0 .mk = .raw (.int .i64 m) ∧ look e 3 .mk = v ∧ OwnB (hn g .mk) h' v bs ∧ g.le h' ∧ bs ++ varN m = varN n ∧ m ≤ n ∧ bs.length + m ≤ n) n ?_ ?_
  · exact ⟨_, [], by simp -dsimp -implicitDefEqProofs only [go_sem, Nat.reduceBEq, Nat.reduceAdd, Nat.reduceLeDiff, Nat.reduceMul, Int.reduceLE, Int.reduceLT, Int.reduceBEq], by simp -dsimp -implicitDefEqProofs only [go_sem, Nat.reduceBEq, Nat.reduceAdd, Nat.reduceLeDiff, Nat.reduceMul, Int.reduceLE, Int.reduceLT, Int.reduceBEq], Own.new (Nat.le_refl _) rfl, H2.le_push1 g _, by simp, Nat.le_refl _, by simp⟩
  · rintro m e h' hks ⟨v, bs, e0, e3, ob, le, hb, hm, hl⟩
    simp -dsimp -implicitDefEqProofs only [go_sem, Nat.reduceBEq, Nat.reduceAdd, Nat.reduceLeDiff, Nat.reduceMul, Int.reduceLE, Int.reduceLT, Int.reduceBEq] at hks
    repeat (first | rw [kz_o] | rw [kz_r0] | simp -dsimp -implicitDefEqProofs only [go_sem, Nat.reduceBEq, Nat.reduceAdd, Nat.reduceLeDiff, Nat.reduceMul, Int.reduceLE, Int.reduceLT, Int.reduceBEq, hks, e0, e3])
    refine gz_dec (fun h2 => ?_) (fun h2 => ?_)
    · have t128 : ((128 : Int) == 0) = false := rfl
      have b2 : IntKind.i64.wrap ((m : Int).tmod 128 + 128) = ((m % 128 + 128 : Nat) : Int) := by
        rw [Int.tmod_eq_emod_of_nonneg (by omega), wrap_i64] <;> omega
      have b3 : IntKind.i64.wrap ((m : Int).tdiv 128) = ((m / 128 : Nat) : Int) := by
        rw [Int.tdiv_eq_ediv_of_nonneg (by omega), wrap_i64] <;> omega
      repeat (first | rw [kz_o] | rw [kz_r0] | simp -dsimp -implicitDefEqProofs only [go_sem, Nat.reduceBEq, Nat.reduceAdd, Nat.reduceLeDiff, Nat.reduceMul, Int.reduceLE, Int.reduceLT, Int.reduceBEq, hks, e0, e3, t128, b2, u8_wrap])
      refine append_byte (D := fun _ => none) (N := hn g .mk) (b := UInt8.ofNat (m % 128 + 128)) Go.Ai.ty_el22 Go.Ai.ty_zr5 Go.Ai.ty_cl22 (ob.keep (le_up1 (H2.le.refl _))) (by simp only [hn_up]; have := le.n; omega) (by have : Go.Ai.most = 1099511627776 := rfl; omega) ?_
      intro v' g' o' hn' hle _
      repeat (first | rw [kz_o] | rw [kz_r0] | simp -dsimp -implicitDefEqProofs only [go_sem, Nat.reduceBEq, Nat.reduceAdd, Nat.reduceLeDiff, Nat.reduceMul, Int.reduceLE, Int.reduceLT, Int.reduceBEq, hks, e0, e3, b3, t128])
      refine nx_keep (m / 128) (by omega) (by simp -dsimp -implicitDefEqProofs only [go_sem, Nat.reduceBEq, Nat.reduceAdd, Nat.reduceLeDiff, Nat.reduceMul, Int.reduceLE, Int.reduceLT, Int.reduceBEq, hks]) ⟨v', bs ++ [UInt8.ofNat (m % 128 + 128)], by simp -dsimp -implicitDefEqProofs only [go_sem, Nat.reduceBEq, Nat.reduceAdd, Nat.reduceLeDiff, Nat.reduceMul, Int.reduceLE, Int.reduceLT, Int.reduceBEq], by simp -dsimp -implicitDefEqProofs only [go_sem, Nat.reduceBEq, Nat.reduceAdd, Nat.reduceLeDiff, Nat.reduceMul, Int.reduceLE, Int.reduceLT, Int.reduceBEq], o', hle g (Nat.le_refl _) (le_up1 le), ?_, by omega, by simp; omega⟩
      have hv : varN m = UInt8.ofNat (m % 128 + 128) :: varN (m / 128) := by rw [varN, if_pos (by omega)]
      rw [← hb, hv, List.append_assoc]; rfl
    · repeat (first | rw [kz_o] | rw [kz_r0] | simp -dsimp -implicitDefEqProofs only [go_sem, Nat.reduceBEq, Nat.reduceAdd, Nat.reduceLeDiff, Nat.reduceMul, Int.reduceLE, Int.reduceLT, Int.reduceBEq, hks, e0, e3, u8_wrap])
      refine append_byte (D := fun _ => none) (N := hn g .mk) (b := UInt8.ofNat m) Go.Ai.ty_el22 Go.Ai.ty_zr5 Go.Ai.ty_cl22 (ob.keep (le_up1 (H2.le.refl _))) (by simp only [hn_up]; have := le.n; omega) (by have : Go.Ai.most = 1099511627776 := rfl; omega) ?_
      intro v' g' o' hn' hle _
      have hcv := cv_ownB (P := Try.prog) (s := 22) (d := 9) Go.Ai.ty_cl22 Go.Ai.ty_cl9 (by simp -dsimp -implicitDefEqProofs only [go_sem, Nat.reduceBEq, Nat.reduceAdd, Nat.reduceLeDiff, Nat.reduceMul, Int.reduceLE, Int.reduceLT, Int.reduceBEq]) (by simp -dsimp -implicitDefEqProofs only [go_sem, Nat.reduceBEq, Nat.reduceAdd, Nat.reduceLeDiff, Nat.reduceMul, Int.reduceLE, Int.reduceLT, Int.reduceBEq]) (by simp -dsimp -implicitDefEqProofs only [go_sem, Nat.reduceBEq, Nat.reduceAdd, Nat.reduceLeDiff, Nat.reduceMul, Int.reduceLE, Int.reduceLT, Int.reduceBEq]) o'
      repeat (first | rw [kz_o] | rw [kz_r0] | simp -dsimp -implicitDefEqProofs only [go_sem, Nat.reduceBEq, Nat.reduceAdd, Nat.reduceLeDiff, Nat.reduceMul, Int.reduceLE, Int.reduceLT, Int.reduceBEq, hcv])
      refine ⟨hle g (Nat.le_refl _) (le_up1 le), ⟨_, rfl⟩, ?_⟩
      have hv : varN m = [UInt8.ofNat m] := by rw [varN, if_neg (by omega)]
      rw [varT, ← hb, hv]
/-- A number as one byte. -/
def byteT (n : Int) : ByteArray := ⟨#[UInt8.ofNat (n % 256).toNat]⟩
theorem u8_wrapI {n : Int} : IntKind.u8.wrap n = ((UInt8.ofNat (n % 256).toNat).toNat : Int) := by
  rw [wrap_u8]; simp; omega
theorem oneByte_ok {n : Int} {g : H2} : PW Try.prog W0 33 [.raw (.int .i64 n)] g (fun y => y = .raw (.string (byteT n))) := by
  refine PW.scalar ?_
  refine start (P := Try.prog) [[0], [0]] (by kernel_rfl) Try.func33 rfl (by decide) (by decide +kernel) (rs := [.tmp 2]) rfl rfl (Nat.le_of_ble_eq_true rfl) ?_
  intro wf
  repeat (first | rw [kz_o] | rw [kz_r0] | simp -dsimp -implicitDefEqProofs only [go_sem, Nat.reduceBEq, Nat.reduceAdd, Nat.reduceLeDiff, Nat.reduceMul, Int.reduceLE, Int.reduceLT, Int.reduceBEq])
  refine ⟨le_up1 (H2.le.refl _), ⟨_, rfl⟩, ?_⟩
  rw [u8_wrapI]
  simp only [byteT, Int.toNat_natCast, UInt8.ofNat_toNat]
theorem l24Byte_ok {n : Int} {g : H2} : PW Try.prog W0 38 [.raw (.int .i64 n)] g (fun y => y = .raw (.string (byteT n))) := by
  refine PW.scalar ?_
  refine start (P := Try.prog) [[0], [0]] (by kernel_rfl) Try.func38 rfl (by decide) (by decide +kernel) (rs := [.tmp 2]) rfl rfl (Nat.le_of_ble_eq_true rfl) ?_
  intro wf
  repeat (first | rw [kz_o] | rw [kz_r0] | simp -dsimp -implicitDefEqProofs only [go_sem, Nat.reduceBEq, Nat.reduceAdd, Nat.reduceLeDiff, Nat.reduceMul, Int.reduceLE, Int.reduceLT, Int.reduceBEq])
  refine ⟨le_up1 (H2.le.refl _), ⟨_, rfl⟩, ?_⟩
  rw [u8_wrapI]
  simp only [byteT, Int.toNat_natCast, UInt8.ofNat_toNat]
theorem varT_size (n : Nat) : (varT n).size ≤ n + 1 := by
  have := varN_len n
  simpa [varT, ByteArray.size] using this
def shortT (s : ByteArray) : ByteArray := varT s.size ++ s
theorem shortBytes_ok {s : ByteArray} {g : H2} (hs : s.size ≤ 1000000) : PW Try.prog W0 34 [.raw (.string s)] g (fun y => y = .raw (.string (shortT s))) := by
  refine PW.scalar ?_
  refine start (P := Try.prog) [[0], [0]] (by kernel_rfl) Try.func34 rfl (by decide) (by decide +kernel) (rs := [.tmp 2]) rfl rfl (Nat.le_of_ble_eq_true rfl) ?_
  intro wf
  repeat (first | rw [kz_o] | rw [kz_r0] | simp -dsimp -implicitDefEqProofs only [go_sem, Nat.reduceBEq, Nat.reduceAdd, Nat.reduceLeDiff, Nat.reduceMul, Int.reduceLE, Int.reduceLT, Int.reduceBEq])
  refine pw_intro (varBytes_ok (by omega)) ?_
  rintro _ n hn rfl
  have h3 : (((varT s.size).size + s.size : Nat) : Int) ≤ 9223372036854775807 := by have := varT_size s.size; omega
  repeat (first | rw [kz_o] | rw [kz_r0] | simp -dsimp -implicitDefEqProofs only [go_sem, Nat.reduceBEq, Nat.reduceAdd, Nat.reduceLeDiff, Nat.reduceMul, Int.reduceLE, Int.reduceLT, Int.reduceBEq, h3])
  exact ⟨le_up (H2.le.refl _) hn, ⟨_, rfl⟩, rfl⟩
theorem l24Short_ok {s : ByteArray} {g : H2} (hs : s.size ≤ 1000000) : PW Try.prog W0 40 [.raw (.string s)] g (fun y => y = .raw (.string (shortT s))) := by
  refine PW.scalar ?_
  refine start (P := Try.prog) [[0], [0]] (by kernel_rfl) Try.func40 rfl (by decide) (by decide +kernel) (rs := [.tmp 2]) rfl rfl (Nat.le_of_ble_eq_true rfl) ?_
  intro wf
  repeat (first | rw [kz_o] | rw [kz_r0] | simp -dsimp -implicitDefEqProofs only [go_sem, Nat.reduceBEq, Nat.reduceAdd, Nat.reduceLeDiff, Nat.reduceMul, Int.reduceLE, Int.reduceLT, Int.reduceBEq])
  refine pw_intro (l01Var_ok (by omega)) ?_
  rintro _ n hn rfl
  have h3 : (((varT s.size).size + s.size : Nat) : Int) ≤ 9223372036854775807 := by have := varT_size s.size; omega
  repeat (first | rw [kz_o] | rw [kz_r0] | simp -dsimp -implicitDefEqProofs only [go_sem, Nat.reduceBEq, Nat.reduceAdd, Nat.reduceLeDiff, Nat.reduceMul, Int.reduceLE, Int.reduceLT, Int.reduceBEq, h3])
  exact ⟨le_up (H2.le.refl _) hn, ⟨_, rfl⟩, rfl⟩
end Go.Bi
