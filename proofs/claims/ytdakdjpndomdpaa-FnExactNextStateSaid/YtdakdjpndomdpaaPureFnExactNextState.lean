/- Proved: the program's NextState returns what the reference's NextState returns, for every argument. No condition. -/
import Derived.Test.YtdakdjpndomdpaaPFnExactNextStatex1
namespace Go.Proofs.Ytdakdjpndomdpaa.Pure
open Go.RowKit Go.Proofs.Ytdakdjpndomdpaa.PFnExactNextState Go.Proofs.YtdakdjpndomdpaaW.PrintWords Go.Proofs.YtdakdjpndomdpaaW.PrintLast

theorem wrap_u64 (x : Int) : IntKind.u64.wrap x = x % 18446744073709551616 := by
  simp [IntKind.wrap, IntKind.signed, IntKind.bits]

theorem xor_u64 (x y : Int) : 0 ≤ Go.bits .xor .u64 x y ∧ Go.bits .xor .u64 x y < 18446744073709551616 := by
  unfold Go.bits
  simp only [wrap_u64]
  exact ⟨Int.emod_nonneg _ (by decide), Int.emod_lt_of_pos _ (by decide)⟩

theorem quo_u64 (x c : Int) (h0 : 0 ≤ x) (h1 : x < 18446744073709551616) (hc : 1 ≤ c) : IntKind.u64.wrap (Int.tdiv x c) = x / c := by
  rw [Int.tdiv_eq_ediv_of_nonneg h0, wrap_u64]
  have hb : 0 ≤ x / c := Int.ediv_nonneg h0 (by omega)
  have hs : x / c ≤ x := Int.ediv_le_self _ h0
  exact Int.emod_eq_of_lt hb (by omega)

theorem wrap_range (x : Int) : 0 ≤ IntKind.u64.wrap x ∧ IntKind.u64.wrap x < 18446744073709551616 := by
  rw [wrap_u64]
  exact ⟨Int.emod_nonneg _ (by decide), Int.emod_lt_of_pos _ (by decide)⟩

theorem same (a : Int) : spec_NextState.f a = impl_NextState.f a := by
  unfold spec_NextState.f impl_NextState.f
  have q1 := quo_u64 (IntKind.u64.wrap (a + 11400714819323198485)) 1073741824 (wrap_range _).1 (wrap_range _).2 (by decide)
  rw [q1]
  generalize IntKind.u64.wrap (a + 11400714819323198485) = z
  generalize Go.bits .xor .u64 z (z / 1073741824) * 13787848793156543929 = y
  have q2 := quo_u64 (IntKind.u64.wrap y) 134217728 (wrap_range _).1 (wrap_range _).2 (by decide)
  rw [q2]
  generalize Go.bits .xor .u64 (IntKind.u64.wrap y) (IntKind.u64.wrap y / 134217728) * 10723151780598845931 = x
  have q3 := quo_u64 (IntKind.u64.wrap x) 2147483648 (wrap_range _).1 (wrap_range _).2 (by decide)
  rw [q3]

theorem FnExactNextState : laws_FnExactNextState.Pure := by
  intro a0 _
  unfold laws_FnExactNextState.f
  rw [same]
  cases h : impl_NextState.f a0 with
  | none => simp [impl_NextState.f] at h
  | some r => simp

end Go.Proofs.Ytdakdjpndomdpaa.Pure
