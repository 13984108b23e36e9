/- Proved: the program's SeedOf returns what the reference's SeedOf returns, for every argument. No condition. -/
import Derived.Test.YtdakdjpndomdpaaPFnExactSeedOfx1
namespace Go.Proofs.Ytdakdjpndomdpaa.Pure
open Go.RowKit Go.Proofs.Ytdakdjpndomdpaa.PFnExactSeedOf Go.Proofs.YtdakdjpndomdpaaW.PrintWords Go.Proofs.YtdakdjpndomdpaaW.PrintLast

theorem FnExactSeedOf : laws_FnExactSeedOf.Pure := by
  intro a0 _
  simp [laws_FnExactSeedOf.f, spec_SeedOf.f, impl_SeedOf.f]

end Go.Proofs.Ytdakdjpndomdpaa.Pure
