import Derived.Test.YtgbahfggnbpnmaaDoorSha
/-
  The sum of "abc", reckoned by the kernel.
-/
namespace Go.Proofs.YtgbahfggnbpnmaaDoor
theorem sha_abc : sha [97, 98, 99] = [186, 120, 22, 191, 143, 1, 207, 234, 65, 65, 64, 222, 93, 174, 34, 35, 176, 3, 97, 163, 150, 23, 122, 156, 180, 16, 255, 97, 242, 0, 21, 173] := by decide +kernel
end Go.Proofs.YtgbahfggnbpnmaaDoor
