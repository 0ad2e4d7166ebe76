import Derived.Test.YtgbahfggnbpnmaaDoorLawD
/-
  Cells of keys and nonces.
-/
namespace Go.Proofs.YtgbahfggnbpnmaaDoor
theorem cells_u8x32 : Tryd.prog.cellsOf 31 = 32 := by kernel_rfl
theorem cells_u8x12 : Tryd.prog.cellsOf 62 = 12 := by kernel_rfl
end Go.Proofs.YtgbahfggnbpnmaaDoor
