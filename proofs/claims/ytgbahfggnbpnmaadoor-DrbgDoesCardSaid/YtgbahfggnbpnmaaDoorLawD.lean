import Derived.Test.YtgbahfggnbpnmaaDoorLawK
import Derived.Test.YtgbahfggnbpnmaaDoorHashW
import Derived.Test.YtgbahfggnbpnmaaDoorCards
import Derived.Test.YtgbahfggnbpnmaaDoorTie
import Derived.Deep.DeepHandedRow
import Derived.Lib.LaidTab
import Derived.Stop.LaidErr
/-
  What the listed variables give a law's walk: both tables; a world for the witness.
-/
namespace Go.Proofs.YtgbahfggnbpnmaaDoor
open Go.ChangeShapes Go.WideShapes Go.ChangeAt Go.RowKit

theorem own : ownKnob Tryd.prog.godebug = none := by kernel_rfl
theorem laidOut : laidOutB Tryd.prog = true := by kernel_rfl
theorem gTab : Tryd.prog.globalNamed "livery/sha2.table" = some 0 := by kernel_rfl
theorem gTabType : (Tryd.prog.globals[0]?).map (·.type) = some 134 := by kernel_rfl
theorem gSta : Tryd.prog.globalNamed "livery/sha2.start" = some 1 := by kernel_rfl
theorem gStaType : (Tryd.prog.globals[1]?).map (·.type) = some 23 := by kernel_rfl
theorem cells_u32 : Tryd.prog.cellsOf 22 = 1 := by kernel_rfl
theorem cells_u8 : Tryd.prog.cellsOf 5 = 1 := by kernel_rfl
theorem cells_u8s : Tryd.prog.cellsOf 28 = 1 := by kernel_rfl
theorem cells_u32x8 : Tryd.prog.cellsOf 23 = 8 := by kernel_rfl
theorem cells_u8x64 : Tryd.prog.cellsOf 24 = 64 := by kernel_rfl
theorem cells_u32x64 : Tryd.prog.cellsOf 134 = 64 := by kernel_rfl
def ktabZ : List Int := ktab.map fun x => (x.toNat : Int)
def startZ : List Int := start8.map fun x => (x.toNat : Int)
abbrev laidList : List (String × DataW Unit) := [("livery/sha2.table", Rows.laid_livery_sha2_table), ("livery/sha2.start", Rows.laid_livery_sha2_start)]
theorem laid_tab : (Rows.laid_livery_sha2_table : DataW Unit) = Lib.tabData .u32 ktabZ := by kernel_rfl
theorem laid_sta : (Rows.laid_livery_sha2_start : DataW Unit) = Lib.tabData .u32 startZ := by kernel_rfl
theorem two_of_laid {W : World} (h : laidMetH Tryd.prog laidList W) : Two W := by
  have h0 : laidMet Tryd.prog laidList W := h
  have h1 : laidMet Tryd.prog [("livery/sha2.table", Lib.tabData .u32 ktabZ), ("livery/sha2.start", Lib.tabData .u32 startZ)] W := by
    rw [← laid_tab, ← laid_sta]; exact h0
  have t1 := Lib.tabIs_of_head gTab gTabType Tryd.underlying134 Tryd.underlying22 cells_u32 cells_u32x64 h1
  have t2 := Lib.tabIs_of_head gSta gStaType Tryd.underlying23 Tryd.underlying22 cells_u32 cells_u32x8 h1.tail
  refine ⟨fun i hi => ?_, fun i hi => ?_⟩
  · rw [t1.cell gTab i (by rw [show ktabZ.length = 64 from rfl]; exact hi)]
    have h : i < ktab.length := hi
    simp [ktabZ, List.getD, h]
  · rw [t2.cell gSta i (by rw [show startZ.length = 8 from rfl]; exact hi)]
    have h : i < start8.length := hi
    simp [startZ, List.getD, h]

def refill (cs : Array Value) : Obj → Obj
  | .cells _ t frozen => .cells cs t frozen
  | o => o
/-- A world for the witness: the settled one, both tables as their initialisers lay them. -/
noncomputable def laidWorld (os : Os) : World :=
  { World.holding Tryd.prog os ⟨#[], #[], []⟩ with heap := ((World.holding Tryd.prog os ⟨#[], #[], []⟩).heap.modify 0 (refill (warr ktab))).modify 1 (refill (warr start8)) }
theorem a2 {a b : Bool} (h : a = true) (k : b = true) : (a && b) = true := by rw [h, k]; rfl
theorem k2 : laidOutB Tryd.prog = true := by kernel_rfl
theorem k3 : mapsRowed Tryd.prog = true := by kernel_rfl
theorem k7 : (Tryd.prog.stops == []) = true := by kernel_rfl
theorem k9 : (Tryd.prog.stopKnobs == []) = true := by kernel_rfl
theorem k23b : Tryd.prog.stopsHeard = true := by kernel_rfl
theorem k24 : Tryd.prog.mayEnter = true := by kernel_rfl
theorem looksOff : false = Tryd.pinned.checked.prog.looks [] := by kernel_rfl
theorem mainIs : Tryd.pinned.checked.prog.mainIs = some (Rows.sha2BlocksCard.stood.harness.1, Rows.sha2BlocksCard.stood.harness.2.toList) := by kernel_rfl
end Go.Proofs.YtgbahfggnbpnmaaDoor
