import Derived.Test.YtgbahfggnbpnmaaDoorDrbgA
/-
  The walk of liverylaw05.DrbgNone.
-/
namespace Go.Proofs.YtgbahfggnbpnmaaDoor
open Go.RowKit
set_option maxRecDepth 100000 in
set_option maxHeartbeats 1000000 in
theorem drbgnone_walk (z : Int) (a : Option Addr) (n c : Nat) (w : World) (hT : Two w) :
    Calls Tryd.prog 21 #[.int .i64 z, .slice a n c] w fun e w' => e = .returned (.bool true) ∧ Below w.heap.size w w' := by
  have HT := Lib.hid hT
  clear hT
  go_enter Tryd.func21, Tryd.ntmps21
  go_wp2_with (go_at_call 63; refine (draw_nil _ _ _).mono ?_; rintro e w' ⟨rfl, rfl⟩)
  refine (live5_walk _ HT.out).mono ?_
  rintro e w1 ⟨rfl, hb1⟩
  have HB := Lib.hid hb1
  clear hb1
  go_wp2_with (first | (go_at_call 61; refine (dreseed_nil _ _ _).mono ?_; rintro e w' ⟨rfl, rfl⟩) | (go_at_call 62; refine (dcount_nil _).mono ?_; rintro e w' ⟨rfl, rfl⟩) | (go_at_call 64; refine (dleft_nil _).mono ?_; rintro e w' ⟨rfl, rfl⟩) | (go_at_call 67; refine (dclone_nil _).mono ?_; rintro e w' ⟨rfl, rfl⟩))
  go_ret
  exact ⟨rfl, HB.out⟩
end Go.Proofs.YtgbahfggnbpnmaaDoor
