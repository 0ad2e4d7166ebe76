import Derived.Test.YtgbahfggnbpnmaaDoorDrbgD
import Derived.Test.YtgbahfggnbpnmaaDoorDrbgC
/-
  The walk of liverylaw05's live.
-/
namespace Go.Proofs.YtgbahfggnbpnmaaDoor
open Go.RowKit
theorem zero32 : mayE (List.replicate 32 0) [[], []] = 0 := by decide
theorem dtab {w : World} {G : Nat} (hT : Two w) (hg : w.heap.size ≤ G) : G ≠ 0 ∧ G ≠ 1 := by
  have h1 := hT.tab.lt
  have h2 := hT.sta.lt
  omega
set_option maxRecDepth 100000 in
set_option maxHeartbeats 1000000 in
theorem live5_walk (w : World) (hT : Two w) : Calls Tryd.prog 59 #[] w fun e w' => e = .returned (.bool true) ∧ Below w.heap.size w w' := by
  have hb := below_one' w (.cells (barr (List.replicate 32 0)) 5)
  have HB := Lib.hid hb
  have HTw := Lib.hid hT
  have HT := Lib.hid (hT.on hb)
  have TE := Lib.hid (Txt.new w (List.replicate 32 0) 5 (0, 0) (n := 32) (g := w.heap.size) rfl rfl)
  clear hb hT
  go_enter Tryd.func59, Tryd.ntmps59
  go_wp2_with (refine wpList_make_abs rfl 28 (.const (.int .i64 32)) (.const (.int .i64 32)) rfl 5 (.int .u8 0) 1 Tryd.underlying28 info_u8 rfl .i64 .i64 32 32 rfl rfl (Nat.le_refl _) (by omega) (by omega) ?_)
  rw [rep_bytes]
  refine (dnew_walk (List.replicate 32 0) [] [] _ none none 32 32 0 0 0 0 _ TE.out (Txt.nil _ 0) (Txt.nil _ 0) HT.out zero32).mono ?_
  rintro e w1 ⟨G, rfl, hG, hD, hb1⟩
  obtain ⟨K, V, hD⟩ : ∃ K V, DAt w1 G K V 1 := ⟨_, _, hD⟩
  have HD := Lib.hid hD
  have HG := Lib.hid hG
  have HBw := Lib.hid (HB.out.trans (hb1.mono HB.out.size))
  have HT1 := Lib.hid (HT.out.on hb1)
  have HGd := Lib.hid (dtab HT.out hG)
  clear hb1 hG hD HT TE
  go_wp2_with (first | (go_at_call 62; refine (count_at HD.out).mono ?_; rintro e w' ⟨rfl, rfl⟩) | (go_at_call 64; refine (left_at HD.out (by omega) (by omega)).mono ?_; rintro e w' ⟨rfl, rfl⟩))
  refine (draw_walk K V 1 G [] none 0 0 0 w1 HD.out (Txt.nil _ 0) (fun _ _ e => by cases e) HT1.out HGd.out.1 HGd.out.2 (by omega) (by decide)).mono ?_
  rintro e w2 ⟨a2, c2, rfl, _, _, hg2, hD2⟩
  have HD2 := Lib.hid hD2
  have HB2 := Lib.hid (HBw.out.trans (below_of_grownBy hg2 (Nat.le_trans HB.out.size HG.out) HBw.out.size))
  clear hg2 hD2
  go_wp2_with (go_at_call 62; refine (count_at HD2.out).mono ?_; rintro e w' ⟨rfl, rfl⟩)
  go_ret
  exact ⟨rfl, HB2.out⟩
end Go.Proofs.YtgbahfggnbpnmaaDoor
