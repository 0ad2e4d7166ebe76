import Derived.Test.YtgbahfggnbpnmaaDoorLive
import Derived.Test.YtgbahfggnbpnmaaDoorJoin
/-
  A Hash that no call made; the walk of liverylaw02.Sha2None.
-/
namespace Go.Proofs.YtgbahfggnbpnmaaDoor
open Go.RowKit

/-- No call made it: nil, or a Hash whose mark is false. -/
def Unmade (w : World) (p : Option Addr) : Prop := p = none ∨ ∃ g, p = some ⟨g, 0, none⟩ ∧ w.cell? ⟨g, 0, none⟩ = some (.bool false)
theorem Unmade.below {w w' : World} {p : Option Addr} {B : Nat} (h : Unmade w p) (hb : Below B w w') (hB : ∀ g, p = some ⟨g, 0, none⟩ → g < B) : Unmade w' p := by
  rcases h with h | ⟨g, h1, h2⟩
  · exact .inl h
  · exact .inr ⟨g, h1, (hb.cell (p := ⟨g, 0, none⟩) (hB g h1)).trans h2⟩
theorem none_unmade (w : World) (p : Option Addr) (h : Unmade w p) : Calls Tryd.prog 98 #[.pointer p] w fun e w' => e = .returned (.bool true) ∧ w = w' := by
  rcases h with rfl | ⟨g, rfl, hc⟩
  · exact none_nil w
  · exact (none_made w g false hc).mono fun e w' h => h
theorem write_unmade (w : World) (p : Option Addr) (v : Value) (h : Unmade w p) : Calls Tryd.prog 32 #[.pointer p, v] w fun e w' => e = .returned (.int .i64 2) ∧ w = w' := by
  have H := Lib.hid h
  clear h
  go_enter Tryd.func32, Tryd.ntmps32
  go_wp2_with (go_at_call 98; refine (none_unmade _ p H.out).mono ?_; rintro e w' ⟨rfl, rfl⟩)
  go_ret
  exact ⟨rfl, rfl⟩
theorem len_unmade (w : World) (p : Option Addr) (h : Unmade w p) : Calls Tryd.prog 34 #[.pointer p] w fun e w' => e = .returned (.int .i64 0) ∧ w = w' := by
  have H := Lib.hid h
  clear h
  go_enter Tryd.func34, Tryd.ntmps34
  go_wp2_with (go_at_call 98; refine (none_unmade _ p H.out).mono ?_; rintro e w' ⟨rfl, rfl⟩)
  go_ret
  exact ⟨rfl, rfl⟩
theorem clone_unmade (w : World) (p : Option Addr) (h : Unmade w p) : Calls Tryd.prog 39 #[.pointer p] w fun e w' => e = .returned (.pointer none) ∧ w = w' := by
  have H := Lib.hid h
  clear h
  go_enter Tryd.func39, Tryd.ntmps39
  go_wp2_with (go_at_call 98; refine (none_unmade _ p H.out).mono ?_; rintro e w' ⟨rfl, rfl⟩)
  go_ret
  exact ⟨rfl, rfl⟩
theorem sum_unmade (w : World) (p : Option Addr) (h : Unmade w p) (hp : ∀ g, p = some ⟨g, 0, none⟩ → g < w.heap.size) : Calls Tryd.prog 33 #[.pointer p] w fun e w' => e = .returned (.agg (barr (List.replicate 32 0))) ∧ Below w.heap.size w w' := by
  go_enter Tryd.func33, Tryd.ntmps33
  obtain ⟨q0, q1, qb⟩ := new2 w (barr (List.replicate 32 0)) (barr (List.replicate 32 0)) 31 31
  have HU := Lib.hid (h.below qb hp)
  have HQ := Lib.hid hp
  clear h hp
  go_wp2_with (first | (go_at_call 98; refine (none_unmade _ p HU.out).mono ?_; rintro e w' ⟨rfl, rfl⟩) | (refine wpList_load_row rfl 31 (.tmp 3) rfl (w.heap.size + 1) rfl 31 _ _ _ q1 Tryd.underlying31 rfl (by rw [barr_size]; exact size_u8x32) ?_) | (refine wpList_store_abs rfl 31 (.tmp 2) (.tmp 10) rfl w.heap.size _ (by rfl) (by rfl) 31 _ q0 (by rw [barr_size]; exact size_u8x32) (by rw [barr_size]) (barr_one_all _) ?_; intro W9 hW9 pr; have pb9 := hW9.below qb (by omega); clear hW9))
  refine bodyPost_ret (v := .agg (barr (List.replicate 32 0))) ?_ rfl ⟨rfl, pb9⟩
  exact results_blk rfl _ pr rfl Tryd.underlying31 (by rw [barr_size]; exact size_u8x32)
