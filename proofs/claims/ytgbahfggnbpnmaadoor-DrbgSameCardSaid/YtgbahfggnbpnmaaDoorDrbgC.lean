import Derived.Test.YtgbahfggnbpnmaaDoorDrbgP
/-
  (*Drbg).Clone; what a Drbg that no call made answers.
-/
namespace Go.Proofs.YtgbahfggnbpnmaaDoor
open Go.RowKit
theorem size_drbg : (Tryd.prog.info? 155).map (·.size) = some 66 := by kernel_rfl
theorem dcells_one (k v : List UInt8) (cnt : Int) : (dcells k v cnt).all (·.oneCell') = true := by
  simp [dcells, dlist, Value.oneCell']
set_option maxRecDepth 100000 in
set_option maxHeartbeats 1000000 in
theorem dclone_walk (k v : List UInt8) (cnt : Int) (G : Nat) (w : World) (hD : DAt w G k v cnt) :
    Calls Tryd.prog 67 #[.pointer (some ⟨G, 0, none⟩)] w fun e w' => e = .returned (.pointer (some ⟨w.heap.size, 0, none⟩)) ∧ DAt w' w.heap.size k v cnt ∧ Below w.heap.size w w' := by
  have HD := Lib.hid hD
  have h2 := hD.blk
  have HZ := Lib.hid (show (Tryd.prog.info? 155).map (·.size) = some (dcells k v cnt).size by rw [dcells_size hD.kl hD.vl]; exact size_drbg)
  have HZ2 := Lib.hid (show (66 : Nat) = (dcells k v cnt).size by rw [dcells_size hD.kl hD.vl])
  clear hD
  go_enter Tryd.func67, Tryd.ntmps67
  go_wp2_with (first | (go_at_call 115; refine (dnone_at HD.out).mono ?_; rintro e w' ⟨rfl, rfl⟩) | (refine wpList_load_row rfl 155 (.tmp 7) rfl G rfl 155 _ _ _ h2 Tryd.underlying155 rfl HZ.out ?_) | (refine wpList_store_abs rfl 155 (.tmp 3) (.tmp 8) rfl w.heap.size _ rfl rfl 155 _ (Blk.new w _ _) HZ.out HZ2.out (dcells_one _ _ _) ?_; intro W hW p5; have pb := hW.below ((Below.refl _ w).alloc (Nat.le_refl _) _) (Nat.le_refl _); clear hW))
  go_ret
  exact ⟨rfl, ⟨HD.out.kl, HD.out.vl, p5⟩, pb⟩
set_option maxRecDepth 100000 in
theorem dclone_nil (w : World) : Calls Tryd.prog 67 #[.pointer none] w fun e w' => e = .returned (.pointer none) ∧ w = w' := by
  go_enter Tryd.func67, Tryd.ntmps67
  go_wp2_with (go_at_call 115; refine (dnone_nil _).mono ?_; rintro e w' ⟨rfl, rfl⟩)
  go_ret
  exact ⟨rfl, rfl⟩
set_option maxRecDepth 100000 in
theorem dcount_nil (w : World) : Calls Tryd.prog 62 #[.pointer none] w fun e w' => e = .returned (.int .i64 0) ∧ w = w' := by
  go_enter Tryd.func62, Tryd.ntmps62
  go_wp2_with (go_at_call 115; refine (dnone_nil _).mono ?_; rintro e w' ⟨rfl, rfl⟩)
  go_ret
  exact ⟨rfl, rfl⟩
set_option maxRecDepth 100000 in
theorem dleft_nil (w : World) : Calls Tryd.prog 64 #[.pointer none] w fun e w' => e = .returned (.int .i64 0) ∧ w = w' := by
  go_enter Tryd.func64, Tryd.ntmps64
  go_wp2_with (go_at_call 115; refine (dnone_nil _).mono ?_; rintro e w' ⟨rfl, rfl⟩)
  go_ret
  exact ⟨rfl, rfl⟩
set_option maxRecDepth 100000 in
theorem dreseed_nil (x y : Value) (w : World) : Calls Tryd.prog 61 #[.pointer none, x, y] w fun e w' => e = .returned (.int .i64 2) ∧ w = w' := by
  go_enter Tryd.func61, Tryd.ntmps61
  go_wp2_with (go_at_call 115; refine (dnone_nil _).mono ?_; rintro e w' ⟨rfl, rfl⟩)
  go_ret
  exact ⟨rfl, rfl⟩
end Go.Proofs.YtgbahfggnbpnmaaDoor
