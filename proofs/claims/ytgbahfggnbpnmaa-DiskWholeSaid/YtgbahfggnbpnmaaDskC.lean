import Derived.Test.YtgbahfggnbpnmaaDskB
/-
  disk.New.
-/
namespace Go.Proofs.Ytgbahfggnbpnmaa
open Go.RowKit
theorem info_sec : (Try.prog.info? 65).map (fun i => (i.zero, i.size, i.bytes)) = some (some (.agg (Array.replicate 256 (.int .u8 0))), 256, 256) := by kernel_rfl
theorem size_sec : (Try.prog.info? 65).map (·.size) = some 256 := by kernel_rfl
theorem zeros_flat (n : Nat) : Array.replicate (n * 256) (Value.int .u8 0) = barr (newS n).good.flatten := by
  unfold newS barr
  rw [List.flatten_replicate_replicate, List.map_replicate]
  simp
theorem newS_at {w : World} {b g n : Nat} (hn : 8 ≤ n ∧ n ≤ 2048) (hb : Blk w b #[.slice (some ⟨g, 0, none⟩) n n, .slice none 0 0, .bool false, .bool false, .int .i64 0, .int .i64 0] 62)
    (hg : Blk w g (barr (newS n).good.flatten) 65) : DiskAt w b g n (.slice none 0 0) (newS n) :=
  ⟨newS_ok n, (by omega), fun f e => (by cases e), ⟨0, hb, fun f e => (by cases e)⟩, hg, World.ownsRow_nil w 0 _ _⟩
set_option maxRecDepth 100000 in
set_option maxHeartbeats 1000000 in
theorem dnew_bad (n : Int) (hn : n < 8 ∨ 2048 < n) (w : World) : Calls Try.prog 32 #[.int .i64 n] w fun e w' => e = .returned (.tuple #[.pointer none, .int .i64 1]) ∧ w' = w := by
  by_cases h1 : n < 8
  · clear hn
    go_enter Try.func32, Try.ntmps32
    go_wp2
    go_ret2
    exact ⟨rfl, rfl⟩
  · have h2 : 2048 < n := by omega
    clear hn
    go_enter Try.func32, Try.ntmps32
    go_wp2
    go_ret2
    exact ⟨rfl, rfl⟩
set_option maxRecDepth 100000 in
set_option maxHeartbeats 1000000 in
theorem dnew_walk (n : Nat) (hn : 8 ≤ n ∧ n ≤ 2048) (w : World) :
    Calls Try.prog 32 #[.int .i64 (n : Nat)] w fun e w' => ∃ b g, e = .returned (.tuple #[.pointer (some ⟨b, 0, none⟩), .int .i64 0]) ∧ w.heap.size ≤ b ∧ w.heap.size ≤ g ∧ DiskAt w' b g n (.slice none 0 0) (newS n) ∧ Below w.heap.size w w' := by
  have h1 : ¬ (n : Int) < 8 := by omega
  have h2 : ¬ (2048 : Int) < (n : Int) := by omega
  have HN := Lib.hid hn
  have hn2 : n ≤ 2048 := hn.2
  clear hn
  go_enter Try.func32, Try.ntmps32
  go_wp2_with (refine wpList_make_rows rfl 59 (.tmp 10) (.tmp 10) rfl 65 (.agg (Array.replicate 256 (.int .u8 0))) (.int .u8 0) 256 256 Try.underlying59 info_sec (by rfl) (by decide) .i64 .i64 n n rfl rfl (Nat.le_refl _) (by omega) (by omega) ?_)
  go_ret2
  refine ⟨w.heap.size + 1, rfl, by omega, w.heap.size, Nat.le_refl _, newS_at HN.out (Blk.new' _ _ _ (by simp)) ?_, ((Below.refl _ w).alloc (Nat.le_refl _) _).alloc (by simp) _⟩
  rw [← zeros_flat]
  exact (Blk.new w _ _).alloc _
end Go.Proofs.Ytgbahfggnbpnmaa
