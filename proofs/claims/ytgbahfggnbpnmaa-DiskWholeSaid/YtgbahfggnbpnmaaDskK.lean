import Derived.Test.YtgbahfggnbpnmaaDskI
import Derived.Test.YtgbahfggnbpnmaaDskQ
/-
  Block, few of liverylaw17.
-/
namespace Go.Proofs.Ytgbahfggnbpnmaa
open Go.RowKit
def blockK (x : UInt8) (k : Nat) : List UInt8 := (List.range k).map (fun i => x + UInt8.ofNat (i % 7)) ++ List.replicate (256 - k) 0
theorem blockK_len (x : UInt8) {k : Nat} (h : k ≤ 256) : (blockK x k).length = 256 := by
  rw [blockK, List.length_append, List.length_map, List.length_range, List.length_replicate]; omega
theorem blockK_step (x : UInt8) {k : Nat} (h : k < 256) : (blockK x k).set k (x + UInt8.ofNat (k % 7)) = blockK x (k + 1) := by
  have e : 256 - k = (256 - (k + 1)) + 1 := by omega
  unfold blockK
  rw [e, List.replicate_succ, List.set_append_right _ _ (by simp), List.length_map, List.length_range, Nat.sub_self, List.set_cons_zero, List.range_succ, List.map_append, List.append_assoc]
  rfl
theorem blockK_all (x : UInt8) : blockK x 256 = blockL x := by unfold blockK blockL; rw [Nat.sub_self, List.replicate_zero, List.append_nil]
set_option maxRecDepth 100000 in
set_option maxHeartbeats 1000000 in
theorem block_walk (x : UInt8) (w : World) :
    Calls Try.prog 16 #[.int .u8 x.toNat] w fun e w' => ∃ g, e = .returned (.slice (some ⟨g, 0, none⟩) 256 256) ∧ Blk w' g (barr (blockL x)) 5 ∧ w.heap.size ≤ g ∧ Below w.heap.size w w' := by
  obtain ⟨zl, hzl⟩ : ∃ zl : List UInt8, zl = List.replicate 256 0 := ⟨_, rfl⟩
  have hmk := make256
  rw [← hzl] at hmk
  have HZ := Lib.hid (show zl = blockK x 0 by rw [hzl]; rfl)
  have HO := Lib.hid (Blk.new w (barr zl) 5)
  have HW := Lib.hid (below_one' w (.cells (barr zl) 5))
  have hx : x.toNat < 256 := x.toNat_lt
  clear hzl
  go_enter Try.func16, Try.ntmps16
  go_wp2
  clear hmk
  generalize hgo : w.heap.size = go at *
  go_loopw [8] (fun i wr => ∃ k : Nat, k ≤ 256 ∧ i = .int .i64 (k : Nat) ∧ Hid (Blk wr go (barr (blockK x k)) 5) ∧ Hid (Below go w wr)) (fun i _ => 256 - (intOf i).toNat)
  case atStart => exact ⟨0, Nat.zero_le _, rfl, by rw [← HZ.out]; exact HO.out, HW.out⟩
  case round =>
    obtain ⟨k, hk, rfl, HO, HB⟩ := hrel
    by_cases hlt : k < 256
    · have HK := Lib.hid hlt
      obtain ⟨c, hc⟩ : ∃ c, c = k % 7 := ⟨_, rfl⟩
      have f3 : (k : Int) % 7 = (c : Int) := by rw [hc]; simp
      have f4 : (k : Int).tmod 7 = (c : Int) := by rw [hc]; exact (Int.ofNat_tmod k 7).symm
      have hc7 : c < 7 := by omega
      have f5 : IntKind.u8.wrap (c : Int) = (c : Int) := by simp [IntKind.wrap, IntKind.bits, IntKind.signed]; omega
      have c0 := HO.out.cell k (barr_get _ k (by rw [blockK_len x hk]; exact hlt))
      have f0 := HO.out.free k
      have HC := Lib.hid hc
      have HC7 := Lib.hid hc7
      clear hc
      go_wp2
      go_roundw
      case rel =>
        refine ⟨k + 1, by have := HK.out; omega, by go_num, ?_, HB.out.trans ((Below.refl go wr).setCell (p := ⟨go, k, none⟩) (Nat.le_refl _) _)⟩
        rw [← blockK_step x HK.out, ← barr_set, show (Value.int .u8 (((x.toNat : Int) + (c : Int)) % 256)) = bv (x + UInt8.ofNat (k % 7)) from barr_one _ _ (by
          have h1 := HC.out
          have h2 := HC7.out
          rw [← h1, UInt8.toNat_add, UInt8.toNat_ofNat']
          omega)]
        exact HO.out.set _ _
      case measure => have := HK.out; simp [intOf]; omega
    · obtain rfl : k = 256 := by omega
      go_wp2
      go_ret
      exact ⟨go, rfl, by have := HO.out; rwa [blockK_all] at this, by omega, by rw [hgo]; exact HB.out⟩
end Go.Proofs.Ytgbahfggnbpnmaa
