import Derived.Test.YtgbahfggnbpnmaaRfE
import Derived.Test.YtgbahfggnbpnmaaSub
import Derived.Deep.QuietTactic
import Derived.BigQuiet
/-
  liverylaw17.same, of a disk and a reference's disk in the same state.
-/
namespace Go.Proofs.Ytgbahfggnbpnmaa
open Go.RowKit
theorem DiskAt.drewN {w : World} {b g n : Nat} {v : Value} {S : DS} (h : DiskAt w b g n v S) (k : Nat) : DiskAt (w.drewN k) b g n v S := ⟨h.ok, h.pos, h.fz, h.blk, h.good, h.wait⟩
theorem below_drewQ (w : World) (k : Nat) : Below w.heap.size w (w.drewN k) := ⟨rfl, rfl, rfl, Nat.le_refl _, fun _ _ => rfl⟩
set_option maxRecDepth 100000 in
set_option maxHeartbeats 1000000 in
theorem same17_walk {av : Nat → Prop} {b g n b' : Nat} {u v x : Value} {S : DS} (w : World) (hD : DiskAt w b g n v S) (hR : RefAt w av b' n u x S) :
    Calls Try.prog 31 #[.pointer (some ⟨b, 0, none⟩), .pointer (some ⟨b', 0, none⟩)] w fun e w' => e = .returned (.bool true) ∧ Below w.heap.size w w' := by
  obtain ⟨gu, cu, rfl, _⟩ := hR.u_form
  obtain ⟨a, c, rfl⟩ := hR.row_form'
  have H := Lib.hid hD
  have r0 := hR.c0
  have r1 := hR.c1
  have r2 := hR.c2
  have r4 := hR.c4
  obtain ⟨m, hm⟩ : ∃ m, m = S.wait.length := ⟨_, rfl⟩
  obtain ⟨o, ho⟩ : ∃ o, o = S.ops := ⟨_, rfl⟩
  obtain ⟨g0, hg0⟩ : ∃ g0, g0 = S.gone := ⟨_, rfl⟩
  have HM := Lib.hid hm
  have HO := Lib.hid ho
  have HG := Lib.hid hg0
  rw [← hm] at r1
  rw [← ho] at r4
  rw [← hg0] at r2
  have q1 : ((n : Int) == (n : Int)) = true := by simp
  have q2 : ((!g0) == (!g0)) = true := by simp
  have q3 : ((m : Int) == (m : Int)) = true := by simp
  have q4 : ((o : Int) == (o : Int)) = true := by simp
  have d1 := fun k => dsec_at (w.drewN k) (H.out.drewN k)
  have d2 := fun k => don_at (w.drewN k) (H.out.drewN k)
  have d3 := fun k => dwaits_at (w.drewN k) (H.out.drewN k)
  have d4 := fun k => dops_at (w.drewN k) (H.out.drewN k)
  rw [← hg0] at d2
  rw [← hm] at d3
  rw [← ho] at d4
  clear hm ho hg0 hD hR
  go_enter Try.func31, Try.ntmps31
  go_wp2
  go_quiet ((first | (go_at_call 18; exact Calls.quiet_of_same (d1 _)) | (go_at_call 21; exact Calls.quiet_of_same (d2 _)) | (go_at_call 20; exact Calls.quiet_of_same (d3 _)) | (go_at_call 25; exact Calls.quiet_of_same (d4 _))))
  go_wp2
  go_ret
  exact ⟨rfl, below_drewQ _ _⟩
end Go.Proofs.Ytgbahfggnbpnmaa
