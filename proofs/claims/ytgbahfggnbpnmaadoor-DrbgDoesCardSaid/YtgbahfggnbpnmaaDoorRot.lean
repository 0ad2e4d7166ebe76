import Derived.Test.YtgbahfggnbpnmaaDoorProg
import Derived.Test.YtgbahfggnbpnmaaDoorBase
import Derived.Test.YtgbahfggnbpnmaaDoorSha
/-
  The walks: math/bits.RotateLeft32 at a literal turn, sha2.right, sha2.schedule.
-/
namespace Go.Proofs.YtgbahfggnbpnmaaDoor
open Go.RowKit

theorem rot_mask (n : Nat) (h1 : 1 ≤ n) (h2 : n ≤ 31) : bits .and .u64 (IntKind.u64.wrap (-(n : Int))) 31 = ((32 - n : Nat) : Int) := by
  have h : ∀ m : Fin 32, 1 ≤ m.val → bits .and .u64 (IntKind.u64.wrap (-(m.val : Int))) 31 = ((32 - m.val : Nat) : Int) := by decide
  exact h ⟨n, by omega⟩ h1
theorem rot_eq (n : Nat) (h1 : 1 ≤ n) (h2 : n ≤ 31) (x : UInt32) :
    bits .or .u32 (((x.toNat : Int) * 2 ^ (32 - n)) % 4294967296) ((x.toNat : Int) / 2 ^ n) = ((rotr n x).toNat : Int) := by
  rw [u32_shl x (32 - n) (by omega), u32_shr x n (by omega), u32_or]; rfl

set_option maxHeartbeats 400000 in
theorem rotl_walk (k : Int) (n : Nat) (hk : k = -(n : Int)) (h1 : 1 ≤ n) (h2 : n ≤ 31) (x : UInt32) (w : World) :
    Calls Tryd.prog 151 #[wv x, .int .i64 k] w fun e w' => e = .returned (wv (rotr n x)) ∧ w = w' := by
  have hm := rot_mask n h1 h2
  rw [← hk] at hm
  have hr := Lib.hid (rot_eq n h1 h2 x)
  have e1 : min (32 - n) 32 = 32 - n := by omega
  have e2 : min n 32 = n := by omega
  have e3 : IntKind.u64.wrap (32 - ((32 - n : Nat) : Int)) = (n : Int) := by simp [IntKind.wrap, IntKind.bits, IntKind.signed]; omega
  have HK := Lib.hid hk
  clear hk
  go_enter Tryd.func151, Tryd.ntmps151
  go_wp2
  go_ret
  exact ⟨congrArg (fun z => Ending.returned (.int .u32 z)) hr.out, rfl⟩

set_option maxHeartbeats 400000 in
/-- 'sha2.right': a word turned to the right. -/
theorem right_walk (n : Nat) (h1 : 1 ≤ n) (h2 : n ≤ 31) (m : Int) (hm : m = (n : Int)) (x : UInt32) (w : World) :
    Calls Tryd.prog 94 #[wv x, .int .i64 m] w fun e w' => e = .returned (wv (rotr n x)) ∧ w = w' := by
  have e1 : IntKind.i64.wrap (-m) = -m := by subst hm; simp [IntKind.wrap, IntKind.bits, IntKind.signed]; omega
  have HM := Lib.hid hm
  clear hm
  go_enter Tryd.func94, Tryd.ntmps94
  go_wp2_with (go_at_call 151; refine (rotl_walk _ n (by rw [HM.out]) h1 h2 _ _).mono ?_; rintro e w' ⟨rfl, rfl⟩)
  go_ret
  exact ⟨rfl, rfl⟩

theorem right_any (m : Int) (h1 : 1 ≤ m) (h2 : m ≤ 31) (x : UInt32) (w : World) :
    Calls Tryd.prog 94 #[wv x, .int .i64 m] w fun e w' => e = .returned (wv (rotr m.toNat x)) ∧ w = w' :=
  right_walk m.toNat (by omega) (by omega) m (by omega) x w

set_option maxHeartbeats 400000 in
/-- 'liveryref02.rot': the reference's turn. -/
theorem rot_walk (n : Nat) (h1 : 1 ≤ n) (h2 : n ≤ 31) (m : Int) (hm : m = (n : Int)) (x : UInt32) (w : World) :
    Calls Tryd.prog 97 #[wv x, .int .u64 m] w fun e w' => e = .returned (wv (rotr n x)) ∧ w = w' := by
  have hr : bits .or .u32 ((x.toNat : Int) / 2 ^ n) (((x.toNat : Int) * 2 ^ (32 - n)) % 4294967296) = ((rotr n x).toNat : Int) := by
    rw [u32_shl x (32 - n) (by omega), u32_shr x n (by omega), u32_or, UInt32.or_comm]; rfl
  have HR := Lib.hid hr
  clear hr
  have e1 : min (32 - n) 32 = 32 - n := by omega
  have e2 : min n 32 = n := by omega
  have e0 : m.toNat = n := by omega
  have e3 : IntKind.u64.wrap (32 - m) = ((32 - n : Nat) : Int) := by subst hm; simp [IntKind.wrap, IntKind.bits, IntKind.signed]; omega
  have e4 : 0 ≤ m := by omega
  clear hm
  go_enter Tryd.func97, Tryd.ntmps97
  go_wp2
  go_ret
  exact ⟨congrArg (fun z => Ending.returned (.int .u32 z)) HR.out, rfl⟩
theorem rot_any (m : Int) (h1 : 1 ≤ m) (h2 : m ≤ 31) (x : UInt32) (w : World) :
    Calls Tryd.prog 97 #[wv x, .int .u64 m] w fun e w' => e = .returned (wv (rotr m.toNat x)) ∧ w = w' :=
  rot_walk m.toNat (by omega) (by omega) m (by omega) x w
end Go.Proofs.YtgbahfggnbpnmaaDoor
