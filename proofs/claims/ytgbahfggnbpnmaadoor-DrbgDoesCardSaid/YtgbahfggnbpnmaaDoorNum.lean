import Derived.Test.YtgbahfggnbpnmaaDoorCompr
/-
  The walks of the reference: Number, constants, word.
-/
namespace Go.Proofs.YtgbahfggnbpnmaaDoor
open Go.RowKit

/-- The number of bytes, the highest first. -/
def numv (l : List UInt8) : Nat := l.foldl (fun n x => n * 256 + x.toNat) 0
theorem numv_snoc (l : List UInt8) (x : UInt8) : numv (l ++ [x]) = numv l * 256 + x.toNat := by simp [numv]
theorem numv_lt (l : List UInt8) : numv l < 256 ^ l.length := by
  rw [← List.reverse_reverse l]
  induction l.reverse with
  | nil => simp [numv]
  | cons x m ih =>
    rw [List.reverse_cons, numv_snoc, List.length_append, List.length_singleton, Nat.pow_succ]
    have := x.toNat_lt
    omega
theorem numv_bd (l : List UInt8) (h : l.length ≤ 7) : numv l ≤ 72057594037927935 := by
  have h1 := numv_lt l
  have h2 : 256 ^ l.length ≤ 256 ^ 7 := Nat.pow_le_pow_right (by omega) h
  have h3 : (256 : Nat) ^ 7 = 72057594037927936 := by decide
  omega
theorem take_snoc8 (l : List UInt8) (k : Nat) (h : k < l.length) : l.take (k + 1) = l.take k ++ [l.getD k 0] := by
  rw [List.take_succ_eq_append_getElem h]; simp [h]

set_option maxHeartbeats 400000 in
theorem number_walk (l : List UInt8) (n cap : Nat) (hn : n = l.length) (h8 : l.length ≤ 8) (a : Option Addr) (w : World) (hr : RdB w a l) :
    Calls Tryd.prog 141 #[.slice a n cap] w fun e w' => e = .returned (.int .u64 (numv l)) ∧ w = w' := by
  subst hn
  have hr' := Lib.hid hr
  clear hr
  go_enter Tryd.func141, Tryd.ntmps141
  go_wp2
  go_loop [3, 8] (fun x c => ∃ k : Nat, k ≤ l.length ∧ c = .int .i64 k ∧ x = .int .u64 (numv (l.take k))) (fun _ c => l.length - (intOf c).toNat)
  case atStart => exact ⟨0, Nat.zero_le _, rfl, rfl⟩
  case round =>
    obtain ⟨k, hk, rfl, rfl⟩ := hrel
    by_cases hlt : k < l.length
    · obtain ⟨g, o, rfl, hc⟩ := hr'.out.at hlt
      have h7 := numv_bd (l.take k) (by simp; omega)
      have e := Lib.hid (numv_snoc (l.take k) (l.getD k 0))
      have e2 := Lib.hid (take_snoc8 l k hlt)
      have hb : (l[k]).toNat < 256 := l[k].toNat_lt
      go_wp2
      go_round
      case rel => exact ⟨k + 1, by omega, by go_num, by rw [e2.out, e.out]; simp [hlt]⟩
      case measure => simp [intOf]; omega
    · have HK := Lib.hid (show k = l.length by omega)
      go_wp2
      go_ret
      refine ⟨?_, rfl⟩
      show Ending.returned (.int .u64 (numv (l.take k))) = _
      rw [HK.out, List.take_length]

set_option maxRecDepth 100000 in
set_option maxHeartbeats 1000000 in
theorem constants_walk (w : World) : Calls Tryd.prog 95 #[] w fun e w' => e = .returned (.agg (warr ktab)) ∧ Below w.heap.size w w' := by
  go_enter Tryd.func95, Tryd.ntmps95
  go_wp2_with (refine wpList_store_abs rfl 134 (.tmp 0) (.tmp 1) rfl w.heap.size (warr ktab) (by rfl) (by rfl) 134 _ (Blk.new w _ _) ?_ ?_ ?_ ?_; exact size_u32x64; rfl; exact warr_one_all _; intro W hW pr; have pb := hW.below ((Below.refl _ w).alloc (Nat.le_refl _) _) (Nat.le_refl _); clear hW)
  refine bodyPost_ret (v := .agg (warr ktab)) ?_ rfl ⟨rfl, pb⟩
  exact results_blk rfl _ pr rfl Tryd.underlying134 size_u32x64

theorem word_eq (b0 b1 b2 b3 : UInt8) : (numv [b0, b1, b2, b3]) % 4294967296 = (b0.toUInt32 <<< 24 ||| b1.toUInt32 <<< 16 ||| b2.toUInt32 <<< 8 ||| b3.toUInt32).toNat := by
  have h0 := b0.toNat_lt
  have h1 := b1.toNat_lt
  have h2 := b2.toNat_lt
  have h3 := b3.toNat_lt
  simp only [numv, List.foldl]
  simp only [UInt32.toNat_or, UInt32.toNat_shiftLeft, UInt8.toNat_toUInt32]
  simp only [show (24 : UInt32).toNat % 32 = 24 from rfl, show (16 : UInt32).toNat % 32 = 16 from rfl, show (8 : UInt32).toNat % 32 = 8 from rfl]
  have e0 : b0.toNat <<< 24 % 2 ^ 32 = b0.toNat <<< 24 := Nat.mod_eq_of_lt (by rw [Nat.shiftLeft_eq]; omega)
  have e1 : b1.toNat <<< 16 % 2 ^ 32 = b1.toNat <<< 16 := Nat.mod_eq_of_lt (by rw [Nat.shiftLeft_eq]; omega)
  have e2 : b2.toNat <<< 8 % 2 ^ 32 = b2.toNat <<< 8 := Nat.mod_eq_of_lt (by rw [Nat.shiftLeft_eq]; omega)
  rw [e0, e1, e2]
  have f1 : b0.toNat <<< 24 ||| b1.toNat <<< 16 = (b0.toNat * 256 + b1.toNat) <<< 16 := by
    rw [show b0.toNat <<< 24 = (b0.toNat <<< 8) <<< 16 by rw [← Nat.shiftLeft_add], ← Nat.shiftLeft_or_distrib, ← Nat.shiftLeft_add_eq_or_of_lt (by omega), Nat.shiftLeft_eq b0.toNat 8]
  have f2 : (b0.toNat * 256 + b1.toNat) <<< 16 ||| b2.toNat <<< 8 = ((b0.toNat * 256 + b1.toNat) * 256 + b2.toNat) <<< 8 := by
    rw [show (b0.toNat * 256 + b1.toNat) <<< 16 = ((b0.toNat * 256 + b1.toNat) <<< 8) <<< 8 by rw [← Nat.shiftLeft_add], ← Nat.shiftLeft_or_distrib, ← Nat.shiftLeft_add_eq_or_of_lt (by omega), Nat.shiftLeft_eq (b0.toNat * 256 + b1.toNat) 8]
  rw [f1, f2, ← Nat.shiftLeft_add_eq_or_of_lt (by omega), Nat.shiftLeft_eq]
  omega

set_option maxRecDepth 100000 in
set_option maxHeartbeats 1000000 in
/-- 'liveryref02.word'. -/
theorem word_ref_walk (b : List UInt8) (hb : b.length = 64) (t : Int) (k : Nat) (ht : t = (k : Int)) (hk : k < 16) (w : World) :
    Calls Tryd.prog 96 #[.agg (barr b), .int .i64 t] w fun e w' => e = .returned (wv (word b k)) ∧ Below w.heap.size w w' := by
  subst ht
  have HB := Lib.hid hb
  have p0 := (new1 w (barr b) 24).1
  have c0 := p0.cell (4 * k) (barr_get b _ (by omega))
  have c1 := p0.cell (4 * k + 1) (barr_get b _ (by omega))
  have c2 := p0.cell (4 * k + 2) (barr_get b _ (by omega))
  have c3 := p0.cell (4 * k + 3) (barr_get b _ (by omega))
  clear hb
  go_enter Tryd.func96, Tryd.ntmps96
  go_wp2_with fail
  have f0 : IntKind.i64.wrap (4 * (k : Int)) = 4 * (k : Int) := IntWalk.i64_in _ (by omega)
  have f1 : IntKind.i64.wrap (4 * (k : Int) + 1) = 4 * (k : Int) + 1 := IntWalk.i64_in _ (by omega)
  have f2 : IntKind.i64.wrap (4 * (k : Int) + 2) = 4 * (k : Int) + 2 := IntWalk.i64_in _ (by omega)
  have f3 : IntKind.i64.wrap (4 * (k : Int) + 3) = 4 * (k : Int) + 3 := IntWalk.i64_in _ (by omega)
  have g0 : (0 : Int) ≤ 4 * (k : Int) ∧ 4 * (k : Int) < 64 := by omega
  have g1 : (0 : Int) ≤ 4 * (k : Int) + 1 ∧ 4 * (k : Int) + 1 < 64 := by omega
  have g2 : (0 : Int) ≤ 4 * (k : Int) + 2 ∧ 4 * (k : Int) + 2 < 64 := by omega
  have g3 : (0 : Int) ≤ 4 * (k : Int) + 3 ∧ 4 * (k : Int) + 3 < 64 := by omega
  have n0 : (4 * (k : Int)).toNat = 4 * k := by omega
  have n1 : (4 * (k : Int) + 1).toNat = 4 * k + 1 := by omega
  have n2 : (4 * (k : Int) + 2).toNat = 4 * k + 2 := by omega
  have n3 : (4 * (k : Int) + 3).toNat = 4 * k + 3 := by omega
  go_region_held3 (fun w' => w'.cell? ⟨w.heap.size, 4 * k, none⟩ = some (bv (b.getD (4 * k) 0)) ∧ w'.cell? ⟨w.heap.size, 4 * k + 1, none⟩ = some (bv (b.getD (4 * k + 1) 0)) ∧ w'.cell? ⟨w.heap.size, 4 * k + 2, none⟩ = some (bv (b.getD (4 * k + 2) 0)) ∧ w'.cell? ⟨w.heap.size, 4 * k + 3, none⟩ = some (bv (b.getD (4 * k + 3) 0))) (go_keep) (first | (go_at_call 141; (refine (number_walk [b.getD (4 * k) 0, b.getD (4 * k + 1) 0, b.getD (4 * k + 2) 0, b.getD (4 * k + 3) 0] 4 4 rfl (by simp) _ _ (by first | exact RdB.new _ _ _ _ (by simp [barr]) (by simp) | exact RdB.newd _ _ _ _ (by simp [barr]) (by simp))).mono ?_); rintro e w' ⟨rfl, rfl⟩))
  go_wp2
  go_ret
  refine ⟨?_, ?_⟩
  · have e := word_eq (b.getD (4 * k) 0) (b.getD (4 * k + 1) 0) (b.getD (4 * k + 2) 0) (b.getD (4 * k + 3) 0)
    simp only [List.getD_eq_getElem?_getD] at e
    refine congrArg (fun z => Ending.returned (.int .u32 z)) ?_
    show IntKind.u32.wrap _ = ((word b k).toNat : Int)
    rw [IntKind.wrap_u32]
    unfold word
    simp only [List.getD_eq_getElem?_getD]
    rw [← e]; rfl
  · exact (new2 w _ _ _ _).2.2.drew
end Go.Proofs.YtgbahfggnbpnmaaDoor
