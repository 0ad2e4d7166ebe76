import Derived.Test.YtgbahfggnbpnmaaDoorOpenW
/-
  few and live of liverylaw04.
-/
namespace Go.Proofs.YtgbahfggnbpnmaaDoor
open Go.RowKit
set_option maxRecDepth 100000 in
set_option maxHeartbeats 800000 in
theorem few4_walk (ls : List (List UInt8)) (n cap : Nat) (hn : n = ls.length) (pa : Option Addr) (av : Nat → Prop) (w : World) (hP : Parts w av pa ls) (hls : ls.length ≤ 9223372036854775807) :
    Calls Tryd.prog 46 #[.slice pa n cap] w fun e w' => e = .returned (.bool (fewOf 2000 ls)) ∧ w = w' := by
  subst hn
  have HP := Lib.hid hP
  clear hP
  go_enter Tryd.func46, Tryd.ntmps46
  go_wp2
  go_loop [7] (fun i => ∃ k, k ≤ ls.length ∧ i = .int .i64 (k : Nat) ∧ Hid (∀ j, j < k → (ls.getD j []).length ≤ 2000)) (fun i => ls.length - (intOf i).toNat)
  case atStart => exact ⟨0, Nat.zero_le _, rfl, fun j hj => by omega⟩
  case round =>
    obtain ⟨k, hk, rfl, hall⟩ := hrel
    by_cases hlt : k < ls.length
    · obtain ⟨b, o, a2, n2, cap2, rfl, h2, h3, h4, h5, h6, h7⟩ := HP.out k hlt
      have H4 := Lib.hid h4
      clear h2 h4 h6 h7
      by_cases h3000 : n2 ≤ 2000
      · have hd : decide ((n2 : Int) > 2000) = false := by simp; omega
        go_wp2
        go_round
        case rel =>
          refine ⟨k + 1, by omega, by go_num, fun j hj => ?_⟩
          rcases Nat.lt_or_ge j k with h | h
          · exact hall.out j h
          · obtain rfl : j = k := by omega
            rw [← H4.out]; exact h3000
        case measure => simp [intOf]; omega
      · have hd : (2000 : Int) < (n2 : Int) := by omega
        go_wp2
        go_ret
        refine ⟨?_, rfl⟩
        have : fewOf 2000 ls = false := by
          rw [Bool.eq_false_iff]
          intro h
          simp only [fewOf, List.all_eq_true, decide_eq_true_eq] at h
          have := h (ls.getD k []) (by simp [List.getD, hlt])
          have := H4.out
          omega
        rw [this]; rfl
    · have HK := Lib.hid (show k = ls.length by omega)
      go_wp2
      go_ret
      refine ⟨?_, rfl⟩
      have h1 : fewOf 2000 ls = true := by
        simp only [fewOf, List.all_eq_true, decide_eq_true_eq]
        intro l hl
        obtain ⟨j, hj, rfl⟩ := List.getElem_of_mem hl
        have := hall.out j (by have := HK.out; omega)
        simpa [List.getD, hj] using this
      rw [h1]; rfl
theorem few4_two (X : World) (t : TypeId) (g : Nat) (hg : g = X.heap.size) {a a2 : Option Addr} {n c n2 c2 : Nat} {l l2 : List UInt8} (h : Txt X a n c l) (h' : Txt X a2 n2 c2 l2) (b : Bool) (hb : fewOf 2000 [l, l2] = b) :
    Calls Tryd.prog 46 #[.slice (some ⟨g, 0, none⟩) 2 2] (X.alloc (.cells #[.slice a n c, .slice a2 n2 c2] t)) fun e w' => e = .returned (.bool b) ∧ w' = X.alloc (.cells #[.slice a n c, .slice a2 n2 c2] t) := by
  subst hg hb
  exact (few4_walk [l, l2] 2 2 rfl _ _ _ ((h.alloc _).parts2 (h'.alloc _) (Blk.new X _ t)) (by simp)).mono fun e w' ⟨he, hw⟩ => ⟨he, hw.symm⟩
theorem few4_three (X : World) (t : TypeId) (g : Nat) (hg : g = X.heap.size) {a a2 a3 : Option Addr} {n c n2 c2 n3 c3 : Nat} {l l2 l3 : List UInt8} (h : Txt X a n c l) (h' : Txt X a2 n2 c2 l2) (h3 : Txt X a3 n3 c3 l3) (b : Bool) (hb : fewOf 2000 [l, l2, l3] = b) :
    Calls Tryd.prog 46 #[.slice (some ⟨g, 0, none⟩) 3 3] (X.alloc (.cells #[.slice a n c, .slice a2 n2 c2, .slice a3 n3 c3] t)) fun e w' => e = .returned (.bool b) ∧ w' = X.alloc (.cells #[.slice a n c, .slice a2 n2 c2, .slice a3 n3 c3] t) := by
  subst hg hb
  exact (few4_walk [l, l2, l3] 3 3 rfl _ _ _ ((h.alloc _).parts3 (h'.alloc _) (h3.alloc _) (Blk.new X _ t)) (by simp)).mono fun e w' ⟨he, hw⟩ => ⟨he, hw.symm⟩
theorem few4_2 {l l2 : List UInt8} (h : fewOf 2000 [l, l2] = true) : l.length ≤ 2000 ∧ l2.length ≤ 2000 := by
  simpa [fewOf] using h
theorem few4_3 {l l2 l3 : List UInt8} (h : fewOf 2000 [l, l2, l3] = true) : l.length ≤ 2000 ∧ l2.length ≤ 2000 ∧ l3.length ≤ 2000 := by
  simpa [fewOf] using h
/-! What was sealed. -/
theorem seal_take (key nonce ad plain : List UInt8) : (sealL key nonce ad plain).take plain.length = coverL (encK key) nonce plain := by
  unfold sealL; rw [List.take_append_of_le_length (by rw [coverL_len]; omega), List.take_of_length_le (by rw [coverL_len]; omega)]
theorem seal_drop (key nonce ad plain : List UInt8) : (sealL key nonce ad plain).drop plain.length = tagL (macK key) nonce ad (coverL (encK key) nonce plain) := by
  have h := coverL_len (encK key) nonce plain
  unfold sealL; rw [List.drop_append, List.drop_of_length_le (by omega), h, Nat.sub_self]; rfl
def lk : List UInt8 := [1, 0, 0, 0, 0, 0, 0, 0, 0, 0, 0, 0, 0, 0, 0, 0, 0, 0, 0, 0, 0, 0, 0, 0, 0, 0, 0, 0, 0, 0, 0, 0]
def ln : List UInt8 := [2, 0, 0, 0, 0, 0, 0, 0, 0, 0, 0, 0]
def lad : List UInt8 := [97, 100]
def lpl : List UInt8 := [112, 108, 97, 105, 110]
theorem covered : coverL (encK lk) ln lpl ≠ lpl := by decide +kernel
end Go.Proofs.YtgbahfggnbpnmaaDoor
