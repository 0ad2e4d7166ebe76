import Derived.Test.YtgbahfggnbpnmaaDoorNone
/-
  The walk of liverylaw02.Sha2None.
-/
namespace Go.Proofs.YtgbahfggnbpnmaaDoor
open Go.RowKit
set_option maxRecDepth 100000 in
set_option maxHeartbeats 800000 in
theorem sha2none_walk (a : Option Addr) (n cap : Nat) (w : World) (hT : Two w) :
    Calls Tryd.prog 7 #[.slice a n cap] w fun e w' => e = .returned (.bool true) ∧ Below w.heap.size w w' := by
  have HT := Lib.hid hT
  have ht1 := hT.tab.lt
  have ht2 := hT.sta.lt
  clear hT
  go_enter Tryd.func7, Tryd.ntmps7
  go_wp2
  obtain ⟨q0, q1, qb⟩ := new2 w Tryd.zeroCells51 #[.pointer none, .pointer (some ⟨w.heap.size, 0, none⟩)] 51 33
  have hsz : ((w.alloc (.cells Tryd.zeroCells51 51)).alloc (.cells #[.pointer none, .pointer (some ⟨w.heap.size, 0, none⟩)] 33)).heap.size = w.heap.size + 1 + 1 := by simp
  generalize ((w.alloc (.cells Tryd.zeroCells51 51)).alloc (.cells #[.pointer none, .pointer (some ⟨w.heap.size, 0, none⟩)] 33)) = w2 at *
  have d0 : w2.cell? ⟨w.heap.size, 0, none⟩ = some (.bool false) := q0.cell 0 (by kernel_rfl)
  have c0 : ∀ k, k < 2 → ∃ p, w2.cell? ⟨w.heap.size + 1, k, none⟩ = some (.pointer p) ∧ Unmade w2 p ∧ ∀ g, p = some ⟨g, 0, none⟩ → g < w2.heap.size := by
    intro k hk
    have : k = 0 ∨ k = 1 := by omega
    rcases this with rfl | rfl
    · exact ⟨none, q1.cell 0 rfl, .inl rfl, fun _ e => by cases e⟩
    · exact ⟨some ⟨w.heap.size, 0, none⟩, q1.cell 1 rfl, .inr ⟨_, rfl, d0⟩, fun g e => by simp at e; omega⟩
  have heq : ∀ W : World, (Op.equalIn 10000 31 (.agg (barr [0, 0, 0, 0, 0, 0, 0, 0, 0, 0, 0, 0, 0, 0, 0, 0, 0, 0, 0, 0, 0, 0, 0, 0, 0, 0, 0, 0, 0, 0, 0, 0])) (.agg #[.int .u8 0, .int .u8 0, .int .u8 0, .int .u8 0, .int .u8 0, .int .u8 0, .int .u8 0, .int .u8 0, .int .u8 0, .int .u8 0, .int .u8 0, .int .u8 0, .int .u8 0, .int .u8 0, .int .u8 0, .int .u8 0, .int .u8 0, .int .u8 0, .int .u8 0, .int .u8 0, .int .u8 0, .int .u8 0, .int .u8 0, .int .u8 0, .int .u8 0, .int .u8 0, .int .u8 0, .int .u8 0, .int .u8 0, .int .u8 0, .int .u8 0, .int .u8 0])).run Tryd.prog W = .ok true W := fun W => by
    have h := eq_bytes 32 Tryd.underlying31 [0, 0, 0, 0, 0, 0, 0, 0, 0, 0, 0, 0, 0, 0, 0, 0, 0, 0, 0, 0, 0, 0, 0, 0, 0, 0, 0, 0, 0, 0, 0, 0] [0, 0, 0, 0, 0, 0, 0, 0, 0, 0, 0, 0, 0, 0, 0, 0, 0, 0, 0, 0, 0, 0, 0, 0, 0, 0, 0, 0, 0, 0, 0, 0] rfl rfl W
    simp only [decide_true] at h
    exact h
  have C0 := Lib.hid c0
  have Q1 := Lib.hid q1
  have QB := Lib.hid qb
  have HSZ := Lib.hid hsz
  clear c0 d0 q0 q1 qb hsz
  go_loopw [9] (fun c wr => ∃ k : Nat, k ≤ 2 ∧ c = .int .i64 k ∧ Below w2.heap.size w2 wr) (fun c _ => 2 - (intOf c).toNat)
  case atStart => exact ⟨0, Nat.zero_le _, rfl, Below.refl _ _⟩
  case round =>
    obtain ⟨k, hk, rfl, hb⟩ := hrel
    by_cases hlt : k < 2
    · obtain ⟨p, hc, hu, hp⟩ := C0.out k hlt
      have hlt1 := block_lt_of_cell hc
      have hc' := (hb.cell (p := ⟨w.heap.size + 1, k, none⟩) hlt1).trans hc
      have hs := hb.size
      have HU := Lib.hid ((hu.below hb hp).below ((Below.refl wr.heap.size wr).alloc (Nat.le_refl _) (.cells #[.slice a n cap] 28)) (fun g e => by have := hp g e; omega))
      have HP : Hid (∀ g, p = some ⟨g, 0, none⟩ → g < (wr.alloc (.cells #[.slice a n cap] 28)).heap.size) := fun g e => by have := hp g e; simp; omega
      have HB := Lib.hid (hb.trans (((Below.refl wr.heap.size wr).alloc (Nat.le_refl _) (.cells #[.slice a n cap] 28)).mono hs))
      clear hu hp hb hc
      go_wp2_with (first | (go_at_call 32; refine (write_unmade _ p _ HU.out).mono ?_; rintro e w' ⟨rfl, rfl⟩) | (go_at_call 33; refine (sum_unmade _ p HU.out HP.out).mono ?_; rintro e w3 ⟨rfl, hb3⟩; have hu3 := Lib.hid (HU.out.below hb3 HP.out); have hb4 := Lib.hid (HB.out.trans (hb3.mono HB.out.size)); clear hb3) | (go_at_call 34; refine (len_unmade _ p hu3.out).mono ?_; rintro e w' ⟨rfl, rfl⟩) | (go_at_call 39; refine (clone_unmade _ p hu3.out).mono ?_; rintro e w' ⟨rfl, rfl⟩))
      go_roundw
      case rel => exact ⟨k + 1, by omega, by go_num, hb4.out⟩
      case measure => simp [intOf]; omega
    · have HB := Lib.hid (QB.out.trans (hb.mono (by have := HSZ.out; omega)))
      clear hb
      go_wp2_with (go_at_call 26; refine (live_walk _ (HT.out.below HB.out ht1 ht2)).mono ?_; rintro e w' ⟨rfl, hb2⟩)
      go_ret
      exact ⟨rfl, HB.out.trans (hb2.mono HB.out.size)⟩
end Go.Proofs.YtgbahfggnbpnmaaDoor
