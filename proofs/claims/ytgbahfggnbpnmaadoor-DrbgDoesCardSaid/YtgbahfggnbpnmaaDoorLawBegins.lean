import Derived.Test.YtgbahfggnbpnmaaDoorRExpand
import Derived.Test.YtgbahfggnbpnmaaDoorLawSums
/-
  The walk of liverylaw02.Sha2Begins.
-/
namespace Go.Proofs.YtgbahfggnbpnmaaDoor
open Go.RowKit
/-- few of two texts that lie in a block of slices just made. -/
theorem few_two (X : World) (t : TypeId) (g : Nat) (hg : g = X.heap.size) {a a2 : Option Addr} {n c n2 c2 : Nat} {l l2 : List UInt8} (h : Txt X a n c l) (h' : Txt X a2 n2 c2 l2) (b : Bool) (hb : fewB 3000 40 [l, l2] = b) :
    Calls Tryd.prog 29 #[.slice (some ⟨g, 0, none⟩) 2 2] (X.alloc (.cells #[.slice a n c, .slice a2 n2 c2] t)) fun e w' => e = .returned (.bool b) ∧ w' = X.alloc (.cells #[.slice a n c, .slice a2 n2 c2] t) := by
  subst hg hb
  exact (few_walk [l, l2] 2 2 rfl _ _ _ ((h.alloc _).parts2 (h'.alloc _) (Blk.new X _ t)) (by simp)).mono fun e w' ⟨he, hw⟩ => ⟨he, hw.symm⟩
theorem few_one (X : World) (t : TypeId) (g : Nat) (hg : g = X.heap.size) {a : Option Addr} {n c : Nat} {l : List UInt8} (h : Txt X a n c l) (b : Bool) (hb : fewB 3000 40 [l] = b) :
    Calls Tryd.prog 29 #[.slice (some ⟨g, 0, none⟩) 1 1] (X.alloc (.cells #[.slice a n c] t)) fun e w' => e = .returned (.bool b) ∧ w' = X.alloc (.cells #[.slice a n c] t) := by
  subst hg hb
  exact (few_walk [l] 1 1 rfl _ _ _ ((h.alloc _).parts1 (Blk.new X _ t)) (by simp)).mono fun e w' ⟨he, hw⟩ => ⟨he, hw.symm⟩
theorem few2_len {l l2 : List UInt8} (h : fewB 3000 40 [l, l2] = true) : l.length ≤ 3000 ∧ l2.length ≤ 3000 := by
  have := (fewB_true h).1
  exact ⟨this l (by simp), this l2 (by simp)⟩
theorem few1_len {l : List UInt8} (h : fewB 3000 40 [l] = true) : l.length ≤ 3000 := (fewB_true h).1 l (by simp)
set_option maxRecDepth 100000 in
set_option maxHeartbeats 1000000 in
theorem sha2begins_walk (prk info : List UInt8) (a b : Option Addr) (n c m d : Nat) (N M : Nat) (hN : N < 65536) (hM : M < 65536) (w : World) (hK : Txt w a n c prk) (hX : Txt w b m d info) (hT : Two w) :
    Calls Tryd.prog 9 #[.slice a n c, .slice b m d, .int .u16 N, .int .u16 M] w fun e w' => e = .returned (.bool true) ∧ Below w.heap.size w w' := by
  have HK := Lib.hid hK
  have HX := Lib.hid hX
  have HT := Lib.hid hT
  clear hK hX hT
  by_cases hfew : fewB 3000 40 [prk, info] = true
  · have hl := few2_len hfew
    have HF := Lib.hid hfew
    obtain ⟨x, hx⟩ : ∃ x, x = N % 600 := ⟨_, rfl⟩
    obtain ⟨y, hy⟩ : ∃ y, y = M % 600 := ⟨_, rfl⟩
    have ex : (N : Int) % 600 = (x : Int) := by omega
    have ey : (M : Int) % 600 = (y : Int) := by omega
    have hx6 : x < 600 := by omega
    have hy6 : y < 600 := by omega
    have H1 := Lib.hid hl.1
    have H2 := Lib.hid hl.2
    clear hfew hx hy hl
    rcases Nat.lt_trichotomy x y with hxy | hxy | hxy
    · go_enter Tryd.func9, Tryd.ntmps9
      go_wp2_with (first | (go_at_call 26; refine (live_walk _ HT.out).mono ?_; rintro e w1 ⟨rfl, hb1⟩; have HK1 := Lib.hid (HK.out.below hb1); have HX1 := Lib.hid (HX.out.below hb1); have HT1 := Lib.hid (HT.out.below' hb1); have HB1 := Lib.hid hb1; clear hb1) | (go_at_call 29; refine (few_two w1 28 _ rfl HK1.out HX1.out true HF.out).mono ?_; rintro e w' ⟨rfl, rfl⟩; have HK2 := Lib.hid (HK1.out.alloc (.cells #[.slice a n c, .slice b m d] 28)); have HX2 := Lib.hid (HX1.out.alloc (.cells #[.slice a n c, .slice b m d] 28)); have HT2 := Lib.hid (HT1.out.below' (below_one' w1 (.cells #[.slice a n c, .slice b m d] 28))); have HB2 := Lib.hid (HB1.out.trans ((below_one' w1 (.cells #[.slice a n c, .slice b m d] 28)).mono HB1.out.size))))
      refine (expand_walk prk info a b n c m d x (by omega) _ HK2.out HX2.out HT2.out (by have := H1.out; omega) (by have := H2.out; omega)).mono ?_
      rintro e w3 ⟨a3, c3, rfl, hT3, _, hb3⟩
      have HA3 := Lib.hid hT3
      have HK3 := Lib.hid (HK2.out.below hb3)
      have HX3 := Lib.hid (HX2.out.below hb3)
      have HT3 := Lib.hid (HT2.out.below' hb3)
      have HB3 := Lib.hid (HB2.out.trans (hb3.mono HB2.out.size))
      clear hT3 hb3
      go_wp2_with fail
      refine (expand_walk prk info a b n c m d y (by omega) _ HK3.out HX3.out HT3.out (by have := H1.out; omega) (by have := H2.out; omega)).mono ?_
      rintro e w4 ⟨a4, c4, rfl, hT4, _, hb4⟩
      have HA4 := Lib.hid (HA3.out.below hb4)
      have HC4 := Lib.hid (by have h := hT4.cut (show x ≤ y by omega); rw [expand_pre prk info x y (by omega)] at h; exact h : Txt w4 a4 x c4 (expand prk info x))
      have hcap : (x : Int) ≤ (c4 : Int) := by have := hT4.fit; omega
      have HB4 := Lib.hid (HB3.out.trans (hb4.mono HB3.out.size))
      clear hT4 hb4
      go_wp2_with (go_at_call 38; refine (equal_same _ _ _ _ _ _ _ w4 HA4.out HC4.out).mono ?_; rintro e w' ⟨rfl, rfl⟩)
      go_ret
      exact ⟨rfl, HB4.out⟩
    · subst hxy
      go_enter Tryd.func9, Tryd.ntmps9
      go_wp2_with (first | (go_at_call 26; refine (live_walk _ HT.out).mono ?_; rintro e w1 ⟨rfl, hb1⟩; have HK1 := Lib.hid (HK.out.below hb1); have HX1 := Lib.hid (HX.out.below hb1); have HT1 := Lib.hid (HT.out.below' hb1); have HB1 := Lib.hid hb1; clear hb1) | (go_at_call 29; refine (few_two w1 28 _ rfl HK1.out HX1.out true HF.out).mono ?_; rintro e w' ⟨rfl, rfl⟩; have HK2 := Lib.hid (HK1.out.alloc (.cells #[.slice a n c, .slice b m d] 28)); have HX2 := Lib.hid (HX1.out.alloc (.cells #[.slice a n c, .slice b m d] 28)); have HT2 := Lib.hid (HT1.out.below' (below_one' w1 (.cells #[.slice a n c, .slice b m d] 28))); have HB2 := Lib.hid (HB1.out.trans ((below_one' w1 (.cells #[.slice a n c, .slice b m d] 28)).mono HB1.out.size))))
      refine (expand_walk prk info a b n c m d x (by omega) _ HK2.out HX2.out HT2.out (by have := H1.out; omega) (by have := H2.out; omega)).mono ?_
      rintro e w3 ⟨a3, c3, rfl, hT3, _, hb3⟩
      have HA3 := Lib.hid hT3
      have HK3 := Lib.hid (HK2.out.below hb3)
      have HX3 := Lib.hid (HX2.out.below hb3)
      have HT3 := Lib.hid (HT2.out.below' hb3)
      have HB3 := Lib.hid (HB2.out.trans (hb3.mono HB2.out.size))
      clear hT3 hb3
      go_wp2_with fail
      refine (expand_walk prk info a b n c m d x (by omega) _ HK3.out HX3.out HT3.out (by have := H1.out; omega) (by have := H2.out; omega)).mono ?_
      rintro e w4 ⟨a4, c4, rfl, hT4, _, hb4⟩
      have HA4 := Lib.hid (HA3.out.below hb4)
      have HC4 := Lib.hid (by have h := hT4.cut (show x ≤ x by omega); rw [expand_pre prk info x x (by omega)] at h; exact h : Txt w4 a4 x c4 (expand prk info x))
      have hcap : (x : Int) ≤ (c4 : Int) := by have := hT4.fit; omega
      have HB4 := Lib.hid (HB3.out.trans (hb4.mono HB3.out.size))
      clear hT4 hb4
      go_wp2_with (go_at_call 38; refine (equal_same _ _ _ _ _ _ _ w4 HA4.out HC4.out).mono ?_; rintro e w' ⟨rfl, rfl⟩)
      go_ret
      exact ⟨rfl, HB4.out⟩
    · go_enter Tryd.func9, Tryd.ntmps9
      go_wp2_with (first | (go_at_call 26; refine (live_walk _ HT.out).mono ?_; rintro e w1 ⟨rfl, hb1⟩; have HK1 := Lib.hid (HK.out.below hb1); have HX1 := Lib.hid (HX.out.below hb1); have HT1 := Lib.hid (HT.out.below' hb1); have HB1 := Lib.hid hb1; clear hb1) | (go_at_call 29; refine (few_two w1 28 _ rfl HK1.out HX1.out true HF.out).mono ?_; rintro e w' ⟨rfl, rfl⟩; have HK2 := Lib.hid (HK1.out.alloc (.cells #[.slice a n c, .slice b m d] 28)); have HX2 := Lib.hid (HX1.out.alloc (.cells #[.slice a n c, .slice b m d] 28)); have HT2 := Lib.hid (HT1.out.below' (below_one' w1 (.cells #[.slice a n c, .slice b m d] 28))); have HB2 := Lib.hid (HB1.out.trans ((below_one' w1 (.cells #[.slice a n c, .slice b m d] 28)).mono HB1.out.size))))
      refine (expand_walk prk info a b n c m d y (by omega) _ HK2.out HX2.out HT2.out (by have := H1.out; omega) (by have := H2.out; omega)).mono ?_
      rintro e w3 ⟨a3, c3, rfl, hT3, _, hb3⟩
      have HA3 := Lib.hid hT3
      have HK3 := Lib.hid (HK2.out.below hb3)
      have HX3 := Lib.hid (HX2.out.below hb3)
      have HT3 := Lib.hid (HT2.out.below' hb3)
      have HB3 := Lib.hid (HB2.out.trans (hb3.mono HB2.out.size))
      clear hT3 hb3
      go_wp2_with fail
      refine (expand_walk prk info a b n c m d x (by omega) _ HK3.out HX3.out HT3.out (by have := H1.out; omega) (by have := H2.out; omega)).mono ?_
      rintro e w4 ⟨a4, c4, rfl, hT4, _, hb4⟩
      have HA4 := Lib.hid (HA3.out.below hb4)
      have HC4 := Lib.hid (by have h := hT4.cut (show y ≤ x by omega); rw [expand_pre prk info y x (by omega)] at h; exact h : Txt w4 a4 y c4 (expand prk info y))
      have hcap : (y : Int) ≤ (c4 : Int) := by have := hT4.fit; omega
      have HB4 := Lib.hid (HB3.out.trans (hb4.mono HB3.out.size))
      clear hT4 hb4
      go_wp2_with (go_at_call 38; refine (equal_same _ _ _ _ _ _ _ w4 HA4.out HC4.out).mono ?_; rintro e w' ⟨rfl, rfl⟩)
      go_ret
      exact ⟨rfl, HB4.out⟩
  · have HF := Lib.hid (show fewB 3000 40 [prk, info] = false by simpa using hfew)
    clear hfew
    go_enter Tryd.func9, Tryd.ntmps9
    go_wp2_with fail
    refine (live_walk _ HT.out).mono ?_
    rintro e w1 ⟨rfl, hb1⟩
    have HK1 := Lib.hid (HK.out.below hb1)
    have HX1 := Lib.hid (HX.out.below hb1)
    have HB1 := Lib.hid hb1
    clear hb1
    go_wp2_with (first | (go_at_call 29; refine (few_two w1 28 _ rfl HK1.out HX1.out false HF.out).mono ?_; rintro e w' ⟨rfl, rfl⟩) | (go_at_call 26; refine (live_again HT.out (HB1.out.trans ((below_one' w1 _).mono HB1.out.size))).mono ?_; rintro e w2 ⟨rfl, hb2⟩))
    go_ret
    exact ⟨rfl, hb2⟩
end Go.Proofs.YtgbahfggnbpnmaaDoor
