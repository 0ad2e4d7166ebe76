import Derived.Test.YtgbahfggnbpnmaaDoorDrbgP
/-
  drbg.may.
-/
namespace Go.Proofs.YtgbahfggnbpnmaaDoor
open Go.RowKit
theorem Pcs.on {w w' : World} {xs : List Value} {ls : List (List UInt8)} (h : Pcs w xs ls) (hb : Below w.heap.size w w') : Pcs w' xs ls :=
  ⟨h.1, fun i hi => by obtain ⟨a, n, c, h1, h2⟩ := h.2 i hi; exact ⟨a, n, c, h1, h2.on hb⟩⟩
theorem OwnS.of_blk {w : World} {lo g : Nat} {xs : List Value} (h : Blk w g xs.toArray 28) (hb : lo ≤ g) (hm : xs.length ≤ maxLen) : OwnS w lo (.slice (some ⟨g, 0, none⟩) xs.length xs.length) xs :=
  ⟨by simp, Or.inr ⟨g, xs.length, xs.toArray, rfl, hb, h, Nat.le_refl _, hm, by simp, by simp⟩⟩
/-- The error of entropy and others. -/
def mayE (ent : List UInt8) (ls : List (List UInt8)) : Int := if ent.length < 32 then 50 else if fewOf 4096 (ls ++ [ent]) = true then 0 else 3
set_option maxRecDepth 100000 in
set_option maxHeartbeats 1000000 in
theorem may_walk (ent : List UInt8) (ls : List (List UInt8)) (xs : List Value) (a r : Option Addr) (n c m d lo : Nat) (w : World) (hE : Txt w a n c ent) (hR : OwnS w lo (.slice r m d) xs) (hP : Pcs w xs ls) (hlo : lo ≤ w.heap.size) (hls : ls.length ≤ 1000) :
    Calls Tryd.prog 113 #[.slice a n c, .slice r m d] w fun e w' => e = .returned (.int .i64 (mayE ent ls)) ∧ w.grownBy w' (Value.slice r m d).ownBlock := by
  have hn := hE.len
  by_cases h32 : n < 32
  · have e1 : mayE ent ls = 50 := by unfold mayE; rw [if_pos (by omega)]
    rw [e1]
    have g1 : (n : Int) < 32 := by omega
    clear hn hE hR hP
    go_enter Tryd.func113, Tryd.ntmps113
    go_wp2
    go_ret
    exact ⟨rfl, World.grownBy.refl w _⟩
  · have e1 : mayE ent ls = if fewOf 4096 (ls ++ [ent]) = true then 0 else 3 := by unfold mayE; rw [if_neg (by omega)]
    rw [e1]
    obtain ⟨LS, hLS⟩ : ∃ LS, LS = ls ++ [ent] := ⟨_, rfl⟩
    rw [← hLS]
    obtain ⟨ER, hER⟩ : ∃ z : Int, z = if fewOf 4096 LS = true then 0 else 3 := ⟨_, rfl⟩
    rw [← hER]
    have HER := Lib.hid hER
    clear hER
    have g1 : ¬ (n : Int) < 32 := by omega
    have hb := below_one' w (.cells #[.slice a n c] 28)
    have HR := Lib.hid (hR.below hb)
    have HP := Lib.hid (hP.snoc hE)
    rw [← hLS] at HP
    have hlt2 : LS.length ≤ 100000 := by rw [hLS]; simp; omega
    have HL := Lib.hid (show lo ≤ (w.alloc (.cells #[.slice a n c] 28)).heap.size by simp; omega)
    have HX := Lib.hid (show xs.length ≤ 1000000 by rw [hP.1]; omega)
    have HB := Lib.hid hb
    clear hn hE hR hP hb e1 hLS
    go_enter Tryd.func113, Tryd.ntmps113
    go_wp2_with (refine wpList_append_slc rfl (.tmp 10) (.tmp 12) rfl lo _ xs rfl HR.out w.heap.size (.slice a n c) rfl ((Blk.new w #[.slice a n c] 28).cell 0 rfl) rfl HX.out HL.out ?_; intro a2 n2 c2 w2 hO2 hg2; have HO2 := Lib.hid hO2; have HG2 := Lib.hid (grownBy_trans (grownBy_of_below HB.out) hg2); clear hO2 hg2)
    obtain ⟨XS, hXS⟩ : ∃ XS, XS = xs ++ [.slice a n c] := ⟨_, rfl⟩
    rw [← hXS] at HP HO2
    have hlen : n2 = LS.length := by
      obtain ⟨a', c', e, _⟩ := HO2.out.form
      simp only [Value.slice.injEq] at e
      rw [e.2.1, HP.out.1]
    have HN := Lib.hid hlen
    clear hXS hlen
    go_loop [15] (fun i => ∃ k, k ≤ LS.length ∧ i = .int .i64 (k : Nat) ∧ Hid (∀ j, j < k → (LS.getD j []).length ≤ 4096)) (fun i => LS.length - (intOf i).toNat)
    case atStart => exact ⟨0, Nat.zero_le _, rfl, fun j hj => by omega⟩
    case round =>
      obtain ⟨k, hk, rfl, hall⟩ := hrel
      by_cases hlt : k < LS.length
      · obtain ⟨a5, n5, c5, h5, h6⟩ := HP.out.2 k hlt
        obtain ⟨g5, e5, _, hc5⟩ : ∃ g, a2 = some ⟨g, 0, none⟩ ∧ g < w2.heap.size ∧ w2.cell? ⟨g, k, none⟩ = XS[k]? := by
          obtain ⟨a', c', e, h1⟩ := HO2.out.form
          simp only [Value.slice.injEq] at e
          obtain ⟨rfl, _, _⟩ := e
          exact h1 k (by rw [HP.out.1]; exact hlt)
        subst e5
        rw [h5] at hc5
        have H4 := Lib.hid h6.len
        have hkn : k < n2 := by rw [HN.out]; exact hlt
        clear h5 h6
        by_cases h3000 : n5 ≤ 4096
        · have hd : decide ((n5 : Int) > 4096) = false := by simp; omega
          go_wp2
          go_round
          case rel =>
            refine ⟨k + 1, by omega, by go_num, fun j hj => ?_⟩
            rcases Nat.lt_or_ge j k with h | h
            · exact hall.out j h
            · obtain rfl : j = k := by omega
              rw [← H4.out]; exact h3000
          case measure => simp [intOf]; omega
        · have hd : (4096 : Int) < (n5 : Int) := by omega
          go_wp2
          go_ret
          refine ⟨?_, HG2.out⟩
          have : ¬ fewOf 4096 LS = true := by
            intro h
            simp only [fewOf, List.all_eq_true, decide_eq_true_eq] at h
            have := h (LS.getD k []) (by simp [List.getD, hlt])
            have := H4.out
            omega
          show Ending.returned (.int .i64 3) = _
          rw [HER.out, if_neg this]
      · have HK := Lib.hid (show k = LS.length by omega)
        have hkn : ¬ k < n2 := by rw [HN.out]; exact hlt
        go_wp2
        go_ret
        refine ⟨?_, HG2.out⟩
        have h1 : fewOf 4096 LS = true := by
          simp only [fewOf, List.all_eq_true, decide_eq_true_eq]
          intro l hl
          obtain ⟨j, hj, rfl⟩ := List.getElem_of_mem hl
          have := hall.out j (by have := HK.out; omega)
          simpa [List.getD, hj] using this
        show Ending.returned (.int .i64 0) = _
        rw [HER.out, if_pos h1]
end Go.Proofs.YtgbahfggnbpnmaaDoor
