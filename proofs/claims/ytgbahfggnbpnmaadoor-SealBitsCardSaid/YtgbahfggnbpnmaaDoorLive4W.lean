import Derived.Test.YtgbahfggnbpnmaaDoorLive4
/-
  The walk of liverylaw04's live.
-/
namespace Go.Proofs.YtgbahfggnbpnmaaDoor
open Go.RowKit
set_option maxRecDepth 100000 in
set_option maxHeartbeats 2000000 in
theorem live4_walk (w : World) (hT : Two w) : Calls Tryd.prog 45 #[] w fun e w' => e = .returned (.bool true) ∧ Below w.heap.size w w' := by
  have HT := Lib.hid hT
  have hcA := conv_const (P := Tryd.prog) w 28 5 #[.int .u8 97, .int .u8 100] 2 2 w.heap.size rfl Tryd.underlying28 Tryd.underlying5
  have hcB := conv_const (P := Tryd.prog) (w.alloc (.cells #[.int .u8 97, .int .u8 100] 5 (2, 3))) 28 5 #[.int .u8 112, .int .u8 108, .int .u8 97, .int .u8 105, .int .u8 110] 5 5 (w.heap.size + 1) (by simp) Tryd.underlying28 Tryd.underlying5
  have HC := Lib.hid (below_two w (.cells (barr lad) 5 (2, 3)) (.cells (barr lpl) 5 (5, 6)))
  have TA := Lib.hid ((Txt.new w lad 5 (2, 3) (n := 2) (g := w.heap.size) rfl rfl).alloc (.cells (barr lpl) 5 (5, 6)))
  have TB := Lib.hid (Txt.new (w.alloc (.cells (barr lad) 5 (2, 3))) lpl 5 (5, 6) (n := 5) (g := w.heap.size + 1) rfl (by simp))
  have HT0 := Lib.hid (hT.on HC.out)
  clear hT
  go_enter Tryd.func45, Tryd.ntmps45
  go_wp2_with fail
  refine (seal_walk lk ln lad lpl rfl rfl (some ⟨w.heap.size, 0, none⟩) (some ⟨w.heap.size + 1, 0, none⟩) 2 2 5 5 _ TA.out TB.out HT0.out (by decide) (by decide)).mono ?_
  rintro e w1 ⟨a1, n1, c1, rfl, hO, hb1⟩
  obtain ⟨S, hS⟩ : ∃ S, S = sealL lk ln lad lpl := ⟨_, rfl⟩
  rw [← hS] at hO
  have hSl : S.length = 37 := by rw [hS, sealL_len]; rfl
  obtain rfl : n1 = 37 := by rw [← hSl]; exact hO.len
  have HB1 := Lib.hid (HC.out.trans (hb1.mono HC.out.size))
  have TS1 := Lib.hid hO.txt
  have HT1 := Lib.hid (HT0.out.on hb1)
  have HSl := Lib.hid hSl
  have HSe := Lib.hid hS
  clear hS hO hSl hb1 hcA hcB TA TB HC HT0
  have hcA := conv_const (P := Tryd.prog) w1 28 5 #[.int .u8 97, .int .u8 100] 2 2 w1.heap.size rfl Tryd.underlying28 Tryd.underlying5
  have HC := Lib.hid (below_one' w1 (.cells (barr lad) 5 (2, 3)))
  have TA := Lib.hid (Txt.new w1 lad 5 (2, 3) (n := 2) (g := w1.heap.size) rfl rfl)
  go_wp2_with fail
  refine (open_walk lk ln lad S rfl rfl (some ⟨w1.heap.size, 0, none⟩) a1 2 2 37 c1 5 rfl _ TA.out (TS1.out.on HC.out) (HT1.out.on HC.out) (by decide) (by have := HSl.out; omega)).mono ?_
  rintro e w2 ⟨hb2, hor⟩
  have e1 : S.take 5 = coverL (encK lk) ln lpl := by rw [HSe.out]; exact seal_take lk ln lad lpl
  have e2 : S.drop 5 = tagL (macK lk) ln lad (coverL (encK lk) ln lpl) := by rw [HSe.out]; exact seal_drop lk ln lad lpl
  rw [e1, e2] at hor
  rw [coverL_back] at hor
  obtain ⟨g2, rfl, hP⟩ : ∃ g, e = .returned (.tuple #[.slice (some ⟨g, 0, none⟩) 5 5, .int .i64 0]) ∧ Txt w2 (some ⟨g, 0, none⟩) 5 5 lpl := by
    rcases hor with h | h
    · exact h.2
    · exact absurd rfl h.1
  have hq := HC.out.trans (hb2.mono HC.out.size)
  have TP2 := Lib.hid hP
  have TC2 := Lib.hid (by have h := (TS1.out.on hq).cut (show 5 ≤ 37 by omega); rw [e1] at h; exact h)
  have hcap : (5 : Int) ≤ (c1 : Int) := by have h := TS1.out.fit; omega
  have HB2 := Lib.hid (HB1.out.trans (hq.mono HB1.out.size))
  clear hor hP hq hb2 e1 e2 TA HC hcA TS1 HT1
  have hcA := conv_const (P := Tryd.prog) w2 28 5 #[.int .u8 112, .int .u8 108, .int .u8 97, .int .u8 105, .int .u8 110] 5 5 w2.heap.size rfl Tryd.underlying28 Tryd.underlying5
  have HC := Lib.hid (below_one' w2 (.cells (barr lpl) 5 (5, 6)))
  have TB := Lib.hid (Txt.new w2 lpl 5 (5, 6) (n := 5) (g := w2.heap.size) rfl rfl)
  go_wp2_with fail
  refine (equal_walk a1 (some ⟨w2.heap.size, 0, none⟩) 5 5 c1 5 (coverL (encK lk) ln lpl) lpl (by rw [coverL_len]; rfl) rfl (w2.alloc (.cells (barr lpl) 5 (5, 6))) (TC2.out.on HC.out).rd TB.out.rd).mono ?_
  rintro e w' ⟨rfl, hw⟩
  obtain ⟨w3, rfl⟩ : ∃ w3, w3 = w' := ⟨_, rfl⟩
  have hb3 : Below w2.heap.size w2 w3 := by rw [← hw]; exact HC.out
  have TP3 := Lib.hid (TP2.out.on hb3)
  have HB3 := Lib.hid (HB2.out.trans (hb3.mono HB2.out.size))
  rw [decide_eq_false covered]
  clear hw hb3 HB2 TB HC hcA TP2 TC2
  have hcA := conv_const (P := Tryd.prog) w3 28 5 #[.int .u8 112, .int .u8 108, .int .u8 97, .int .u8 105, .int .u8 110] 5 5 w3.heap.size rfl Tryd.underlying28 Tryd.underlying5
  have HC := Lib.hid (below_one' w3 (.cells (barr lpl) 5 (5, 6)))
  have TB := Lib.hid (Txt.new w3 lpl 5 (5, 6) (n := 5) (g := w3.heap.size) rfl rfl)
  go_wp2_with fail
  refine (equal_q _ (some ⟨w3.heap.size, 0, none⟩) 5 5 5 5 lpl (w3.alloc (.cells (barr lpl) 5 (5, 6))) (TP3.out.on HC.out) TB.out).mono ?_
  rintro e w' ⟨rfl, hw⟩
  obtain ⟨w4, rfl⟩ : ∃ w4, w4 = w' := ⟨_, rfl⟩
  have HB4 := Lib.hid (show Below w.heap.size w w4 by rw [hw]; exact HB3.out.trans (HC.out.mono HB3.out.size))
  clear hw
  go_wp2
  go_ret
  exact ⟨rfl, HB4.out⟩
end Go.Proofs.YtgbahfggnbpnmaaDoor
