import Derived.Test.YtgbahfggnbpnmaaDoorLive4W
/-
  The walk of liverylaw04.SealBack.
-/
namespace Go.Proofs.YtgbahfggnbpnmaaDoor
open Go.RowKit
theorem live4_again {w w1 : World} (hT : Two w) (hb : Below w.heap.size w w1) : Calls Tryd.prog 45 #[] w1 fun e w' => e = .returned (.bool true) ∧ Below w.heap.size w w' :=
  (live4_walk w1 (hT.on hb)).mono fun _ _ ⟨he, h⟩ => ⟨he, hb.trans (h.mono hb.size)⟩
/-- A key and a nonce boxed. -/
structure Boxed (w W : World) (key nonce : List UInt8) : Prop where
  k : Blk W w.heap.size (barr key) 31
  n : Blk W (w.heap.size + 1) (barr nonce) 62
  b : Below w.heap.size w W
theorem Boxed.new (w : World) (key nonce : List UInt8) : Boxed w ((w.alloc (.cells (barr key) 31)).alloc (.cells (barr nonce) 62)) key nonce := by
  obtain ⟨q0, qb⟩ := new1 w (barr key) 31
  obtain ⟨q1, qb1⟩ := new1 (w.alloc (.cells (barr key) 31)) (barr nonce) 62
  have hsz : (w.alloc (.cells (barr key) 31)).heap.size = w.heap.size + 1 := by simp
  rw [hsz] at q1
  exact ⟨q0.on qb1, q1, qb.trans (qb1.mono qb.size)⟩
theorem Boxed.on {w W W' : World} {key nonce : List UInt8} (h : Boxed w W key nonce) (hb : Below W.heap.size W W') : Boxed w W' key nonce :=
  ⟨h.k.on hb, h.n.on hb, h.b.trans (hb.mono h.b.size)⟩
set_option maxRecDepth 100000 in
set_option maxHeartbeats 2000000 in
theorem sealback_walk (key nonce ad plain : List UInt8) (hk : key.length = 32) (hnon : nonce.length = 12) (a b : Option Addr) (n c m d : Nat) (w : World) (hA : Txt w a n c ad) (hX : Txt w b m d plain) (hT : Two w) :
    Calls Tryd.prog 13 #[.agg (barr key), .agg (barr nonce), .slice a n c, .slice b m d] w fun e w' => e = .returned (.bool true) ∧ Below w.heap.size w w' := by
  have bx := Boxed.new w key nonce
  have HX0 := Lib.hid bx
  have HA := Lib.hid (hA.on bx.b)
  have HP := Lib.hid (hX.on bx.b)
  have HT := Lib.hid (hT.on bx.b)
  have HTw := Lib.hid hT
  have HS1 := Lib.hid (show (Tryd.prog.info? 31).map (·.size) = some (barr key).size by rw [barr_size, hk]; exact size_u8x32)
  have HS2 := Lib.hid (show (Tryd.prog.info? 62).map (·.size) = some (barr nonce).size by rw [barr_size, hnon]; exact size_u8x12)
  have HM := Lib.hid hX.len
  have HKL := Lib.hid hk
  have HNL := Lib.hid hnon
  clear bx hA hX hT hk hnon
  by_cases hfew : fewOf 2000 [ad, plain] = true
  · have HF := Lib.hid hfew
    have HAL := Lib.hid (few4_2 hfew).1
    have HPL := Lib.hid (few4_2 hfew).2
    have hm2 : m ≤ 2000 := by have := HM.out; have := HPL.out; omega
    have f1 : IntKind.i64.wrap ((m : Int) + 32) = (m : Int) + 32 := IntWalk.i64_in _ (by omega)
    clear hfew
    go_enter Tryd.func13, Tryd.ntmps13
    go_wp2_with fail
    refine (live4_walk _ HT.out).mono ?_
    rintro e w1 ⟨rfl, hb1⟩
    have HX1 := Lib.hid (HX0.out.on hb1)
    have HA1 := Lib.hid (HA.out.on hb1)
    have HP1 := Lib.hid (HP.out.on hb1)
    have HT1 := Lib.hid (HT.out.on hb1)
    clear hb1 HX0 HA HP HT
    go_wp2_with fail
    refine (few4_two w1 28 _ rfl HA1.out HP1.out true HF.out).mono ?_
    rintro e w2 ⟨rfl, hw2⟩
    have hb2 : Below w1.heap.size w1 w2 := by rw [hw2]; exact below_one' w1 _
    have HX2 := Lib.hid (HX1.out.on hb2)
    have HA2 := Lib.hid (HA1.out.on hb2)
    have HP2 := Lib.hid (HP1.out.on hb2)
    have HT2 := Lib.hid (HT1.out.on hb2)
    clear hb2 hw2 HX1 HA1 HP1 HT1
    go_wp2_with (first | (refine wpList_load_row rfl 31 (.tmp 4) rfl w.heap.size rfl 31 _ _ _ HX2.out.k Tryd.underlying31 rfl HS1.out ?_) | (refine wpList_load_row rfl 62 (.tmp 5) rfl (w.heap.size + 1) rfl 62 _ _ _ HX2.out.n Tryd.underlying62 rfl HS2.out ?_))
    refine (seal_walk key nonce ad plain HKL.out HNL.out a b n c m d w2 HA2.out HP2.out HT2.out (by have := HAL.out; omega) (by have := HPL.out; omega)).mono ?_
    rintro e w3 ⟨a3, n3, c3, rfl, hO, hb3⟩
    obtain ⟨S, hS⟩ : ∃ S, S = sealL key nonce ad plain := ⟨_, rfl⟩
    rw [← hS] at hO
    have hSl : S.length = m + 32 := by rw [hS, sealL_len, HM.out]
    obtain rfl : n3 = m + 32 := by rw [← hSl]; exact hO.len
    have HSl := Lib.hid hSl
    have HSe := Lib.hid hS
    have TS3 := Lib.hid hO.txt
    have HX3 := Lib.hid (HX2.out.on hb3)
    have HA3 := Lib.hid (HA2.out.on hb3)
    have HP3 := Lib.hid (HP2.out.on hb3)
    have HT3 := Lib.hid (HT2.out.on hb3)
    clear hO hb3 HX2 HA2 HP2 HT2 hSl hS
    go_wp2_with (first | (refine wpList_load_row rfl 31 (.tmp 4) rfl w.heap.size rfl 31 _ _ _ HX3.out.k Tryd.underlying31 rfl HS1.out ?_) | (refine wpList_load_row rfl 62 (.tmp 5) rfl (w.heap.size + 1) rfl 62 _ _ _ HX3.out.n Tryd.underlying62 rfl HS2.out ?_))
    refine (open_walk key nonce ad S HKL.out HNL.out a a3 n c (m + 32) c3 m rfl w3 HA3.out TS3.out HT3.out (by have := HAL.out; omega) (by have := HSl.out; omega)).mono ?_
    rintro e w4 ⟨hb4, hor⟩
    have e1 : S.take m = coverL (encK key) nonce plain := by rw [HSe.out, HM.out]; exact seal_take key nonce ad plain
    have e2 : S.drop m = tagL (macK key) nonce ad (coverL (encK key) nonce plain) := by rw [HSe.out, HM.out]; exact seal_drop key nonce ad plain
    rw [e1, e2, coverL_back] at hor
    obtain ⟨g4, rfl, hP⟩ : ∃ g, e = .returned (.tuple #[.slice (some ⟨g, 0, none⟩) m m, .int .i64 0]) ∧ Txt w4 (some ⟨g, 0, none⟩) m m plain := by
      rcases hor with h | h
      · exact h.2
      · exact absurd rfl h.1
    have TP4 := Lib.hid hP
    have HP4 := Lib.hid (HP3.out.on hb4)
    have HB4 := Lib.hid (HX3.out.on hb4).b
    clear hor hP hb4 e1 e2 HX3 HA3 HP3 HT3 TS3
    go_wp2_with fail
    refine (equal_q _ _ _ _ _ _ plain w4 TP4.out HP4.out).mono ?_
    rintro e w' ⟨rfl, rfl⟩
    go_wp2
    go_ret
    exact ⟨rfl, HB4.out⟩
  · have HF := Lib.hid (show fewOf 2000 [ad, plain] = false by simpa using hfew)
    clear hfew
    go_enter Tryd.func13, Tryd.ntmps13
    go_wp2_with fail
    refine (live4_walk _ HT.out).mono ?_
    rintro e w1 ⟨rfl, hb1⟩
    have HA1 := Lib.hid (HA.out.on hb1)
    have HP1 := Lib.hid (HP.out.on hb1)
    have HB1 := Lib.hid (HX0.out.on hb1).b
    clear hb1
    go_wp2_with fail
    refine (few4_two w1 28 _ rfl HA1.out HP1.out false HF.out).mono ?_
    rintro e w2 ⟨rfl, hw2⟩
    have HB2 := Lib.hid (show Below w.heap.size w w2 by rw [hw2]; exact HB1.out.trans ((below_one' w1 _).mono HB1.out.size))
    clear hw2
    go_wp2_with fail
    refine (live4_again HTw.out HB2.out).mono ?_
    rintro e w3 ⟨rfl, hb3⟩
    go_wp2
    go_ret
    exact ⟨rfl, hb3⟩
end Go.Proofs.YtgbahfggnbpnmaaDoor
