import Derived.Test.YtgbahfggnbpnmaaRfE
/-
  disk.Load.
-/
namespace Go.Proofs.Ytgbahfggnbpnmaa
open Go.RowKit
set_option maxRecDepth 100000 in
set_option maxHeartbeats 1000000 in
theorem dload_bad (l : List UInt8) (h : l.length % 256 ≠ 0 ∨ l.length / 256 < 8 ∨ 2048 < l.length / 256) (hmx : l.length ≤ 9223372036854775807) (pa : Option Addr) (m c : Nat) (hm : m = l.length) (w0 : World) :
    Calls Try.prog 27 #[.slice pa m c] w0 fun e w' => e = .returned (.tuple #[.pointer none, .int .i64 1]) ∧ w' = w0 := by
  rw [← hm] at h hmx
  clear hm
  obtain ⟨r, hr⟩ : ∃ r, r = m % 256 := ⟨_, rfl⟩
  obtain ⟨d, hd⟩ : ∃ d, d = m / 256 := ⟨_, rfl⟩
  have r1 : (m : Int) % 256 = (r : Int) := by omega
  have r2 : (m : Int).tmod 256 = (r : Int) := by rw [Int.tmod_eq_emod_of_nonneg (by omega)]; exact r1
  have r3 : (m : Int) / 256 = (d : Int) := by omega
  have r4 : (m : Int).tdiv 256 = (d : Int) := by rw [Int.tdiv_eq_ediv_of_nonneg (by omega)]; exact r3
  have r5 : wrap64 (d : Int) = (d : Int) := by unfold wrap64; omega
  rw [← hr, ← hd] at h
  clear hr hd hmx
  by_cases h0 : r = 0
  · subst h0
    have HD := Lib.hid (show (d : Int) < 8 ∨ 2048 < (d : Int) by omega)
    clear h
    go_enter Try.func27, Try.ntmps27
    go_wp2_with fail
    refine (dnew_bad d HD.out _).mono ?_
    rintro e w2 ⟨rfl, rfl⟩
    go_wp2
    go_ret2
    exact ⟨rfl, rfl⟩
  · have h1 : ((r : Int) == 0) = false := by simp; omega
    clear h
    go_enter Try.func27, Try.ntmps27
    go_wp2
    go_ret2
    exact ⟨rfl, rfl⟩
/-- copy into a sector from the midst of a text. -/
theorem copy_sec {W : World} {go : Nat} {cur : Array Value} {t : TypeId} (hO : Blk W go cur t) (kk : Nat) (hfit : kk + 256 ≤ cur.size) (A : Option Addr) (q C : Nat) (hq : 256 ≤ q) (l : List UInt8) (hl : l.length = 256) (hsrc : RdB W A l) :
    ∃ X, (∀ ty, (Builtin.copy_ #[30, 30] ty #[.slice (some ⟨go, kk, none⟩) 256 256, .slice A q C]).run Try.prog W = .ok (goInt 256) X) ∧ Wrote W X go ∧ Blk X go (splice cur.toList kk (l.map bv)).toArray t := by
  have hlm : (l.map bv).length = 256 := by rw [List.length_map]; exact hl
  obtain ⟨g0, o0, rfl, _⟩ := hsrc.at (i := 0) (by omega)
  obtain ⟨R, hR⟩ : ∃ R, R = (cur.toList.take kk ++ l.map bv ++ cur.toList.drop (kk + (l.map bv).length)).toArray := ⟨_, rfl⟩
  have hRb : R = (splice cur.toList kk (l.map bv)).toArray := by rw [hR]; unfold splice; rw [List.append_assoc]
  refine ⟨W.setRow go R, fun ty => ?_, Wrote.row W go R, hRb ▸ hO.setRow R⟩
  have := run_copy_row (P := Try.prog) W 30 30 ty 5 go kk 256 256 ⟨g0, o0, none⟩ q C cur t (l.map bv) Try.underlying30 size_u8r hO (by rw [hlm]; exact (Nat.min_eq_right hq).symm) (fun j u hu => by
    have hj : j < (l.map bv).length := by
      rcases Nat.lt_or_ge j (l.map bv).length with h | h
      · exact h
      · rw [List.getElem?_eq_none h] at hu; cases hu
    obtain ⟨g, o, e, hc⟩ := hsrc j hj
    cases e
    rw [Addr.add_mid, hc]; exact hu) (by rw [hlm]; exact hfit) (fun u hu => by obtain ⟨x, _, rfl⟩ := List.mem_map.1 hu; rfl)
  rw [← hR, hlm] at this
  exact this
set_option maxRecDepth 100000 in
set_option maxHeartbeats 2000000 in
theorem dload_walk (l : List UInt8) (n : Nat) (hn : 8 ≤ n ∧ n ≤ 2048) (hl : l.length = n * 256) (pa : Option Addr) (m c : Nat) (w0 : World) (hT : Txt w0 pa m c l) :
    Calls Try.prog 27 #[.slice pa m c] w0 fun e w' => ∃ b g, e = .returned (.tuple #[.pointer (some ⟨b, 0, none⟩), .int .i64 0]) ∧ DiskAt w' b g n (.slice none 0 0) (loadS l) ∧ (∀ k, Foot b g (.slice none 0 0) k → w0.heap.size ≤ k) ∧ Below w0.heap.size w0 w' := by
  have hm : m = n * 256 := by rw [hT.len, hl]
  have HM := Lib.hid hm
  have HN := Lib.hid hn
  have HLN := Lib.hid hl
  have HT := Lib.hid hT
  have r1 : (m : Int) % 256 = 0 := by omega
  have r2 : (m : Int).tmod 256 = 0 := by rw [Int.tmod_eq_emod_of_nonneg (by omega)]; exact r1
  have r3 : (m : Int) / 256 = (n : Int) := by omega
  have r4 : (m : Int).tdiv 256 = (n : Int) := by rw [Int.tdiv_eq_ediv_of_nonneg (by omega)]; exact r3
  have r5 : wrap64 (n : Int) = (n : Int) := by unfold wrap64; omega
  clear hn hl hT hm
  go_enter Try.func27, Try.ntmps27
  go_wp2_with fail
  refine (dnew_walk n HN.out _).mono ?_
  rintro e w1 ⟨b, g, rfl, hbl, hgl, hD, hb⟩
  have HBL := Lib.hid hbl
  have HGL := Lib.hid hgl
  have HB := Lib.hid hb
  obtain ⟨z, hB, hz⟩ := hD.blk
  have HK := Lib.hid hB
  have HG := Lib.hid (show Blk w1 g (barr (loadK l 0)) 65 by rw [loadK_zero HLN.out]; exact hD.good)
  have HGB := Lib.hid hD.gb
  have c0 := hD.c0
  clear hD hB hz hb hbl hgl r1 r2 r3 r4 r5
  go_wp2
  clear c0
  go_loopw [26] (fun x wr => ∃ k : Nat, k ≤ n ∧ x = .int .i64 (k : Nat) ∧ Hid (Blk wr b #[.slice (some ⟨g, 0, none⟩) n n, .slice none 0 0, .bool false, .bool false, .int .i64 z, .int .i64 0] 62) ∧ Hid (Blk wr g (barr (loadK l k)) 65) ∧ Hid (Below w0.heap.size w0 wr)) (fun x _ => n - (intOf x).toNat)
  case atStart => exact ⟨0, Nat.zero_le _, rfl, HK.out, HG.out, HB.out⟩
  case round =>
    obtain ⟨k, hk, rfl, HK, HG, HB⟩ := hrel
    by_cases hlt : k < n
    · have c0 : wr.cell? ⟨b, 0, none⟩ = some (.slice (some ⟨g, 0, none⟩) n n) := HK.out.cell 0 rfl
      obtain ⟨kk, hkk⟩ : ∃ kk, kk = k * 256 := ⟨_, rfl⟩
      have HM2 := HM.out
      have hn2 := HN.out.2
      have hw1 : wrap64 ((k : Int) * 256) = (kk : Int) := by unfold wrap64; omega
      have hw2 : IntKind.i64.wrap ((k : Int) * 256) = (kk : Int) := by rw [IntWalk.i64_in _ (by omega)]; omega
      obtain ⟨A, q, C, hsl, hts⟩ := pslice_l (lo := kk) (HT.out.below HB.out) (by omega)
      have hts2 := hts.cut (k := 256) (by rw [hts.len, List.length_drop, HLN.out]; omega)
      obtain ⟨X, hcp, hWX, hX⟩ := copy_sec (W := wr.drew) HG.out (k * 256) (by rw [barr_size, loadK_len HLN.out k (by omega)]; omega) A q C (by rw [hts.len, List.length_drop, HLN.out]; omega) ((l.drop kk).take 256) hts2.len.symm hts2.rd
      rw [splice_bv, hkk, loadK_step HLN.out k hlt] at hX
      have hOX : Only (· = g) wr X := (Only.of_below (A := wr) (B := wr.drew) (Below.refl _ _).drew).trans (Only.wrote hWX rfl)
      have HKX := Lib.hid (hOX.blk HK.out (fun e => HGB.out e.symm))
      have HGX := Lib.hid hX
      have HBX := Lib.hid (HB.out.trans (hOX.below (fun j hj => by rw [hj]; exact HGL.out) HB.out.size))
      have HLT := Lib.hid hlt
      have hkn : (k : Int) < (n : Int) := by omega
      clear hkk
      clear HM2 hWX hX hOX hts hts2
      go_wp2
      go_region
      all_goals
        clear hcp
        go_wp2
        go_roundw
        case rel => exact ⟨k + 1, by have := HLT.out; omega, by go_num, HKX.out, HGX.out, HBX.out⟩
        case measure => have := HLT.out; simp [intOf]; omega
    · obtain rfl : k = n := by omega
      go_wp2
      go_ret2
      refine ⟨b, g, rfl, ?_, ?_, HB.out⟩
      · have hG := HG.out
        rw [loadK_all HLN.out, ← loadS_image HLN.out] at hG
        exact ⟨loadS_ok HLN.out, by have := HN.out; omega, (fun f e => by cases e), ⟨z, HK.out, (fun f e => by cases e)⟩, hG, World.ownsRow_nil _ 0 _ _⟩
      · rintro j (rfl | rfl | e)
        · exact HBL.out
        · exact HGL.out
        · cases e
end Go.Proofs.Ytgbahfggnbpnmaa
