import Derived.Test.YtgbahfggnbpnmaaDskR
/-
  Image.
-/
namespace Go.Proofs.Ytgbahfggnbpnmaa
open Go.RowKit
def imgK (G : List Sec) (k : Nat) : List UInt8 := (G.take k).flatten ++ List.replicate ((G.length - k) * 256) 0
theorem imgK_len {G : List Sec} (h : ∀ s, s ∈ G → s.length = 256) (k : Nat) (hk : k ≤ G.length) : (imgK G k).length = G.length * 256 := by
  unfold imgK
  rw [List.length_append, List.length_replicate, flat_size (fun s hs => h s (List.mem_of_mem_take hs)), List.length_take]
  omega
theorem imgK_zero (G : List Sec) : imgK G 0 = List.replicate (G.length * 256) 0 := by simp [imgK]
theorem imgK_all (G : List Sec) : imgK G G.length = G.flatten := by simp [imgK]
theorem imgK_step {G : List Sec} (h : ∀ s, s ∈ G → s.length = 256) (k : Nat) (hk : k < G.length) : splice (imgK G k) (k * 256) (G.getD k []) = imgK G (k + 1) := by
  have h1 : (G.take k).flatten.length = k * 256 := by
    rw [flat_size (fun s hs => h s (List.mem_of_mem_take hs)), List.length_take]; omega
  have h2 : (G.getD k []).length = 256 := by rw [getD_of hk]; exact h _ (List.getElem_mem _)
  have h3 : (G.take (k + 1)).flatten = (G.take k).flatten ++ G.getD k [] := by
    rw [List.take_succ_eq_append_getElem hk, List.flatten_append, getD_of hk]; simp
  have h4 : (G.length - k) * 256 = 256 + (G.length - (k + 1)) * 256 := by omega
  unfold imgK splice
  rw [h4, ← List.replicate_append_replicate, h3, h2]
  have h5 : ((G.take k).flatten ++ (List.replicate 256 0 ++ List.replicate ((G.length - (k + 1)) * 256) 0)).take (k * 256) = (G.take k).flatten := List.take_left' h1
  have h6 : ((G.take k).flatten ++ (List.replicate 256 (0 : UInt8) ++ List.replicate ((G.length - (k + 1)) * 256) 0)).drop (k * 256 + 256) = List.replicate ((G.length - (k + 1)) * 256) 0 := by
    rw [← List.append_assoc]
    exact List.drop_left' (by rw [List.length_append, h1, List.length_replicate])
  rw [h5, h6, List.append_assoc]
theorem copy_into {W : World} {go : Nat} {cur : Array Value} (hO : Blk W go cur 5) (kk dl : Nat) (hfit : kk + 256 ≤ cur.size) (hdl : 256 ≤ dl) (gs os : Nat) (l : List UInt8) (hl : l.length = 256) (hsrc : ∀ j u, (l.map bv)[j]? = some u → W.cell? ⟨gs, os + j, none⟩ = some u) :
    ∃ X, (∀ ty, (Builtin.copy_ #[30, 30] ty #[.slice (some ⟨go, kk, none⟩) dl dl, .slice (some ⟨gs, os, none⟩) 256 256]).run Try.prog W = .ok (goInt 256) X) ∧ Wrote W X go ∧ Blk X go (splice cur.toList kk (l.map bv)).toArray 5 := by
  have hlm : (l.map bv).length = 256 := by rw [List.length_map]; exact hl
  obtain ⟨R, hR⟩ : ∃ R, R = (cur.toList.take kk ++ l.map bv ++ cur.toList.drop (kk + (l.map bv).length)).toArray := ⟨_, rfl⟩
  have hRb : R = (splice cur.toList kk (l.map bv)).toArray := by rw [hR]; unfold splice; rw [List.append_assoc]
  refine ⟨W.setRow go R, fun ty => ?_, Wrote.row W go R, hRb ▸ hO.setRow R⟩
  have := run_copy_row (P := Try.prog) W 30 30 ty 5 go kk dl dl ⟨gs, os, none⟩ 256 256 cur 5 (l.map bv) Try.underlying30 size_u8r hO (by rw [hlm]; exact (Nat.min_eq_left hdl).symm) (fun j u hu => by rw [Addr.add_mid]; exact hsrc j u hu) (by rw [hlm]; exact hfit) (fun u hu => by obtain ⟨x, _, rfl⟩ := List.mem_map.1 hu; rfl)
  rw [← hR, hlm] at this
  exact this
set_option maxRecDepth 100000 in
theorem dimage_nil (w : World) : Calls Try.prog 14 #[.pointer none] w fun e w' => e = .returned (.slice none 0 0) ∧ w' = w := by
  go_enter Try.func14, Try.ntmps14
  go_wp2_with fail
  refine (dnone_nil _).mono ?_
  rintro e w2 ⟨rfl, rfl⟩
  go_wp2
  go_ret
  exact ⟨rfl, rfl⟩
set_option maxRecDepth 100000 in
set_option maxHeartbeats 1000000 in
theorem dimage_at {b g n : Nat} {v : Value} {S : DS} (w : World) (h : DiskAt w b g n v S) :
    Calls Try.prog 14 #[.pointer (some ⟨b, 0, none⟩)] w fun e w' => ∃ a m, e = .returned (.slice a m m) ∧ OwnB w' w.heap.size (.slice a m m) S.image ∧ Below w.heap.size w w' := by
  have H := Lib.hid h
  have hlg := h.ok.len
  have hn := h.pos.2
  have c0 := h.c0
  obtain ⟨m, hm⟩ : ∃ m, m = n * 256 := ⟨_, rfl⟩
  have hmw : wrap64 ((n : Int) * 256) = (m : Int) := by unfold wrap64; omega
  have hmw2 : IntKind.i64.wrap ((n : Int) * 256) = (m : Int) := by rw [IntWalk.i64_in _ (by omega)]; omega
  have hmk := fun w => run_make_bytes m (by omega) w
  have HM := Lib.hid hm
  have HLG := Lib.hid hlg
  obtain ⟨zl, hzl⟩ : ∃ zl : List UInt8, zl = List.replicate m 0 := ⟨_, rfl⟩
  rw [← hzl] at hmk
  have HZ := Lib.hid (show zl = imgK S.good 0 by rw [imgK_zero, hlg, hzl, hm])
  have c0' : (w.alloc (.cells (barr zl) 5)).cell? ⟨b, 0, none⟩ = some (.slice (some ⟨g, 0, none⟩) n n) := (h.on (below_one' w _)).c0
  have HW := Lib.hid (below_one' w (.cells (barr zl) 5))
  have HO := Lib.hid (Blk.new w (barr zl) 5)
  clear h hm hlg hzl
  go_enter Try.func14, Try.ntmps14
  go_wp2_with fail
  refine (dnone_at _ H.out).mono ?_
  rintro e w2 ⟨rfl, rfl⟩
  go_wp2
  clear c0 c0' hmk
  generalize hgo : w2.heap.size = go at *
  go_loopw [19] (fun x wr => ∃ k : Nat, k ≤ n ∧ x = .int .i64 (k : Nat) ∧ Hid (DiskAt wr b g n v S) ∧ Hid (Blk wr go (barr (imgK S.good k)) 5) ∧ Hid (Below go w2 wr)) (fun x _ => n - (intOf x).toNat)
  case atStart => exact ⟨0, Nat.zero_le _, rfl, H.out.on (hgo ▸ HW.out), by rw [← HZ.out]; exact HO.out, HW.out⟩
  case round =>
    obtain ⟨k, hk, rfl, HD, HO, HB⟩ := hrel
    by_cases hlt : k < n
    · have c0 := HD.out.c0
      obtain ⟨kk, hkk⟩ : ∃ kk, kk = k * 256 := ⟨_, rfl⟩
      have HM2 := HM.out
      have hw1 : wrap64 ((k : Int) * 256) = (kk : Int) := by unfold wrap64; omega
      have hw2 : IntKind.i64.wrap ((k : Int) * 256) = (kk : Int) := by rw [IntWalk.i64_in _ (by omega)]; omega
      have hkm : (kk : Int) ≤ (m : Int) := by omega
      have hklt : (k : Int) < (n : Int) := by omega
      have hne : ¬ m = kk := by omega
      have hl' := HLG.out
      have hkl : k < S.good.length := by omega
      obtain ⟨X, hcp, hWX, hX⟩ := copy_into (W := wr.drew) HO.out kk (m - kk) (by rw [barr_size, imgK_len HD.out.ok.sec k (by omega)]; omega) (by omega) g (k * 256) (S.good.getD k []) (by rw [getD_of hkl]; exact HD.out.ok.sec _ (List.getElem_mem _)) (sec_cells HD.out.good HD.out.ok.sec hkl)
      rw [splice_bv, hkk, imgK_step HD.out.ok.sec k hkl] at hX
      have hOX : Only (· = go) wr X := (Only.of_below (A := wr) (B := wr.drew) (Below.refl _ _).drew).trans (Only.wrote hWX rfl)
      have HDX := Lib.hid (HD.out.keep hOX (fun j hj e => by have := H.out.foot_lt hj; omega))
      have HBX := Lib.hid (HB.out.trans (hOX.below (fun j hj => by omega) (Nat.le_of_lt HO.out.lt)))
      have HOX := Lib.hid hX
      have HK := Lib.hid hlt
      clear HM2 hkk hWX hX hl' hkl hOX
      go_wp2
      go_region
      go_wp2
      go_roundw
      case rel => exact ⟨k + 1, by have := HK.out; omega, by go_num, HDX.out, HOX.out, HBX.out⟩
      case measure => have := HK.out; simp [intOf]; omega
    · obtain rfl : k = n := by omega
      have HOE := Lib.hid (show imgK S.good k = S.image ∧ S.image.length = m by rw [← HLG.out, imgK_all]; exact ⟨rfl, by rw [HM.out, ← HLG.out]; show S.good.flatten.length = _; rw [flat_size HD.out.ok.sec]; omega⟩)
      go_wp2
      go_ret
      refine ⟨some ⟨go, 0, none⟩, m, rfl, ?_, by rw [hgo]; exact HB.out⟩
      have q := HO.out
      rw [HOE.out.1] at q
      have := OwnB.of_blk (lo := w2.heap.size) q (by omega) (by rw [HOE.out.2]; have := HM.out; unfold maxLen; omega)
      rwa [HOE.out.2] at this
end Go.Proofs.Ytgbahfggnbpnmaa
