import Derived.Test.YtgbahfggnbpnmaaDoorDrbgU
/-
  drbg.New.
-/
namespace Go.Proofs.YtgbahfggnbpnmaaDoor
open Go.RowKit
def z32 : List UInt8 := List.replicate 32 0
def ones (k : Nat) : List UInt8 := List.replicate k 1 ++ List.replicate (32 - k) 0
theorem ones_len (k : Nat) (h : k ≤ 32) : (ones k).length = 32 := by simp [ones]; omega
theorem dcells_set_v (kk v : List UInt8) (cnt : Int) (hk : kk.length = 32) (hv : v.length = 32) (i : Nat) (hi : i < 32) (x : UInt8) : (dcells kk v cnt).setIfInBounds (33 + i) (bv x) = dcells kk (v.set i x) cnt := by
  simp only [dcells, dlist, List.setIfInBounds_toArray, show 33 + i = (32 + i) + 1 by omega, List.set_cons_succ]
  rw [List.set_append_right _ _ (by simp [hk]), List.set_append_left _ _ (by simp [hk, hv]; omega)]
  simp [hk, List.map_set]
theorem ones_step (k : Nat) (h : k < 32) : (ones k).set k 1 = ones (k + 1) := by
  unfold ones
  rw [show 32 - k = (32 - (k + 1)) + 1 by omega, List.replicate_succ, List.set_append_right _ _ (by simp), List.replicate_succ' (n := k)]
  simp
set_option maxRecDepth 100000 in
set_option maxHeartbeats 1000000 in
theorem dnew_err (ent nonce person : List UInt8) (a b c0 : Option Addr) (n c m d p q : Nat) (w : World) (hE : Txt w a n c ent) (hN : Txt w b m d nonce) (hP : Txt w c0 p q person) (he : mayE ent [nonce, person] ≠ 0) :
    Calls Tryd.prog 58 #[.slice a n c, .slice b m d, .slice c0 p q] w fun e w' => e = .returned (.tuple #[.pointer none, .int .i64 (mayE ent [nonce, person])]) ∧ Below w.heap.size w w' := by
  have hb := below_one' w (.cells #[.slice b m d, .slice c0 p q] 28)
  have HE := Lib.hid (hE.on hb)
  have HP := Lib.hid ((((Pcs.nil w).snoc hN).snoc hP).on hb)
  have HO := Lib.hid (OwnS.of_blk (xs := [.slice b m d, .slice c0 p q]) (Blk.new w #[.slice b m d, .slice c0 p q] 28) (Nat.le_refl _) (by simp [maxLen]))
  have HB := Lib.hid hb
  clear hE hN hP hb
  obtain ⟨er, her⟩ : ∃ z, z = mayE ent [nonce, person] := ⟨_, rfl⟩
  rw [← her] at he ⊢
  go_enter Tryd.func58, Tryd.ntmps58
  go_wp2_with fail
  refine (may_walk ent _ _ _ _ _ _ _ _ w.heap.size _ HE.out HO.out HP.out HB.out.size (by simp)).mono ?_
  rintro e w2 ⟨he2, hg2⟩
  have HB2 := Lib.hid (below_ownS HB.out HO.out HB.out.size hg2)
  clear hg2
  rw [show mayE ent ([] ++ [nonce] ++ [person]) = er from her.symm] at he2
  subst he2
  clear her
  go_wp2
  go_ret2
  exact ⟨rfl, HB2.out⟩
/-- Texts that lay below a world's end, in a row made later: none lies in a block made since. -/
theorem parts_far3 {w W : World} {g G : Nat} {t : TypeId} {a a' a2 : Option Addr} {n c n' c' n2 c2 : Nat} {l l' l2 : List UInt8} (h : Txt w a n c l) (h' : Txt w a' n' c' l') (h2 : Txt w a2 n2 c2 l2) (hw : Below w.heap.size w W) (hG : w.heap.size ≤ G) (hg : g ≠ G) (hb : Blk W g #[.slice a n c, .slice a' n' c', .slice a2 n2 c2] t) : Parts W (fun b => b ≠ G ∧ b < W.heap.size) (some ⟨g, 0, none⟩) [l, l', l2] := fun i hi => by
  have far : ∀ {a : Option Addr} {n c : Nat} {l : List UInt8}, Txt w a n c l → ∀ b o, a = some ⟨b, o, none⟩ → 0 < l.length → b ≠ G ∧ b < W.heap.size := fun h b o e h0 => by
    have h1 := h.old b o e h0
    have h2 := hw.size
    omega
  have : i = 0 ∨ i = 1 ∨ i = 2 := by simp at hi; omega
  rcases this with rfl | rfl | rfl
  · exact ⟨g, 0, a, n, c, rfl, ⟨hg, hb.lt⟩, hb.cell 0 rfl, h.len, h.fit, (h.on hw).rd, far h⟩
  · exact ⟨g, 0, a', n', c', rfl, ⟨hg, hb.lt⟩, hb.cell 1 rfl, h'.len, h'.fit, (h'.on hw).rd, far h'⟩
  · exact ⟨g, 0, a2, n2, c2, rfl, ⟨hg, hb.lt⟩, hb.cell 2 rfl, h2.len, h2.fit, (h2.on hw).rd, far h2⟩
theorem mayE_len {ent : List UInt8} {ls : List (List UInt8)} (h : mayE ent ls = 0) : 32 ≤ ent.length ∧ ent.length ≤ 4096 ∧ ∀ l ∈ ls, l.length ≤ 4096 := by
  unfold mayE at h
  by_cases h1 : ent.length < 32
  · rw [if_pos h1] at h; omega
  · rw [if_neg h1] at h
    by_cases h2 : fewOf 4096 (ls ++ [ent]) = true
    · simp only [fewOf, List.all_eq_true, decide_eq_true_eq] at h2
      exact ⟨by omega, h2 ent (by simp), fun l hl => h2 l (by simp [hl])⟩
    · rw [if_neg h2] at h; omega
set_option maxRecDepth 100000 in
set_option maxHeartbeats 1000000 in
theorem dnew_walk (ent nonce person : List UInt8) (a b c0 : Option Addr) (n c m d p q : Nat) (w : World) (hE : Txt w a n c ent) (hN : Txt w b m d nonce) (hP : Txt w c0 p q person) (hT : Two w) (he : mayE ent [nonce, person] = 0) :
    Calls Tryd.prog 58 #[.slice a n c, .slice b m d, .slice c0 p q] w fun e w' => ∃ G, e = .returned (.tuple #[.pointer (some ⟨G, 0, none⟩), .int .i64 0]) ∧ w.heap.size ≤ G ∧ DAt w' G (updK z32 (ones 32) (ent ++ (nonce ++ person))) (updV z32 (ones 32) (ent ++ (nonce ++ person))) 1 ∧ Below w.heap.size w w' := by
  have hb := below_one' w (.cells #[.slice b m d, .slice c0 p q] 28)
  have HE := Lib.hid (hE.on hb)
  have HP := Lib.hid ((((Pcs.nil w).snoc hN).snoc hP).on hb)
  have HO := Lib.hid (OwnS.of_blk (xs := [.slice b m d, .slice c0 p q]) (Blk.new w #[.slice b m d, .slice c0 p q] 28) (Nat.le_refl _) (by simp [maxLen]))
  have HB := Lib.hid hb
  have HEw := Lib.hid hE
  have HNw := Lib.hid hN
  have HPw := Lib.hid hP
  have HTw := Lib.hid hT
  have HLen := Lib.hid (mayE_len he)
  clear hE hN hP hb hT
  go_enter Tryd.func58, Tryd.ntmps58
  go_wp2_with fail
  refine (may_walk ent _ _ _ _ _ _ _ _ w.heap.size _ HE.out HO.out HP.out HB.out.size (by simp)).mono ?_
  rintro e w2 ⟨he2, hg2⟩
  have HB2 := Lib.hid (below_ownS HB.out HO.out HB.out.size hg2)
  clear hg2
  rw [show mayE ent ([] ++ [nonce] ++ [person]) = 0 from he] at he2
  subst he2
  clear he HE HP HO HB
  go_wp2
  obtain ⟨G, hG⟩ : ∃ G, G = w2.heap.size := ⟨_, rfl⟩
  simp only [← hG]
  go_loopw [21] (fun x wr => ∃ k : Nat, k ≤ 32 ∧ x = .int .i64 (k : Nat) ∧ Blk wr G (dcells z32 (ones k) 1) 155 ∧ Below w.heap.size w wr) (fun x _ => 32 - (intOf x).toNat)
  case atStart => exact ⟨0, Nat.zero_le _, rfl, by rw [hG]; exact Blk.new w2 _ _, HB2.out.trans ((below_one' w2 _).mono HB2.out.size)⟩
  case round =>
    obtain ⟨k, hk, rfl, hp, hb⟩ := hrel
    have HGG := Lib.hid hG
    clear hG
    by_cases hlt : k < 32
    · have c0 := hp.cell (33 + k) (dcells_v (by rfl) (ones_len k hk) k hlt |>.trans (List.getElem?_eq_getElem (by rw [List.length_map, ones_len k hk]; exact hlt)))
      have c1 := hp.free (33 + k)
      have HP := Lib.hid hp
      have HBk := Lib.hid hb
      clear hp hb
      go_wp2
      go_roundw
      case rel =>
        refine ⟨k + 1, by omega, by go_num, ?_, below_setCell HBk.out (by rw [HGG.out]; exact HB2.out.size) _⟩
        have h := HP.out.set (33 + k) (bv 1)
        rw [dcells_set_v z32 (ones k) 1 (by rfl) (ones_len k hk) k hlt, ones_step k hlt] at h
        exact h
      case measure => simp [intOf]; omega
    · have HK := Lib.hid (show k = 32 by omega)
      have HD := Lib.hid (DAt.mk (k := z32) (v := ones k) (cnt := 1) (by rfl) (ones_len k hk) hp)
      have HBk := Lib.hid hb
      have hbn := below_one' wr (.cells #[.slice a n c, .slice b m d, .slice c0 p q] 28)
      have HBn := Lib.hid hbn
      have hGw : w.heap.size ≤ G := by rw [HGG.out]; exact HB2.out.size
      have HGw := Lib.hid hGw
      have HPP := Lib.hid (parts_far3 (G := G) HEw.out HNw.out HPw.out (hb.trans (hbn.mono hb.size)) hGw (by have := hp.lt; omega) (Blk.new wr #[.slice a n c, .slice b m d, .slice c0 p q] 28))
      have HT := Lib.hid (HTw.out.on (hb.trans (hbn.mono hb.size)))
      clear hp hb hbn hGw
      go_wp2_with fail
      refine (update_walk z32 (ones k) 1 G [ent, nonce, person] _ 3 3 rfl _ (HD.out.on HBn.out) HPP.out HT.out (by have := HTw.out.tab.lt; have := HGw.out; omega) (by have := HTw.out.sta.lt; have := HGw.out; omega) (by simp) (by have h := HLen.out; have h1 := h.2.2 nonce (by simp); have h2 := h.2.2 person (by simp); simp; omega)).mono ?_
      rintro e w3 ⟨rfl, hg3, hD3⟩
      have HD3 := Lib.hid hD3
      have HB3 := Lib.hid (below_grown (HBk.out.trans (HBn.out.mono HBk.out.size)) hg3 HGw.out (HBk.out.trans (HBn.out.mono HBk.out.size)).size)
      clear hg3 hD3
      go_wp2
      go_ret2
      refine ⟨G, rfl, HGw.out, ?_, HB3.out⟩
      have h := HD3.out
      rw [HK.out] at h
      simpa using h
end Go.Proofs.YtgbahfggnbpnmaaDoor
