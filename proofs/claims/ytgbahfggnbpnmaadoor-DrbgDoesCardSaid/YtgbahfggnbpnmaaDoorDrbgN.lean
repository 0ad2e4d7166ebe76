import Derived.Test.YtgbahfggnbpnmaaDoorDrbgU
import Derived.Test.YtgbahfggnbpnmaaDoorDrbgP
/-
  drbg.New.
-/
namespace Go.Proofs.YtgbahfggnbpnmaaDoor
open Go.RowKit
def z32 : List UInt8 := List.replicate 32 0
def ones (k : Nat) : List UInt8 := List.replicate k 1 ++ List.replicate (32 - k) 0
theorem ones_len (k : Nat) (h : k ≤ 32) : (ones k).length = 32 := by simp [ones]; omega
theorem dcells_set_v (kk v : List UInt8) (cnt : Int) (hk : kk.length = 32) (hv : v.length = 32) (i : Nat) (hi : i < 32) (x : UInt8) : (dcells kk v cnt).setIfInBounds (33 + i) (bv x) = dcells kk (v.set i x) cnt := by
  simp only [dcells, dlist, List.setIfInBounds_toArray, show 33 + i = (32 + i) + 1 by omega, List.set_cons_succ]
  rw [List.set_append_right _ _ (by simp [hk]), List.set_append_left _ _ (by simp [hk, hv]; omega)]
  simp [hk, List.map_set]
theorem ones_step (k : Nat) (h : k < 32) : (ones k).set k 1 = ones (k + 1) := by
  unfold ones
  rw [show 32 - k = (32 - (k + 1)) + 1 by omega, List.replicate_succ, List.set_append_right _ _ (by simp), List.replicate_succ' (n := k)]
  simp
set_option maxRecDepth 100000 in
set_option maxHeartbeats 1000000 in
theorem dnew_err (ent nonce person : List UInt8) (a b c0 : Option Addr) (n c m d p q : Nat) (w : World) (hE : Txt w a n c ent) (hN : Txt w b m d nonce) (hP : Txt w c0 p q person) (he : mayE ent [nonce, person] ≠ 0) :
    Calls Tryd.prog 58 #[.slice a n c, .slice b m d, .slice c0 p q] w fun e w' => e = .returned (.tuple #[.pointer none, .int .i64 (mayE ent [nonce, person])]) ∧ Below w.heap.size w w' := by
  have hb := below_one' w (.cells #[.slice b m d, .slice c0 p q] 28)
  have HE := Lib.hid (hE.on hb)
  have HP := Lib.hid ((((Pcs.nil w).snoc hN).snoc hP).on hb)
  have HO := Lib.hid (OwnS.of_blk (xs := [.slice b m d, .slice c0 p q]) (Blk.new w #[.slice b m d, .slice c0 p q] 28) (Nat.le_refl _) (by simp [maxLen]))
  have HB := Lib.hid hb
  clear hE hN hP hb
  obtain ⟨er, her⟩ : ∃ z, z = mayE ent [nonce, person] := ⟨_, rfl⟩
  rw [← her] at he ⊢
  go_enter Tryd.func58, Tryd.ntmps58
  go_wp2_with fail
  refine (may_walk ent _ _ _ _ _ _ _ _ w.heap.size _ HE.out HO.out HP.out HB.out.size (by simp)).mono ?_
  rintro e w2 ⟨he2, hg2⟩
  have HB2 := Lib.hid (below_ownS HB.out HO.out HB.out.size hg2)
  clear hg2
  rw [show mayE ent ([] ++ [nonce] ++ [person]) = er from her.symm] at he2
  subst he2
  clear her
  go_wp2
  go_ret2
  exact ⟨rfl, HB2.out⟩
/-- Texts that lay below a world's end, in a row made later: none lies in a block made since. -/
theorem parts_far3 {w W : World} {g G : Nat} {t : TypeId} {a a' a2 : Option Addr} {n c n' c' n2 c2 : Nat} {l l' l2 : List UInt8} (h : Txt w a n c l) (h' : Txt w a' n' c' l') (h2 : Txt w a2 n2 c2 l2) (hw : Below w.heap.size w W) (hG : w.heap.size ≤ G) (hg : g ≠ G) (hb : Blk W g #[.slice a n c, .slice a' n' c', .slice a2 n2 c2] t) : Parts W (fun b => b ≠ G ∧ b < W.heap.size) (some ⟨g, 0, none⟩) [l, l', l2] := fun i hi => by
  have far : ∀ {a : Option Addr} {n c : Nat} {l : List UInt8}, Txt w a n c l → ∀ b o, a = some ⟨b, o, none⟩ → 0 < l.length → b ≠ G ∧ b < W.heap.size := fun h b o e h0 => by
    have h1 := h.old b o e h0
    have h2 := hw.size
    omega
  have : i = 0 ∨ i = 1 ∨ i = 2 := by simp at hi; omega
  rcases this with rfl | rfl | rfl
  · exact ⟨g, 0, a, n, c, rfl, ⟨hg, hb.lt⟩, hb.cell 0 rfl, h.len, h.fit, (h.on hw).rd, far h⟩
  · exact ⟨g, 0, a', n', c', rfl, ⟨hg, hb.lt⟩, hb.cell 1 rfl, h'.len, h'.fit, (h'.on hw).rd, far h'⟩
  · exact ⟨g, 0, a2, n2, c2, rfl, ⟨hg, hb.lt⟩, hb.cell 2 rfl, h2.len, h2.fit, (h2.on hw).rd, far h2⟩
theorem mayE_len {ent : List UInt8} {ls : List (List UInt8)} (h : mayE ent ls = 0) : 32 ≤ ent.length ∧ ent.length ≤ 4096 ∧ ∀ l ∈ ls, l.length ≤ 4096 := by
  unfold mayE at h
  by_cases h1 : ent.length < 32
  · rw [if_pos h1] at h; omega
  · rw [if_neg h1] at h
    by_cases h2 : fewOf 4096 (ls ++ [ent]) = true
    · simp only [fewOf, List.all_eq_true, decide_eq_true_eq] at h2
      exact ⟨by omega, h2 ent (by simp), fun l hl => h2 l (by simp [hl])⟩
    · rw [if_neg h2] at h; omega
set_option maxRecDepth 100000 in
set_option maxHeartbeats 1000000 in
theorem dnew_walk (ent nonce person : List UInt8) (a b c0 : Option Addr) (n c m d p q : Nat) (w : World) (hE : Txt w a n c ent) (hN : Txt w b m d nonce) (hP : Txt w c0 p q person) (hT : Two w) (he : mayE ent [nonce, person] = 0) :
    Calls Tryd.prog 58 #[.slice a n c, .slice b m d, .slice c0 p q] w fun e w' => ∃ G, e = .returned (.tuple #[.pointer (some ⟨G, 0, none⟩), .int .i64 0]) ∧ w.heap.size ≤ G ∧ DAt w' G (updK z32 (ones 32) (ent ++ (nonce ++ person))) (updV z32 (ones 32) (ent ++ (nonce ++ person))) 1 ∧ Below w.heap.size w w' := by
  have hb := below_one' w (.cells #[.slice b m d, .slice c0 p q] 28)
  have HE := Lib.hid (hE.on hb)
  have HP := Lib.hid ((((Pcs.nil w).snoc hN).snoc hP).on hb)
  have HO := Lib.hid (OwnS.of_blk (xs := [.slice b m d, .slice c0 p q]) (Blk.new w #[.slice b m d, .slice c0 p q] 28) (Nat.le_refl _) (by simp [maxLen]))
  have HB := Lib.hid hb
  have HEw := Lib.hid hE
  have HNw := Lib.hid hN
  have HPw := Lib.hid hP
  have HTw := Lib.hid hT
  have HLen := Lib.hid (mayE_len he)
  clear hE hN hP hb hT
  go_enter Tryd.func58, Tryd.ntmps58
  go_wp2_with fail
  refine (may_walk ent _ _ _ _ _ _ _ _ w.heap.size _ HE.out HO.out HP.out HB.out.size (by simp)).mono ?_
  rintro e w2 ⟨he2, hg2⟩
  have HB2 := Lib.hid (below_ownS HB.out HO.out HB.out.size hg2)
  clear hg2
  rw [show mayE ent ([] ++ [nonce] ++ [person]) = 0 from he] at he2
  subst he2
  clear he HE HP HO HB
  go_wp2
  obtain ⟨G, hG⟩ : ∃ G, G = w2.heap.size := ⟨_, rfl⟩
  simp only [← hG]
  go_loopw [21] (fun x wr => ∃ k : Nat, k ≤ 32 ∧ x = .int .i64 (k : Nat) ∧ Blk wr G (dcells z32 (ones k) 1) 155 ∧ Below w.heap.size w wr) (fun x _ => 32 - (intOf x).toNat)
  case atStart => exact ⟨0, Nat.zero_le _, rfl, by rw [hG]; exact Blk.new w2 _ _, HB2.out.trans ((below_one' w2 _).mono HB2.out.size)⟩
  case round =>
    obtain ⟨k, hk, rfl, hp, hb⟩ := hrel
    have HGG := Lib.hid hG
    clear hG
    by_cases hlt : k < 32
    · have c0 := hp.cell (33 + k) (dcells_v (by rfl) (ones_len k hk) k hlt |>.trans (List.getElem?_eq_getElem (by rw [List.length_map, ones_len k hk]; exact hlt)))
      have c1 := hp.free (33 + k)
      have HP := Lib.hid hp
      have HBk := Lib.hid hb
      clear hp hb
      go_wp2
      go_roundw
      case rel =>
        refine ⟨k + 1, by omega, by go_num, ?_, below_setCell HBk.out (by rw [HGG.out]; exact HB2.out.size) _⟩
        have h := HP.out.set (33 + k) (bv 1)
        rw [dcells_set_v z32 (ones k) 1 (by rfl) (ones_len k hk) k hlt, ones_step k hlt] at h
        exact h
      case measure => simp [intOf]; omega
    · have HK := Lib.hid (show k = 32 by omega)
      have HD := Lib.hid (DAt.mk (k := z32) (v := ones k) (cnt := 1) (by rfl) (ones_len k hk) hp)
      have HBk := Lib.hid hb
      have hbn := below_one' wr (.cells #[.slice a n c, .slice b m d, .slice c0 p q] 28)
      have HBn := Lib.hid hbn
      have hGw : w.heap.size ≤ G := by rw [HGG.out]; exact HB2.out.size
      have HGw := Lib.hid hGw
      have HPP := Lib.hid (parts_far3 (G := G) HEw.out HNw.out HPw.out (hb.trans (hbn.mono hb.size)) hGw (by have := hp.lt; omega) (Blk.new wr #[.slice a n c, .slice b m d, .slice c0 p q] 28))
      have HT := Lib.hid (HTw.out.on (hb.trans (hbn.mono hb.size)))
      clear hp hb hbn hGw
      go_wp2_with fail
      refine (update_walk z32 (ones k) 1 G [ent, nonce, person] _ 3 3 rfl _ (HD.out.on HBn.out) HPP.out HT.out (by have := HTw.out.tab.lt; have := HGw.out; omega) (by have := HTw.out.sta.lt; have := HGw.out; omega) (by simp) (by have h := HLen.out; have h1 := h.2.2 nonce (by simp); have h2 := h.2.2 person (by simp); simp; omega)).mono ?_
      rintro e w3 ⟨rfl, hg3, hD3⟩
      have HD3 := Lib.hid hD3
      have HB3 := Lib.hid (below_grown (HBk.out.trans (HBn.out.mono HBk.out.size)) hg3 HGw.out (HBk.out.trans (HBn.out.mono HBk.out.size)).size)
      clear hg3 hD3
      go_wp2
      go_ret2
      refine ⟨G, rfl, HGw.out, ?_, HB3.out⟩
      have h := HD3.out
      rw [HK.out] at h
      simpa using h
end Go.Proofs.YtgbahfggnbpnmaaDoor
/-
  (*Drbg).Reseed.
-/
namespace Go.Proofs.YtgbahfggnbpnmaaDoor
open Go.RowKit
theorem parts_far2 {w W : World} {g G : Nat} {t : TypeId} {a a' : Option Addr} {n c n' c' : Nat} {l l' : List UInt8} (h : Txt w a n c l) (h' : Txt w a' n' c' l') (f : ∀ b o, a = some ⟨b, o, none⟩ → 0 < l.length → b ≠ G) (f' : ∀ b o, a' = some ⟨b, o, none⟩ → 0 < l'.length → b ≠ G) (hw : Below w.heap.size w W) (hg : g ≠ G) (hb : Blk W g #[.slice a n c, .slice a' n' c'] t) : Parts W (fun b => b ≠ G ∧ b < W.heap.size) (some ⟨g, 0, none⟩) [l, l'] := fun i hi => by
  have hs := hw.size
  have : i = 0 ∨ i = 1 := by simp at hi; omega
  rcases this with rfl | rfl
  · exact ⟨g, 0, a, n, c, rfl, ⟨hg, hb.lt⟩, hb.cell 0 rfl, h.len, h.fit, (h.on hw).rd, fun b o e h0 => ⟨f b o e h0, Nat.lt_of_lt_of_le (h.old b o e h0) hs⟩⟩
  · exact ⟨g, 0, a', n', c', rfl, ⟨hg, hb.lt⟩, hb.cell 1 rfl, h'.len, h'.fit, (h'.on hw).rd, fun b o e h0 => ⟨f' b o e h0, Nat.lt_of_lt_of_le (h'.old b o e h0) hs⟩⟩
theorem parts_far1 {w W : World} {g G : Nat} {t : TypeId} {a : Option Addr} {n c : Nat} {l : List UInt8} (h : Txt w a n c l) (f : ∀ b o, a = some ⟨b, o, none⟩ → 0 < l.length → b ≠ G) (hw : Below w.heap.size w W) (hg : g ≠ G) (hb : Blk W g #[.slice a n c] t) : Parts W (fun b => b ≠ G ∧ b < W.heap.size) (some ⟨g, 0, none⟩) [l] := fun i hi => by
  have hs := hw.size
  have : i = 0 := by simp at hi; omega
  subst this
  exact ⟨g, 0, a, n, c, rfl, ⟨hg, hb.lt⟩, hb.cell 0 rfl, h.len, h.fit, (h.on hw).rd, fun b o e h0 => ⟨f b o e h0, Nat.lt_of_lt_of_le (h.old b o e h0) hs⟩⟩
/-- A text that lies in no piece of a state's block. -/
def Off (a : Option Addr) (l : List UInt8) (G : Nat) : Prop := ∀ b o, a = some ⟨b, o, none⟩ → 0 < l.length → b ≠ G
theorem Txt.off {w w' : World} {a : Option Addr} {n c G : Nat} {l : List UInt8} (h : Txt w a n c l) (hg : w.grownBy w' (some G)) (ho : Off a l G) : Txt w' a n c l :=
  ⟨h.len, h.fit, Rd.grown' h.rd hg (fun h0 b o e => by have := ho b o e (by simpa using h0); simpa using this), fun b o e h0 => Nat.lt_of_lt_of_le (h.old b o e h0) hg.size⟩
set_option maxRecDepth 100000 in
set_option maxHeartbeats 1000000 in
theorem reseed_err (k v : List UInt8) (cnt : Int) (G : Nat) (ent add : List UInt8) (a b : Option Addr) (n c m d : Nat) (w : World) (hD : DAt w G k v cnt) (hE : Txt w a n c ent) (hA : Txt w b m d add) (he : mayE ent [add] ≠ 0) :
    Calls Tryd.prog 61 #[.pointer (some ⟨G, 0, none⟩), .slice a n c, .slice b m d] w fun e w' => e = .returned (.int .i64 (mayE ent [add])) ∧ Below w.heap.size w w' := by
  have hb := below_one' w (.cells #[.slice b m d] 28)
  have HD := Lib.hid hD
  have HE := Lib.hid (hE.on hb)
  have HP := Lib.hid (((Pcs.nil w).snoc hA).on hb)
  have HO := Lib.hid (OwnS.of_blk (xs := [.slice b m d]) (Blk.new w #[.slice b m d] 28) (Nat.le_refl _) (by simp [maxLen]))
  have HB := Lib.hid hb
  clear hE hA hb hD
  obtain ⟨er, her⟩ : ∃ z, z = mayE ent [add] := ⟨_, rfl⟩
  rw [← her] at he ⊢
  go_enter Tryd.func61, Tryd.ntmps61
  go_wp2_with (go_at_call 115; refine (dnone_at HD.out).mono ?_; rintro e w' ⟨rfl, rfl⟩)
  refine (may_walk ent _ _ _ _ _ _ _ _ w.heap.size _ HE.out HO.out HP.out HB.out.size (by simp)).mono ?_
  rintro e w2 ⟨he2, hg2⟩
  have HB2 := Lib.hid (below_ownS HB.out HO.out HB.out.size hg2)
  clear hg2
  rw [show mayE ent ([] ++ [add]) = er from her.symm] at he2
  subst he2
  clear her
  go_wp2
  go_ret
  exact ⟨rfl, HB2.out⟩
set_option maxRecDepth 100000 in
set_option maxHeartbeats 1000000 in
theorem reseed_walk (k v : List UInt8) (cnt : Int) (G : Nat) (ent add : List UInt8) (a b : Option Addr) (n c m d : Nat) (w : World) (hD : DAt w G k v cnt) (hE : Txt w a n c ent) (hA : Txt w b m d add) (fE : Off a ent G) (fA : Off b add G) (hT : Two w) (h1 : G ≠ 0) (h2 : G ≠ 1) (he : mayE ent [add] = 0) :
    Calls Tryd.prog 61 #[.pointer (some ⟨G, 0, none⟩), .slice a n c, .slice b m d] w fun e w' => e = .returned (.int .i64 0) ∧ w.grownBy w' (some G) ∧ DAt w' G (updK k v (ent ++ add)) (updV k v (ent ++ add)) 1 := by
  have hb := below_one' w (.cells #[.slice b m d] 28)
  have HD := Lib.hid hD
  have HE := Lib.hid (hE.on hb)
  have HP := Lib.hid (((Pcs.nil w).snoc hA).on hb)
  have HO := Lib.hid (OwnS.of_blk (xs := [.slice b m d]) (Blk.new w #[.slice b m d] 28) (Nat.le_refl _) (by simp [maxLen]))
  have HB := Lib.hid hb
  have HEw := Lib.hid hE
  have HAw := Lib.hid hA
  have HFE := Lib.hid fE
  have HFA := Lib.hid fA
  have HTw := Lib.hid hT
  have HG1 := Lib.hid h1
  have HG2 := Lib.hid h2
  have HLen := Lib.hid (mayE_len he)
  clear hE hA hb hD hT fE fA h1 h2
  go_enter Tryd.func61, Tryd.ntmps61
  go_wp2_with (go_at_call 115; refine (dnone_at HD.out).mono ?_; rintro e w' ⟨rfl, rfl⟩)
  refine (may_walk ent _ _ _ _ _ _ _ _ w.heap.size _ HE.out HO.out HP.out HB.out.size (by simp)).mono ?_
  rintro e w2 ⟨he2, hg2⟩
  have HB2 := Lib.hid (below_ownS HB.out HO.out HB.out.size hg2)
  clear hg2
  rw [show mayE ent ([] ++ [add]) = 0 from he] at he2
  subst he2
  clear he HE HP HO HB
  have hbn := below_one' w2 (.cells #[.slice a n c, .slice b m d] 28)
  have hb3 := HB2.out.trans (hbn.mono HB2.out.size)
  have HB3 := Lib.hid hb3
  have HD3 := Lib.hid (HD.out.on hb3)
  have HP3 := Lib.hid (parts_far2 (G := G) HEw.out HAw.out HFE.out HFA.out hb3 (by have := HD.out.blk.lt; have := HB2.out.size; omega) (Blk.new w2 #[.slice a n c, .slice b m d] 28))
  have HT3 := Lib.hid (HTw.out.on hb3)
  clear hbn hb3
  go_wp2_with fail
  refine (update_walk k v cnt G [ent, add] _ 2 2 rfl _ HD3.out HP3.out HT3.out HG1.out HG2.out (by simp) (by have h := HLen.out; have h1 := h.2.2 add (by simp); simp; omega)).mono ?_
  rintro e w3 ⟨rfl, hg3, hD3⟩
  have hg := grownBy_trans (grownBy_of_below HB3.out) hg3
  have HD4 := Lib.hid hD3
  have HGR := Lib.hid hg
  have c0 := hD3.blk.cell 65 (dcells_cnt hD3.kl hD3.vl)
  have c1 := hD3.blk.free 65
  clear hg3 hD3 hg
  go_wp2
  go_ret
  refine ⟨rfl, grownBy_set HGR.out _ _, ?_⟩
  have h := HD4.out.blk.set 65 (.int .i64 1)
  rw [dcells_set_cnt HD4.out.kl HD4.out.vl] at h
  simp only [List.flatten_cons, List.flatten_nil, List.append_nil] at h
  exact ⟨updK_len _ _ _, updV_len _ _ _, h⟩
end Go.Proofs.YtgbahfggnbpnmaaDoor
/-
  What Draw draws, as plain Lean; room for a text.
-/
namespace Go.Proofs.YtgbahfggnbpnmaaDoor
open Go.RowKit
def genV (k v : List UInt8) : Nat → List UInt8
  | 0 => v
  | j + 1 => macL k (genV k v j)
def genO (k v : List UInt8) : Nat → List UInt8
  | 0 => []
  | j + 1 => genO k v j ++ genV k v (j + 1)
theorem genV_len {k v : List UInt8} (hv : v.length = 32) (j : Nat) : (genV k v j).length = 32 := by
  cases j with
  | zero => exact hv
  | succ j => exact macL_len _ _
theorem genO_len (k v : List UInt8) (j : Nat) : (genO k v j).length = 32 * j := by
  induction j with
  | zero => rfl
  | succ j ih =>
    have : (genV k v (j + 1)).length = 32 := macL_len _ _
    simp only [genO, List.length_append, ih, this]; omega
theorem genO_pre (k v : List UInt8) (j i : Nat) : (genO k v (j + i)).take (32 * j) = genO k v j := by
  induction i with
  | zero => exact List.take_of_length_le (by rw [Nat.add_zero, genO_len]; omega)
  | succ i ih =>
    show (genO k v (j + i) ++ genV k v (j + i + 1)).take (32 * j) = _
    rw [List.take_append_of_le_length (by rw [genO_len]; omega)]
    exact ih
def preK (k v add : List UInt8) : List UInt8 := if add = [] then k else updK k v add
def preV (k v add : List UInt8) : List UInt8 := if add = [] then v else updV k v add
theorem preK_len {k v add : List UInt8} (hk : k.length = 32) : (preK k v add).length = 32 := by unfold preK; split; exact hk; exact updK_len _ _ _
theorem preV_len {k v add : List UInt8} (hv : v.length = 32) : (preV k v add).length = 32 := by unfold preV; split; exact hv; exact updV_len _ _ _
def drawV (k v add : List UInt8) (n : Nat) : List UInt8 := genV (preK k v add) (preV k v add) (expN n)
def drawO (k v add : List UInt8) (n : Nat) : List UInt8 := (genO (preK k v add) (preV k v add) (expN n)).take n
def nextK (k v add : List UInt8) (n : Nat) : List UInt8 := updK (preK k v add) (drawV k v add n) add
def nextV (k v add : List UInt8) (n : Nat) : List UInt8 := updV (preK k v add) (drawV k v add n) add
theorem drawO_len (k v add : List UInt8) (n : Nat) : (drawO k v add n).length = n := by
  unfold drawO expN; rw [List.length_take, genO_len]; omega
theorem drawO_pre (k v add : List UInt8) {m n : Nat} (h : m ≤ n) : (drawO k v add n).take m = drawO k v add m := by
  unfold drawO
  rw [List.take_take, Nat.min_eq_left h]
  have e : expN n = expN m + (expN n - expN m) := by unfold expN; omega
  have h2 : m ≤ 32 * expN m := by unfold expN; omega
  have h3 := congrArg (List.take m) (genO_pre (preK k v add) (preV k v add) (expN m) (expN n - expN m))
  rw [List.take_take, Nat.min_eq_left h2, ← e] at h3
  exact h3
/-- Room for a text of the call's own. -/
theorem OwnB.room (w : World) {lo C : Nat} (hb : lo ≤ w.heap.size) (hm : C ≤ maxLen) (z : Value) : OwnB (w.alloc (.cells (Array.replicate C z) 5)) lo (.slice (some ⟨w.heap.size, 0, none⟩) 0 C) [] :=
  ⟨by simp, Or.inr ⟨w.heap.size, C, Array.replicate C z, rfl, hb, heap_alloc_new w _, Nat.zero_le _, hm, by simp, by simp⟩⟩
theorem under_u8s' : Tryd.prog.underlying 28 = some (.slice 5) := Tryd.underlying28
theorem slice_nn {w : World} {a : Option Addr} {n c k : Nat} {l : List UInt8} (h : Txt w a n c l) (h1 : k ≤ n) :
    ∃ C, (∀ W : World, (Instr.sliceAt 28 (.slice a n c) none (some (.int .i64 k)) (some (.int .i64 k))).run Tryd.prog W = .ok (.slice a k C) W) ∧ Txt w a k C (l.take k) := by
  have hf := h.fit
  have h2 := h.cut h1
  refine ⟨k, fun W => ?_, ⟨h2.len, Nat.le_refl _, h2.rd, h2.old⟩⟩
  rw [run_sliceAt_slice (h := under_u8s), run_slice_hm (ht := under_u8s) (h0 := by omega) (h2 := by omega) (h3 := by omega), elem_u8s, size_one]
  cases a with
  | none => simp [Result.andThen, sliced]
  | some a => simp [Result.andThen, sliced, Addr.add]
end Go.Proofs.YtgbahfggnbpnmaaDoor
/-
  (*Drbg).Clone; what a Drbg that no call made answers.
-/
namespace Go.Proofs.YtgbahfggnbpnmaaDoor
open Go.RowKit
theorem size_drbg : (Tryd.prog.info? 155).map (·.size) = some 66 := by kernel_rfl
theorem dcells_one (k v : List UInt8) (cnt : Int) : (dcells k v cnt).all (·.oneCell') = true := by
  simp [dcells, dlist, Value.oneCell']
set_option maxRecDepth 100000 in
set_option maxHeartbeats 1000000 in
theorem dclone_walk (k v : List UInt8) (cnt : Int) (G : Nat) (w : World) (hD : DAt w G k v cnt) :
    Calls Tryd.prog 67 #[.pointer (some ⟨G, 0, none⟩)] w fun e w' => e = .returned (.pointer (some ⟨w.heap.size, 0, none⟩)) ∧ DAt w' w.heap.size k v cnt ∧ Below w.heap.size w w' := by
  have HD := Lib.hid hD
  have h2 := hD.blk
  have HZ := Lib.hid (show (Tryd.prog.info? 155).map (·.size) = some (dcells k v cnt).size by rw [dcells_size hD.kl hD.vl]; exact size_drbg)
  have HZ2 := Lib.hid (show (66 : Nat) = (dcells k v cnt).size by rw [dcells_size hD.kl hD.vl])
  clear hD
  go_enter Tryd.func67, Tryd.ntmps67
  go_wp2_with (first | (go_at_call 115; refine (dnone_at HD.out).mono ?_; rintro e w' ⟨rfl, rfl⟩) | (refine wpList_load_row rfl 155 (.tmp 7) rfl G rfl 155 _ _ _ h2 Tryd.underlying155 rfl HZ.out ?_) | (refine wpList_store_abs rfl 155 (.tmp 3) (.tmp 8) rfl w.heap.size _ rfl rfl 155 _ (Blk.new w _ _) HZ.out HZ2.out (dcells_one _ _ _) ?_; intro W hW p5; have pb := hW.below ((Below.refl _ w).alloc (Nat.le_refl _) _) (Nat.le_refl _); clear hW))
  go_ret
  exact ⟨rfl, ⟨HD.out.kl, HD.out.vl, p5⟩, pb⟩
set_option maxRecDepth 100000 in
theorem dclone_nil (w : World) : Calls Tryd.prog 67 #[.pointer none] w fun e w' => e = .returned (.pointer none) ∧ w = w' := by
  go_enter Tryd.func67, Tryd.ntmps67
  go_wp2_with (go_at_call 115; refine (dnone_nil _).mono ?_; rintro e w' ⟨rfl, rfl⟩)
  go_ret
  exact ⟨rfl, rfl⟩
set_option maxRecDepth 100000 in
theorem dcount_nil (w : World) : Calls Tryd.prog 62 #[.pointer none] w fun e w' => e = .returned (.int .i64 0) ∧ w = w' := by
  go_enter Tryd.func62, Tryd.ntmps62
  go_wp2_with (go_at_call 115; refine (dnone_nil _).mono ?_; rintro e w' ⟨rfl, rfl⟩)
  go_ret
  exact ⟨rfl, rfl⟩
set_option maxRecDepth 100000 in
theorem dleft_nil (w : World) : Calls Tryd.prog 64 #[.pointer none] w fun e w' => e = .returned (.int .i64 0) ∧ w = w' := by
  go_enter Tryd.func64, Tryd.ntmps64
  go_wp2_with (go_at_call 115; refine (dnone_nil _).mono ?_; rintro e w' ⟨rfl, rfl⟩)
  go_ret
  exact ⟨rfl, rfl⟩
set_option maxRecDepth 100000 in
theorem dreseed_nil (x y : Value) (w : World) : Calls Tryd.prog 61 #[.pointer none, x, y] w fun e w' => e = .returned (.int .i64 2) ∧ w = w' := by
  go_enter Tryd.func61, Tryd.ntmps61
  go_wp2_with (go_at_call 115; refine (dnone_nil _).mono ?_; rintro e w' ⟨rfl, rfl⟩)
  go_ret
  exact ⟨rfl, rfl⟩
end Go.Proofs.YtgbahfggnbpnmaaDoor
