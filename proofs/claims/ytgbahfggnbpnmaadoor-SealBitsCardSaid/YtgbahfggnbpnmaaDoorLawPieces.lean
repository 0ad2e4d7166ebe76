import Derived.Test.YtgbahfggnbpnmaaDoorPieces
/-
  The walk of liverylaw02.Sha2Pieces.
-/
namespace Go.Proofs.YtgbahfggnbpnmaaDoor
open Go.RowKit
theorem OwnS.on {w w' : World} {lo : Nat} {v : Value} {xs : List Value} (h : OwnS w lo v xs) (hb : Below w.heap.size w w') : OwnS w' lo v xs := h.below hb
theorem OwnS.at_hash {w : World} {lo g : Nat} {v : Value} {xs : List Value} {m : List UInt8} (h : OwnS w lo v xs) (hH : HashAt w g m) : v.ownBlock = none ∨ v.ownBlock ≠ some g := by
  obtain ⟨st, rest, held, _, h2⟩ := hH
  exact h.at h2 (by decide)
theorem ne_own_of {v : Value} {g : Nat} (h : v.ownBlock = none ∨ v.ownBlock ≠ some g) : some g ≠ v.ownBlock := by
  rcases h with h | h
  · rw [h]; simp
  · exact fun e => h e.symm
theorem write_blk1 (X : World) (g G : Nat) (t : TypeId) {a : Option Addr} {n c : Nat} {m l : List UInt8} (hB : Blk X g #[.slice a n c] t) (hH : HashAt X G m) (h : Txt X a n c l) (hne : ∀ b o, a = some ⟨b, o, none⟩ → 0 < l.length → b ≠ G) (hT : Tab X) (hG : G ≠ 0) (hlen : m.length + l.length ≤ 4611686018427387904) (ht : t = 28 := by rfl) :
    Calls Tryd.prog 32 #[.pointer (some ⟨G, 0, none⟩), .slice (some ⟨g, 0, none⟩) 1 1] X fun e w' => e = .returned (.int .i64 0) ∧ X.grownBy w' (some G) ∧ HashAt w' G (m ++ l) := by
  have hgG : g ≠ G := by
    rintro rfl
    obtain ⟨st, rest, held, _, h2⟩ := hH
    have := (h2.inj hB).2
    rw [ht] at this
    exact absurd this (by decide)
  have hP : Parts X (· ≠ G) (some ⟨g, 0, none⟩) [l] := fun i hi => by
    have : i = 0 := by simp at hi; omega
    subst this
    exact ⟨g, 0, a, n, c, rfl, hgG, hB.cell 0 rfl, h.len, h.fit, h.rd, hne⟩
  refine (write_walk m [l] 1 1 rfl _ G _ hH hP hT hG (by simpa using hlen) (by simp)).mono ?_
  rintro e w' ⟨he, h1, h2⟩
  simp only [List.flatten_cons, List.flatten_nil, List.append_nil] at h2
  exact ⟨he, h1, h2⟩
theorem slice_lk {w : World} {a : Option Addr} {n c lo hi k : Nat} {l : List UInt8} (h : Txt w a n c l) (h1 : hi = lo + k) (h2 : hi ≤ n) :
    ∃ A C, (∀ W : World, (Instr.sliceAt 28 (.slice a n c) (some (.int .i64 lo)) (some (.int .i64 hi)) none).run Tryd.prog W = .ok (.slice A k C) W) ∧ Txt w A k C ((l.drop lo).take k) := by
  have := slice_lh h (show lo ≤ hi by omega) h2
  rw [show hi - lo = k by omega] at this
  exact this
theorem slice_lr {w : World} {a : Option Addr} {n c lo : Nat} {l : List UInt8} (h : Txt w a n c l) (h1 : lo ≤ n) :
    ∃ A k C, (∀ W : World, (Instr.sliceAt 28 (.slice a n c) (some (.int .i64 lo)) none none).run Tryd.prog W = .ok (.slice A k C) W) ∧ Txt w A k C (l.drop lo) := by
  obtain ⟨A, C, h2⟩ := slice_l h h1
  exact ⟨A, _, C, h2⟩
set_option maxRecDepth 100000 in
set_option maxHeartbeats 3000000 in
theorem sha2pieces_walk (text : List UInt8) (a : Option Addr) (n c : Nat) (zs : List Nat) (b : Option Addr) (m d : Nat) (w : World) (hX : Txt w a n c text) (hZ : NumsIn w .u16 b m d zs) (hz : ∀ i, i < zs.length → zs.getD i 0 < 65536) (hT : Two w) :
    Calls Tryd.prog 4 #[.slice a n c, .slice b m d] w fun e w' => e = .returned (.bool true) ∧ Below w.heap.size w w' := by
  have HX := Lib.hid hX
  have HZ := Lib.hid hZ
  have HZZ := Lib.hid hz
  have HT := Lib.hid hT
  have HTL := Lib.hid hT.tab.lt
  have HXN := Lib.hid hX.len
  have hmd : m ≤ d := hZ.2.1
  have hdm : d ≤ 9223372036854775807 := by have h := hZ.2.2.1; unfold maxLen at h; omega
  clear hX hZ hz hT
  by_cases hfew : fewB 3000 40 [text] = true
  · have HF := Lib.hid hfew
    have HXL := Lib.hid (few1_len hfew)
    have hn3 : n ≤ 3000 := by have h1 := few1_len hfew; have h2 := HXN.out; omega
    clear hfew
    obtain ⟨V, hV⟩ : ∃ V, V = sha text := ⟨_, rfl⟩
    have HVL := Lib.hid (show V.length = 32 by rw [hV]; exact sha_len _)
    have heq := eq_bytes 32 Tryd.underlying31 V V (by rw [hV]; exact sha_len _) (by rw [hV]; exact sha_len _)
    simp only [decide_true] at heq
    have HVE := Lib.hid hV
    clear hV
    go_enter Tryd.func4, Tryd.ntmps4
    go_wp2_with fail
    refine (live_walk _ HT.out).mono ?_
    rintro e w1 ⟨rfl, hb1⟩
    have HB1 := Lib.hid hb1
    clear hb1
    go_wp2_with fail
    refine (few_one w1 28 _ rfl (HX.out.on HB1.out) true HF.out).mono ?_
    rintro e w2 ⟨rfl, hw2⟩
    have HB2 := Lib.hid (by rw [hw2]; exact HB1.out.trans ((below_one' w1 _).mono HB1.out.size) : Below w.heap.size w w2)
    clear hw2
    go_wp2_with fail
    refine (sum_one w2 28 _ rfl (HX.out.on HB2.out) (HT.out.on HB2.out) (by have := HXL.out; omega)).mono ?_
    rintro e w3 ⟨he, hb3⟩
    rw [← HVE.out] at he
    subst he
    have HB3 := Lib.hid (HB2.out.trans (hb3.mono HB2.out.size))
    clear hb3
    go_wp2_with (refine wpList_store_abs rfl 31 (.tmp 5) (.tmp 23) rfl w3.heap.size (barr V) (by rfl) (by rfl) 31 _ (Blk.new w3 _ _) (by rw [barr_size, HVL.out]; exact size_u8x32) (by rw [barr_size, HVL.out]; rfl) (barr_one_all _) ?_; intro W5 hW5 p5; have HB5 := Lib.hid (hW5.below (HB3.out.trans ((below_one' w3 _).mono HB3.out.size)) HB3.out.size); have HS5 := Lib.hid p5; clear hW5 p5)
    refine (new_walk W5 (HT.out.on HB5.out).sta).mono ?_
    rintro e w6 ⟨rfl, hH6, hb6⟩
    obtain ⟨g5, hg5⟩ : ∃ g, g = w3.heap.size := ⟨_, rfl⟩
    obtain ⟨G, hG⟩ : ∃ g, g = W5.heap.size := ⟨_, rfl⟩
    rw [← hG] at hH6
    have HG6 := Lib.hid hH6
    have HS6 := Lib.hid (by have h := HS5.out.on hb6; rw [← hg5] at h; exact h)
    have HB6 := Lib.hid (HB5.out.trans (hb6.mono HB5.out.size))
    have HGw := Lib.hid (show w.heap.size ≤ G by rw [hG]; exact HB5.out.size)
    have HGg := Lib.hid (show g5 < G by rw [hG, hg5]; exact HS5.out.lt)
    clear hH6 hb6 HS5
    simp only [← hG, ← hg5]
    clear hG hg5
    by_cases h40 : 40 < m
    · have hcap : (40 : Int) ≤ (d : Int) := by omega
      go_wp2
      go_loopw [7, 8, 33] (fun x y z wr => ∃ (i at_ : Nat) (a7 : Option Addr) (n7 c7 : Nat) (xs : List Value) (ls : List (List UInt8)), i ≤ 40 ∧ x = .slice a7 n7 c7 ∧ y = .int .i64 (at_ : Nat) ∧ z = .int .i64 (i : Nat) ∧ at_ ≤ n ∧ Hid (Pcs w xs ls) ∧ Hid (ls.flatten = text.take at_) ∧ Hid (ls.length = i) ∧ OwnS wr w.heap.size (.slice a7 n7 c7) xs ∧ HashAt wr G (text.take at_) ∧ Blk wr g5 (barr V) 31 ∧ Below w.heap.size w wr) (fun _ _ z _ => 40 - (intOf z).toNat)
      case atStart => exact ⟨0, 0, none, 0, 0, [], [], Nat.zero_le _, rfl, rfl, rfl, Nat.zero_le _, Pcs.nil w, rfl, rfl, OwnS.nil _ _, HG6.out, HS6.out, HB6.out⟩
      case round =>
        clear HG6 HS6 HB6
        obtain ⟨i, at_, a7, n7, c7, xs, ls, hi, rfl, rfl, rfl, hat, HPc, HFl, HLn, hO, hH, hS, hb⟩ := hrel
        by_cases hlt : i < 40
        · obtain ⟨g1, o1, rfl, hc0, _⟩ := (HZ.out.on hb).2.2.2 i (by have := HZ.out.1; omega)
          obtain ⟨z, hzz⟩ : ∃ z, z = zs.getD i 0 := ⟨_, rfl⟩
          rw [← hzz] at hc0
          have hz6 : z < 65536 := by rw [hzz]; exact HZZ.out i (by have := HZ.out.1; omega)
          obtain ⟨k, hk⟩ : ∃ k, k = z % (n - at_ + 1) := ⟨_, rfl⟩
          have hkl : k < n - at_ + 1 := by rw [hk]; exact Nat.mod_lt _ (by omega)
          obtain ⟨hi2, hhi⟩ : ∃ h, h = at_ + k := ⟨_, rfl⟩
          have f0 : IntKind.i64.wrap ((z : Nat) : Int) = (z : Int) := IntWalk.i64_in _ (by omega)
          have f1 : IntKind.i64.wrap ((n : Int) - (at_ : Int)) = (n : Int) - (at_ : Int) := IntWalk.i64_in _ (by omega)
          have f2 : IntKind.i64.wrap ((n : Int) - (at_ : Int) + 1) = (n : Int) - (at_ : Int) + 1 := IntWalk.i64_in _ (by omega)
          have e2 : (n : Int) - (at_ : Int) + 1 = ((n - at_ + 1 : Nat) : Int) := by omega
          have f3 : (z : Int).tmod ((n : Int) - (at_ : Int) + 1) = (k : Int) := by rw [e2, hk]; rfl
          have f4 : (z : Int) % ((n : Int) - (at_ : Int) + 1) = (k : Int) := by rw [e2, hk]; rfl
          have f5 : ¬ (n : Int) - (at_ : Int) + 1 = 0 := by omega
          have f6 : (0 : Int) < (n : Int) - (at_ : Int) + 1 := by omega
          have f7 : (at_ : Int) + (k : Int) = (hi2 : Int) := by omega
          have f8 : IntKind.i64.wrap (hi2 : Int) = (hi2 : Int) := IntWalk.i64_in _ (by omega)
          have hh : hi2 ≤ n := by omega
          obtain ⟨A, C, hsl, hA⟩ := slice_lk HX.out hhi hh
          have HA := Lib.hid hA
          have HHI := Lib.hid hhi
          have HO := Lib.hid hO
          have HH := Lib.hid hH
          have HSS := Lib.hid hS
          have HB := Lib.hid hb
          have hO1 := Lib.hid (hO.on (below_one' wr (.cells #[.slice A k C] 28)))
          have hH1 := Lib.hid (hH.on (below_one' wr (.cells #[.slice A k C] 28)))
          have hS1 := Lib.hid (hS.on (below_one' wr (.cells #[.slice A k C] 28)))
          have hB1 := Lib.hid (hb.trans ((below_one' wr (.cells #[.slice A k C] 28)).mono hb.size))
          have hc1 := Lib.hid ((Blk.new wr #[.slice A k C] 28).cell 0 rfl)
          clear hA hhi hO hH hS hb e2 hk hzz
          go_wp2_with (refine wpList_append_slc rfl (.tmp 45) (.tmp 52) rfl w.heap.size _ xs rfl hO1.out wr.heap.size (.slice A k C) (by rfl) hc1.out rfl (by have h1 := HPc.out.1; have h2 := HLn.out; omega) hB1.out.size ?_; intro a8 n8 c8 w8 hO8 hg8; have HO8 := Lib.hid hO8; have HH8 := Lib.hid (hH1.out.grown hg8 (ne_own_of (hO1.out.at_hash hH1.out))); have HS8 := Lib.hid (hS1.out.grown hg8 (ne_own_of (hO1.out.at hS1.out (by decide)))); have HB8 := Lib.hid (below_ownS hB1.out hO1.out hB1.out.size hg8); clear hO8 hg8)
          refine (write_one w8 28 _ G rfl HH8.out (HA.out.on HB8.out) (fun b o e h0 => by have h1 := HA.out.old b o e h0; have h2 := HGw.out; omega) (HT.out.on HB8.out).tab (by have := HGw.out; have := HTL.out; omega) (by have := HXL.out; simp; omega)).mono ?_
          rintro e w9 ⟨rfl, hg9, hH9⟩
          have HO9 := Lib.hid (HO8.out.grown hg9 (HO8.out.at_hash HH8.out))
          have HS9 := Lib.hid (HS8.out.grown hg9 (by have := HGg.out; simp; omega))
          have HB9 := Lib.hid (below_grown HB8.out hg9 HGw.out HB8.out.size)
          have HTK := Lib.hid (show text.take at_ ++ (text.drop at_).take k = text.take hi2 by rw [HHI.out, ← List.take_add])
          have HH9 := Lib.hid (by rw [HTK.out] at hH9; exact hH9)
          clear hg9 hH9
          go_wp2
          go_roundw
          case rel =>
            refine ⟨i + 1, hi2, a8, n8, c8, xs ++ [.slice A k C], ls ++ [(text.drop at_).take k], by omega, rfl, rfl, by go_num, hh, Lib.hid (HPc.out.snoc HA.out), ?_, ?_, HO9.out, HH9.out, HS9.out, HB9.out⟩
            · show (ls ++ [(text.drop at_).take k]).flatten = _
              rw [List.flatten_append, HFl.out, ← HTK.out]; simp
            · show (ls ++ [(text.drop at_).take k]).length = _
              simp [HLn.out]
          case measure => simp [intOf]; omega
        · obtain ⟨A9, k9, C9, hsl, h9⟩ := slice_lr HX.out hat
          have T9 := Lib.hid h9
          have HP9 := Lib.hid (HPc.out.snoc h9)
          have HFL := Lib.hid (show (ls ++ [text.drop at_]).flatten = text by rw [List.flatten_append, HFl.out]; simp)
          have HTK := Lib.hid (show text.take at_ ++ text.drop at_ = text from List.take_append_drop _ _)
          have HLSN := Lib.hid (show ls.length ≤ 40 by have := HLn.out; omega)
          have hO1 := Lib.hid (hO.on (below_one' wr (.cells #[.slice A9 k9 C9] 28)))
          have hH1 := Lib.hid (hH.on (below_one' wr (.cells #[.slice A9 k9 C9] 28)))
          have hS1 := Lib.hid (hS.on (below_one' wr (.cells #[.slice A9 k9 C9] 28)))
          have hB1 := Lib.hid (hb.trans ((below_one' wr (.cells #[.slice A9 k9 C9] 28)).mono hb.size))
          have hc1 := Lib.hid ((Blk.new wr #[.slice A9 k9 C9] 28).cell 0 rfl)
          clear h9 hO hH hS hb
          go_wp2_with (refine wpList_append_slc rfl (.tmp 68) (.tmp 72) rfl w.heap.size _ xs rfl hO1.out wr.heap.size (.slice A9 k9 C9) (by rfl) hc1.out rfl (by have h1 := HPc.out.1; have h2 := HLn.out; omega) hB1.out.size ?_; intro a9 n9 c9 W9 hO8 hg8; have HO := Lib.hid hO8; have HG := Lib.hid (hH1.out.grown hg8 (ne_own_of (hO1.out.at_hash hH1.out))); have HS := Lib.hid (hS1.out.grown hg8 (ne_own_of (hO1.out.at hS1.out (by decide)))); have HBw := Lib.hid (below_ownS hB1.out hO1.out hB1.out.size hg8); clear hO8 hg8)
          clear hO1 hH1 hS1 hB1 hc1
          refine wp_region_held_drew (S := fun w' => Blk w' g5 (barr V) 31) (by kernel_rfl) HS.out (fun _ => ?_)
          have hb : Below W9.heap.size W9 (World.drew W9) := (Below.refl _ _).drew
          have HS := Lib.hid (HS.out.on hb)
          have HG := Lib.hid (HG.out.on hb)
          have HO := Lib.hid (HO.out.on hb)
          have HBw := Lib.hid (HBw.out.trans (hb.mono HBw.out.size))
          clear hb
          generalize World.drew W9 = v0 at *
          refine wpAnyH_take (i := 0) (oi := ⟨some 74, .move (.tmp 6), 33, _, _, none⟩) (v := .pointer (some ⟨G, 0, none⟩)) rfl (by kernel_rfl) (by kernel_rfl) (by kernel_rfl) (fun _ _ _ h => h) (Or.inl ⟨by rfl, fun _ _ => by go_simp⟩) HS.out ?_
          refine wpAnyH_take (i := 1) (oi := ⟨some 75, .move (.tmp 0), 28, _, _, none⟩) (v := .slice a n c) rfl (by kernel_rfl) (by kernel_rfl) (by kernel_rfl) (fun _ _ _ h => h) (Or.inl ⟨by rfl, fun _ _ => by go_simp⟩) HS.out ?_
          refine wpAnyH_take (i := 2) (oi := ⟨some 76, .move (.tmp 8), 3, _, _, none⟩) (v := .int .i64 (at_ : Nat)) rfl (by kernel_rfl) (by kernel_rfl) (by kernel_rfl) (fun _ _ _ h => h) (Or.inl ⟨by rfl, fun _ _ => by go_simp⟩) HS.out ?_
          refine wpAnyH_take (i := 3) (oi := ⟨some 77, .slice 28 (.tmp 75) (some (.tmp 76)) none none, 28, _, _, none⟩) (v := .slice A9 k9 C9) rfl (by kernel_rfl) (by kernel_rfl) (by kernel_rfl) (fun _ _ _ h => h) (Or.inl ⟨by rfl, fun _ _ => by go_simp⟩) HS.out ?_
          try simp only [Act.put, List.setIfInBounds_toArray, List.set_cons_succ, List.set_cons_zero]
          refine wpAnyH_ready (rs := [4]) (by kernel_rfl) (by simp) ?_
          refine AllReadyH.cons (o := ⟨some 78, .buildSlice 35 1 #[(0, .tmp 77)], 35, _, _, none⟩) rfl (fun K hK => ?_) AllReadyH.nil
          go_simp
          have BT := Blk.new v0 #[.slice A9 k9 C9] 28
          have hb := below_one' v0 (.cells #[.slice A9 k9 C9] 28)
          generalize World.alloc v0 _ = v1 at *
          have HS := Lib.hid (HS.out.on hb)
          have HG := Lib.hid (HG.out.on hb)
          have HO := Lib.hid (HO.out.on hb)
          have HBw := Lib.hid (HBw.out.trans (hb.mono HBw.out.size))
          replace BT := Lib.hid BT
          clear hb
          refine hK _ _ HS.out (fun _ => ?_)
          clear hK K
          try simp only [Act.put, List.setIfInBounds_toArray, List.set_cons_succ, List.set_cons_zero]
          refine wpAnyH_ready (rs := [5]) (by kernel_rfl) (by simp) ?_
          refine AllReadyH.cons (o := ⟨some 79, .call { callee := .value (.func 32), args := #[.tmp 74, .tmp 78], argTypes := #[33, 35] }, 37, _, _, none⟩) rfl (fun K hK => ?_) AllReadyH.nil
          go_simp
          refine (write_blk1 v1 _ G 28 BT.out HG.out (T9.out.on HBw.out) (fun b o e h0 => by have h1 := T9.out.old b o e h0; have h2 := HGw.out; omega) (HT.out.on HBw.out).tab (by have := HGw.out; have := HTL.out; omega) (by have := HXL.out; simp; omega)).mono ?_
          rintro e v2 ⟨rfl, hg, hH⟩
          have HO := Lib.hid (HO.out.grown hg (HO.out.at_hash HG.out))
          have HS := Lib.hid (HS.out.grown hg (by have := HGg.out; simp; omega))
          have HBw := Lib.hid (below_grown HBw.out hg HGw.out HBw.out.size)
          have HG := Lib.hid (by rw [HTK.out] at hH; exact hH)
          clear hg hH BT
          refine hK _ _ HS.out (fun _ => ?_)
          clear hK K
          refine wpAnyH_take (i := 6) (oi := ⟨some 80, .binOp .eql 37 (.tmp 79) (.const (.int .i64 0)) 37, 4, _, _, none⟩) (v := .bool true) rfl (by kernel_rfl) (by kernel_rfl) (by kernel_rfl) (fun _ _ _ h => h) (Or.inl ⟨by rfl, fun _ _ => by go_simp⟩) HS.out ?_
          refine wpAnyH_take (i := 7) (oi := ⟨some 81, .move (.tmp 80), 4, _, _, none⟩) (v := .bool true) rfl (by kernel_rfl) (by kernel_rfl) (by kernel_rfl) (fun _ _ _ h => h) (Or.inl ⟨by rfl, fun _ _ => by go_simp⟩) HS.out ?_
          refine wpAnyH_take (i := 8) (oi := ⟨some 82, .move (.tmp 6), 33, _, _, some (7, true)⟩) (v := .pointer (some ⟨G, 0, none⟩)) rfl (by kernel_rfl) (by kernel_rfl) (by kernel_rfl) (fun _ _ _ h => h) (Or.inl ⟨by rfl, fun _ _ => by go_simp⟩) HS.out ?_
          try simp only [Act.put, List.setIfInBounds_toArray, List.set_cons_succ, List.set_cons_zero]
          refine wpAnyH_take (i := 10) (oi := ⟨some 84, .load 31 (.tmp 5), 31, _, _, some (7, true)⟩) (v := .agg (barr V)) rfl (by kernel_rfl) (by kernel_rfl) (by kernel_rfl) (fun _ _ _ h => h) (Or.inl ⟨by rfl, fun vv hvv => yields_arr 31 (.tmp 5) rfl g5 rfl hvv _ Tryd.underlying31 rfl (by rw [barr_size, HVL.out]; exact size_u8x32)⟩) HS.out ?_
          try simp only [Act.put, List.setIfInBounds_toArray, List.set_cons_succ, List.set_cons_zero]
          refine wpAnyH_ready (rs := [9]) (by kernel_rfl) (by simp) ?_
          refine AllReadyH.cons (o := ⟨some 83, .call { callee := .value (.func 33), args := #[.tmp 82], argTypes := #[33] }, 31, _, _, some (7, true)⟩) rfl (fun K hK => ?_) AllReadyH.nil
          go_simp
          refine (sum_walk text (by have := HXL.out; omega) G v2 HG.out (HT.out.on HBw.out).tab (by have := HTL.out; have := HBw.out.size; omega)).mono ?_
          rintro e v3 ⟨he, hb⟩
          rw [← HVE.out] at he
          subst he
          have HS := Lib.hid (HS.out.on hb)
          have HG := Lib.hid (HG.out.on hb)
          have HO := Lib.hid (HO.out.on hb)
          have HBw := Lib.hid (HBw.out.trans (hb.mono HBw.out.size))
          clear hb
          refine hK _ _ HS.out (fun _ => ?_)
          clear hK K
          refine wpAnyH_take (i := 11) (oi := ⟨some 85, .binOp .eql 31 (.tmp 83) (.tmp 84) 31, 4, _, _, some (7, true)⟩) (v := .bool true) rfl (by kernel_rfl) (by kernel_rfl) (by kernel_rfl) (fun _ _ _ h => h) (Or.inl ⟨by rfl, fun _ _ => by go_simp⟩) HS.out ?_
          refine wpAnyH_take (i := 12) (oi := ⟨some 86, .pick (.tmp 81) (.tmp 85) (.const (.bool false)), 4, _, _, none⟩) (v := .bool true) rfl (by kernel_rfl) (by kernel_rfl) (by kernel_rfl) (fun _ _ _ h => h) (Or.inl ⟨by rfl, fun _ _ => by go_simp⟩) HS.out ?_
          refine wpAnyH_take (i := 13) (oi := ⟨some 87, .move (.tmp 86), 4, _, _, none⟩) (v := .bool true) rfl (by kernel_rfl) (by kernel_rfl) (by kernel_rfl) (fun _ _ _ h => h) (Or.inl ⟨by rfl, fun _ _ => by go_simp⟩) HS.out ?_
          refine wpAnyH_take (i := 14) (oi := ⟨some 88, .move (.tmp 6), 33, _, _, some (13, true)⟩) (v := .pointer (some ⟨G, 0, none⟩)) rfl (by kernel_rfl) (by kernel_rfl) (by kernel_rfl) (fun _ _ _ h => h) (Or.inl ⟨by rfl, fun _ _ => by go_simp⟩) HS.out ?_
          try simp only [Act.put, List.setIfInBounds_toArray, List.set_cons_succ, List.set_cons_zero]
          refine wpAnyH_take (i := 16) (oi := ⟨some 90, .load 31 (.tmp 5), 31, _, _, some (13, true)⟩) (v := .agg (barr V)) rfl (by kernel_rfl) (by kernel_rfl) (by kernel_rfl) (fun _ _ _ h => h) (Or.inl ⟨by rfl, fun vv hvv => yields_arr 31 (.tmp 5) rfl g5 rfl hvv _ Tryd.underlying31 rfl (by rw [barr_size, HVL.out]; exact size_u8x32)⟩) HS.out ?_
          try simp only [Act.put, List.setIfInBounds_toArray, List.set_cons_succ, List.set_cons_zero]
          refine wpAnyH_ready (rs := [15]) (by kernel_rfl) (by simp) ?_
          refine AllReadyH.cons (o := ⟨some 89, .call { callee := .value (.func 33), args := #[.tmp 88], argTypes := #[33] }, 31, _, _, some (13, true)⟩) rfl (fun K hK => ?_) AllReadyH.nil
          go_simp
          refine (sum_walk text (by have := HXL.out; omega) G v3 HG.out (HT.out.on HBw.out).tab (by have := HTL.out; have := HBw.out.size; omega)).mono ?_
          rintro e v4 ⟨he, hb⟩
          rw [← HVE.out] at he
          subst he
          have HS := Lib.hid (HS.out.on hb)
          have HG := Lib.hid (HG.out.on hb)
          have HO := Lib.hid (HO.out.on hb)
          have HBw := Lib.hid (HBw.out.trans (hb.mono HBw.out.size))
          clear hb
          refine hK _ _ HS.out (fun _ => ?_)
          clear hK K
          refine wpAnyH_take (i := 17) (oi := ⟨some 91, .binOp .eql 31 (.tmp 89) (.tmp 90) 31, 4, _, _, some (13, true)⟩) (v := .bool true) rfl (by kernel_rfl) (by kernel_rfl) (by kernel_rfl) (fun _ _ _ h => h) (Or.inl ⟨by rfl, fun _ _ => by go_simp⟩) HS.out ?_
          refine wpAnyH_take (i := 18) (oi := ⟨some 92, .pick (.tmp 87) (.tmp 91) (.const (.bool false)), 4, _, _, none⟩) (v := .bool true) rfl (by kernel_rfl) (by kernel_rfl) (by kernel_rfl) (fun _ _ _ h => h) (Or.inl ⟨by rfl, fun _ _ => by go_simp⟩) HS.out ?_
          refine wpAnyH_take (i := 19) (oi := ⟨some 93, .move (.tmp 92), 4, _, _, none⟩) (v := .bool true) rfl (by kernel_rfl) (by kernel_rfl) (by kernel_rfl) (fun _ _ _ h => h) (Or.inl ⟨by rfl, fun _ _ => by go_simp⟩) HS.out ?_
          refine wpAnyH_take (i := 20) (oi := ⟨some 94, .move (.tmp 7), 35, _, _, some (19, true)⟩) (v := .slice a9 n9 c9) rfl (by kernel_rfl) (by kernel_rfl) (by kernel_rfl) (fun _ _ _ h => h) (Or.inl ⟨by rfl, fun _ _ => by go_simp⟩) HS.out ?_
          try simp only [Act.put, List.setIfInBounds_toArray, List.set_cons_succ, List.set_cons_zero]
          refine wpAnyH_take (i := 22) (oi := ⟨some 96, .load 31 (.tmp 5), 31, _, _, some (19, true)⟩) (v := .agg (barr V)) rfl (by kernel_rfl) (by kernel_rfl) (by kernel_rfl) (fun _ _ _ h => h) (Or.inl ⟨by rfl, fun vv hvv => yields_arr 31 (.tmp 5) rfl g5 rfl hvv _ Tryd.underlying31 rfl (by rw [barr_size, HVL.out]; exact size_u8x32)⟩) HS.out ?_
          try simp only [Act.put, List.setIfInBounds_toArray, List.set_cons_succ, List.set_cons_zero]
          refine wpAnyH_ready (rs := [21]) (by kernel_rfl) (by simp) ?_
          refine AllReadyH.cons (o := ⟨some 95, .call { callee := .value (.func 30), args := #[.tmp 94], argTypes := #[35] }, 31, _, _, some (19, true)⟩) rfl (fun K hK => ?_) AllReadyH.nil
          go_simp
          refine (sum256_walk (ls ++ [text.drop at_]) _ _ (parts_own HO.out HP9.out HBw.out).1 _ v4 (parts_own HO.out HP9.out HBw.out).2 (HT.out.on HBw.out) (by rw [HFL.out]; have := HXL.out; omega) (by have := HLSN.out; simp; omega)).mono ?_
          rintro e v5 ⟨he, hb⟩
          rw [HFL.out, ← HVE.out] at he
          subst he
          have HS := Lib.hid (HS.out.on hb)
          have HG := Lib.hid (HG.out.on hb)
          have HO := Lib.hid (HO.out.on hb)
          have HBw := Lib.hid (HBw.out.trans (hb.mono HBw.out.size))
          clear hb
          refine hK _ _ HS.out (fun _ => ?_)
          clear hK K
          refine wpAnyH_take (i := 23) (oi := ⟨some 97, .binOp .eql 31 (.tmp 95) (.tmp 96) 31, 4, _, _, some (19, true)⟩) (v := .bool true) rfl (by kernel_rfl) (by kernel_rfl) (by kernel_rfl) (fun _ _ _ h => h) (Or.inl ⟨by rfl, fun _ _ => by go_simp⟩) HS.out ?_
          refine wpAnyH_take (i := 24) (oi := ⟨some 98, .pick (.tmp 93) (.tmp 97) (.const (.bool false)), 4, _, _, none⟩) (v := .bool true) rfl (by kernel_rfl) (by kernel_rfl) (by kernel_rfl) (fun _ _ _ h => h) (Or.inl ⟨by rfl, fun _ _ => by go_simp⟩) HS.out ?_
          refine wpAnyH_take (i := 25) (oi := ⟨some 99, .move (.tmp 98), 4, _, _, none⟩) (v := .bool true) rfl (by kernel_rfl) (by kernel_rfl) (by kernel_rfl) (fun _ _ _ h => h) (Or.inl ⟨by rfl, fun _ _ => by go_simp⟩) HS.out ?_
          refine wpAnyH_take (i := 26) (oi := ⟨some 100, .move (.tmp 6), 33, _, _, some (25, true)⟩) (v := .pointer (some ⟨G, 0, none⟩)) rfl (by kernel_rfl) (by kernel_rfl) (by kernel_rfl) (fun _ _ _ h => h) (Or.inl ⟨by rfl, fun _ _ => by go_simp⟩) HS.out ?_
          refine wpAnyH_take (i := 28) (oi := ⟨some 102, .move (.tmp 0), 28, _, _, some (25, true)⟩) (v := .slice a n c) rfl (by kernel_rfl) (by kernel_rfl) (by kernel_rfl) (fun _ _ _ h => h) (Or.inl ⟨by rfl, fun _ _ => by go_simp⟩) HS.out ?_
          refine wpAnyH_take (i := 29) (oi := ⟨some 103, .call { callee := .builtin .len, args := #[.tmp 102], argTypes := #[28] }, 3, _, _, some (25, true)⟩) (v := .int .i64 (n : Nat)) rfl (by kernel_rfl) (by kernel_rfl) (by kernel_rfl) (fun _ _ _ h => h) (Or.inl ⟨by rfl, fun _ _ => by go_simp⟩) HS.out ?_
          try simp only [Act.put, List.setIfInBounds_toArray, List.set_cons_succ, List.set_cons_zero]
          refine wpAnyH_ready (rs := [27]) (by kernel_rfl) (by simp) ?_
          refine AllReadyH.cons (o := ⟨some 101, .call { callee := .value (.func 34), args := #[.tmp 100], argTypes := #[33] }, 3, _, _, some (25, true)⟩) rfl (fun K hK => ?_) AllReadyH.nil
          go_simp
          refine (len_walk text G v5 HG.out).mono ?_
          rintro e v6 ⟨he, rfl⟩
          rw [← HXN.out] at he
          subst he
          have hb := Below.refl v5.heap.size v5
          have HS := Lib.hid (HS.out.on hb)
          have HG := Lib.hid (HG.out.on hb)
          have HO := Lib.hid (HO.out.on hb)
          have HBw := Lib.hid (HBw.out.trans (hb.mono HBw.out.size))
          clear hb
          refine hK _ _ HS.out (fun _ => ?_)
          clear hK K
          refine wpAnyH_take (i := 30) (oi := ⟨some 104, .binOp .eql 3 (.tmp 101) (.tmp 103) 3, 4, _, _, some (25, true)⟩) (v := .bool true) rfl (by kernel_rfl) (by kernel_rfl) (by kernel_rfl) (fun _ _ _ h => h) (Or.inl ⟨by rfl, fun _ _ => by go_simp⟩) HS.out ?_
          refine wpAnyH_take (i := 31) (oi := ⟨some 105, .pick (.tmp 99) (.tmp 104) (.const (.bool false)), 4, _, _, none⟩) (v := .bool true) rfl (by kernel_rfl) (by kernel_rfl) (by kernel_rfl) (fun _ _ _ h => h) (Or.inl ⟨by rfl, fun _ _ => by go_simp⟩) HS.out ?_
          refine wpAnyH_take (i := 32) (oi := ⟨some 4, .assign (.tmp 105), 4, _, _, none⟩) (v := .bool true) rfl (by kernel_rfl) (by kernel_rfl) (by kernel_rfl) (fun _ _ _ h => h) (Or.inl ⟨by rfl, fun _ _ => by go_simp⟩) HS.out ?_
          try simp only [Act.put, List.setIfInBounds_toArray, List.set_cons_succ, List.set_cons_zero]
          refine wpAnyH_done (by kernel_rfl) ?_ _
          go_wp2
          go_ret
          exact ⟨rfl, HBw.out⟩
    · have hc2 : ¬ (40 : Int) < (m : Int) := by omega
      have hcap : (m : Int) ≤ (d : Int) := by omega
      go_wp2
      go_loopw [7, 8, 33] (fun x y z wr => ∃ (i at_ : Nat) (a7 : Option Addr) (n7 c7 : Nat) (xs : List Value) (ls : List (List UInt8)), i ≤ m ∧ x = .slice a7 n7 c7 ∧ y = .int .i64 (at_ : Nat) ∧ z = .int .i64 (i : Nat) ∧ at_ ≤ n ∧ Hid (Pcs w xs ls) ∧ Hid (ls.flatten = text.take at_) ∧ Hid (ls.length = i) ∧ OwnS wr w.heap.size (.slice a7 n7 c7) xs ∧ HashAt wr G (text.take at_) ∧ Blk wr g5 (barr V) 31 ∧ Below w.heap.size w wr) (fun _ _ z _ => m - (intOf z).toNat)
      case atStart => exact ⟨0, 0, none, 0, 0, [], [], Nat.zero_le _, rfl, rfl, rfl, Nat.zero_le _, Pcs.nil w, rfl, rfl, OwnS.nil _ _, HG6.out, HS6.out, HB6.out⟩
      case round =>
        clear HG6 HS6 HB6
        obtain ⟨i, at_, a7, n7, c7, xs, ls, hi, rfl, rfl, rfl, hat, HPc, HFl, HLn, hO, hH, hS, hb⟩ := hrel
        by_cases hlt : i < m
        · obtain ⟨g1, o1, rfl, hc0, _⟩ := (HZ.out.on hb).2.2.2 i (by have := HZ.out.1; omega)
          obtain ⟨z, hzz⟩ : ∃ z, z = zs.getD i 0 := ⟨_, rfl⟩
          rw [← hzz] at hc0
          have hz6 : z < 65536 := by rw [hzz]; exact HZZ.out i (by have := HZ.out.1; omega)
          obtain ⟨k, hk⟩ : ∃ k, k = z % (n - at_ + 1) := ⟨_, rfl⟩
          have hkl : k < n - at_ + 1 := by rw [hk]; exact Nat.mod_lt _ (by omega)
          obtain ⟨hi2, hhi⟩ : ∃ h, h = at_ + k := ⟨_, rfl⟩
          have f0 : IntKind.i64.wrap ((z : Nat) : Int) = (z : Int) := IntWalk.i64_in _ (by omega)
          have f1 : IntKind.i64.wrap ((n : Int) - (at_ : Int)) = (n : Int) - (at_ : Int) := IntWalk.i64_in _ (by omega)
          have f2 : IntKind.i64.wrap ((n : Int) - (at_ : Int) + 1) = (n : Int) - (at_ : Int) + 1 := IntWalk.i64_in _ (by omega)
          have e2 : (n : Int) - (at_ : Int) + 1 = ((n - at_ + 1 : Nat) : Int) := by omega
          have f3 : (z : Int).tmod ((n : Int) - (at_ : Int) + 1) = (k : Int) := by rw [e2, hk]; rfl
          have f4 : (z : Int) % ((n : Int) - (at_ : Int) + 1) = (k : Int) := by rw [e2, hk]; rfl
          have f5 : ¬ (n : Int) - (at_ : Int) + 1 = 0 := by omega
          have f6 : (0 : Int) < (n : Int) - (at_ : Int) + 1 := by omega
          have f7 : (at_ : Int) + (k : Int) = (hi2 : Int) := by omega
          have f8 : IntKind.i64.wrap (hi2 : Int) = (hi2 : Int) := IntWalk.i64_in _ (by omega)
          have hh : hi2 ≤ n := by omega
          obtain ⟨A, C, hsl, hA⟩ := slice_lk HX.out hhi hh
          have HA := Lib.hid hA
          have HHI := Lib.hid hhi
          have HO := Lib.hid hO
          have HH := Lib.hid hH
          have HSS := Lib.hid hS
          have HB := Lib.hid hb
          have hO1 := Lib.hid (hO.on (below_one' wr (.cells #[.slice A k C] 28)))
          have hH1 := Lib.hid (hH.on (below_one' wr (.cells #[.slice A k C] 28)))
          have hS1 := Lib.hid (hS.on (below_one' wr (.cells #[.slice A k C] 28)))
          have hB1 := Lib.hid (hb.trans ((below_one' wr (.cells #[.slice A k C] 28)).mono hb.size))
          have hc1 := Lib.hid ((Blk.new wr #[.slice A k C] 28).cell 0 rfl)
          clear hA hhi hO hH hS hb e2 hk hzz
          go_wp2_with (refine wpList_append_slc rfl (.tmp 45) (.tmp 52) rfl w.heap.size _ xs rfl hO1.out wr.heap.size (.slice A k C) (by rfl) hc1.out rfl (by have h1 := HPc.out.1; have h2 := HLn.out; omega) hB1.out.size ?_; intro a8 n8 c8 w8 hO8 hg8; have HO8 := Lib.hid hO8; have HH8 := Lib.hid (hH1.out.grown hg8 (ne_own_of (hO1.out.at_hash hH1.out))); have HS8 := Lib.hid (hS1.out.grown hg8 (ne_own_of (hO1.out.at hS1.out (by decide)))); have HB8 := Lib.hid (below_ownS hB1.out hO1.out hB1.out.size hg8); clear hO8 hg8)
          refine (write_one w8 28 _ G rfl HH8.out (HA.out.on HB8.out) (fun b o e h0 => by have h1 := HA.out.old b o e h0; have h2 := HGw.out; omega) (HT.out.on HB8.out).tab (by have := HGw.out; have := HTL.out; omega) (by have := HXL.out; simp; omega)).mono ?_
          rintro e w9 ⟨rfl, hg9, hH9⟩
          have HO9 := Lib.hid (HO8.out.grown hg9 (HO8.out.at_hash HH8.out))
          have HS9 := Lib.hid (HS8.out.grown hg9 (by have := HGg.out; simp; omega))
          have HB9 := Lib.hid (below_grown HB8.out hg9 HGw.out HB8.out.size)
          have HTK := Lib.hid (show text.take at_ ++ (text.drop at_).take k = text.take hi2 by rw [HHI.out, ← List.take_add])
          have HH9 := Lib.hid (by rw [HTK.out] at hH9; exact hH9)
          clear hg9 hH9
          go_wp2
          go_roundw
          case rel =>
            refine ⟨i + 1, hi2, a8, n8, c8, xs ++ [.slice A k C], ls ++ [(text.drop at_).take k], by omega, rfl, rfl, by go_num, hh, Lib.hid (HPc.out.snoc HA.out), ?_, ?_, HO9.out, HH9.out, HS9.out, HB9.out⟩
            · show (ls ++ [(text.drop at_).take k]).flatten = _
              rw [List.flatten_append, HFl.out, ← HTK.out]; simp
            · show (ls ++ [(text.drop at_).take k]).length = _
              simp [HLn.out]
          case measure => simp [intOf]; omega
        · obtain ⟨A9, k9, C9, hsl, h9⟩ := slice_lr HX.out hat
          have T9 := Lib.hid h9
          have HP9 := Lib.hid (HPc.out.snoc h9)
          have HFL := Lib.hid (show (ls ++ [text.drop at_]).flatten = text by rw [List.flatten_append, HFl.out]; simp)
          have HTK := Lib.hid (show text.take at_ ++ text.drop at_ = text from List.take_append_drop _ _)
          have HLSN := Lib.hid (show ls.length ≤ 40 by have := HLn.out; omega)
          have hO1 := Lib.hid (hO.on (below_one' wr (.cells #[.slice A9 k9 C9] 28)))
          have hH1 := Lib.hid (hH.on (below_one' wr (.cells #[.slice A9 k9 C9] 28)))
          have hS1 := Lib.hid (hS.on (below_one' wr (.cells #[.slice A9 k9 C9] 28)))
          have hB1 := Lib.hid (hb.trans ((below_one' wr (.cells #[.slice A9 k9 C9] 28)).mono hb.size))
          have hc1 := Lib.hid ((Blk.new wr #[.slice A9 k9 C9] 28).cell 0 rfl)
          clear h9 hO hH hS hb
          go_wp2_with (refine wpList_append_slc rfl (.tmp 68) (.tmp 72) rfl w.heap.size _ xs rfl hO1.out wr.heap.size (.slice A9 k9 C9) (by rfl) hc1.out rfl (by have h1 := HPc.out.1; have h2 := HLn.out; omega) hB1.out.size ?_; intro a9 n9 c9 W9 hO8 hg8; have HO := Lib.hid hO8; have HG := Lib.hid (hH1.out.grown hg8 (ne_own_of (hO1.out.at_hash hH1.out))); have HS := Lib.hid (hS1.out.grown hg8 (ne_own_of (hO1.out.at hS1.out (by decide)))); have HBw := Lib.hid (below_ownS hB1.out hO1.out hB1.out.size hg8); clear hO8 hg8)
          clear hO1 hH1 hS1 hB1 hc1
          refine wp_region_held_drew (S := fun w' => Blk w' g5 (barr V) 31) (by kernel_rfl) HS.out (fun _ => ?_)
          have hb : Below W9.heap.size W9 (World.drew W9) := (Below.refl _ _).drew
          have HS := Lib.hid (HS.out.on hb)
          have HG := Lib.hid (HG.out.on hb)
          have HO := Lib.hid (HO.out.on hb)
          have HBw := Lib.hid (HBw.out.trans (hb.mono HBw.out.size))
          clear hb
          generalize World.drew W9 = v0 at *
          refine wpAnyH_take (i := 0) (oi := ⟨some 74, .move (.tmp 6), 33, _, _, none⟩) (v := .pointer (some ⟨G, 0, none⟩)) rfl (by kernel_rfl) (by kernel_rfl) (by kernel_rfl) (fun _ _ _ h => h) (Or.inl ⟨by rfl, fun _ _ => by go_simp⟩) HS.out ?_
          refine wpAnyH_take (i := 1) (oi := ⟨some 75, .move (.tmp 0), 28, _, _, none⟩) (v := .slice a n c) rfl (by kernel_rfl) (by kernel_rfl) (by kernel_rfl) (fun _ _ _ h => h) (Or.inl ⟨by rfl, fun _ _ => by go_simp⟩) HS.out ?_
          refine wpAnyH_take (i := 2) (oi := ⟨some 76, .move (.tmp 8), 3, _, _, none⟩) (v := .int .i64 (at_ : Nat)) rfl (by kernel_rfl) (by kernel_rfl) (by kernel_rfl) (fun _ _ _ h => h) (Or.inl ⟨by rfl, fun _ _ => by go_simp⟩) HS.out ?_
          refine wpAnyH_take (i := 3) (oi := ⟨some 77, .slice 28 (.tmp 75) (some (.tmp 76)) none none, 28, _, _, none⟩) (v := .slice A9 k9 C9) rfl (by kernel_rfl) (by kernel_rfl) (by kernel_rfl) (fun _ _ _ h => h) (Or.inl ⟨by rfl, fun _ _ => by go_simp⟩) HS.out ?_
          try simp only [Act.put, List.setIfInBounds_toArray, List.set_cons_succ, List.set_cons_zero]
          refine wpAnyH_ready (rs := [4]) (by kernel_rfl) (by simp) ?_
          refine AllReadyH.cons (o := ⟨some 78, .buildSlice 35 1 #[(0, .tmp 77)], 35, _, _, none⟩) rfl (fun K hK => ?_) AllReadyH.nil
          go_simp
          have BT := Blk.new v0 #[.slice A9 k9 C9] 28
          have hb := below_one' v0 (.cells #[.slice A9 k9 C9] 28)
          generalize World.alloc v0 _ = v1 at *
          have HS := Lib.hid (HS.out.on hb)
          have HG := Lib.hid (HG.out.on hb)
          have HO := Lib.hid (HO.out.on hb)
          have HBw := Lib.hid (HBw.out.trans (hb.mono HBw.out.size))
          replace BT := Lib.hid BT
          clear hb
          refine hK _ _ HS.out (fun _ => ?_)
          clear hK K
          try simp only [Act.put, List.setIfInBounds_toArray, List.set_cons_succ, List.set_cons_zero]
          refine wpAnyH_ready (rs := [5]) (by kernel_rfl) (by simp) ?_
          refine AllReadyH.cons (o := ⟨some 79, .call { callee := .value (.func 32), args := #[.tmp 74, .tmp 78], argTypes := #[33, 35] }, 37, _, _, none⟩) rfl (fun K hK => ?_) AllReadyH.nil
          go_simp
          refine (write_blk1 v1 _ G 28 BT.out HG.out (T9.out.on HBw.out) (fun b o e h0 => by have h1 := T9.out.old b o e h0; have h2 := HGw.out; omega) (HT.out.on HBw.out).tab (by have := HGw.out; have := HTL.out; omega) (by have := HXL.out; simp; omega)).mono ?_
          rintro e v2 ⟨rfl, hg, hH⟩
          have HO := Lib.hid (HO.out.grown hg (HO.out.at_hash HG.out))
          have HS := Lib.hid (HS.out.grown hg (by have := HGg.out; simp; omega))
          have HBw := Lib.hid (below_grown HBw.out hg HGw.out HBw.out.size)
          have HG := Lib.hid (by rw [HTK.out] at hH; exact hH)
          clear hg hH BT
          refine hK _ _ HS.out (fun _ => ?_)
          clear hK K
          refine wpAnyH_take (i := 6) (oi := ⟨some 80, .binOp .eql 37 (.tmp 79) (.const (.int .i64 0)) 37, 4, _, _, none⟩) (v := .bool true) rfl (by kernel_rfl) (by kernel_rfl) (by kernel_rfl) (fun _ _ _ h => h) (Or.inl ⟨by rfl, fun _ _ => by go_simp⟩) HS.out ?_
          refine wpAnyH_take (i := 7) (oi := ⟨some 81, .move (.tmp 80), 4, _, _, none⟩) (v := .bool true) rfl (by kernel_rfl) (by kernel_rfl) (by kernel_rfl) (fun _ _ _ h => h) (Or.inl ⟨by rfl, fun _ _ => by go_simp⟩) HS.out ?_
          refine wpAnyH_take (i := 8) (oi := ⟨some 82, .move (.tmp 6), 33, _, _, some (7, true)⟩) (v := .pointer (some ⟨G, 0, none⟩)) rfl (by kernel_rfl) (by kernel_rfl) (by kernel_rfl) (fun _ _ _ h => h) (Or.inl ⟨by rfl, fun _ _ => by go_simp⟩) HS.out ?_
          try simp only [Act.put, List.setIfInBounds_toArray, List.set_cons_succ, List.set_cons_zero]
          refine wpAnyH_take (i := 10) (oi := ⟨some 84, .load 31 (.tmp 5), 31, _, _, some (7, true)⟩) (v := .agg (barr V)) rfl (by kernel_rfl) (by kernel_rfl) (by kernel_rfl) (fun _ _ _ h => h) (Or.inl ⟨by rfl, fun vv hvv => yields_arr 31 (.tmp 5) rfl g5 rfl hvv _ Tryd.underlying31 rfl (by rw [barr_size, HVL.out]; exact size_u8x32)⟩) HS.out ?_
          try simp only [Act.put, List.setIfInBounds_toArray, List.set_cons_succ, List.set_cons_zero]
          refine wpAnyH_ready (rs := [9]) (by kernel_rfl) (by simp) ?_
          refine AllReadyH.cons (o := ⟨some 83, .call { callee := .value (.func 33), args := #[.tmp 82], argTypes := #[33] }, 31, _, _, some (7, true)⟩) rfl (fun K hK => ?_) AllReadyH.nil
          go_simp
          refine (sum_walk text (by have := HXL.out; omega) G v2 HG.out (HT.out.on HBw.out).tab (by have := HTL.out; have := HBw.out.size; omega)).mono ?_
          rintro e v3 ⟨he, hb⟩
          rw [← HVE.out] at he
          subst he
          have HS := Lib.hid (HS.out.on hb)
          have HG := Lib.hid (HG.out.on hb)
          have HO := Lib.hid (HO.out.on hb)
          have HBw := Lib.hid (HBw.out.trans (hb.mono HBw.out.size))
          clear hb
          refine hK _ _ HS.out (fun _ => ?_)
          clear hK K
          refine wpAnyH_take (i := 11) (oi := ⟨some 85, .binOp .eql 31 (.tmp 83) (.tmp 84) 31, 4, _, _, some (7, true)⟩) (v := .bool true) rfl (by kernel_rfl) (by kernel_rfl) (by kernel_rfl) (fun _ _ _ h => h) (Or.inl ⟨by rfl, fun _ _ => by go_simp⟩) HS.out ?_
          refine wpAnyH_take (i := 12) (oi := ⟨some 86, .pick (.tmp 81) (.tmp 85) (.const (.bool false)), 4, _, _, none⟩) (v := .bool true) rfl (by kernel_rfl) (by kernel_rfl) (by kernel_rfl) (fun _ _ _ h => h) (Or.inl ⟨by rfl, fun _ _ => by go_simp⟩) HS.out ?_
          refine wpAnyH_take (i := 13) (oi := ⟨some 87, .move (.tmp 86), 4, _, _, none⟩) (v := .bool true) rfl (by kernel_rfl) (by kernel_rfl) (by kernel_rfl) (fun _ _ _ h => h) (Or.inl ⟨by rfl, fun _ _ => by go_simp⟩) HS.out ?_
          refine wpAnyH_take (i := 14) (oi := ⟨some 88, .move (.tmp 6), 33, _, _, some (13, true)⟩) (v := .pointer (some ⟨G, 0, none⟩)) rfl (by kernel_rfl) (by kernel_rfl) (by kernel_rfl) (fun _ _ _ h => h) (Or.inl ⟨by rfl, fun _ _ => by go_simp⟩) HS.out ?_
          try simp only [Act.put, List.setIfInBounds_toArray, List.set_cons_succ, List.set_cons_zero]
          refine wpAnyH_take (i := 16) (oi := ⟨some 90, .load 31 (.tmp 5), 31, _, _, some (13, true)⟩) (v := .agg (barr V)) rfl (by kernel_rfl) (by kernel_rfl) (by kernel_rfl) (fun _ _ _ h => h) (Or.inl ⟨by rfl, fun vv hvv => yields_arr 31 (.tmp 5) rfl g5 rfl hvv _ Tryd.underlying31 rfl (by rw [barr_size, HVL.out]; exact size_u8x32)⟩) HS.out ?_
          try simp only [Act.put, List.setIfInBounds_toArray, List.set_cons_succ, List.set_cons_zero]
          refine wpAnyH_ready (rs := [15]) (by kernel_rfl) (by simp) ?_
          refine AllReadyH.cons (o := ⟨some 89, .call { callee := .value (.func 33), args := #[.tmp 88], argTypes := #[33] }, 31, _, _, some (13, true)⟩) rfl (fun K hK => ?_) AllReadyH.nil
          go_simp
          refine (sum_walk text (by have := HXL.out; omega) G v3 HG.out (HT.out.on HBw.out).tab (by have := HTL.out; have := HBw.out.size; omega)).mono ?_
          rintro e v4 ⟨he, hb⟩
          rw [← HVE.out] at he
          subst he
          have HS := Lib.hid (HS.out.on hb)
          have HG := Lib.hid (HG.out.on hb)
          have HO := Lib.hid (HO.out.on hb)
          have HBw := Lib.hid (HBw.out.trans (hb.mono HBw.out.size))
          clear hb
          refine hK _ _ HS.out (fun _ => ?_)
          clear hK K
          refine wpAnyH_take (i := 17) (oi := ⟨some 91, .binOp .eql 31 (.tmp 89) (.tmp 90) 31, 4, _, _, some (13, true)⟩) (v := .bool true) rfl (by kernel_rfl) (by kernel_rfl) (by kernel_rfl) (fun _ _ _ h => h) (Or.inl ⟨by rfl, fun _ _ => by go_simp⟩) HS.out ?_
          refine wpAnyH_take (i := 18) (oi := ⟨some 92, .pick (.tmp 87) (.tmp 91) (.const (.bool false)), 4, _, _, none⟩) (v := .bool true) rfl (by kernel_rfl) (by kernel_rfl) (by kernel_rfl) (fun _ _ _ h => h) (Or.inl ⟨by rfl, fun _ _ => by go_simp⟩) HS.out ?_
          refine wpAnyH_take (i := 19) (oi := ⟨some 93, .move (.tmp 92), 4, _, _, none⟩) (v := .bool true) rfl (by kernel_rfl) (by kernel_rfl) (by kernel_rfl) (fun _ _ _ h => h) (Or.inl ⟨by rfl, fun _ _ => by go_simp⟩) HS.out ?_
          refine wpAnyH_take (i := 20) (oi := ⟨some 94, .move (.tmp 7), 35, _, _, some (19, true)⟩) (v := .slice a9 n9 c9) rfl (by kernel_rfl) (by kernel_rfl) (by kernel_rfl) (fun _ _ _ h => h) (Or.inl ⟨by rfl, fun _ _ => by go_simp⟩) HS.out ?_
          try simp only [Act.put, List.setIfInBounds_toArray, List.set_cons_succ, List.set_cons_zero]
          refine wpAnyH_take (i := 22) (oi := ⟨some 96, .load 31 (.tmp 5), 31, _, _, some (19, true)⟩) (v := .agg (barr V)) rfl (by kernel_rfl) (by kernel_rfl) (by kernel_rfl) (fun _ _ _ h => h) (Or.inl ⟨by rfl, fun vv hvv => yields_arr 31 (.tmp 5) rfl g5 rfl hvv _ Tryd.underlying31 rfl (by rw [barr_size, HVL.out]; exact size_u8x32)⟩) HS.out ?_
          try simp only [Act.put, List.setIfInBounds_toArray, List.set_cons_succ, List.set_cons_zero]
          refine wpAnyH_ready (rs := [21]) (by kernel_rfl) (by simp) ?_
          refine AllReadyH.cons (o := ⟨some 95, .call { callee := .value (.func 30), args := #[.tmp 94], argTypes := #[35] }, 31, _, _, some (19, true)⟩) rfl (fun K hK => ?_) AllReadyH.nil
          go_simp
          refine (sum256_walk (ls ++ [text.drop at_]) _ _ (parts_own HO.out HP9.out HBw.out).1 _ v4 (parts_own HO.out HP9.out HBw.out).2 (HT.out.on HBw.out) (by rw [HFL.out]; have := HXL.out; omega) (by have := HLSN.out; simp; omega)).mono ?_
          rintro e v5 ⟨he, hb⟩
          rw [HFL.out, ← HVE.out] at he
          subst he
          have HS := Lib.hid (HS.out.on hb)
          have HG := Lib.hid (HG.out.on hb)
          have HO := Lib.hid (HO.out.on hb)
          have HBw := Lib.hid (HBw.out.trans (hb.mono HBw.out.size))
          clear hb
          refine hK _ _ HS.out (fun _ => ?_)
          clear hK K
          refine wpAnyH_take (i := 23) (oi := ⟨some 97, .binOp .eql 31 (.tmp 95) (.tmp 96) 31, 4, _, _, some (19, true)⟩) (v := .bool true) rfl (by kernel_rfl) (by kernel_rfl) (by kernel_rfl) (fun _ _ _ h => h) (Or.inl ⟨by rfl, fun _ _ => by go_simp⟩) HS.out ?_
          refine wpAnyH_take (i := 24) (oi := ⟨some 98, .pick (.tmp 93) (.tmp 97) (.const (.bool false)), 4, _, _, none⟩) (v := .bool true) rfl (by kernel_rfl) (by kernel_rfl) (by kernel_rfl) (fun _ _ _ h => h) (Or.inl ⟨by rfl, fun _ _ => by go_simp⟩) HS.out ?_
          refine wpAnyH_take (i := 25) (oi := ⟨some 99, .move (.tmp 98), 4, _, _, none⟩) (v := .bool true) rfl (by kernel_rfl) (by kernel_rfl) (by kernel_rfl) (fun _ _ _ h => h) (Or.inl ⟨by rfl, fun _ _ => by go_simp⟩) HS.out ?_
          refine wpAnyH_take (i := 26) (oi := ⟨some 100, .move (.tmp 6), 33, _, _, some (25, true)⟩) (v := .pointer (some ⟨G, 0, none⟩)) rfl (by kernel_rfl) (by kernel_rfl) (by kernel_rfl) (fun _ _ _ h => h) (Or.inl ⟨by rfl, fun _ _ => by go_simp⟩) HS.out ?_
          refine wpAnyH_take (i := 28) (oi := ⟨some 102, .move (.tmp 0), 28, _, _, some (25, true)⟩) (v := .slice a n c) rfl (by kernel_rfl) (by kernel_rfl) (by kernel_rfl) (fun _ _ _ h => h) (Or.inl ⟨by rfl, fun _ _ => by go_simp⟩) HS.out ?_
          refine wpAnyH_take (i := 29) (oi := ⟨some 103, .call { callee := .builtin .len, args := #[.tmp 102], argTypes := #[28] }, 3, _, _, some (25, true)⟩) (v := .int .i64 (n : Nat)) rfl (by kernel_rfl) (by kernel_rfl) (by kernel_rfl) (fun _ _ _ h => h) (Or.inl ⟨by rfl, fun _ _ => by go_simp⟩) HS.out ?_
          try simp only [Act.put, List.setIfInBounds_toArray, List.set_cons_succ, List.set_cons_zero]
          refine wpAnyH_ready (rs := [27]) (by kernel_rfl) (by simp) ?_
          refine AllReadyH.cons (o := ⟨some 101, .call { callee := .value (.func 34), args := #[.tmp 100], argTypes := #[33] }, 3, _, _, some (25, true)⟩) rfl (fun K hK => ?_) AllReadyH.nil
          go_simp
          refine (len_walk text G v5 HG.out).mono ?_
          rintro e v6 ⟨he, rfl⟩
          rw [← HXN.out] at he
          subst he
          have hb := Below.refl v5.heap.size v5
          have HS := Lib.hid (HS.out.on hb)
          have HG := Lib.hid (HG.out.on hb)
          have HO := Lib.hid (HO.out.on hb)
          have HBw := Lib.hid (HBw.out.trans (hb.mono HBw.out.size))
          clear hb
          refine hK _ _ HS.out (fun _ => ?_)
          clear hK K
          refine wpAnyH_take (i := 30) (oi := ⟨some 104, .binOp .eql 3 (.tmp 101) (.tmp 103) 3, 4, _, _, some (25, true)⟩) (v := .bool true) rfl (by kernel_rfl) (by kernel_rfl) (by kernel_rfl) (fun _ _ _ h => h) (Or.inl ⟨by rfl, fun _ _ => by go_simp⟩) HS.out ?_
          refine wpAnyH_take (i := 31) (oi := ⟨some 105, .pick (.tmp 99) (.tmp 104) (.const (.bool false)), 4, _, _, none⟩) (v := .bool true) rfl (by kernel_rfl) (by kernel_rfl) (by kernel_rfl) (fun _ _ _ h => h) (Or.inl ⟨by rfl, fun _ _ => by go_simp⟩) HS.out ?_
          refine wpAnyH_take (i := 32) (oi := ⟨some 4, .assign (.tmp 105), 4, _, _, none⟩) (v := .bool true) rfl (by kernel_rfl) (by kernel_rfl) (by kernel_rfl) (fun _ _ _ h => h) (Or.inl ⟨by rfl, fun _ _ => by go_simp⟩) HS.out ?_
          try simp only [Act.put, List.setIfInBounds_toArray, List.set_cons_succ, List.set_cons_zero]
          refine wpAnyH_done (by kernel_rfl) ?_ _
          go_wp2
          go_ret
          exact ⟨rfl, HBw.out⟩
  · have HF := Lib.hid (show fewB 3000 40 [text] = false by simpa using hfew)
    clear hfew
    go_enter Tryd.func4, Tryd.ntmps4
    go_wp2_with fail
    refine (live_walk _ HT.out).mono ?_
    rintro e w1 ⟨rfl, hb1⟩
    have HB1 := Lib.hid hb1
    clear hb1
    go_wp2_with fail
    refine (few_one w1 28 _ rfl (HX.out.on HB1.out) false HF.out).mono ?_
    rintro e w' ⟨rfl, rfl⟩
    go_wp2_with fail
    refine (live_again HT.out (HB1.out.trans ((below_one' w1 _).mono HB1.out.size))).mono ?_
    rintro e w2 ⟨rfl, hb2⟩
    go_wp2
    go_ret
    exact ⟨rfl, hb2⟩
end Go.Proofs.YtgbahfggnbpnmaaDoor
