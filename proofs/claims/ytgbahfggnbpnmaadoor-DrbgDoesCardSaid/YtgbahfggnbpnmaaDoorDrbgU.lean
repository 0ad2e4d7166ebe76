import Derived.Test.YtgbahfggnbpnmaaDoorDrbgP
/-
  (*Drbg).update.
-/
namespace Go.Proofs.YtgbahfggnbpnmaaDoor
open Go.RowKit
theorem Two.kept {w w' : World} {G : Nat} (h : Two w) (hg : w.grownBy w' (some G)) (h1 : G ≠ 0) (h2 : G ≠ 1) : Two w' :=
  ⟨h.tab.grown hg (by simpa using Ne.symm h1), h.sta.grown hg (by simpa using Ne.symm h2)⟩
theorem Parts.both {w w' : World} {g : Nat} {pa : Option Addr} {ls : List (List UInt8)} (h : Parts w (fun b => b ≠ g ∧ b < w.heap.size) pa ls) (hb : w.grownBy w' (some g)) : Parts w' (fun b => b ≠ g ∧ b < w'.heap.size) pa ls := fun i hi => by
  obtain ⟨b, o, a, n, cap, h1, h2, h3, h4, h5, h6, h7⟩ := h i hi
  exact ⟨b, o, a, n, cap, h1, ⟨h2.1, Nat.lt_of_lt_of_le h2.2 hb.size⟩, (World.cell?_of_block (a := ⟨b, o + i, none⟩) (hb.block _ (block_lt_of_cell h3) (by simpa using h2.1))).trans h3, h4, h5, Rd.grown' h6 hb (fun h0 b o e => by have := (h7 b o e (by simpa using h0)).1; simpa using this), fun b o e h0 => ⟨(h7 b o e h0).1, Nat.lt_of_lt_of_le (h7 b o e h0).2 hb.size⟩⟩
theorem Parts.on {w w' : World} {pa : Option Addr} {ls : List (List UInt8)} (h : Parts w (· < w.heap.size) pa ls) (hb : Below w.heap.size w w') : Parts w' (· < w'.heap.size) pa ls := h.all hb
theorem rowVals_on {w w' : World} {pa : Option Addr} {ls : List (List UInt8)} (h : Parts w (· < w.heap.size) pa ls) (hb : Below w.heap.size w w') : rowVals w' pa ls.length = rowVals w pa ls.length := by
  apply List.ext_getElem?
  intro i
  rcases Nat.lt_or_ge i ls.length with hi | hi
  · obtain ⟨p, y, e, h2, h3, _⟩ := h.reads i hi
    obtain ⟨p', y', e', h2', h3', _⟩ := (h.on hb).reads i hi
    obtain ⟨b, o, a, n, cap, e1, e2, e4, _⟩ := h i hi
    rw [h3, h3']
    rw [e1] at e e'
    simp only [Option.some.injEq] at e e'
    subst e e'
    rw [Addr.add_mid] at h2 h2'
    rw [hb.cell (p := ⟨b, o + i, none⟩) e2, h2] at h2'
    exact h2'.symm
  · rw [List.getElem?_eq_none (by rw [rowVals_len]; exact hi), List.getElem?_eq_none (by rw [rowVals_len]; exact hi)]
set_option maxRecDepth 100000 in
set_option maxHeartbeats 900000 in
theorem update_walk (k v : List UInt8) (cnt : Int) (G : Nat) (ls : List (List UInt8)) (pa : Option Addr) (n d : Nat) (hn : n = ls.length) (w : World) (hD : DAt w G k v cnt) (hP : Parts w (fun b => b ≠ G ∧ b < w.heap.size) pa ls) (hT : Two w) (h1 : G ≠ 0) (h2 : G ≠ 1) (hls : ls.length ≤ 1000) (hll : ls.flatten.length ≤ 115292150460) :
    Calls Tryd.prog 114 #[.pointer (some ⟨G, 0, none⟩), .slice pa n d] w fun e w' => e = .returned (.tuple #[]) ∧ w.grownBy w' (some G) ∧ DAt w' G (updK k v ls.flatten) (updV k v ls.flatten) cnt := by
  have HD0 := Lib.hid hD
  have HPw := Lib.hid hP
  have HTw := Lib.hid hT
  have HGt := Lib.hid h1
  have HGs := Lib.hid h2
  have HLS := Lib.hid hls
  have HLL := Lib.hid hll
  have HNL := Lib.hid hn
  have hn1 : n ≤ 1000 := by omega
  clear hD hP hT h1 h2 hls hll hn
  go_enter Tryd.func114, Tryd.ntmps114
  go_wp2
  go_loop [4, 10] (fun b i => ∃ (j : Nat) (sm : Bool), j ≤ n ∧ i = .int .i64 (j : Nat) ∧ b = .bool sm ∧ Hid (sm = true ↔ (ls.take j).flatten ≠ [])) (fun _ i => n - (intOf i).toNat)
  case atStart => exact ⟨0, false, Nat.zero_le _, rfl, rfl, by show _ ↔ _; simp⟩
  case round =>
    obtain ⟨j, sm, hj, rfl, rfl, HSM⟩ := hrel
    by_cases hlt : j < n
    · obtain ⟨b, o, a2, n2, cap2, rfl, h2, h3, h4, h5, h6, h7⟩ := HPw.out j (by have := HNL.out; omega)
      have H4 := Lib.hid h4
      have HF := Lib.hid (flat_take ls j (by have := HNL.out; omega))
      clear h2 h4 h6 h7
      cases sm with
      | true =>
        go_wp2
        go_round
        case rel =>
          refine ⟨j + 1, true, by omega, by go_num, rfl, ?_⟩
          have := HSM.out
          have h := HF.out
          show _ ↔ _
          simp only [true_iff] at this ⊢
          intro e
          rw [h] at e
          exact this (List.append_eq_nil_iff.1 e).1
        case measure => simp [intOf]; omega
      | false =>
        have e0 : (ls.take j).flatten = [] := by have := HSM.out; simpa using this
        have HE0 := Lib.hid e0
        clear e0
        by_cases hz : 0 < n2
        · have hz' : (0 : Int) < (n2 : Int) := by omega
          go_wp2
          go_round
          case rel =>
            refine ⟨j + 1, true, by omega, by go_num, rfl, ?_⟩
            show _ ↔ _
            have h := HF.out
            rw [h, HE0.out, List.nil_append]
            simp only [true_iff]
            intro e
            have := H4.out
            rw [e] at this
            simp at this; omega
          case measure => simp [intOf]; omega
        · have hz' : ¬ (0 : Int) < (n2 : Int) := by omega
          have hz0 := Lib.hid (show n2 = 0 by omega)
          go_wp2
          go_round
          case rel =>
            refine ⟨j + 1, false, by omega, by go_num, rfl, ?_⟩
            show _ ↔ _
            have h := HF.out
            rw [h, HE0.out, List.nil_append]
            have := H4.out
            rw [hz0.out] at this
            have e9 := List.eq_nil_of_length_eq_zero this.symm
            rw [e9]; simp
          case measure => simp [intOf]; omega
    · have HK := Lib.hid (show j = n by omega)
      have HSM' := Lib.hid (show sm = true ↔ ls.flatten ≠ [] by have h := HSM.out; rw [HK.out, HNL.out, List.take_length] at h; exact h)
      clear HSM
      go_wp2
      go_loopw [21] (fun x wr => ∃ (j : Nat) (kk vv : List UInt8), j ≤ 2 ∧ x = .int .i64 (j : Nat) ∧ DAt wr G kk vv cnt ∧ w.grownBy wr (some G) ∧ Hid ((j = 0 → kk = k ∧ vv = v) ∧ (j = 1 → kk = stepK k v 0 ls.flatten ∧ vv = macL (stepK k v 0 ls.flatten) v) ∧ (j = 2 → ls.flatten ≠ [] ∧ kk = updK k v ls.flatten ∧ vv = updV k v ls.flatten))) (fun x _ => 2 - (intOf x).toNat)
      case atStart => exact ⟨0, k, v, by omega, rfl, HD0.out, World.grownBy.refl w _, fun _ => ⟨rfl, rfl⟩, fun h => by omega, fun h => by omega⟩
      case round =>
        obtain ⟨j, kk, vv, hj2, rfl, hD, hg, HJ⟩ := hrel
        have HD := Lib.hid hD
        have HGr := Lib.hid hg
        clear hD hg
        have hj : j = 0 ∨ j = 1 ∨ j = 2 := by omega
        rcases hj with rfl | rfl | rfl
        · obtain ⟨rfl, rfl⟩ := HJ.out.1 rfl
          clear HJ HD0
          have HT := Lib.hid (Two.kept HTw.out HGr.out HGt.out HGs.out)
          have HPb := Lib.hid (Parts.both HPw.out HGr.out)
          have HPA := Lib.hid (HPb.out.mono fun b h => h.2)
          obtain ⟨KK, hKK⟩ : ∃ KK, KK = stepK kk vv 0 ls.flatten := ⟨_, rfl⟩
          have HKK := Lib.hid hKK
          have HKL := Lib.hid (show KK.length = 32 by rw [hKK]; exact stepK_len _ _ _ _)
          clear hKK HPb
          go_wp2
          refine wp_region_held_drew (S := fun _ => True) (by kernel_rfl) trivial (fun _ => ?_)
          have HTR := Lib.hid trivial
          have hb : Below wr.heap.size wr (World.drew wr) := (Below.refl _ _).drew
          have HBv := Lib.hid hb
          have HD := Lib.hid (HD.out.on hb)
          have HPA := Lib.hid (HPA.out.on hb)
          have HT := Lib.hid (HT.out.on hb)
          clear hb
          generalize World.drew wr = v0 at *
          try simp only [Act.put, List.setIfInBounds_toArray, List.set_cons_succ, List.set_cons_zero]
          refine wpAnyH_take (i := 0) (oi := ⟨some 30, .move (.tmp 0), 75, _, _, none⟩) (v := .pointer (some ⟨G, 0, none⟩)) rfl (by kernel_rfl) (by kernel_rfl) (by kernel_rfl) (fun _ _ _ h => h) (Or.inl ⟨by rfl, fun _ _ => by go_simp⟩) HTR.out ?_
          try simp only [Act.put, List.setIfInBounds_toArray, List.set_cons_succ, List.set_cons_zero]
          refine wpAnyH_take (i := 1) (oi := ⟨some 31, .move (.tmp 0), 75, _, _, none⟩) (v := .pointer (some ⟨G, 0, none⟩)) rfl (by kernel_rfl) (by kernel_rfl) (by kernel_rfl) (fun _ _ _ h => h) (Or.inl ⟨by rfl, fun _ _ => by go_simp⟩) HTR.out ?_
          try simp only [Act.put, List.setIfInBounds_toArray, List.set_cons_succ, List.set_cons_zero]
          refine wpAnyH_take (i := 2) (oi := ⟨some 32, .nilCheck (.tmp 31), _, _, _, none⟩) (v := .pointer (some ⟨G, 0, none⟩)) rfl (by kernel_rfl) (by kernel_rfl) (by kernel_rfl) (fun _ _ _ h => h) (Or.inl ⟨by rfl, fun _ _ => by go_simp⟩) HTR.out ?_
          try simp only [Act.put, List.setIfInBounds_toArray, List.set_cons_succ, List.set_cons_zero]
          refine wpAnyH_take (i := 3) (oi := ⟨some 33, .fieldAddr 155 (.tmp 32) 1, _, _, _, none⟩) (v := .pointer (some ⟨G, 1, none⟩)) rfl (by kernel_rfl) (by kernel_rfl) (by kernel_rfl) (fun _ _ _ h => h) (Or.inl ⟨by rfl, fun _ _ => by go_simp⟩) HTR.out ?_
          try simp only [Act.put, List.setIfInBounds_toArray, List.set_cons_succ, List.set_cons_zero]
          refine wpAnyH_take (i := 4) (oi := ⟨some 34, .slice 31 (.tmp 33) none none none, 28, _, _, none⟩) (v := .slice (some ⟨G, 1, none⟩) 32 32) rfl (by kernel_rfl) (by kernel_rfl) (by kernel_rfl) (fun _ _ _ h => h) (Or.inl ⟨by rfl, fun _ _ => by go_simp⟩) HTR.out ?_
          try simp only [Act.put, List.setIfInBounds_toArray, List.set_cons_succ, List.set_cons_zero]
          refine wpAnyH_take (i := 5) (oi := ⟨some 35, .move (.tmp 0), 75, _, _, none⟩) (v := .pointer (some ⟨G, 0, none⟩)) rfl (by kernel_rfl) (by kernel_rfl) (by kernel_rfl) (fun _ _ _ h => h) (Or.inl ⟨by rfl, fun _ _ => by go_simp⟩) HTR.out ?_
          try simp only [Act.put, List.setIfInBounds_toArray, List.set_cons_succ, List.set_cons_zero]
          refine wpAnyH_take (i := 6) (oi := ⟨some 36, .nilCheck (.tmp 35), _, _, _, none⟩) (v := .pointer (some ⟨G, 0, none⟩)) rfl (by kernel_rfl) (by kernel_rfl) (by kernel_rfl) (fun _ _ _ h => h) (Or.inl ⟨by rfl, fun _ _ => by go_simp⟩) HTR.out ?_
          try simp only [Act.put, List.setIfInBounds_toArray, List.set_cons_succ, List.set_cons_zero]
          refine wpAnyH_take (i := 7) (oi := ⟨some 37, .fieldAddr 155 (.tmp 36) 2, _, _, _, none⟩) (v := .pointer (some ⟨G, 33, none⟩)) rfl (by kernel_rfl) (by kernel_rfl) (by kernel_rfl) (fun _ _ _ h => h) (Or.inl ⟨by rfl, fun _ _ => by go_simp⟩) HTR.out ?_
          try simp only [Act.put, List.setIfInBounds_toArray, List.set_cons_succ, List.set_cons_zero]
          refine wpAnyH_take (i := 8) (oi := ⟨some 38, .slice 31 (.tmp 37) none none none, 28, _, _, none⟩) (v := .slice (some ⟨G, 33, none⟩) 32 32) rfl (by kernel_rfl) (by kernel_rfl) (by kernel_rfl) (fun _ _ _ h => h) (Or.inl ⟨by rfl, fun _ _ => by go_simp⟩) HTR.out ?_
          try simp only [Act.put, List.setIfInBounds_toArray, List.set_cons_succ, List.set_cons_zero]
          refine wpAnyH_take (i := 9) (oi := ⟨some 39, .move (.tmp 7), 3, _, _, none⟩) (v := .int .i64 0) rfl (by kernel_rfl) (by kernel_rfl) (by kernel_rfl) (fun _ _ _ h => h) (Or.inl ⟨by rfl, fun _ _ => by go_simp⟩) HTR.out ?_
          try simp only [Act.put, List.setIfInBounds_toArray, List.set_cons_succ, List.set_cons_zero]
          refine wpAnyH_take (i := 10) (oi := ⟨some 40, .convert 3 5 (.tmp 39), 5, _, _, none⟩) (v := bv 0) rfl (by kernel_rfl) (by kernel_rfl) (by kernel_rfl) (fun _ _ _ h => h) (Or.inl ⟨by rfl, fun _ _ => by go_simp <;> rfl⟩) HTR.out ?_
          try simp only [Act.put, List.setIfInBounds_toArray, List.set_cons_succ, List.set_cons_zero]
          refine wpAnyH_take (i := 13) (oi := ⟨some 43, .move (.tmp 1), 35, _, _, none⟩) (v := .slice pa n d) rfl (by kernel_rfl) (by kernel_rfl) (by kernel_rfl) (fun _ _ _ h => h) (Or.inl ⟨by rfl, fun _ _ => by go_simp⟩) HTR.out ?_
          try simp only [Act.put, List.setIfInBounds_toArray, List.set_cons_succ, List.set_cons_zero]
          refine wpAnyH_ready (rs := [11]) (by kernel_rfl) (by simp) ?_
          refine AllReadyH.cons (o := ⟨some 41, .buildSlice 28 1 #[(0, .tmp 40)], 28, _, _, none⟩) rfl (fun K hK => ?_) AllReadyH.nil
          go_simp
          have BI := Blk.new v0 #[bv 0] 5
          have hb := below_one' v0 (.cells #[bv 0] 5)
          generalize World.alloc v0 _ = v1 at *
          have HD := Lib.hid (HD.out.on hb)
          have HPA := Lib.hid (HPA.out.on hb)
          have HT := Lib.hid (HT.out.on hb)
          have HBv := Lib.hid (HBv.out.trans (hb.mono HBv.out.size))
          replace BI := Lib.hid BI
          have TI := Lib.hid (by have h := Txt.of_blk (l := [0]) BI.out; exact h)
          clear hb
          refine hK _ _ HTR.out (fun _ => ?_)
          clear hK K
          try simp only [Act.put, List.setIfInBounds_toArray, List.set_cons_succ, List.set_cons_zero]
          refine wpAnyH_ready (rs := [12]) (by kernel_rfl) (by simp) ?_
          refine AllReadyH.cons (o := ⟨some 42, .buildSlice 35 2 #[(0, .tmp 38), (1, .tmp 41)], 35, _, _, none⟩) rfl (fun K hK => ?_) AllReadyH.nil
          go_simp
          have HP12 := Lib.hid ((((Pcs.nil v1).snoc HD.out.txtV).snoc TI.out).append HPA.out.vals)
          have HD12 := HD
          have HT12 := HT
          have HB12 := HBv
          have BJ := Blk.new v1 #[.slice (some ⟨G, 33, none⟩) 32 32, .slice (some ⟨v0.heap.size, 0, none⟩) 1 1] 28
          have hb := below_one' v1 (.cells #[.slice (some ⟨G, 33, none⟩) 32 32, .slice (some ⟨v0.heap.size, 0, none⟩) 1 1] 28)
          have HRV := Lib.hid (rowVals_on HPA.out hb)
          have HSB := Lib.hid hb
          generalize World.alloc v1 _ = v2 at *
          have HD := Lib.hid (HD.out.on hb)
          have HPA := Lib.hid (HPA.out.on hb)
          have HT := Lib.hid (HT.out.on hb)
          have HBv := Lib.hid (HBv.out.trans (hb.mono HBv.out.size))
          have BI := Lib.hid (BI.out.on hb)
          have TI := Lib.hid (TI.out.on hb)
          have OJ := Lib.hid (OwnS.of_blk (lo := v1.heap.size) (xs := [.slice (some ⟨G, 33, none⟩) 32 32, .slice (some ⟨v0.heap.size, 0, none⟩) 1 1]) BJ (Nat.le_refl _) (by simp [maxLen]))
          clear hb BJ
          refine hK _ _ HTR.out (fun _ => ?_)
          clear hK K
          try simp only [Act.put, List.setIfInBounds_toArray, List.set_cons_succ, List.set_cons_zero]
          refine wpAnyH_ready (rs := [14]) (by kernel_rfl) (by simp) ?_
          refine AllReadyH.cons (o := ⟨some 44, .call { callee := .builtin .append, args := #[.tmp 42, .tmp 43], argTypes := #[35, 35] }, 35, _, _, none⟩) rfl (fun K hK => ?_) AllReadyH.nil
          rw [if_pos (by rfl)]
          refine wp_append_row (.tmp 42) (.tmp 43) (by rfl) v1.heap.size _ _ (by rfl) OJ.out pa n d ls (by rfl) HNL.out HPA.out (by have := HLS.out; simp; omega) HSB.out.size ?_
          intro a8 n8 c8 v3 hO8 hg8
          rw [HRV.out] at hO8
          have hb8 := below_ownS HSB.out OJ.out HSB.out.size hg8
          have hq8 := parts_own hO8 HP12.out hb8
          have PA := Lib.hid hq8.2
          have HN8 := Lib.hid hq8.1
          have HBv := Lib.hid (HB12.out.trans (hb8.mono HB12.out.size))
          have HD := Lib.hid (HD12.out.on hb8)
          have HT := Lib.hid (HT12.out.on hb8)
          refine hK _ _ HTR.out (fun _ => ?_)
          clear hK K hO8 hg8 hb8 hq8 OJ HP12 HRV HSB HD12 HT12 HB12
          try simp only [Act.put, List.setIfInBounds_toArray, List.set_cons_succ, List.set_cons_zero]
          refine wpAnyH_ready (rs := [15]) (by kernel_rfl) (by simp) ?_
          refine AllReadyH.cons (o := ⟨some 45, .call { callee := .value (.func 40), args := #[.tmp 34, .tmp 44], argTypes := #[28, 35] }, 31, _, _, none⟩) rfl (fun K hK => ?_) AllReadyH.nil
          go_simp
          refine (mac_walk kk _ _ _ (vv :: [0] :: ls) _ _ HN8.out _ _ HD.out.txtK PA.out HT.out (by rw [HD.out.kl]; omega) (by have := HLL.out; have := HD.out.vl; simp only [List.flatten_cons, List.length_append, List.length_cons, List.length_nil]; omega) (by have := HLS.out; simp; omega)).mono ?_
          rintro e v4 ⟨he, hb⟩
          rw [show macL kk (vv :: [0] :: ls).flatten = KK by rw [HKK.out]; rfl] at he
          subst he
          have HD := Lib.hid (HD.out.on hb)
          have HT := Lib.hid (HT.out.on hb)
          have HBv := Lib.hid (HBv.out.trans (hb.mono HBv.out.size))
          clear hb
          refine hK _ _ HTR.out (fun _ => ?_)
          clear hK K
          try simp only [Act.put, List.setIfInBounds_toArray, List.set_cons_succ, List.set_cons_zero]
          refine wpAnyH_take (i := 16) (oi := ⟨some 46, .nilCheck (.tmp 30), _, _, _, none⟩) (v := .pointer (some ⟨G, 0, none⟩)) rfl (by kernel_rfl) (by kernel_rfl) (by kernel_rfl) (fun _ _ _ h => h) (Or.inl ⟨by rfl, fun _ _ => by go_simp⟩) HTR.out ?_
          try simp only [Act.put, List.setIfInBounds_toArray, List.set_cons_succ, List.set_cons_zero]
          refine wpAnyH_take (i := 17) (oi := ⟨some 47, .fieldAddr 155 (.tmp 46) 1, _, _, _, none⟩) (v := .pointer (some ⟨G, 1, none⟩)) rfl (by kernel_rfl) (by kernel_rfl) (by kernel_rfl) (fun _ _ _ h => h) (Or.inl ⟨by rfl, fun _ _ => by go_simp⟩) HTR.out ?_
          try simp only [Act.put, List.setIfInBounds_toArray, List.set_cons_succ, List.set_cons_zero]
          refine wpAnyH_ready (rs := [18]) (by kernel_rfl) (by simp) ?_
          refine AllReadyH.cons (o := ⟨none, .store 31 (.tmp 47) (.tmp 45), 0, _, _, none⟩) rfl (fun K hK => ?_) AllReadyH.nil
          rw [if_pos (by rfl)]
          refine wp_store_sub 31 (.tmp 47) (.tmp 45) (by rfl) G 1 (barr KK) (by rfl) (by rfl) HD.out.blk (by rw [dcells_size HD.out.kl HD.out.vl, barr_size, HKL.out]; omega) (by rw [barr_size, HKL.out]; exact size_u8x32) (barr_one_all _) ?_
          intro W9 hW9 p9
          refine hK _ _ trivial (fun _ => ?_)
          clear hK K
          rw [dcells_splice_k HD.out.kl KK HKL.out] at p9
          have HD9 := Lib.hid (DAt.mk HKL.out HD.out.vl p9)
          have hg9 := grownBy_trans (grownBy_of_below HBv.out) (row_of_wrote hW9)
          clear p9 hW9 HD HT HBv PA HN8
          refine wpAnyH_done (by kernel_rfl) ?_ _
          have HG9 := Lib.hid (grownBy_trans HGr.out hg9)
          have HT := Lib.hid (Two.kept HTw.out HG9.out HGt.out HGs.out)
          have HPb := Lib.hid (Parts.both HPw.out HG9.out)
          have HPA := Lib.hid (HPb.out.mono fun b h => h.2)
          have HD := Lib.hid HD9.out
          obtain ⟨VV, hVV⟩ : ∃ VV, VV = macL KK vv := ⟨_, rfl⟩
          have HVV := Lib.hid hVV
          have HVL := Lib.hid (show VV.length = 32 by rw [hVV]; exact macL_len _ _)
          clear hVV hg9 HD9
          go_wp2
          refine wp_region_held_drew (S := fun _ => True) (by kernel_rfl) trivial (fun _ => ?_)
          have HTR := Lib.hid trivial
          have hb : Below W9.heap.size W9 (World.drew W9) := (Below.refl _ _).drew
          have HBv := Lib.hid hb
          have HD := Lib.hid (HD.out.on hb)
          have HT := Lib.hid (HT.out.on hb)
          clear hb
          generalize World.drew W9 = v0 at *
          try simp only [Act.put, List.setIfInBounds_toArray, List.set_cons_succ, List.set_cons_zero]
          refine wpAnyH_take (i := 0) (oi := ⟨some 48, .move (.tmp 0), 75, _, _, none⟩) (v := .pointer (some ⟨G, 0, none⟩)) rfl (by kernel_rfl) (by kernel_rfl) (by kernel_rfl) (fun _ _ _ h => h) (Or.inl ⟨by rfl, fun _ _ => by go_simp⟩) HTR.out ?_
          try simp only [Act.put, List.setIfInBounds_toArray, List.set_cons_succ, List.set_cons_zero]
          refine wpAnyH_take (i := 1) (oi := ⟨some 49, .move (.tmp 0), 75, _, _, none⟩) (v := .pointer (some ⟨G, 0, none⟩)) rfl (by kernel_rfl) (by kernel_rfl) (by kernel_rfl) (fun _ _ _ h => h) (Or.inl ⟨by rfl, fun _ _ => by go_simp⟩) HTR.out ?_
          try simp only [Act.put, List.setIfInBounds_toArray, List.set_cons_succ, List.set_cons_zero]
          refine wpAnyH_take (i := 2) (oi := ⟨some 50, .nilCheck (.tmp 49), _, _, _, none⟩) (v := .pointer (some ⟨G, 0, none⟩)) rfl (by kernel_rfl) (by kernel_rfl) (by kernel_rfl) (fun _ _ _ h => h) (Or.inl ⟨by rfl, fun _ _ => by go_simp⟩) HTR.out ?_
          try simp only [Act.put, List.setIfInBounds_toArray, List.set_cons_succ, List.set_cons_zero]
          refine wpAnyH_take (i := 3) (oi := ⟨some 51, .fieldAddr 155 (.tmp 50) 1, _, _, _, none⟩) (v := .pointer (some ⟨G, 1, none⟩)) rfl (by kernel_rfl) (by kernel_rfl) (by kernel_rfl) (fun _ _ _ h => h) (Or.inl ⟨by rfl, fun _ _ => by go_simp⟩) HTR.out ?_
          try simp only [Act.put, List.setIfInBounds_toArray, List.set_cons_succ, List.set_cons_zero]
          refine wpAnyH_take (i := 4) (oi := ⟨some 52, .slice 31 (.tmp 51) none none none, 28, _, _, none⟩) (v := .slice (some ⟨G, 1, none⟩) 32 32) rfl (by kernel_rfl) (by kernel_rfl) (by kernel_rfl) (fun _ _ _ h => h) (Or.inl ⟨by rfl, fun _ _ => by go_simp⟩) HTR.out ?_
          try simp only [Act.put, List.setIfInBounds_toArray, List.set_cons_succ, List.set_cons_zero]
          refine wpAnyH_take (i := 5) (oi := ⟨some 53, .move (.tmp 0), 75, _, _, none⟩) (v := .pointer (some ⟨G, 0, none⟩)) rfl (by kernel_rfl) (by kernel_rfl) (by kernel_rfl) (fun _ _ _ h => h) (Or.inl ⟨by rfl, fun _ _ => by go_simp⟩) HTR.out ?_
          try simp only [Act.put, List.setIfInBounds_toArray, List.set_cons_succ, List.set_cons_zero]
          refine wpAnyH_take (i := 6) (oi := ⟨some 54, .nilCheck (.tmp 53), _, _, _, none⟩) (v := .pointer (some ⟨G, 0, none⟩)) rfl (by kernel_rfl) (by kernel_rfl) (by kernel_rfl) (fun _ _ _ h => h) (Or.inl ⟨by rfl, fun _ _ => by go_simp⟩) HTR.out ?_
          try simp only [Act.put, List.setIfInBounds_toArray, List.set_cons_succ, List.set_cons_zero]
          refine wpAnyH_take (i := 7) (oi := ⟨some 55, .fieldAddr 155 (.tmp 54) 2, _, _, _, none⟩) (v := .pointer (some ⟨G, 33, none⟩)) rfl (by kernel_rfl) (by kernel_rfl) (by kernel_rfl) (fun _ _ _ h => h) (Or.inl ⟨by rfl, fun _ _ => by go_simp⟩) HTR.out ?_
          try simp only [Act.put, List.setIfInBounds_toArray, List.set_cons_succ, List.set_cons_zero]
          refine wpAnyH_take (i := 8) (oi := ⟨some 56, .slice 31 (.tmp 55) none none none, 28, _, _, none⟩) (v := .slice (some ⟨G, 33, none⟩) 32 32) rfl (by kernel_rfl) (by kernel_rfl) (by kernel_rfl) (fun _ _ _ h => h) (Or.inl ⟨by rfl, fun _ _ => by go_simp⟩) HTR.out ?_
          try simp only [Act.put, List.setIfInBounds_toArray, List.set_cons_succ, List.set_cons_zero]
          refine wpAnyH_ready (rs := [9]) (by kernel_rfl) (by simp) ?_
          refine AllReadyH.cons (o := ⟨some 57, .buildSlice 35 1 #[(0, .tmp 56)], 35, _, _, none⟩) rfl (fun K hK => ?_) AllReadyH.nil
          go_simp
          have BJ := Blk.new v0 #[.slice (some ⟨G, 33, none⟩) 32 32] 28
          have hb := below_one' v0 (.cells #[.slice (some ⟨G, 33, none⟩) 32 32] 28)
          generalize World.alloc v0 _ = v101 at *
          have HD := Lib.hid (HD.out.on hb)
          have HT := Lib.hid (HT.out.on hb)
          have HBv := Lib.hid (HBv.out.trans (hb.mono HBv.out.size))
          replace BJ := Lib.hid BJ
          clear hb
          refine hK _ _ HTR.out (fun _ => ?_)
          clear hK K
          try simp only [Act.put, List.setIfInBounds_toArray, List.set_cons_succ, List.set_cons_zero]
          refine wpAnyH_ready (rs := [10]) (by kernel_rfl) (by simp) ?_
          refine AllReadyH.cons (o := ⟨some 58, .call { callee := .value (.func 40), args := #[.tmp 52, .tmp 57], argTypes := #[28, 35] }, 31, _, _, none⟩) rfl (fun K hK => ?_) AllReadyH.nil
          go_simp
          refine (mac_blk1 v101 _ 28 BJ.out HD.out.txtK HD.out.txtV HT.out (by rw [HD.out.kl]; omega) (by rw [HD.out.vl]; omega)).mono ?_
          rintro e v102 ⟨he, hb⟩
          rw [← HVV.out] at he
          subst he
          have HD := Lib.hid (HD.out.on hb)
          have HT := Lib.hid (HT.out.on hb)
          have HBv := Lib.hid (HBv.out.trans (hb.mono HBv.out.size))
          have BJ := Lib.hid (BJ.out.on hb)
          clear hb
          refine hK _ _ HTR.out (fun _ => ?_)
          clear hK K
          try simp only [Act.put, List.setIfInBounds_toArray, List.set_cons_succ, List.set_cons_zero]
          refine wpAnyH_take (i := 11) (oi := ⟨some 59, .nilCheck (.tmp 48), _, _, _, none⟩) (v := .pointer (some ⟨G, 0, none⟩)) rfl (by kernel_rfl) (by kernel_rfl) (by kernel_rfl) (fun _ _ _ h => h) (Or.inl ⟨by rfl, fun _ _ => by go_simp⟩) HTR.out ?_
          try simp only [Act.put, List.setIfInBounds_toArray, List.set_cons_succ, List.set_cons_zero]
          refine wpAnyH_take (i := 12) (oi := ⟨some 60, .fieldAddr 155 (.tmp 59) 2, _, _, _, none⟩) (v := .pointer (some ⟨G, 33, none⟩)) rfl (by kernel_rfl) (by kernel_rfl) (by kernel_rfl) (fun _ _ _ h => h) (Or.inl ⟨by rfl, fun _ _ => by go_simp⟩) HTR.out ?_
          try simp only [Act.put, List.setIfInBounds_toArray, List.set_cons_succ, List.set_cons_zero]
          refine wpAnyH_ready (rs := [13]) (by kernel_rfl) (by simp) ?_
          refine AllReadyH.cons (o := ⟨none, .store 31 (.tmp 60) (.tmp 58), 0, _, _, none⟩) rfl (fun K hK => ?_) AllReadyH.nil
          rw [if_pos (by rfl)]
          refine wp_store_sub 31 (.tmp 60) (.tmp 58) (by rfl) G 33 (barr VV) (by rfl) (by rfl) HD.out.blk (by rw [dcells_size HD.out.kl HD.out.vl, barr_size, HVL.out]; omega) (by rw [barr_size, HVL.out]; exact size_u8x32) (barr_one_all _) ?_
          intro W10 hW10 p10
          refine hK _ _ trivial (fun _ => ?_)
          clear hK K
          rw [dcells_splice_v HD.out.kl HD.out.vl VV HVL.out] at p10
          have HD10 := Lib.hid (DAt.mk HD.out.kl HVL.out p10)
          have hg10 := grownBy_trans (grownBy_of_below HBv.out) (row_of_wrote hW10)
          clear p10 hW10 HD HT HBv
          refine wpAnyH_done (by kernel_rfl) ?_ _
          go_wp2
          have HG10 := Lib.hid (grownBy_trans HG9.out hg10)
          go_roundw
          case rel => exact ⟨1, KK, VV, by omega, rfl, HD10.out, HG10.out, fun h => by omega, fun _ => ⟨HKK.out, by rw [HVV.out, HKK.out]⟩, fun h => by omega⟩
          case measure => simp [intOf]
        · have HJ1 := Lib.hid (HJ.out.2.1 rfl)
          clear HJ
          cases sm with
          | true =>
            have HNE := Lib.hid (show ls.flatten ≠ [] from HSM'.out.1 rfl)
            have HT := Lib.hid (Two.kept HTw.out HGr.out HGt.out HGs.out)
            have HPb := Lib.hid (Parts.both HPw.out HGr.out)
            have HPA := Lib.hid (HPb.out.mono fun b h => h.2)
            obtain ⟨KK, hKK⟩ : ∃ KK, KK = stepK kk vv 1 ls.flatten := ⟨_, rfl⟩
            have HKK := Lib.hid hKK
            have HKL := Lib.hid (show KK.length = 32 by rw [hKK]; exact stepK_len _ _ _ _)
            clear hKK HPb
            go_wp2
            refine wp_region_held_drew (S := fun _ => True) (by kernel_rfl) trivial (fun _ => ?_)
            have HTR := Lib.hid trivial
            have hb : Below wr.heap.size wr (World.drew wr) := (Below.refl _ _).drew
            have HBv := Lib.hid hb
            have HD := Lib.hid (HD.out.on hb)
            have HPA := Lib.hid (HPA.out.on hb)
            have HT := Lib.hid (HT.out.on hb)
            clear hb
            generalize World.drew wr = v0 at *
            try simp only [Act.put, List.setIfInBounds_toArray, List.set_cons_succ, List.set_cons_zero]
            refine wpAnyH_take (i := 0) (oi := ⟨some 30, .move (.tmp 0), 75, _, _, none⟩) (v := .pointer (some ⟨G, 0, none⟩)) rfl (by kernel_rfl) (by kernel_rfl) (by kernel_rfl) (fun _ _ _ h => h) (Or.inl ⟨by rfl, fun _ _ => by go_simp⟩) HTR.out ?_
            try simp only [Act.put, List.setIfInBounds_toArray, List.set_cons_succ, List.set_cons_zero]
            refine wpAnyH_take (i := 1) (oi := ⟨some 31, .move (.tmp 0), 75, _, _, none⟩) (v := .pointer (some ⟨G, 0, none⟩)) rfl (by kernel_rfl) (by kernel_rfl) (by kernel_rfl) (fun _ _ _ h => h) (Or.inl ⟨by rfl, fun _ _ => by go_simp⟩) HTR.out ?_
            try simp only [Act.put, List.setIfInBounds_toArray, List.set_cons_succ, List.set_cons_zero]
            refine wpAnyH_take (i := 2) (oi := ⟨some 32, .nilCheck (.tmp 31), _, _, _, none⟩) (v := .pointer (some ⟨G, 0, none⟩)) rfl (by kernel_rfl) (by kernel_rfl) (by kernel_rfl) (fun _ _ _ h => h) (Or.inl ⟨by rfl, fun _ _ => by go_simp⟩) HTR.out ?_
            try simp only [Act.put, List.setIfInBounds_toArray, List.set_cons_succ, List.set_cons_zero]
            refine wpAnyH_take (i := 3) (oi := ⟨some 33, .fieldAddr 155 (.tmp 32) 1, _, _, _, none⟩) (v := .pointer (some ⟨G, 1, none⟩)) rfl (by kernel_rfl) (by kernel_rfl) (by kernel_rfl) (fun _ _ _ h => h) (Or.inl ⟨by rfl, fun _ _ => by go_simp⟩) HTR.out ?_
            try simp only [Act.put, List.setIfInBounds_toArray, List.set_cons_succ, List.set_cons_zero]
            refine wpAnyH_take (i := 4) (oi := ⟨some 34, .slice 31 (.tmp 33) none none none, 28, _, _, none⟩) (v := .slice (some ⟨G, 1, none⟩) 32 32) rfl (by kernel_rfl) (by kernel_rfl) (by kernel_rfl) (fun _ _ _ h => h) (Or.inl ⟨by rfl, fun _ _ => by go_simp⟩) HTR.out ?_
            try simp only [Act.put, List.setIfInBounds_toArray, List.set_cons_succ, List.set_cons_zero]
            refine wpAnyH_take (i := 5) (oi := ⟨some 35, .move (.tmp 0), 75, _, _, none⟩) (v := .pointer (some ⟨G, 0, none⟩)) rfl (by kernel_rfl) (by kernel_rfl) (by kernel_rfl) (fun _ _ _ h => h) (Or.inl ⟨by rfl, fun _ _ => by go_simp⟩) HTR.out ?_
            try simp only [Act.put, List.setIfInBounds_toArray, List.set_cons_succ, List.set_cons_zero]
            refine wpAnyH_take (i := 6) (oi := ⟨some 36, .nilCheck (.tmp 35), _, _, _, none⟩) (v := .pointer (some ⟨G, 0, none⟩)) rfl (by kernel_rfl) (by kernel_rfl) (by kernel_rfl) (fun _ _ _ h => h) (Or.inl ⟨by rfl, fun _ _ => by go_simp⟩) HTR.out ?_
            try simp only [Act.put, List.setIfInBounds_toArray, List.set_cons_succ, List.set_cons_zero]
            refine wpAnyH_take (i := 7) (oi := ⟨some 37, .fieldAddr 155 (.tmp 36) 2, _, _, _, none⟩) (v := .pointer (some ⟨G, 33, none⟩)) rfl (by kernel_rfl) (by kernel_rfl) (by kernel_rfl) (fun _ _ _ h => h) (Or.inl ⟨by rfl, fun _ _ => by go_simp⟩) HTR.out ?_
            try simp only [Act.put, List.setIfInBounds_toArray, List.set_cons_succ, List.set_cons_zero]
            refine wpAnyH_take (i := 8) (oi := ⟨some 38, .slice 31 (.tmp 37) none none none, 28, _, _, none⟩) (v := .slice (some ⟨G, 33, none⟩) 32 32) rfl (by kernel_rfl) (by kernel_rfl) (by kernel_rfl) (fun _ _ _ h => h) (Or.inl ⟨by rfl, fun _ _ => by go_simp⟩) HTR.out ?_
            try simp only [Act.put, List.setIfInBounds_toArray, List.set_cons_succ, List.set_cons_zero]
            refine wpAnyH_take (i := 9) (oi := ⟨some 39, .move (.tmp 7), 3, _, _, none⟩) (v := .int .i64 1) rfl (by kernel_rfl) (by kernel_rfl) (by kernel_rfl) (fun _ _ _ h => h) (Or.inl ⟨by rfl, fun _ _ => by go_simp⟩) HTR.out ?_
            try simp only [Act.put, List.setIfInBounds_toArray, List.set_cons_succ, List.set_cons_zero]
            refine wpAnyH_take (i := 10) (oi := ⟨some 40, .convert 3 5 (.tmp 39), 5, _, _, none⟩) (v := bv 1) rfl (by kernel_rfl) (by kernel_rfl) (by kernel_rfl) (fun _ _ _ h => h) (Or.inl ⟨by rfl, fun _ _ => by go_simp <;> rfl⟩) HTR.out ?_
            try simp only [Act.put, List.setIfInBounds_toArray, List.set_cons_succ, List.set_cons_zero]
            refine wpAnyH_take (i := 13) (oi := ⟨some 43, .move (.tmp 1), 35, _, _, none⟩) (v := .slice pa n d) rfl (by kernel_rfl) (by kernel_rfl) (by kernel_rfl) (fun _ _ _ h => h) (Or.inl ⟨by rfl, fun _ _ => by go_simp⟩) HTR.out ?_
            try simp only [Act.put, List.setIfInBounds_toArray, List.set_cons_succ, List.set_cons_zero]
            refine wpAnyH_ready (rs := [11]) (by kernel_rfl) (by simp) ?_
            refine AllReadyH.cons (o := ⟨some 41, .buildSlice 28 1 #[(0, .tmp 40)], 28, _, _, none⟩) rfl (fun K hK => ?_) AllReadyH.nil
            go_simp
            have BI := Blk.new v0 #[bv 1] 5
            have hb := below_one' v0 (.cells #[bv 1] 5)
            generalize World.alloc v0 _ = v1 at *
            have HD := Lib.hid (HD.out.on hb)
            have HPA := Lib.hid (HPA.out.on hb)
            have HT := Lib.hid (HT.out.on hb)
            have HBv := Lib.hid (HBv.out.trans (hb.mono HBv.out.size))
            replace BI := Lib.hid BI
            have TI := Lib.hid (by have h := Txt.of_blk (l := [1]) BI.out; exact h)
            clear hb
            refine hK _ _ HTR.out (fun _ => ?_)
            clear hK K
            try simp only [Act.put, List.setIfInBounds_toArray, List.set_cons_succ, List.set_cons_zero]
            refine wpAnyH_ready (rs := [12]) (by kernel_rfl) (by simp) ?_
            refine AllReadyH.cons (o := ⟨some 42, .buildSlice 35 2 #[(0, .tmp 38), (1, .tmp 41)], 35, _, _, none⟩) rfl (fun K hK => ?_) AllReadyH.nil
            go_simp
            have HP12 := Lib.hid ((((Pcs.nil v1).snoc HD.out.txtV).snoc TI.out).append HPA.out.vals)
            have HD12 := HD
            have HT12 := HT
            have HB12 := HBv
            have BJ := Blk.new v1 #[.slice (some ⟨G, 33, none⟩) 32 32, .slice (some ⟨v0.heap.size, 0, none⟩) 1 1] 28
            have hb := below_one' v1 (.cells #[.slice (some ⟨G, 33, none⟩) 32 32, .slice (some ⟨v0.heap.size, 0, none⟩) 1 1] 28)
            have HRV := Lib.hid (rowVals_on HPA.out hb)
            have HSB := Lib.hid hb
            generalize World.alloc v1 _ = v2 at *
            have HD := Lib.hid (HD.out.on hb)
            have HPA := Lib.hid (HPA.out.on hb)
            have HT := Lib.hid (HT.out.on hb)
            have HBv := Lib.hid (HBv.out.trans (hb.mono HBv.out.size))
            have BI := Lib.hid (BI.out.on hb)
            have TI := Lib.hid (TI.out.on hb)
            have OJ := Lib.hid (OwnS.of_blk (lo := v1.heap.size) (xs := [.slice (some ⟨G, 33, none⟩) 32 32, .slice (some ⟨v0.heap.size, 0, none⟩) 1 1]) BJ (Nat.le_refl _) (by simp [maxLen]))
            clear hb BJ
            refine hK _ _ HTR.out (fun _ => ?_)
            clear hK K
            try simp only [Act.put, List.setIfInBounds_toArray, List.set_cons_succ, List.set_cons_zero]
            refine wpAnyH_ready (rs := [14]) (by kernel_rfl) (by simp) ?_
            refine AllReadyH.cons (o := ⟨some 44, .call { callee := .builtin .append, args := #[.tmp 42, .tmp 43], argTypes := #[35, 35] }, 35, _, _, none⟩) rfl (fun K hK => ?_) AllReadyH.nil
            rw [if_pos (by rfl)]
            refine wp_append_row (.tmp 42) (.tmp 43) (by rfl) v1.heap.size _ _ (by rfl) OJ.out pa n d ls (by rfl) HNL.out HPA.out (by have := HLS.out; simp; omega) HSB.out.size ?_
            intro a8 n8 c8 v3 hO8 hg8
            rw [HRV.out] at hO8
            have hb8 := below_ownS HSB.out OJ.out HSB.out.size hg8
            have hq8 := parts_own hO8 HP12.out hb8
            have PA := Lib.hid hq8.2
            have HN8 := Lib.hid hq8.1
            have HBv := Lib.hid (HB12.out.trans (hb8.mono HB12.out.size))
            have HD := Lib.hid (HD12.out.on hb8)
            have HT := Lib.hid (HT12.out.on hb8)
            refine hK _ _ HTR.out (fun _ => ?_)
            clear hK K hO8 hg8 hb8 hq8 OJ HP12 HRV HSB HD12 HT12 HB12
            try simp only [Act.put, List.setIfInBounds_toArray, List.set_cons_succ, List.set_cons_zero]
            refine wpAnyH_ready (rs := [15]) (by kernel_rfl) (by simp) ?_
            refine AllReadyH.cons (o := ⟨some 45, .call { callee := .value (.func 40), args := #[.tmp 34, .tmp 44], argTypes := #[28, 35] }, 31, _, _, none⟩) rfl (fun K hK => ?_) AllReadyH.nil
            go_simp
            refine (mac_walk kk _ _ _ (vv :: [1] :: ls) _ _ HN8.out _ _ HD.out.txtK PA.out HT.out (by rw [HD.out.kl]; omega) (by have := HLL.out; have := HD.out.vl; simp only [List.flatten_cons, List.length_append, List.length_cons, List.length_nil]; omega) (by have := HLS.out; simp; omega)).mono ?_
            rintro e v4 ⟨he, hb⟩
            rw [show macL kk (vv :: [1] :: ls).flatten = KK by rw [HKK.out]; rfl] at he
            subst he
            have HD := Lib.hid (HD.out.on hb)
            have HT := Lib.hid (HT.out.on hb)
            have HBv := Lib.hid (HBv.out.trans (hb.mono HBv.out.size))
            clear hb
            refine hK _ _ HTR.out (fun _ => ?_)
            clear hK K
            try simp only [Act.put, List.setIfInBounds_toArray, List.set_cons_succ, List.set_cons_zero]
            refine wpAnyH_take (i := 16) (oi := ⟨some 46, .nilCheck (.tmp 30), _, _, _, none⟩) (v := .pointer (some ⟨G, 0, none⟩)) rfl (by kernel_rfl) (by kernel_rfl) (by kernel_rfl) (fun _ _ _ h => h) (Or.inl ⟨by rfl, fun _ _ => by go_simp⟩) HTR.out ?_
            try simp only [Act.put, List.setIfInBounds_toArray, List.set_cons_succ, List.set_cons_zero]
            refine wpAnyH_take (i := 17) (oi := ⟨some 47, .fieldAddr 155 (.tmp 46) 1, _, _, _, none⟩) (v := .pointer (some ⟨G, 1, none⟩)) rfl (by kernel_rfl) (by kernel_rfl) (by kernel_rfl) (fun _ _ _ h => h) (Or.inl ⟨by rfl, fun _ _ => by go_simp⟩) HTR.out ?_
            try simp only [Act.put, List.setIfInBounds_toArray, List.set_cons_succ, List.set_cons_zero]
            refine wpAnyH_ready (rs := [18]) (by kernel_rfl) (by simp) ?_
            refine AllReadyH.cons (o := ⟨none, .store 31 (.tmp 47) (.tmp 45), 0, _, _, none⟩) rfl (fun K hK => ?_) AllReadyH.nil
            rw [if_pos (by rfl)]
            refine wp_store_sub 31 (.tmp 47) (.tmp 45) (by rfl) G 1 (barr KK) (by rfl) (by rfl) HD.out.blk (by rw [dcells_size HD.out.kl HD.out.vl, barr_size, HKL.out]; omega) (by rw [barr_size, HKL.out]; exact size_u8x32) (barr_one_all _) ?_
            intro W9 hW9 p9
            refine hK _ _ trivial (fun _ => ?_)
            clear hK K
            rw [dcells_splice_k HD.out.kl KK HKL.out] at p9
            have HD9 := Lib.hid (DAt.mk HKL.out HD.out.vl p9)
            have hg9 := grownBy_trans (grownBy_of_below HBv.out) (row_of_wrote hW9)
            clear p9 hW9 HD HT HBv PA HN8
            refine wpAnyH_done (by kernel_rfl) ?_ _
            have HG9 := Lib.hid (grownBy_trans HGr.out hg9)
            have HT := Lib.hid (Two.kept HTw.out HG9.out HGt.out HGs.out)
            have HPb := Lib.hid (Parts.both HPw.out HG9.out)
            have HPA := Lib.hid (HPb.out.mono fun b h => h.2)
            have HD := Lib.hid HD9.out
            obtain ⟨VV, hVV⟩ : ∃ VV, VV = macL KK vv := ⟨_, rfl⟩
            have HVV := Lib.hid hVV
            have HVL := Lib.hid (show VV.length = 32 by rw [hVV]; exact macL_len _ _)
            clear hVV hg9 HD9
            go_wp2
            refine wp_region_held_drew (S := fun _ => True) (by kernel_rfl) trivial (fun _ => ?_)
            have HTR := Lib.hid trivial
            have hb : Below W9.heap.size W9 (World.drew W9) := (Below.refl _ _).drew
            have HBv := Lib.hid hb
            have HD := Lib.hid (HD.out.on hb)
            have HT := Lib.hid (HT.out.on hb)
            clear hb
            generalize World.drew W9 = v0 at *
            try simp only [Act.put, List.setIfInBounds_toArray, List.set_cons_succ, List.set_cons_zero]
            refine wpAnyH_take (i := 0) (oi := ⟨some 48, .move (.tmp 0), 75, _, _, none⟩) (v := .pointer (some ⟨G, 0, none⟩)) rfl (by kernel_rfl) (by kernel_rfl) (by kernel_rfl) (fun _ _ _ h => h) (Or.inl ⟨by rfl, fun _ _ => by go_simp⟩) HTR.out ?_
            try simp only [Act.put, List.setIfInBounds_toArray, List.set_cons_succ, List.set_cons_zero]
            refine wpAnyH_take (i := 1) (oi := ⟨some 49, .move (.tmp 0), 75, _, _, none⟩) (v := .pointer (some ⟨G, 0, none⟩)) rfl (by kernel_rfl) (by kernel_rfl) (by kernel_rfl) (fun _ _ _ h => h) (Or.inl ⟨by rfl, fun _ _ => by go_simp⟩) HTR.out ?_
            try simp only [Act.put, List.setIfInBounds_toArray, List.set_cons_succ, List.set_cons_zero]
            refine wpAnyH_take (i := 2) (oi := ⟨some 50, .nilCheck (.tmp 49), _, _, _, none⟩) (v := .pointer (some ⟨G, 0, none⟩)) rfl (by kernel_rfl) (by kernel_rfl) (by kernel_rfl) (fun _ _ _ h => h) (Or.inl ⟨by rfl, fun _ _ => by go_simp⟩) HTR.out ?_
            try simp only [Act.put, List.setIfInBounds_toArray, List.set_cons_succ, List.set_cons_zero]
            refine wpAnyH_take (i := 3) (oi := ⟨some 51, .fieldAddr 155 (.tmp 50) 1, _, _, _, none⟩) (v := .pointer (some ⟨G, 1, none⟩)) rfl (by kernel_rfl) (by kernel_rfl) (by kernel_rfl) (fun _ _ _ h => h) (Or.inl ⟨by rfl, fun _ _ => by go_simp⟩) HTR.out ?_
            try simp only [Act.put, List.setIfInBounds_toArray, List.set_cons_succ, List.set_cons_zero]
            refine wpAnyH_take (i := 4) (oi := ⟨some 52, .slice 31 (.tmp 51) none none none, 28, _, _, none⟩) (v := .slice (some ⟨G, 1, none⟩) 32 32) rfl (by kernel_rfl) (by kernel_rfl) (by kernel_rfl) (fun _ _ _ h => h) (Or.inl ⟨by rfl, fun _ _ => by go_simp⟩) HTR.out ?_
            try simp only [Act.put, List.setIfInBounds_toArray, List.set_cons_succ, List.set_cons_zero]
            refine wpAnyH_take (i := 5) (oi := ⟨some 53, .move (.tmp 0), 75, _, _, none⟩) (v := .pointer (some ⟨G, 0, none⟩)) rfl (by kernel_rfl) (by kernel_rfl) (by kernel_rfl) (fun _ _ _ h => h) (Or.inl ⟨by rfl, fun _ _ => by go_simp⟩) HTR.out ?_
            try simp only [Act.put, List.setIfInBounds_toArray, List.set_cons_succ, List.set_cons_zero]
            refine wpAnyH_take (i := 6) (oi := ⟨some 54, .nilCheck (.tmp 53), _, _, _, none⟩) (v := .pointer (some ⟨G, 0, none⟩)) rfl (by kernel_rfl) (by kernel_rfl) (by kernel_rfl) (fun _ _ _ h => h) (Or.inl ⟨by rfl, fun _ _ => by go_simp⟩) HTR.out ?_
            try simp only [Act.put, List.setIfInBounds_toArray, List.set_cons_succ, List.set_cons_zero]
            refine wpAnyH_take (i := 7) (oi := ⟨some 55, .fieldAddr 155 (.tmp 54) 2, _, _, _, none⟩) (v := .pointer (some ⟨G, 33, none⟩)) rfl (by kernel_rfl) (by kernel_rfl) (by kernel_rfl) (fun _ _ _ h => h) (Or.inl ⟨by rfl, fun _ _ => by go_simp⟩) HTR.out ?_
            try simp only [Act.put, List.setIfInBounds_toArray, List.set_cons_succ, List.set_cons_zero]
            refine wpAnyH_take (i := 8) (oi := ⟨some 56, .slice 31 (.tmp 55) none none none, 28, _, _, none⟩) (v := .slice (some ⟨G, 33, none⟩) 32 32) rfl (by kernel_rfl) (by kernel_rfl) (by kernel_rfl) (fun _ _ _ h => h) (Or.inl ⟨by rfl, fun _ _ => by go_simp⟩) HTR.out ?_
            try simp only [Act.put, List.setIfInBounds_toArray, List.set_cons_succ, List.set_cons_zero]
            refine wpAnyH_ready (rs := [9]) (by kernel_rfl) (by simp) ?_
            refine AllReadyH.cons (o := ⟨some 57, .buildSlice 35 1 #[(0, .tmp 56)], 35, _, _, none⟩) rfl (fun K hK => ?_) AllReadyH.nil
            go_simp
            have BJ := Blk.new v0 #[.slice (some ⟨G, 33, none⟩) 32 32] 28
            have hb := below_one' v0 (.cells #[.slice (some ⟨G, 33, none⟩) 32 32] 28)
            generalize World.alloc v0 _ = v101 at *
            have HD := Lib.hid (HD.out.on hb)
            have HT := Lib.hid (HT.out.on hb)
            have HBv := Lib.hid (HBv.out.trans (hb.mono HBv.out.size))
            replace BJ := Lib.hid BJ
            clear hb
            refine hK _ _ HTR.out (fun _ => ?_)
            clear hK K
            try simp only [Act.put, List.setIfInBounds_toArray, List.set_cons_succ, List.set_cons_zero]
            refine wpAnyH_ready (rs := [10]) (by kernel_rfl) (by simp) ?_
            refine AllReadyH.cons (o := ⟨some 58, .call { callee := .value (.func 40), args := #[.tmp 52, .tmp 57], argTypes := #[28, 35] }, 31, _, _, none⟩) rfl (fun K hK => ?_) AllReadyH.nil
            go_simp
            refine (mac_blk1 v101 _ 28 BJ.out HD.out.txtK HD.out.txtV HT.out (by rw [HD.out.kl]; omega) (by rw [HD.out.vl]; omega)).mono ?_
            rintro e v102 ⟨he, hb⟩
            rw [← HVV.out] at he
            subst he
            have HD := Lib.hid (HD.out.on hb)
            have HT := Lib.hid (HT.out.on hb)
            have HBv := Lib.hid (HBv.out.trans (hb.mono HBv.out.size))
            have BJ := Lib.hid (BJ.out.on hb)
            clear hb
            refine hK _ _ HTR.out (fun _ => ?_)
            clear hK K
            try simp only [Act.put, List.setIfInBounds_toArray, List.set_cons_succ, List.set_cons_zero]
            refine wpAnyH_take (i := 11) (oi := ⟨some 59, .nilCheck (.tmp 48), _, _, _, none⟩) (v := .pointer (some ⟨G, 0, none⟩)) rfl (by kernel_rfl) (by kernel_rfl) (by kernel_rfl) (fun _ _ _ h => h) (Or.inl ⟨by rfl, fun _ _ => by go_simp⟩) HTR.out ?_
            try simp only [Act.put, List.setIfInBounds_toArray, List.set_cons_succ, List.set_cons_zero]
            refine wpAnyH_take (i := 12) (oi := ⟨some 60, .fieldAddr 155 (.tmp 59) 2, _, _, _, none⟩) (v := .pointer (some ⟨G, 33, none⟩)) rfl (by kernel_rfl) (by kernel_rfl) (by kernel_rfl) (fun _ _ _ h => h) (Or.inl ⟨by rfl, fun _ _ => by go_simp⟩) HTR.out ?_
            try simp only [Act.put, List.setIfInBounds_toArray, List.set_cons_succ, List.set_cons_zero]
            refine wpAnyH_ready (rs := [13]) (by kernel_rfl) (by simp) ?_
            refine AllReadyH.cons (o := ⟨none, .store 31 (.tmp 60) (.tmp 58), 0, _, _, none⟩) rfl (fun K hK => ?_) AllReadyH.nil
            rw [if_pos (by rfl)]
            refine wp_store_sub 31 (.tmp 60) (.tmp 58) (by rfl) G 33 (barr VV) (by rfl) (by rfl) HD.out.blk (by rw [dcells_size HD.out.kl HD.out.vl, barr_size, HVL.out]; omega) (by rw [barr_size, HVL.out]; exact size_u8x32) (barr_one_all _) ?_
            intro W10 hW10 p10
            refine hK _ _ trivial (fun _ => ?_)
            clear hK K
            rw [dcells_splice_v HD.out.kl HD.out.vl VV HVL.out] at p10
            have HD10 := Lib.hid (DAt.mk HD.out.kl HVL.out p10)
            have hg10 := grownBy_trans (grownBy_of_below HBv.out) (row_of_wrote hW10)
            clear p10 hW10 HD HT HBv
            refine wpAnyH_done (by kernel_rfl) ?_ _
            go_wp2
            have HG10 := Lib.hid (grownBy_trans HG9.out hg10)
            go_roundw
            case rel =>
              have eK : KK = updK k v ls.flatten := by unfold updK; rw [if_neg HNE.out, HKK.out, HJ1.out.1, HJ1.out.2]
              have eV : VV = updV k v ls.flatten := by unfold updV; rw [if_neg HNE.out, HVV.out, eK, HJ1.out.2]
              exact ⟨2, KK, VV, by omega, rfl, HD10.out, HG10.out, fun h => by omega, fun h => by omega, fun _ => ⟨HNE.out, eK, eV⟩⟩
            case measure => simp [intOf]
          | false =>
            have HE := Lib.hid (show ls.flatten = [] by have := HSM'.out; simpa using this)
            go_wp2
            ((try simp only [Exit.inBlock, Exit.then]); refine bodyPost_ret (results_none rfl _ _ _) rfl ?_)
            refine ⟨rfl, HGr.out, ?_⟩
            have h := HD.out
            rw [HJ1.out.1, HJ1.out.2] at h
            unfold updK updV
            rw [if_pos HE.out, if_pos HE.out]
            exact h
        · have HJ2 := Lib.hid (HJ.out.2.2 rfl)
          clear HJ
          go_wp2
          go_end0
          refine ⟨rfl, HGr.out, ?_⟩
          have h := HD.out
          rw [HJ2.out.2.1, HJ2.out.2.2] at h
          exact h
end Go.Proofs.YtgbahfggnbpnmaaDoor
