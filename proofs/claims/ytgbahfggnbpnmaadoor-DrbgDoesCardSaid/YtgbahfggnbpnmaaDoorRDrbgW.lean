import Derived.Test.YtgbahfggnbpnmaaDoorRDrbgD
/-
  The reference's generator: Draw.
-/
namespace Go.Proofs.YtgbahfggnbpnmaaDoor
open Go.RowKit
theorem slice_hW {w : World} {a : Option Addr} {n c k : Nat} {l : List UInt8} (h : Txt w a n c l) (h1 : k ≤ n) (W : World) :
    (Instr.sliceAt 28 (.slice a n c) none (some (.int .i64 k)) none).run Tryd.prog W = .ok (.slice a k c) W := by
  have hf := h.fit
  rw [run_sliceAt_slice (h := under_u8s), run_slice_h (ht := under_u8s) (h0 := by omega) (h2 := by omega), elem_u8s, size_one]
  cases a with
  | none => simp [Result.andThen, sliced]
  | some a => simp [Result.andThen, sliced, Addr.add]
def set3 (w : World) (g : Nat) (x y z : Value) : World := (((w.setCell ⟨g, 0, none⟩ x).setCell ⟨g, 1, none⟩ y).setCell ⟨g, 2, none⟩ z).drew
theorem set3_grown (w : World) (g : Nat) (x y z : Value) : w.grownBy (set3 w g x y z) (some g) :=
  grownBy_drew (grownBy_set (grownBy_set (grownBy_set (World.grownBy.refl w (some g)) 0 x) 1 y) 2 z)
theorem set3_blk {w : World} {g : Nat} {a b c : Value} {t : TypeId} (h : Blk w g #[a, b, c] t) (x y z : Value) : Blk (set3 w g x y z) g #[x, y, z] t :=
  (((h.set 0 x).set 1 y).set 2 z).drew
theorem set3_below {w0 w : World} {g B : Nat} (h : Below B w0 w) (hg : B ≤ g) (x y z : Value) : Below B w0 (set3 w g x y z) :=
  (below_setCell (below_setCell (below_setCell h hg x) hg y) hg z).drew
set_option maxRecDepth 100000 in
set_option maxHeartbeats 2000000 in
theorem rdraw_walk (k v add : List UInt8) (ka va b : Option Addr) (kn kc vn vc N m d : Nat) (cnt : Int) (w : World) (hK : Txt w ka kn kc k) (hV : Txt w va vn vc v) (hA : Txt w b m d add) (hkl : k.length = 32) (hvl : v.length = 32) (hc : 0 ≤ cnt) (he : drawE N add.length cnt = 0) :
    Calls Tryd.prog 120 #[.agg #[.slice ka kn kc, .slice va vn vc, .int .i64 cnt], .int .i64 N, .slice b m d] w fun e w' => ∃ ao co kx kxn kxc vx vxn vxc, e = .returned (.tuple #[.slice ao N co, .agg #[.slice kx kxn kxc, .slice vx vxn vxc, .int .i64 (cnt + 1)], .int .i64 0]) ∧ Txt w' ao N co (drawO k v add N) ∧ Txt w' kx kxn kxc (nextK k v add N) ∧ Txt w' vx vxn vxc (nextV k v add N) ∧ (∀ q o, ao = some ⟨q, o, none⟩ → w.heap.size ≤ q) ∧ (∀ q o, kx = some ⟨q, o, none⟩ → w.heap.size ≤ q) ∧ (∀ q o, vx = some ⟨q, o, none⟩ → w.heap.size ≤ q) ∧ Below w.heap.size w w' := by
  have hN : N ≤ 65536 ∧ add.length ≤ 4096 ∧ cnt ≤ 1024 := by
    unfold drawE at he
    by_cases q1 : (N : Int) < 0
    · omega
    · rw [if_neg q1] at he
      by_cases q2 : 65536 < (N : Int) ∨ 4096 < add.length
      · rw [if_pos q2] at he; omega
      · rw [if_neg q2] at he
        by_cases q3 : 1024 < cnt
        · rw [if_pos q3] at he; omega
        · omega
  have HC0 := Lib.hid hc
  have HC1 := Lib.hid hN.2.2
  have HGN := Lib.hid hN.1
  have HAL := Lib.hid hN.2.1
  have g0 : ¬ (N : Int) < 0 := by omega
  have g1 : ¬ (65536 : Int) < (N : Int) := by have := hN.1; omega
  have g2 : ¬ (4096 : Int) < (m : Int) := by have := hN.2.1; have := hA.len; omega
  have g3 : ¬ (1024 : Int) < cnt := by have := hN.2.2; omega
  have HML := Lib.hid hA.len
  have HA0 := Lib.hid hA
  have hb2 := below_two w (.cells #[.slice ka kn kc, .slice va vn vc, .int .i64 cnt] 88) (.cells #[.slice none 0 0, .slice none 0 0, .int .i64 0] 88)
  have BX := Lib.hid ((Blk.new w #[.slice ka kn kc, .slice va vn vc, .int .i64 cnt] 88).alloc (.cells #[.slice none 0 0, .slice none 0 0, .int .i64 0] 88))
  have BY := Lib.hid (Blk.new' (w.alloc (.cells #[.slice ka kn kc, .slice va vn vc, .int .i64 cnt] 88)) #[.slice none 0 0, .slice none 0 0, .int .i64 0] 88 (g := w.heap.size + 1) (by simp))
  have TK := Lib.hid (hK.on hb2)
  have TV := Lib.hid (hV.on hb2)
  have FKX := Lib.hid (hK.offG (Nat.le_refl w.heap.size))
  have HKL := Lib.hid hkl
  have HVL0 := Lib.hid hvl
  have HB := Lib.hid hb2
  clear hA hK hV hkl hvl hc he hN hb2
  by_cases hz : 0 < m
  · have hz' : (0 : Int) < (m : Int) := by omega
    have HAN := Lib.hid (show add ≠ [] by intro e; have := HML.out; rw [e] at this; simp at this; omega)
    have b2 := BX.out.cell 2 rfl
    go_enter Tryd.func120, Tryd.ntmps120
    go_wp2_with (refine wpList_load_row rfl 88 (.tmp 3) rfl w.heap.size rfl 88 _ _ _ BX.out Tryd.underlying88 rfl size_ref5 ?_)
    refine (rupd_walk k v add ka va b kn kc vn vc m d cnt _ TK.out TV.out (HA0.out.on HB.out) HKL.out HVL0.out (by have := HAL.out; omega)).mono ?_
    rintro e w2 ⟨kq, kqn, kqc, vq, vqn, vqc, rfl, hK2, hV2, hfk, hfv, hb⟩
    obtain ⟨kk, hkk⟩ : ∃ z, z = updK k v add := ⟨_, rfl⟩
    obtain ⟨vv, hvv⟩ : ∃ z, z = updV k v add := ⟨_, rfl⟩
    rw [← hkk] at hK2
    rw [← hvv] at hV2
    have HKKL := Lib.hid (show kk.length = 32 by rw [hkk]; exact updK_len _ _ _)
    have HVVL := Lib.hid (show vv.length = 32 by rw [hvv]; exact updV_len _ _ _)
    have HKE := Lib.hid (show kk = preK k v add by rw [hkk]; unfold preK; rw [if_neg HAN.out])
    have HVE := Lib.hid (show vv = preV k v add by rw [hvv]; unfold preV; rw [if_neg HAN.out])
    have FKX := Lib.hid (show Off kq kk w.heap.size from fun q o e _ => by have := hfk q o e; have := BX.out.lt; omega)
    have FVX := Lib.hid (show Off vq vv w.heap.size from fun q o e _ => by have := hfv q o e; have := BX.out.lt; omega)
    have BX := Lib.hid (BX.out.on hb)
    have BY := Lib.hid (BY.out.on hb)
    have HB := Lib.hid (HB.out.trans (hb.mono HB.out.size))
    have TK := Lib.hid hK2
    have TV := Lib.hid hV2
    clear hb hK2 hV2 hfk hfv hkk hvv HAN b2
    go_wp2_with (refine wpList_store_abs rfl 88 (.tmp 3) (.tmp 30) (by rfl) w.heap.size #[.slice kq kqn kqc, .slice vq vqn vqc, .int .i64 cnt] (by rfl) (by rfl) 88 _ BX.out size_ref5 (by rfl) (by simp [Value.oneCell']) ?_; intro w3 hW p; have BX := Lib.hid p; have BY := Lib.hid (hW.blk BY.out (by simp)); have HB := Lib.hid (hW.below HB.out (Nat.le_refl _)); have TK := Lib.hid (TK.out.off (row_of_wrote hW) FKX.out); have TV := Lib.hid (TV.out.off (row_of_wrote hW) FVX.out); clear hW p)
    have hsz := w3.heap.size
    obtain ⟨LO, hLOe⟩ : ∃ z, z = w3.heap.size := ⟨_, rfl⟩
    have HLO := Lib.hid (show w.heap.size + 1 < LO by have := BY.out.lt; omega)
    have HKQ := Lib.hid (show ∀ q o, kq = some ⟨q, o, none⟩ → q < LO from fun q o e => by have := TK.out.old q o e (by rw [HKKL.out]; omega); omega)
    have hb3 := below_one' w3 (.cells #[] 5)
    have HO := Lib.hid (show OwnB (w3.alloc (.cells #[] 5)) LO (.slice (some ⟨w3.heap.size, 0, none⟩) 0 0) [] by have h := OwnB.made w3 [] (lo := LO) (by omega) (by simp [maxLen]); skip; exact h)
    have BX := Lib.hid (BX.out.on hb3)
    have BY := Lib.hid (BY.out.on hb3)
    have HB := Lib.hid (HB.out.trans (hb3.mono HB.out.size))
    have TK := Lib.hid (TK.out.on hb3)
    have TV := Lib.hid (TV.out.on hb3)
    have HLs := Lib.hid (show LO ≤ (w3.alloc (.cells #[] 5)).heap.size by simp; omega)
    clear hLOe hb3 hsz
    go_loopw [9] (fun x wr => ∃ (j : Nat) (ao : Option Addr) (no co : Nat) (vz : Option Addr) (vzn vzc : Nat), j ≤ expN N ∧ x = .slice ao no co ∧ Hid (no = 32 * j) ∧ OwnB wr LO (.slice ao no co) (genO kk vv j) ∧ Blk wr w.heap.size #[.slice kq kqn kqc, .slice vz vzn vzc, .int .i64 cnt] 88 ∧ Txt wr vz vzn vzc (genV kk vv j) ∧ Txt wr kq kqn kqc kk ∧ Blk wr (w.heap.size + 1) #[.slice none 0 0, .slice none 0 0, .int .i64 0] 88 ∧ Below w.heap.size w wr ∧ LO ≤ wr.heap.size) (fun x _ => N - slen x)
    case atStart => exact ⟨0, _, 0, _, _, _, _, Nat.zero_le _, rfl, rfl, HO.out, BX.out, TV.out, TK.out, BY.out, HB.out, HLs.out⟩
    case round =>
      clear HO BX BY HB TK TV HLs
      obtain ⟨j, ao, no, co, vz, vzn, vzc, hj, rfl, HN, hO, hBX, hTV, hTK, hBY, hB, hLs⟩ := hrel
      have HO := Lib.hid hO
      have BX := Lib.hid hBX
      have BY := Lib.hid hBY
      have TV := Lib.hid hTV
      have TK := Lib.hid hTK
      have HB := Lib.hid hB
      have HLs := Lib.hid hLs
      have b0 := BX.out.cell 0 rfl
      have b1 := BX.out.cell 1 rfl
      clear hO hBX hBY hTV hTK hB hLs
      by_cases hlt : no < N
      · have HJl := Lib.hid (show j + 1 ≤ expN N from expN_lt hj (by rw [← HN.out]; exact hlt))
        have HJN := Lib.hid (show 32 * j < 65536 by have := HN.out; have := HGN.out; omega)
        obtain ⟨VV, hVV⟩ : ∃ VV, VV = macL kk (genV kk vv j) := ⟨_, rfl⟩
        have HVV := Lib.hid hVV
        have HVL := Lib.hid (show VV.length = 32 by rw [hVV]; exact macL_len _ _)
        clear hVV hj
        go_wp2_with fail
        refine (rmac_walk kk (genV kk vv j) kq vz kqn kqc vzn vzc wr TK.out TV.out (by have := HKKL.out; omega) (by have := genV_len (k := kk) HVVL.out j; omega)).mono ?_
        rintro e w5 ⟨am, cm, rfl, hO5, hb⟩
        rw [← HVV.out] at hO5
        have FM := Lib.hid (far_of hO5 (Nat.le_refl _))
        have FO := Lib.hid (show ∀ k, (Value.slice ao no co).ownBlock = some k → k < wr.heap.size from fun k hk => (HO.out.lt k hk).2)
        have FX := Lib.hid (show Off am VV w.heap.size from fun q o e _ => by have := FM.out q o e; have := BX.out.lt; omega)
        have TM := Lib.hid hO5.txt
        have BX := Lib.hid (BX.out.on hb)
        have BY := Lib.hid (BY.out.on hb)
        have HO := Lib.hid (HO.out.on hb)
        have TK := Lib.hid (TK.out.on hb)
        have HB := Lib.hid (HB.out.trans (hb.mono HB.out.size))
        have HLs := Lib.hid (Nat.le_trans HLs.out hb.size)
        clear hb hO5 b0 b1 TV
        go_wp2_with (first | (refine wpList_store_slc rfl (.tmp 41) (.tmp 40) rfl w.heap.size 1 am 32 cm (by rfl) (by rfl) BX.out (by simp) ?_; intro W6 hW p; have BX := Lib.hid (show Blk W6 w.heap.size #[.slice kq kqn kqc, .slice am 32 cm, .int .i64 cnt] 88 from p); have BY := Lib.hid (hW.blk BY.out (by simp)); have HB := Lib.hid (hW.below HB.out (Nat.le_refl _)); have TK := Lib.hid (TK.out.off (row_of_wrote hW) FKX.out); have TM := Lib.hid (TM.out.off (row_of_wrote hW) FX.out); have HO := Lib.hid (HO.out.grown (row_of_wrote hW) (HO.out.notG (by have := HLO.out; omega))); have HLs := Lib.hid (Nat.le_trans HLs.out (row_of_wrote hW).size); have b1 := BX.out.cell 1 rfl; clear hW p) | (refine wpList_append_txt rfl (.tmp 42) (.tmp 44) (by rfl) LO _ (genO kk vv j) (by rfl) HO.out am 32 cm VV (by rfl) TM.out.len TM.out.rd (by have := HVL.out; have := HJN.out; rw [genO_len]; omega) HLs.out ?_; intro a4 n4 c4 w7 hO4 hg4; have HO4 := Lib.hid hO4; have BX4 := Lib.hid (BX.out.grown hg4 (by rcases HO.out.notG (G := w.heap.size) (by have := HLO.out; omega) with h | h; rw [h]; simp; exact Ne.symm h)); have BY4 := Lib.hid (BY.out.grown hg4 (by rcases HO.out.notG (G := w.heap.size + 1) HLO.out with h | h; rw [h]; simp; exact Ne.symm h)); have HB4 := Lib.hid (below_own HB.out (HO.out.mono (by have := HLO.out; omega)) HB.out.size hg4); have TK4 := Lib.hid (TK.out.far' hg4 (fun q o e h => by have h1 := HKQ.out q o e; have h2 := (HO.out.lt q h.symm).1; omega)); have TM4 := Lib.hid (TM.out.far' hg4 (fun q o e h => by have h1 := FM.out q o e; have h2 := FO.out q h.symm; omega)); have HL4 := Lib.hid (Nat.le_trans HLs.out hg4.size); clear hg4 hO4))
        have e9 : (genO kk vv j ++ VV) = genO kk vv (j + 1) := by rw [HVV.out]; rfl
        rw [e9] at HO4
        have HN4 := Lib.hid (show n4 = 32 * (j + 1) by have h := HO4.out.len; rw [genO_len] at h; exact h)
        have HV4 := Lib.hid (show Txt w7 am 32 cm (genV kk vv (j + 1)) by have h := TM4.out; rw [HVV.out] at h; exact h)
        clear e9
        go_roundw
        case rel => exact ⟨j + 1, a4, n4, c4, am, 32, cm, HJl.out, rfl, HN4.out, HO4.out, BX4.out, HV4.out, TK4.out, BY4.out, HB4.out, HL4.out⟩
        case measure =>
          have h1 := HN4.out
          have h2 := HN.out
          simp only [slen]; omega
      · obtain rfl : j = expN N := expN_eq hj (by rw [← HN.out]; exact hlt)
        have hNn : N ≤ no := by omega
        have hco : N ≤ co := by have := HO.out.txt.fit; omega
        have HN2 := Lib.hid hNn
        clear b0 b1 hj
        go_wp2_with (refine wpList_load_row rfl 88 (.tmp 3) rfl w.heap.size rfl 88 _ _ _ BX.out Tryd.underlying88 rfl size_ref5 ?_)
        refine (rupd_walk kk (genV kk vv (expN N)) add kq vz b kqn kqc vzn vzc m d cnt wr TK.out TV.out (HA0.out.on HB.out) HKKL.out (genV_len HVVL.out _) (by have := HAL.out; omega)).mono ?_
        rintro e w6 ⟨kx, kxn, kxc, vx, vxn, vxc, rfl, hK2, hV2, hfk, hfv, hb⟩
        have FKX2 := Lib.hid (show Off kx (updK kk (genV kk vv (expN N)) add) w.heap.size from fun q o e _ => by have := hfk q o e; have := BX.out.lt; omega)
        have FVX2 := Lib.hid (show Off vx (updV kk (genV kk vv (expN N)) add) w.heap.size from fun q o e _ => by have := hfv q o e; have := BX.out.lt; omega)
        have FKY2 := Lib.hid (show Off kx (updK kk (genV kk vv (expN N)) add) (w.heap.size + 1) from fun q o e _ => by have := hfk q o e; have := BY.out.lt; omega)
        have FVY2 := Lib.hid (show Off vx (updV kk (genV kk vv (expN N)) add) (w.heap.size + 1) from fun q o e _ => by have := hfv q o e; have := BY.out.lt; omega)
        have FKZ := Lib.hid (show ∀ q o, kx = some ⟨q, o, none⟩ → w.heap.size ≤ q from fun q o e => Nat.le_trans HB.out.size (hfk q o e))
        have FVZ := Lib.hid (show ∀ q o, vx = some ⟨q, o, none⟩ → w.heap.size ≤ q from fun q o e => Nat.le_trans HB.out.size (hfv q o e))
        have BX := Lib.hid (BX.out.on hb)
        have BY := Lib.hid (BY.out.on hb)
        have HO := Lib.hid (HO.out.on hb)
        have HB := Lib.hid (HB.out.trans (hb.mono HB.out.size))
        have TKx := Lib.hid hK2
        have TVx := Lib.hid hV2
        have f1 : IntKind.i64.wrap (cnt + 1) = cnt + 1 := IntWalk.i64_in _ (by have := HC0.out; have := HC1.out; omega)
        clear hb hK2 hV2 hfk hfv TK TV
        go_wp2_with (first | (refine wpList_store_abs rfl 88 (.tmp 3) (.tmp 48) (by rfl) w.heap.size #[.slice kx kxn kxc, .slice vx vxn vxc, .int .i64 cnt] (by rfl) (by rfl) 88 _ BX.out size_ref5 (by rfl) (by simp [Value.oneCell']) ?_; intro W7 hW p; have BX := Lib.hid p; have BY := Lib.hid (hW.blk BY.out (by simp)); have HB := Lib.hid (hW.below HB.out (Nat.le_refl _)); have TKx := Lib.hid (TKx.out.off (row_of_wrote hW) FKX2.out); have TVx := Lib.hid (TVx.out.off (row_of_wrote hW) FVX2.out); have HO := Lib.hid (HO.out.grown (row_of_wrote hW) (HO.out.notG (by have := HLO.out; omega))); have b2 := BX.out.cell 2 rfl; clear hW p) | (refine wpList_store_i64 rfl (.tmp 52) (.tmp 51) (by rfl) w.heap.size 2 (cnt + 1) (by rfl) (by rfl) BX.out (by simp) ?_; intro W8 hW p; have BX := Lib.hid (show Blk W8 w.heap.size #[.slice kx kxn kxc, .slice vx vxn vxc, .int .i64 (cnt + 1)] 88 from p); have BY := Lib.hid (hW.blk BY.out (by simp)); have HB := Lib.hid (hW.below HB.out (Nat.le_refl _)); have TKx := Lib.hid (TKx.out.off (row_of_wrote hW) FKX2.out); have TVx := Lib.hid (TVx.out.off (row_of_wrote hW) FVX2.out); have HO := Lib.hid (HO.out.grown (row_of_wrote hW) (HO.out.notG (by have := HLO.out; omega))); clear hW p b2))
        have FAZ := Lib.hid (show ∀ q o, ao = some ⟨q, o, none⟩ → w.heap.size ≤ q from fun q o e => by have h := far_of HO.out (show w.heap.size ≤ LO by have := HLO.out; omega) q o e; exact h)
        have hs := fun W => slice_hW HO.out.txt HN2.out W
        have b0 := BX.out.cell 0 rfl
        have b1 := BX.out.cell 1 rfl
        have b2 := BX.out.cell 2 rfl
        have y0 := BY.out.cell 0 rfl
        have y1 := BY.out.cell 1 rfl
        have y2 := BY.out.cell 2 rfl
        have r0 := BY.out.free 0
        have r1 := BY.out.free 1
        have r2 := BY.out.free 2
        go_region
        go_wp2
        refine bodyPost_ret (v := .tuple #[.slice ao N co, .agg #[.slice kx kxn kxc, .slice vx vxn vxc, .int .i64 (cnt + 1)], .int .i64 0]) ?_ rfl ⟨ao, co, kx, kxn, kxc, vx, vxn, vxc, rfl, ?_, ?_, ?_, FAZ.out, FKZ.out, FVZ.out, ?_⟩
        · exact (results_tct rfl _ (set3_blk BY.out _ _ _) (by rfl) Tryd.underlying88 rfl size_ref5).trans rfl
        · have h := (HO.out.grown (set3_grown W8 (w.heap.size + 1) (.slice kx kxn kxc) (.slice vx vxn vxc) (.int .i64 (cnt + 1))) (HO.out.notG HLO.out)).txt.cut HN2.out
          rw [HKE.out, HVE.out] at h
          exact h
        · have h := TKx.out.off (set3_grown W8 _ (.slice kx kxn kxc) (.slice vx vxn vxc) (.int .i64 (cnt + 1))) FKY2.out
          rw [HKE.out, HVE.out] at h
          exact h
        · have h := TVx.out.off (set3_grown W8 _ (.slice kx kxn kxc) (.slice vx vxn vxc) (.int .i64 (cnt + 1))) FVY2.out
          rw [HKE.out, HVE.out] at h
          exact h
        · exact set3_below HB.out (Nat.le_succ _) _ _ _
  · have hz' : ¬ (0 : Int) < (m : Int) := by omega
    have HAN := Lib.hid (show add = [] by have := HML.out; exact List.eq_nil_of_length_eq_zero (by omega))
    obtain ⟨kk, hkk⟩ : ∃ z, z = k := ⟨_, rfl⟩
    obtain ⟨vv, hvv⟩ : ∃ z, z = v := ⟨_, rfl⟩
    rw [← hkk] at TK FKX
    rw [← hvv] at TV
    have HKKL := Lib.hid (show kk.length = 32 by rw [hkk]; exact HKL.out)
    have HVVL := Lib.hid (show vv.length = 32 by rw [hvv]; exact HVL0.out)
    have HKE := Lib.hid (show kk = preK k v add by rw [hkk]; unfold preK; rw [if_pos HAN.out])
    have HVE := Lib.hid (show vv = preV k v add by rw [hvv]; unfold preV; rw [if_pos HAN.out])
    have b2 := BX.out.cell 2 rfl
    clear hkk hvv HAN
    have hsz : ((w.alloc (.cells #[.slice ka kn kc, .slice va vn vc, .int .i64 cnt] 88)).alloc (.cells #[.slice none 0 0, .slice none 0 0, .int .i64 0] 88)).heap.size = w.heap.size + 1 + 1 := by simp
    obtain ⟨LO, hLOe⟩ : ∃ z, z = ((w.alloc (.cells #[.slice ka kn kc, .slice va vn vc, .int .i64 cnt] 88)).alloc (.cells #[.slice none 0 0, .slice none 0 0, .int .i64 0] 88)).heap.size := ⟨_, rfl⟩
    have HLO := Lib.hid (show w.heap.size + 1 < LO by have := BY.out.lt; omega)
    have HKQ := Lib.hid (show ∀ q o, ka = some ⟨q, o, none⟩ → q < LO from fun q o e => by have := TK.out.old q o e (by rw [HKKL.out]; omega); omega)
    have hb3 := below_one' ((w.alloc (.cells #[.slice ka kn kc, .slice va vn vc, .int .i64 cnt] 88)).alloc (.cells #[.slice none 0 0, .slice none 0 0, .int .i64 0] 88)) (.cells #[] 5)
    have HO := Lib.hid (show OwnB (((w.alloc (.cells #[.slice ka kn kc, .slice va vn vc, .int .i64 cnt] 88)).alloc (.cells #[.slice none 0 0, .slice none 0 0, .int .i64 0] 88)).alloc (.cells #[] 5)) LO (.slice (some ⟨w.heap.size + 1 + 1, 0, none⟩) 0 0) [] by have h := OwnB.made ((w.alloc (.cells #[.slice ka kn kc, .slice va vn vc, .int .i64 cnt] 88)).alloc (.cells #[.slice none 0 0, .slice none 0 0, .int .i64 0] 88)) [] (lo := LO) (by omega) (by simp [maxLen]); rw [hsz] at h; exact h)
    have BX := Lib.hid (BX.out.on hb3)
    have BY := Lib.hid (BY.out.on hb3)
    have HB := Lib.hid (HB.out.trans (hb3.mono HB.out.size))
    have TK := Lib.hid (TK.out.on hb3)
    have TV := Lib.hid (TV.out.on hb3)
    have HLs := Lib.hid (show LO ≤ (((w.alloc (.cells #[.slice ka kn kc, .slice va vn vc, .int .i64 cnt] 88)).alloc (.cells #[.slice none 0 0, .slice none 0 0, .int .i64 0] 88)).alloc (.cells #[] 5)).heap.size by simp; omega)
    clear hLOe hb3 hsz
    go_enter Tryd.func120, Tryd.ntmps120
    go_wp2
    clear b2
    go_loopw [9] (fun x wr => ∃ (j : Nat) (ao : Option Addr) (no co : Nat) (vz : Option Addr) (vzn vzc : Nat), j ≤ expN N ∧ x = .slice ao no co ∧ Hid (no = 32 * j) ∧ OwnB wr LO (.slice ao no co) (genO kk vv j) ∧ Blk wr w.heap.size #[.slice ka kn kc, .slice vz vzn vzc, .int .i64 cnt] 88 ∧ Txt wr vz vzn vzc (genV kk vv j) ∧ Txt wr ka kn kc kk ∧ Blk wr (w.heap.size + 1) #[.slice none 0 0, .slice none 0 0, .int .i64 0] 88 ∧ Below w.heap.size w wr ∧ LO ≤ wr.heap.size) (fun x _ => N - slen x)
    case atStart => exact ⟨0, _, 0, _, _, _, _, Nat.zero_le _, rfl, rfl, HO.out, BX.out, TV.out, TK.out, BY.out, HB.out, HLs.out⟩
    case round =>
      clear HO BX BY HB TK TV HLs
      obtain ⟨j, ao, no, co, vz, vzn, vzc, hj, rfl, HN, hO, hBX, hTV, hTK, hBY, hB, hLs⟩ := hrel
      have HO := Lib.hid hO
      have BX := Lib.hid hBX
      have BY := Lib.hid hBY
      have TV := Lib.hid hTV
      have TK := Lib.hid hTK
      have HB := Lib.hid hB
      have HLs := Lib.hid hLs
      have b0 := BX.out.cell 0 rfl
      have b1 := BX.out.cell 1 rfl
      clear hO hBX hBY hTV hTK hB hLs
      by_cases hlt : no < N
      · have HJl := Lib.hid (show j + 1 ≤ expN N from expN_lt hj (by rw [← HN.out]; exact hlt))
        have HJN := Lib.hid (show 32 * j < 65536 by have := HN.out; have := HGN.out; omega)
        obtain ⟨VV, hVV⟩ : ∃ VV, VV = macL kk (genV kk vv j) := ⟨_, rfl⟩
        have HVV := Lib.hid hVV
        have HVL := Lib.hid (show VV.length = 32 by rw [hVV]; exact macL_len _ _)
        clear hVV hj
        go_wp2_with fail
        refine (rmac_walk kk (genV kk vv j) ka vz kn kc vzn vzc wr TK.out TV.out (by have := HKKL.out; omega) (by have := genV_len (k := kk) HVVL.out j; omega)).mono ?_
        rintro e w5 ⟨am, cm, rfl, hO5, hb⟩
        rw [← HVV.out] at hO5
        have FM := Lib.hid (far_of hO5 (Nat.le_refl _))
        have FO := Lib.hid (show ∀ k, (Value.slice ao no co).ownBlock = some k → k < wr.heap.size from fun k hk => (HO.out.lt k hk).2)
        have FX := Lib.hid (show Off am VV w.heap.size from fun q o e _ => by have := FM.out q o e; have := BX.out.lt; omega)
        have TM := Lib.hid hO5.txt
        have BX := Lib.hid (BX.out.on hb)
        have BY := Lib.hid (BY.out.on hb)
        have HO := Lib.hid (HO.out.on hb)
        have TK := Lib.hid (TK.out.on hb)
        have HB := Lib.hid (HB.out.trans (hb.mono HB.out.size))
        have HLs := Lib.hid (Nat.le_trans HLs.out hb.size)
        clear hb hO5 b0 b1 TV
        go_wp2_with (first | (refine wpList_store_slc rfl (.tmp 41) (.tmp 40) rfl w.heap.size 1 am 32 cm (by rfl) (by rfl) BX.out (by simp) ?_; intro W6 hW p; have BX := Lib.hid (show Blk W6 w.heap.size #[.slice ka kn kc, .slice am 32 cm, .int .i64 cnt] 88 from p); have BY := Lib.hid (hW.blk BY.out (by simp)); have HB := Lib.hid (hW.below HB.out (Nat.le_refl _)); have TK := Lib.hid (TK.out.off (row_of_wrote hW) FKX.out); have TM := Lib.hid (TM.out.off (row_of_wrote hW) FX.out); have HO := Lib.hid (HO.out.grown (row_of_wrote hW) (HO.out.notG (by have := HLO.out; omega))); have HLs := Lib.hid (Nat.le_trans HLs.out (row_of_wrote hW).size); have b1 := BX.out.cell 1 rfl; clear hW p) | (refine wpList_append_txt rfl (.tmp 42) (.tmp 44) (by rfl) LO _ (genO kk vv j) (by rfl) HO.out am 32 cm VV (by rfl) TM.out.len TM.out.rd (by have := HVL.out; have := HJN.out; rw [genO_len]; omega) HLs.out ?_; intro a4 n4 c4 w7 hO4 hg4; have HO4 := Lib.hid hO4; have BX4 := Lib.hid (BX.out.grown hg4 (by rcases HO.out.notG (G := w.heap.size) (by have := HLO.out; omega) with h | h; rw [h]; simp; exact Ne.symm h)); have BY4 := Lib.hid (BY.out.grown hg4 (by rcases HO.out.notG (G := w.heap.size + 1) HLO.out with h | h; rw [h]; simp; exact Ne.symm h)); have HB4 := Lib.hid (below_own HB.out (HO.out.mono (by have := HLO.out; omega)) HB.out.size hg4); have TK4 := Lib.hid (TK.out.far' hg4 (fun q o e h => by have h1 := HKQ.out q o e; have h2 := (HO.out.lt q h.symm).1; omega)); have TM4 := Lib.hid (TM.out.far' hg4 (fun q o e h => by have h1 := FM.out q o e; have h2 := FO.out q h.symm; omega)); have HL4 := Lib.hid (Nat.le_trans HLs.out hg4.size); clear hg4 hO4))
        have e9 : (genO kk vv j ++ VV) = genO kk vv (j + 1) := by rw [HVV.out]; rfl
        rw [e9] at HO4
        have HN4 := Lib.hid (show n4 = 32 * (j + 1) by have h := HO4.out.len; rw [genO_len] at h; exact h)
        have HV4 := Lib.hid (show Txt w7 am 32 cm (genV kk vv (j + 1)) by have h := TM4.out; rw [HVV.out] at h; exact h)
        clear e9
        go_roundw
        case rel => exact ⟨j + 1, a4, n4, c4, am, 32, cm, HJl.out, rfl, HN4.out, HO4.out, BX4.out, HV4.out, TK4.out, BY4.out, HB4.out, HL4.out⟩
        case measure =>
          have h1 := HN4.out
          have h2 := HN.out
          simp only [slen]; omega
      · obtain rfl : j = expN N := expN_eq hj (by rw [← HN.out]; exact hlt)
        have hNn : N ≤ no := by omega
        have hco : N ≤ co := by have := HO.out.txt.fit; omega
        have HN2 := Lib.hid hNn
        clear b0 b1 hj
        go_wp2_with (refine wpList_load_row rfl 88 (.tmp 3) rfl w.heap.size rfl 88 _ _ _ BX.out Tryd.underlying88 rfl size_ref5 ?_)
        refine (rupd_walk kk (genV kk vv (expN N)) add ka vz b kn kc vzn vzc m d cnt wr TK.out TV.out (HA0.out.on HB.out) HKKL.out (genV_len HVVL.out _) (by have := HAL.out; omega)).mono ?_
        rintro e w6 ⟨kx, kxn, kxc, vx, vxn, vxc, rfl, hK2, hV2, hfk, hfv, hb⟩
        have FKX2 := Lib.hid (show Off kx (updK kk (genV kk vv (expN N)) add) w.heap.size from fun q o e _ => by have := hfk q o e; have := BX.out.lt; omega)
        have FVX2 := Lib.hid (show Off vx (updV kk (genV kk vv (expN N)) add) w.heap.size from fun q o e _ => by have := hfv q o e; have := BX.out.lt; omega)
        have FKY2 := Lib.hid (show Off kx (updK kk (genV kk vv (expN N)) add) (w.heap.size + 1) from fun q o e _ => by have := hfk q o e; have := BY.out.lt; omega)
        have FVY2 := Lib.hid (show Off vx (updV kk (genV kk vv (expN N)) add) (w.heap.size + 1) from fun q o e _ => by have := hfv q o e; have := BY.out.lt; omega)
        have FKZ := Lib.hid (show ∀ q o, kx = some ⟨q, o, none⟩ → w.heap.size ≤ q from fun q o e => Nat.le_trans HB.out.size (hfk q o e))
        have FVZ := Lib.hid (show ∀ q o, vx = some ⟨q, o, none⟩ → w.heap.size ≤ q from fun q o e => Nat.le_trans HB.out.size (hfv q o e))
        have BX := Lib.hid (BX.out.on hb)
        have BY := Lib.hid (BY.out.on hb)
        have HO := Lib.hid (HO.out.on hb)
        have HB := Lib.hid (HB.out.trans (hb.mono HB.out.size))
        have TKx := Lib.hid hK2
        have TVx := Lib.hid hV2
        have f1 : IntKind.i64.wrap (cnt + 1) = cnt + 1 := IntWalk.i64_in _ (by have := HC0.out; have := HC1.out; omega)
        clear hb hK2 hV2 hfk hfv TK TV
        go_wp2_with (first | (refine wpList_store_abs rfl 88 (.tmp 3) (.tmp 48) (by rfl) w.heap.size #[.slice kx kxn kxc, .slice vx vxn vxc, .int .i64 cnt] (by rfl) (by rfl) 88 _ BX.out size_ref5 (by rfl) (by simp [Value.oneCell']) ?_; intro W7 hW p; have BX := Lib.hid p; have BY := Lib.hid (hW.blk BY.out (by simp)); have HB := Lib.hid (hW.below HB.out (Nat.le_refl _)); have TKx := Lib.hid (TKx.out.off (row_of_wrote hW) FKX2.out); have TVx := Lib.hid (TVx.out.off (row_of_wrote hW) FVX2.out); have HO := Lib.hid (HO.out.grown (row_of_wrote hW) (HO.out.notG (by have := HLO.out; omega))); have b2 := BX.out.cell 2 rfl; clear hW p) | (refine wpList_store_i64 rfl (.tmp 52) (.tmp 51) (by rfl) w.heap.size 2 (cnt + 1) (by rfl) (by rfl) BX.out (by simp) ?_; intro W8 hW p; have BX := Lib.hid (show Blk W8 w.heap.size #[.slice kx kxn kxc, .slice vx vxn vxc, .int .i64 (cnt + 1)] 88 from p); have BY := Lib.hid (hW.blk BY.out (by simp)); have HB := Lib.hid (hW.below HB.out (Nat.le_refl _)); have TKx := Lib.hid (TKx.out.off (row_of_wrote hW) FKX2.out); have TVx := Lib.hid (TVx.out.off (row_of_wrote hW) FVX2.out); have HO := Lib.hid (HO.out.grown (row_of_wrote hW) (HO.out.notG (by have := HLO.out; omega))); clear hW p b2))
        have FAZ := Lib.hid (show ∀ q o, ao = some ⟨q, o, none⟩ → w.heap.size ≤ q from fun q o e => by have h := far_of HO.out (show w.heap.size ≤ LO by have := HLO.out; omega) q o e; exact h)
        have hs := fun W => slice_hW HO.out.txt HN2.out W
        have b0 := BX.out.cell 0 rfl
        have b1 := BX.out.cell 1 rfl
        have b2 := BX.out.cell 2 rfl
        have y0 := BY.out.cell 0 rfl
        have y1 := BY.out.cell 1 rfl
        have y2 := BY.out.cell 2 rfl
        have r0 := BY.out.free 0
        have r1 := BY.out.free 1
        have r2 := BY.out.free 2
        go_region
        go_wp2
        refine bodyPost_ret (v := .tuple #[.slice ao N co, .agg #[.slice kx kxn kxc, .slice vx vxn vxc, .int .i64 (cnt + 1)], .int .i64 0]) ?_ rfl ⟨ao, co, kx, kxn, kxc, vx, vxn, vxc, rfl, ?_, ?_, ?_, FAZ.out, FKZ.out, FVZ.out, ?_⟩
        · exact (results_tct rfl _ (set3_blk BY.out _ _ _) (by rfl) Tryd.underlying88 rfl size_ref5).trans rfl
        · have h := (HO.out.grown (set3_grown W8 (w.heap.size + 1) (.slice kx kxn kxc) (.slice vx vxn vxc) (.int .i64 (cnt + 1))) (HO.out.notG HLO.out)).txt.cut HN2.out
          rw [HKE.out, HVE.out] at h
          exact h
        · have h := TKx.out.off (set3_grown W8 _ (.slice kx kxn kxc) (.slice vx vxn vxc) (.int .i64 (cnt + 1))) FKY2.out
          rw [HKE.out, HVE.out] at h
          exact h
        · have h := TVx.out.off (set3_grown W8 _ (.slice kx kxn kxc) (.slice vx vxn vxc) (.int .i64 (cnt + 1))) FVY2.out
          rw [HKE.out, HVE.out] at h
          exact h
        · exact set3_below HB.out (Nat.le_succ _) _ _ _
end Go.Proofs.YtgbahfggnbpnmaaDoor
