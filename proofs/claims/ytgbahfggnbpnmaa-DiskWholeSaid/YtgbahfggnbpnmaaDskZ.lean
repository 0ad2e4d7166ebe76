import Derived.Test.YtgbahfggnbpnmaaDskI
/-
  Clone.
-/
namespace Go.Proofs.Ytgbahfggnbpnmaa
open Go.RowKit
theorem size_dsk : (Try.prog.info? 62).map (·.size) = some 6 := by kernel_rfl
theorem size_secs : (Try.prog.info? 59).map (·.size) = some 1 := by kernel_rfl
/-- make of n writes: a new block of so many cells. -/
theorem wpList_make_wr {ops : Array Oper} {rest : List Oper} {o : Oper} {a : Act} {w : World} {Q : Exit → Act → World → Prop} (hgd : o.guard = none) (l c : Operand) (ho : o.op = .makeSlice 60 l c) (n : Nat) (hn : n ≤ 1000000)
    (hl : a.eval l = .int .i64 (n : Nat)) (hc : a.eval c = .int .i64 (n : Nat))
    (h : ∀ cur : Array Value, cur.size = n * 257 → wpList Try.prog ops Q rest (a.put o.dst (.slice (some ⟨w.heap.size, 0, none⟩) n n)) (w.alloc (.cells cur 67))) : wpList Try.prog ops Q (o :: rest) a w := by
  obtain ⟨i, i1, i2, i3, i4⟩ := info_parts info_ic
  refine wpList_plain hgd fun K hK => ?_
  have hr := run_make (P := Try.prog) w 60 67 i (.agg (ic 0)) Try.underlying60 i1 i2 .i64 .i64 n n (by omega) (by omega) (by rw [i4]; omega) (by omega)
  simp only [Int.toNat_natCast, i3] at hr
  have hs : (madeCells (Value.agg (ic 0)).cells (n * 257)).size = n * 257 := by simp [madeCells]
  obtain ⟨cur, hcur⟩ : ∃ cur, cur = madeCells (Value.agg (ic 0)).cells (n * 257) := ⟨_, rfl⟩
  rw [← hcur] at hr hs
  unfold Oper.wp
  simp [execOp, ho, hl, hc, hr, Result.andThen]
  exact hK _ _ (h cur hs)
/-- copy of all elements of one block into another. -/
theorem run_copy_all {W : World} (dT elem : TypeId) (hu : Try.prog.underlying dT = some (.slice elem)) (sz : Nat) (hsz : (Try.prog.info? elem).map (·.size) = some sz) {gx : Nat} {cur : Array Value} {t : TypeId} (hX : Blk W gx cur t) (N : Nat) (hcur : cur.size = N * sz) (gs : Nat) (cs : List Value) (hcs : cs.length = N * sz)
    (hsrc : ∀ j u, cs[j]? = some u → W.cell? ⟨gs, j, none⟩ = some u) (h1 : ∀ u ∈ cs, u.oneCell' = true) (dc sc : Nat) :
    ∃ X, (∀ ty, (Builtin.copy_ #[dT, dT] ty #[.slice (some ⟨gx, 0, none⟩) N dc, .slice (some ⟨gs, 0, none⟩) N sc]).run Try.prog W = .ok (goInt N) X) ∧ Wrote W X gx ∧ Blk X gx cs.toArray t := by
  obtain ⟨R, hR⟩ : ∃ R, R = (cur.toList.take 0 ++ cs ++ cur.toList.drop (0 + cs.length)).toArray := ⟨_, rfl⟩
  have hRb : R = cs.toArray := by
    rw [hR]
    simp only [List.take_zero, List.nil_append, Nat.zero_add]
    rw [List.drop_eq_nil_of_le (by rw [hcs, Array.length_toList, hcur]; exact Nat.le_refl _), List.append_nil]
  refine ⟨W.setRow gx R, fun ty => ?_, Wrote.row W gx R, hRb ▸ hX.setRow R⟩
  have := run_copy_rows (P := Try.prog) W dT dT ty elem gx 0 N dc ⟨gs, 0, none⟩ N sc sz cur t cs hu hsz hX N (by simp) hcs (fun j u hu => by rw [Addr.add_mid, Nat.zero_add]; exact hsrc j u hu) (by rw [hcs, hcur]; omega) h1
  rw [← hR] at this
  exact this
/-- copy of a row that may be none. -/
theorem run_copy_row_all {W : World} (dT elem : TypeId) (hu : Try.prog.underlying dT = some (.slice elem)) (sz : Nat) (hsz : (Try.prog.info? elem).map (·.size) = some sz) {gx : Nat} {cur : Array Value} {t : TypeId} (hX : Blk W gx cur t) (v : Value) (N : Nat) (cs : List Value) (hr : W.ownsRow 0 elem sz v N cs) (hcur : cur.size = N * sz)
    (h1 : ∀ u ∈ cs, u.oneCell' = true) (dc : Nat) :
    ∃ X, (∀ ty, (Builtin.copy_ #[dT, dT] ty #[.slice (some ⟨gx, 0, none⟩) N dc, v]).run Try.prog W = .ok (goInt N) X) ∧ Wrote W X gx ∧ Blk X gx cs.toArray t := by
  rcases hr.2 with ⟨rfl, h0⟩ | ⟨g, cap, c2, rfl, h2, h3, h4, h5, h6, h7⟩
  · subst h0
    have hc : cs = [] := List.eq_nil_of_length_eq_zero (by have := hr.1; simpa using this)
    have hcu : cur = #[] := Array.eq_empty_of_size_eq_zero (by simpa using hcur)
    subst hc hcu
    refine ⟨W, fun ty => ?_, Wrote.refl W gx, hX⟩
    cases hq : Try.prog.info? elem with
    | none => simp [hq] at hsz
    | some i => simp [Builtin.copy_, run_underlying hu, Builtin.lenOf, Builtin.firstCells, sizeOf, typeInfo, hq, goInt, storeCells]
  · have hl : cs.length = N * sz := hr.1
    refine run_copy_all dT elem hu sz hsz hX N hcur g cs hl (fun j u hj => ?_) h1 dc cap
    have hj' : j < N * sz := by
      rcases Nat.lt_or_ge j (N * sz) with q | q
      · exact q
      · rw [List.getElem?_eq_none (by rw [hl]; exact q)] at hj; cases hj
    refine Blk.cell h3 j ?_
    rw [← h7, List.getElem?_take_of_lt hj'] at hj
    simpa using hj
set_option maxRecDepth 100000 in
set_option maxHeartbeats 2000000 in
theorem dclone_at {b g n : Nat} {v : Value} {S : DS} (w : World) (h : DiskAt w b g n v S) (hlen : S.wait.length ≤ 1000000) :
    Calls Try.prog 22 #[.pointer (some ⟨b, 0, none⟩)] w fun e w' => ∃ b' g' v', e = .returned (.pointer (some ⟨b', 0, none⟩)) ∧ DiskAt w' b' g' n v' S ∧ (∀ k, Foot b' g' v' k → w.heap.size ≤ k) ∧ Below w.heap.size w w' := by
  obtain ⟨va, vc, rfl, hvl, hvm, hnil, hsome⟩ := row_form h.wait
  obtain ⟨wn, hwn⟩ : ∃ x, x = S.wait.length := ⟨_, rfl⟩
  rw [← hwn] at h
  have HWN := Lib.hid hwn
  have hw6 : wn ≤ 1000000 := by omega
  have hn := h.pos.2
  obtain ⟨z, hb, hz⟩ := h.blk
  have H := Lib.hid h
  have HBk := Lib.hid hb
  have HZ := Lib.hid hz
  clear h hlen hwn hvl hvm hnil hsome hb hz
  go_enter Try.func22, Try.ntmps22
  go_wp2_with fail
  refine (dnone_at _ H.out).mono ?_
  rintro e w2 ⟨rfl, rfl⟩
  go_wp2_with (first | (refine wpList_load_sub rfl 62 (.tmp 7) (by rfl) b 0 (by rfl) HBk.out [.slice (some ⟨g, 0, none⟩) n n, .slice va wn vc, .bool S.gone, .bool S.fuse.isSome, .int .i64 z, .int .i64 (S.ops : Nat)] (by intro i hi; simp at hi ⊢) _ Try.underlying62 rfl size_dsk ?_) | (refine wpList_store_abs rfl 62 (.tmp 3) (.tmp 8) (by rfl) w2.heap.size #[.slice (some ⟨g, 0, none⟩) n n, .slice va wn vc, .bool S.gone, .bool S.fuse.isSome, .int .i64 z, .int .i64 (S.ops : Nat)] (by rfl) (by rfl) 62 _ (Blk.new w2 _ _) size_dsk (by rfl) (by simp [Value.oneCell']) ?_; intro w3 hW hB; have hb3 := hW.below (below_one' w2 _) (Nat.le_refl _); have H3 := Lib.hid (H.out.on hb3); have BX := Lib.hid hB; have HB3 := Lib.hid hb3; have c0 := H3.out.c0; clear hW hB hb3) | (refine wpList_make_rows rfl 59 (.tmp 13) (.tmp 13) rfl 65 (.agg (Array.replicate 256 (.int .u8 0))) (.int .u8 0) 256 256 Try.underlying59 info_sec (by rfl) (by decide) .i64 .i64 n n rfl rfl (Nat.le_refl _) (by omega) (by omega) ?_; have hb4 := below_one' w3 (.cells (Array.replicate (n * 256) (.int .u8 0)) 65); have H4 := Lib.hid (H3.out.on hb4); have BX := Lib.hid (BX.out.on hb4); have GX := Lib.hid (Blk.new w3 (Array.replicate (n * 256) (.int .u8 0)) 65); have HB4 := Lib.hid (HB3.out.trans (hb4.mono HB3.out.size)); have HGE := Lib.hid HB3.out.size; clear hb4 c0) | (refine wpList_store_one rfl (.tmp 15) (.tmp 14) 59 size_secs (by rfl) w2.heap.size 0 (.slice (some ⟨w3.heap.size, 0, none⟩) n n) (by rfl) (by rfl) (by rfl) (by rfl) BX.out (by simp) ?_; intro w5 hW hB; have H5 := Lib.hid (H4.out.keep (Only.wrote (S := (· = w2.heap.size)) hW rfl) (fun k hk e => by have := H.out.foot_lt hk; omega)); have GX := Lib.hid (hW.blk GX.out (blk_type_ne GX.out BX.out (by decide))); have BX := Lib.hid hB; have HB5 := Lib.hid (hW.below HB4.out (Nat.le_refl _)); clear hW hB))
  generalize w3.heap.size = gx at *
  have c0 := H5.out.c0
  have x0 : w5.cell? ⟨w2.heap.size, 0, none⟩ = some (.slice (some ⟨gx, 0, none⟩) n n) := BX.out.cell 0 rfl
  obtain ⟨X, hcp, hWX, hX⟩ := run_copy_all (W := w5.drew) 59 65 Try.underlying59 256 size_sec GX.out n (by rw [Array.size_replicate]) g (S.good.flatten.map bv) (by rw [List.length_map, flat_size H.out.ok.sec, H.out.ok.len]; omega)
    (fun j u hu => H5.out.good.cell j (by simpa [barr] using hu)) (fun u hu => by obtain ⟨x, _, rfl⟩ := List.mem_map.1 hu; rfl) n n
  have hOX : Only (· = gx) w5 X := (Only.of_below (A := w5) (B := w5.drew) (Below.refl _ _).drew).trans (Only.wrote hWX rfl)
  have hft : ∀ k, Foot b g (.slice va wn vc) k → k < w2.heap.size := fun k hk => by have := H.out.foot_lt hk; omega
  have HFT := Lib.hid hft
  have H6 := Lib.hid (H5.out.keep hOX (fun k hk e => by have h1 := hft k hk; have h2 := HGE.out; omega))
  have BX := Lib.hid (hOX.blk BX.out (fun e => blk_type_ne BX.out GX.out (by decide) e))
  have GX := Lib.hid hX
  have HB6 := Lib.hid (HB5.out.trans (hOX.below (fun k hk => by have := HGE.out; omega) HB5.out.size))
  clear hWX hX hOX hft
  have c1 := H6.out.c1
  go_wp2
  go_region
  all_goals
    clear hcp c0 x0
    go_wp2_with (first | (refine wpList_make_wr rfl (.tmp 27) (.tmp 27) (by rfl) wn hw6 (by rfl) (by rfl) ?_; intro cur hcur; have hb7 := below_one' X (.cells cur 67); have H7 := Lib.hid (H6.out.on hb7); have BX := Lib.hid (BX.out.on hb7); have GX := Lib.hid (GX.out.on hb7); have KX := Lib.hid (Blk.new X cur 67); have HB7 := Lib.hid (HB6.out.trans (hb7.mono HB6.out.size)); have HKE := Lib.hid HB6.out.size; have HCUR := Lib.hid hcur; clear hb7 c1 hcur) | (refine wpList_store_one rfl (.tmp 29) (.tmp 28) 60 size_wrs (by rfl) w2.heap.size 1 (.slice (some ⟨X.heap.size, 0, none⟩) wn wn) (by rfl) (by rfl) (by rfl) (by rfl) BX.out (by simp) ?_; intro w8 hW hB; have H8 := Lib.hid (H7.out.keep (Only.wrote (S := (· = w2.heap.size)) hW rfl) (fun k hk e => by have := HFT.out k hk; omega)); have GX := Lib.hid (hW.blk GX.out (blk_type_ne GX.out BX.out (by decide))); have KX := Lib.hid (hW.blk KX.out (blk_type_ne KX.out BX.out (by decide))); have BX := Lib.hid hB; have HB8 := Lib.hid (hW.below HB7.out (Nat.le_refl _)); clear hW hB))
    generalize X.heap.size = kx at *
    have c1 := H8.out.c1
    have x1 : w8.cell? ⟨w2.heap.size, 1, none⟩ = some (.slice (some ⟨kx, 0, none⟩) wn wn) := BX.out.cell 1 rfl
    obtain ⟨X9, hcp, hWX, hX⟩ := run_copy_row_all (W := w8.drew) 60 67 Try.underlying60 257 (by rw [size_wr]) KX.out (.slice va wn vc) wn (wcells S.wait) (by have := H8.out.wait; rw [← HWN.out] at this; exact this) HCUR.out (wcells_one _) wn
    have hOX : Only (· = kx) w8 X9 := (Only.of_below (A := w8) (B := w8.drew) (Below.refl _ _).drew).trans (Only.wrote hWX rfl)
    have BX := Lib.hid (hOX.blk BX.out (fun e => blk_type_ne BX.out KX.out (by decide) e))
    have GX := Lib.hid (hOX.blk GX.out (fun e => blk_type_ne GX.out KX.out (by decide) e))
    have KX := Lib.hid hX
    have HB9 := Lib.hid (HB8.out.trans (hOX.below (fun k hk => by have := HKE.out; omega) HB8.out.size))
    clear hWX hX hOX
    go_wp2
    go_region
    all_goals
      clear hcp c1 x1
      go_wp2
      go_ret
      refine ⟨w2.heap.size, gx, .slice (some ⟨kx, 0, none⟩) wn wn, rfl, ⟨H.out.ok, H.out.pos, H.out.fz, ⟨z, BX.out, HZ.out⟩, GX.out, ?_⟩, ?_, HB9.out⟩
      · rw [← HWN.out]
        exact ⟨by rw [wcells_len (fun p hp => (H.out.ok.wt p hp).2), HWN.out], Or.inr ⟨kx, wn, (wcells S.wait).toArray, rfl, Nat.zero_le _, KX.out, Nat.le_refl _, by unfold maxLen; omega, by rw [List.size_toArray, wcells_len (fun p hp => (H.out.ok.wt p hp).2), HWN.out], by simp only; rw [List.take_of_length_le (by rw [wcells_len (fun p hp => (H.out.ok.wt p hp).2), HWN.out]; exact Nat.le_refl _)]⟩⟩
      · rintro k (rfl | rfl | e)
        · exact Nat.le_refl _
        · exact HGE.out
        · cases e; exact HKE.out
end Go.Proofs.Ytgbahfggnbpnmaa
