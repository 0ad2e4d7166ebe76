import Derived.Test.YtajjbffppkpjpaaSpanV
/-
  span.merged.
-/
namespace Go.Proofs.Ytajjbffppkpjpaa
open Go.RowKit
theorem take_succ_fold (k : List Rg) (i : Nat) (h : i < k.length) : (k.take (i + 1)).foldl mstep [] = mstep ((k.take i).foldl mstep []) (k.getD i r0) := by
  rw [List.take_add_one, List.foldl_append]
  simp [List.getD, h]
theorem mstep_nil (r : Rg) : mstep [] r = [r] := rfl
theorem mstep_in {O : List Rg} {x r : Rg} (h : r.lo ≤ x.hi) : mstep (O ++ [x]) r = O ++ [⟨x.lo, max x.hi r.hi⟩] := by
  unfold mstep; simp [h]
theorem mstep_out {O : List Rg} {x r : Rg} (h : ¬ r.lo ≤ x.hi) : mstep (O ++ [x]) r = O ++ [x] ++ [r] := by
  unfold mstep; simp [h]
set_option maxRecDepth 100000 in
set_option maxHeartbeats 2000000 in
theorem merged_walk (l : List Rg) (a : Option Addr) (n c : Nat) (w : World) (hL : RgsIn w a n c l) (hlen : l.length ≤ 100000) :
    Calls Try.prog 77 #[.slice a n c] w fun e w' => ∃ v k, e = .returned v ∧ k.Perm l ∧ Asc k ∧ OwnR w' w.heap.size v (mfold k) ∧ Below w.heap.size w w' := by
  have HL := Lib.hid hL
  have HLn := Lib.hid hlen
  clear hL hlen
  go_enter Try.func77, Try.ntmps77
  go_wp2_with fail
  refine (clone_walkR l a n c _ HL.out HLn.out).mono ?_
  rintro e w2 ⟨a2, n2, c2, rfl, hO2, hb2⟩
  have HO2 := Lib.hid hO2
  have HB2 := Lib.hid hb2
  clear hO2 hb2 HL
  go_wp2_with fail
  refine (sort_own l _ w.heap.size w2 HO2.out (by have := HLn.out; omega)).mono ?_
  rintro e w3 ⟨rfl, k, hp, hs, hO3, hg3⟩
  have HP := Lib.hid hp
  have HAs := Lib.hid hs
  have HKn := Lib.hid (show k.length ≤ 100000 by rw [hp.length_eq]; exact HLn.out)
  have HB3 := Lib.hid (below_ownR HB2.out HO2.out HB2.out.size hg3)
  obtain ⟨a3, c3, e3, hf3, ht3, hR3, hlt3⟩ := hO3.form
  simp only [Value.slice.injEq] at e3
  obtain ⟨rfl, rfl, rfl⟩ := e3
  have HR3 := Lib.hid hR3
  have hn63 : k.length ≤ 9223372036854775807 := by have := HKn.out; omega
  clear hp hs hO3 hg3 hR3 hlt3 HO2 HB2 HLn
  go_wp2
  go_loopw [13, 3] (fun x s wr => ∃ i : Nat, i ≤ k.length ∧ x = .int .i64 (i : Nat) ∧ Hid (OwnR wr w3.heap.size s ((k.take i).foldl mstep [])) ∧ Below w3.heap.size w3 wr) (fun x _ _ => k.length - (intOf x).toNat)
  case atStart => exact ⟨0, Nat.zero_le _, rfl, OwnR.nil _ _, Below.refl _ _⟩
  case round =>
    obtain ⟨i, hi, rfl, HOS, hb⟩ := hrel
    have HBr := Lib.hid hb
    clear hb
    obtain ⟨O, hO⟩ : ∃ O, O = (k.take i).foldl mstep [] := ⟨_, rfl⟩
    rw [← hO] at HOS
    have HOl := Lib.hid (show O.length ≤ i by
      have := mfold_len (k.take i) []
      rw [← hO] at this
      simpa [Nat.min_eq_left hi] using this)
    by_cases hlt : i < k.length
    · have HSu := Lib.hid (take_succ_fold k i hlt)
      rw [← hO] at HSu
      clear hO
      obtain ⟨g, o, rfl, hg, hr⟩ := HR3.out i hlt
      obtain ⟨r, hre⟩ : ∃ r, r = k.getD i r0 := ⟨_, rfl⟩
      rw [← hre] at hr HSu
      have HG := Lib.hid hg
      have HR := Lib.hid (rng_on hr HBr.out)
      have HI := Lib.hid hlt
      clear hr hre hg
      obtain ⟨sa, cs, rfl, hf, ht, hRs, hlts⟩ := HOS.out.form
      have HRS := Lib.hid hRs
      have HLT := Lib.hid hlts
      clear hRs hlts
      rcases List.eq_nil_or_concat O with rfl | ⟨O1, x, rfl⟩
      · rw [mstep_nil] at HSu
        simp only [List.length_nil] at *
        go_wp2_with (first | (refine wpList_load_mid rfl 25 (.tmp 15) rfl g (o + i * 2) rfl (rcl r) _ HR.out Try.underlying25 rfl size_rg ?_) | (refine wpList_store_abs rfl 25 (.tmp 5) (.tmp 16) (by rfl) wr.heap.size #[.int .u64 (r.lo : Nat), .int .u64 (r.hi : Nat)] (by rfl) (by rfl) 25 _ (Blk.new wr _ _) size_rg (by rfl) (by simp [Value.oneCell']) ?_; intro W hW hp5; have hbW := hW.below ((Below.refl _ wr).alloc (Nat.le_refl _) _) (Nat.le_refl _); have HBW := Lib.hid (HBr.out.trans (hbW.mono HBr.out.size)); have BX := Lib.hid hp5; have HOSW := Lib.hid (HOS.out.on hbW); clear hW hbW))
        generalize wr.heap.size = gx at *
        clear hp5
        refine wp_region_held_drew (S := fun w' => Below W.heap.size W w') (by kernel_rfl) (Below.refl _ _).drew (fun _ => ?_)
        have HS := Lib.hid ((Below.refl W.heap.size W).drew)
        generalize World.drew W = v0 at *
        try simp only [Act.put, List.setIfInBounds_toArray, List.set_cons_succ, List.set_cons_zero]
        refine wpAnyH_take (i := 0) (oi := ⟨some 19, .move (.tmp 6), 3, _, _, none⟩) (v := .int .i64 0) rfl (by kernel_rfl) (by kernel_rfl) (by kernel_rfl) (fun _ _ _ h => h) (Or.inl ⟨by rfl, fun _ _ => by go_simp⟩) HS.out ?_
        try simp only [Act.put, List.setIfInBounds_toArray, List.set_cons_succ, List.set_cons_zero]
        refine wpAnyH_take (i := 1) (oi := ⟨some 20, .binOp .gtr 3 (.tmp 19) (.const (.int .i64 0)) 3, 4, _, _, none⟩) (v := .bool false) rfl (by kernel_rfl) (by kernel_rfl) (by kernel_rfl) (fun _ _ _ h => h) (Or.inl ⟨by rfl, fun _ _ => by (go_simp <;> omega)⟩) HS.out ?_
        try simp only [Act.put, List.setIfInBounds_toArray, List.set_cons_succ, List.set_cons_zero]
        refine wpAnyH_take (i := 2) (oi := ⟨some 21, .move (.tmp 20), 4, _, _, none⟩) (v := .bool false) rfl (by kernel_rfl) (by kernel_rfl) (by kernel_rfl) (fun _ _ _ h => h) (Or.inl ⟨by rfl, fun _ _ => by go_simp⟩) HS.out ?_
        try simp only [Act.put, List.setIfInBounds_toArray, List.set_cons_succ, List.set_cons_zero]
        refine wpAnyH_take (i := 3) (oi := ⟨some 22, .fieldAddr 25 (.tmp 5) 0, _, _, _, some (2, true)⟩) (v := undef) rfl (by kernel_rfl) (by kernel_rfl) (by kernel_rfl) (fun _ _ _ h => h) (Or.inr ⟨by rfl, rfl⟩) HS.out ?_
        try simp only [Act.put, List.setIfInBounds_toArray, List.set_cons_succ, List.set_cons_zero]
        refine wpAnyH_take (i := 4) (oi := ⟨some 23, .load 23 (.tmp 22), 23, _, _, some (2, true)⟩) (v := undef) rfl (by kernel_rfl) (by kernel_rfl) (by kernel_rfl) (fun _ _ _ h => h) (Or.inr ⟨by rfl, rfl⟩) HS.out ?_
        try simp only [Act.put, List.setIfInBounds_toArray, List.set_cons_succ, List.set_cons_zero]
        refine wpAnyH_take (i := 5) (oi := ⟨some 24, .move (.tmp 3), 22, _, _, some (2, true)⟩) (v := undef) rfl (by kernel_rfl) (by kernel_rfl) (by kernel_rfl) (fun _ _ _ h => h) (Or.inr ⟨by rfl, rfl⟩) HS.out ?_
        try simp only [Act.put, List.setIfInBounds_toArray, List.set_cons_succ, List.set_cons_zero]
        refine wpAnyH_take (i := 6) (oi := ⟨some 25, .move (.tmp 6), 3, _, _, some (2, true)⟩) (v := undef) rfl (by kernel_rfl) (by kernel_rfl) (by kernel_rfl) (fun _ _ _ h => h) (Or.inr ⟨by rfl, rfl⟩) HS.out ?_
        try simp only [Act.put, List.setIfInBounds_toArray, List.set_cons_succ, List.set_cons_zero]
        refine wpAnyH_take (i := 7) (oi := ⟨some 26, .binOp .sub 3 (.tmp 25) (.const (.int .i64 1)) 3, 3, _, _, some (2, true)⟩) (v := undef) rfl (by kernel_rfl) (by kernel_rfl) (by kernel_rfl) (fun _ _ _ h => h) (Or.inr ⟨by rfl, rfl⟩) HS.out ?_
        try simp only [Act.put, List.setIfInBounds_toArray, List.set_cons_succ, List.set_cons_zero]
        refine wpAnyH_take (i := 8) (oi := ⟨some 27, .indexAddr 22 (.tmp 24) (.tmp 26), _, _, _, some (2, true)⟩) (v := undef) rfl (by kernel_rfl) (by kernel_rfl) (by kernel_rfl) (fun _ _ _ h => h) (Or.inr ⟨by rfl, rfl⟩) HS.out ?_
        try simp only [Act.put, List.setIfInBounds_toArray, List.set_cons_succ, List.set_cons_zero]
        refine wpAnyH_take (i := 9) (oi := ⟨some 28, .fieldAddr 25 (.tmp 27) 1, _, _, _, some (2, true)⟩) (v := undef) rfl (by kernel_rfl) (by kernel_rfl) (by kernel_rfl) (fun _ _ _ h => h) (Or.inr ⟨by rfl, rfl⟩) HS.out ?_
        try simp only [Act.put, List.setIfInBounds_toArray, List.set_cons_succ, List.set_cons_zero]
        refine wpAnyH_take (i := 10) (oi := ⟨some 29, .load 23 (.tmp 28), 23, _, _, some (2, true)⟩) (v := undef) rfl (by kernel_rfl) (by kernel_rfl) (by kernel_rfl) (fun _ _ _ h => h) (Or.inr ⟨by rfl, rfl⟩) HS.out ?_
        try simp only [Act.put, List.setIfInBounds_toArray, List.set_cons_succ, List.set_cons_zero]
        refine wpAnyH_take (i := 11) (oi := ⟨some 30, .binOp .leq 23 (.tmp 23) (.tmp 29) 23, 4, _, _, some (2, true)⟩) (v := undef) rfl (by kernel_rfl) (by kernel_rfl) (by kernel_rfl) (fun _ _ _ h => h) (Or.inr ⟨by rfl, rfl⟩) HS.out ?_
        try simp only [Act.put, List.setIfInBounds_toArray, List.set_cons_succ, List.set_cons_zero]
        refine wpAnyH_take (i := 12) (oi := ⟨some 31, .pick (.tmp 21) (.tmp 30) (.const (.bool false)), 4, _, _, none⟩) (v := .bool false) rfl (by kernel_rfl) (by kernel_rfl) (by kernel_rfl) (fun _ _ _ h => h) (Or.inl ⟨by rfl, fun _ _ => by go_simp⟩) HS.out ?_
        try simp only [Act.put, List.setIfInBounds_toArray, List.set_cons_succ, List.set_cons_zero]
        refine wpAnyH_done (by kernel_rfl) ?_ _
        have HLEN := Lib.hid (show ([] : List Rg).length + [r].length ≤ 1000000000000 by simp)
        have HBX := Lib.hid (HBW.out.trans (HS.out.mono HBW.out.size))
        have HOS2 := Lib.hid ((HOSW.out.on HS.out).on (below_one1 v0 (.cells #[.int .u64 (r.lo : Nat), .int .u64 (r.hi : Nat)] 25)))
        have BX2 := Lib.hid (BX.out.below HS.out BX.out.lt)
        have HBA := Lib.hid (below_alloc HBX.out HBX.out.size (.cells #[.int .u64 (r.lo : Nat), .int .u64 (r.hi : Nat)] 25))
        go_wp2_with (first | (refine wpList_load_mid rfl 25 (.tmp 5) rfl gx 0 rfl [.int .u64 (r.lo : Nat), .int .u64 (r.hi : Nat)] _ (range_blk BX2.out 0 _ (fun j hj => by simp)) Try.underlying25 rfl size_rg ?_) | (refine wpList_append_rgs rfl (.tmp 46) (.tmp 48) (by rfl) w3.heap.size _ [] (by rfl) HOS2.out _ 1 1 [r] (by rfl) rfl (RgR.one (Blk.new v0 _ 25)) HLEN.out HBA.out.size ?_; intro a6 n6 c6 w6 hO6 hg6; have HO6 := Lib.hid hO6; have HB6 := Lib.hid (below_ownR HBA.out HOS2.out HBA.out.size hg6); clear hO6 hg6))
        go_roundw
        case rel => exact ⟨i + 1, by have := HI.out; omega, by go_num, by rw [HSu.out]; exact HO6.out, HB6.out⟩
        case measure => simp [intOf]; omega
      · simp only [List.concat_eq_append] at *
        obtain ⟨m, hm⟩ : ∃ m, m = (O1 ++ [x]).length := ⟨_, rfl⟩
        obtain ⟨m1, hm1⟩ : ∃ m1, m1 = O1.length := ⟨_, rfl⟩
        have hmm : m = m1 + 1 := by rw [hm, hm1]; simp
        rw [← hm] at HOS HOl hf ⊢
        have HM := Lib.hid hm
        have HM1 := Lib.hid hm1
        have hwr : IntKind.i64.wrap ((m : Int) - 1) = (m1 : Int) := by rw [IntWalk.i64_in _ (by have := HOl.out; omega)]; omega
        have hm0 : (0 : Int) < (m : Int) := by omega
        have hm1i : (m1 : Int) < (m : Int) := by omega
        have hm1n : m1 < m := by omega
        have HMM := Lib.hid hmm
        have HRS := Lib.hid (HRS.out m1 (by rw [← HM.out]; exact hm1n))
        obtain ⟨gs, os, rfl, hgs, hcs⟩ := HRS.out
        obtain ⟨rfl, hlo, _, hfr⟩ := HOS.out.blk_at
        have HLO := Lib.hid hlo
        have HFR := Lib.hid (hfr (m1 * 2 + 1))
        have CX0 := Lib.hid (show wr.cell? ⟨gs, m1 * 2 + 1, none⟩ = some (.int .u64 (x.hi : Nat)) by
          have := hcs 1 (.int .u64 (x.hi : Nat)) (by rw [HM1.out]; simp [rcl])
          simpa using this)
        have HGS0 := Lib.hid hgs
        clear hm hm1 hmm hgs hcs HRS hlo hfr
        by_cases hle : r.lo ≤ x.hi
        · rw [mstep_in hle] at HSu
          have hlei : (r.lo : Int) ≤ (x.hi : Int) := by omega
          go_wp2_with (first | (refine wpList_load_mid rfl 25 (.tmp 15) rfl g (o + i * 2) rfl (rcl r) _ HR.out Try.underlying25 rfl size_rg ?_) | (refine wpList_store_abs rfl 25 (.tmp 5) (.tmp 16) (by rfl) wr.heap.size #[.int .u64 (r.lo : Nat), .int .u64 (r.hi : Nat)] (by rfl) (by rfl) 25 _ (Blk.new wr _ _) size_rg (by rfl) (by simp [Value.oneCell']) ?_; intro W hW hp5; have hbW := hW.below ((Below.refl _ wr).alloc (Nat.le_refl _) _) (Nat.le_refl _); have HBW := Lib.hid (HBr.out.trans (hbW.mono HBr.out.size)); have BX := Lib.hid hp5; have HOSW := Lib.hid (HOS.out.on hbW); have CX := Lib.hid ((Below.cell (p := ⟨gs, m1 * 2 + 1, none⟩) hbW HGS0.out).trans CX0.out); have HGS := Lib.hid (Nat.lt_of_lt_of_le HGS0.out hbW.size); have HFX := Lib.hid (show W.frozen? ⟨gs, m1 * 2 + 1, none⟩ = false from (HOS.out.on hbW).blk_at.2.2.2 _); clear hW hbW))
          generalize wr.heap.size = gx at *
          clear hp5
          refine wp_region_held_drew (S := fun w' => Below W.heap.size W w') (by kernel_rfl) (Below.refl _ _).drew (fun _ => ?_)
          have HS := Lib.hid ((Below.refl W.heap.size W).drew)
          generalize World.drew W = v0 at *
          try simp only [Act.put, List.setIfInBounds_toArray, List.set_cons_succ, List.set_cons_zero]
          refine wpAnyH_take (i := 0) (oi := ⟨some 19, .move (.tmp 6), 3, _, _, none⟩) (v := .int .i64 (m : Nat)) rfl (by kernel_rfl) (by kernel_rfl) (by kernel_rfl) (fun _ _ _ h => h) (Or.inl ⟨by rfl, fun _ _ => by go_simp⟩) HS.out ?_
          try simp only [Act.put, List.setIfInBounds_toArray, List.set_cons_succ, List.set_cons_zero]
          refine wpAnyH_take (i := 1) (oi := ⟨some 20, .binOp .gtr 3 (.tmp 19) (.const (.int .i64 0)) 3, 4, _, _, none⟩) (v := .bool true) rfl (by kernel_rfl) (by kernel_rfl) (by kernel_rfl) (fun _ _ _ h => h) (Or.inl ⟨by rfl, fun _ _ => by (go_simp <;> omega)⟩) HS.out ?_
          try simp only [Act.put, List.setIfInBounds_toArray, List.set_cons_succ, List.set_cons_zero]
          refine wpAnyH_take (i := 2) (oi := ⟨some 21, .move (.tmp 20), 4, _, _, none⟩) (v := .bool true) rfl (by kernel_rfl) (by kernel_rfl) (by kernel_rfl) (fun _ _ _ h => h) (Or.inl ⟨by rfl, fun _ _ => by go_simp⟩) HS.out ?_
          try simp only [Act.put, List.setIfInBounds_toArray, List.set_cons_succ, List.set_cons_zero]
          refine wpAnyH_take (i := 3) (oi := ⟨some 22, .fieldAddr 25 (.tmp 5) 0, _, _, _, some (2, true)⟩) (v := .pointer (some ⟨gx, 0, none⟩)) rfl (by kernel_rfl) (by kernel_rfl) (by kernel_rfl) (fun _ _ _ h => h) (Or.inl ⟨by rfl, fun _ _ => by go_simp⟩) HS.out ?_
          try simp only [Act.put, List.setIfInBounds_toArray, List.set_cons_succ, List.set_cons_zero]
          refine wpAnyH_take (i := 4) (oi := ⟨some 23, .load 23 (.tmp 22), 23, _, _, some (2, true)⟩) (v := .int .u64 (r.lo : Nat)) rfl (by kernel_rfl) (by kernel_rfl) (by kernel_rfl) (fun _ _ _ h => h) (Or.inl ⟨by rfl, fun vv hvv => yields_u64 (.tmp 22) rfl ⟨gx, 0, none⟩ rfl ((BX.out.below hvv BX.out.lt).cell 0 rfl)⟩) HS.out ?_
          try simp only [Act.put, List.setIfInBounds_toArray, List.set_cons_succ, List.set_cons_zero]
          refine wpAnyH_take (i := 5) (oi := ⟨some 24, .move (.tmp 3), 22, _, _, some (2, true)⟩) (v := .slice (some ⟨gs, 0, none⟩) m cs) rfl (by kernel_rfl) (by kernel_rfl) (by kernel_rfl) (fun _ _ _ h => h) (Or.inl ⟨by rfl, fun _ _ => by go_simp⟩) HS.out ?_
          try simp only [Act.put, List.setIfInBounds_toArray, List.set_cons_succ, List.set_cons_zero]
          refine wpAnyH_take (i := 6) (oi := ⟨some 25, .move (.tmp 6), 3, _, _, some (2, true)⟩) (v := .int .i64 (m : Nat)) rfl (by kernel_rfl) (by kernel_rfl) (by kernel_rfl) (fun _ _ _ h => h) (Or.inl ⟨by rfl, fun _ _ => by go_simp⟩) HS.out ?_
          try simp only [Act.put, List.setIfInBounds_toArray, List.set_cons_succ, List.set_cons_zero]
          refine wpAnyH_take (i := 7) (oi := ⟨some 26, .binOp .sub 3 (.tmp 25) (.const (.int .i64 1)) 3, 3, _, _, some (2, true)⟩) (v := .int .i64 (m1 : Nat)) rfl (by kernel_rfl) (by kernel_rfl) (by kernel_rfl) (fun _ _ _ h => h) (Or.inl ⟨by rfl, fun _ _ => by go_simp⟩) HS.out ?_
          try simp only [Act.put, List.setIfInBounds_toArray, List.set_cons_succ, List.set_cons_zero]
          refine wpAnyH_take (i := 8) (oi := ⟨some 27, .indexAddr 22 (.tmp 24) (.tmp 26), _, _, _, some (2, true)⟩) (v := .pointer (some ⟨gs, m1 * 2, none⟩)) rfl (by kernel_rfl) (by kernel_rfl) (by kernel_rfl) (fun _ _ _ h => h) (Or.inl ⟨by rfl, fun _ _ => by go_simp⟩) HS.out ?_
          try simp only [Act.put, List.setIfInBounds_toArray, List.set_cons_succ, List.set_cons_zero]
          refine wpAnyH_take (i := 9) (oi := ⟨some 28, .fieldAddr 25 (.tmp 27) 1, _, _, _, some (2, true)⟩) (v := .pointer (some ⟨gs, m1 * 2 + 1, none⟩)) rfl (by kernel_rfl) (by kernel_rfl) (by kernel_rfl) (fun _ _ _ h => h) (Or.inl ⟨by rfl, fun _ _ => by go_simp⟩) HS.out ?_
          try simp only [Act.put, List.setIfInBounds_toArray, List.set_cons_succ, List.set_cons_zero]
          refine wpAnyH_take (i := 10) (oi := ⟨some 29, .load 23 (.tmp 28), 23, _, _, some (2, true)⟩) (v := .int .u64 (x.hi : Nat)) rfl (by kernel_rfl) (by kernel_rfl) (by kernel_rfl) (fun _ _ _ h => h) (Or.inl ⟨by rfl, fun vv hvv => yields_u64 (.tmp 28) rfl ⟨gs, m1 * 2 + 1, none⟩ rfl ((hvv.cell (p := ⟨gs, m1 * 2 + 1, none⟩) HGS.out).trans CX.out)⟩) HS.out ?_
          try simp only [Act.put, List.setIfInBounds_toArray, List.set_cons_succ, List.set_cons_zero]
          refine wpAnyH_take (i := 11) (oi := ⟨some 30, .binOp .leq 23 (.tmp 23) (.tmp 29) 23, 4, _, _, some (2, true)⟩) (v := .bool true) rfl (by kernel_rfl) (by kernel_rfl) (by kernel_rfl) (fun _ _ _ h => h) (Or.inl ⟨by rfl, fun _ _ => by go_simp⟩) HS.out ?_
          try simp only [Act.put, List.setIfInBounds_toArray, List.set_cons_succ, List.set_cons_zero]
          refine wpAnyH_take (i := 12) (oi := ⟨some 31, .pick (.tmp 21) (.tmp 30) (.const (.bool false)), 4, _, _, none⟩) (v := .bool true) rfl (by kernel_rfl) (by kernel_rfl) (by kernel_rfl) (fun _ _ _ h => h) (Or.inl ⟨by rfl, fun _ _ => by go_simp⟩) HS.out ?_
          try simp only [Act.put, List.setIfInBounds_toArray, List.set_cons_succ, List.set_cons_zero]
          refine wpAnyH_done (by kernel_rfl) ?_ _
          have HBX := Lib.hid (HBW.out.trans (HS.out.mono HBW.out.size))
          have HOS2 := Lib.hid (HOSW.out.on HS.out)
          have b0 := (BX.out.below HS.out BX.out.lt).cell 1 rfl
          have b1 := (HS.out.cell (p := ⟨gs, m1 * 2 + 1, none⟩) HGS.out).trans CX.out
          have b2 := HOS2.out.blk_at.2.2.2 (m1 * 2 + 1)
          have HMX := Lib.hid (show max (x.hi : Int) (r.hi : Int) = ((max x.hi r.hi : Nat) : Int) by omega)
          go_wp2
          go_region
          go_wp2
          have HO6 := Lib.hid (show OwnR (v0.setCell ⟨gs, m1 * 2 + 1, none⟩ (.int .u64 (max (x.hi : Int) (r.hi : Int)))).drew w3.heap.size (.slice (some ⟨gs, 0, none⟩) m cs) (O1 ++ [⟨x.lo, max x.hi r.hi⟩]) by rw [HMX.out]; exact OwnR.setc (w := v0) HOS2.out m1 HM1.out _)
          have HB6 := Lib.hid (show Below w3.heap.size w3 (v0.setCell ⟨gs, m1 * 2 + 1, none⟩ (.int .u64 (max (x.hi : Int) (r.hi : Int)))).drew from (below_setCell HBX.out HLO.out _).drew)
          go_roundw
          case rel => exact ⟨i + 1, by have := HI.out; omega, by go_num, by rw [HSu.out]; exact HO6.out, HB6.out⟩
          case measure => simp [intOf]; omega
        · rw [mstep_out hle] at HSu
          have hlei : ¬ (r.lo : Int) ≤ (x.hi : Int) := by omega
          go_wp2_with (first | (refine wpList_load_mid rfl 25 (.tmp 15) rfl g (o + i * 2) rfl (rcl r) _ HR.out Try.underlying25 rfl size_rg ?_) | (refine wpList_store_abs rfl 25 (.tmp 5) (.tmp 16) (by rfl) wr.heap.size #[.int .u64 (r.lo : Nat), .int .u64 (r.hi : Nat)] (by rfl) (by rfl) 25 _ (Blk.new wr _ _) size_rg (by rfl) (by simp [Value.oneCell']) ?_; intro W hW hp5; have hbW := hW.below ((Below.refl _ wr).alloc (Nat.le_refl _) _) (Nat.le_refl _); have HBW := Lib.hid (HBr.out.trans (hbW.mono HBr.out.size)); have BX := Lib.hid hp5; have HOSW := Lib.hid (HOS.out.on hbW); have CX := Lib.hid ((Below.cell (p := ⟨gs, m1 * 2 + 1, none⟩) hbW HGS0.out).trans CX0.out); have HGS := Lib.hid (Nat.lt_of_lt_of_le HGS0.out hbW.size); have HFX := Lib.hid (show W.frozen? ⟨gs, m1 * 2 + 1, none⟩ = false from (HOS.out.on hbW).blk_at.2.2.2 _); clear hW hbW))
          generalize wr.heap.size = gx at *
          clear hp5
          refine wp_region_held_drew (S := fun w' => Below W.heap.size W w') (by kernel_rfl) (Below.refl _ _).drew (fun _ => ?_)
          have HS := Lib.hid ((Below.refl W.heap.size W).drew)
          generalize World.drew W = v0 at *
          try simp only [Act.put, List.setIfInBounds_toArray, List.set_cons_succ, List.set_cons_zero]
          refine wpAnyH_take (i := 0) (oi := ⟨some 19, .move (.tmp 6), 3, _, _, none⟩) (v := .int .i64 (m : Nat)) rfl (by kernel_rfl) (by kernel_rfl) (by kernel_rfl) (fun _ _ _ h => h) (Or.inl ⟨by rfl, fun _ _ => by go_simp⟩) HS.out ?_
          try simp only [Act.put, List.setIfInBounds_toArray, List.set_cons_succ, List.set_cons_zero]
          refine wpAnyH_take (i := 1) (oi := ⟨some 20, .binOp .gtr 3 (.tmp 19) (.const (.int .i64 0)) 3, 4, _, _, none⟩) (v := .bool true) rfl (by kernel_rfl) (by kernel_rfl) (by kernel_rfl) (fun _ _ _ h => h) (Or.inl ⟨by rfl, fun _ _ => by (go_simp <;> omega)⟩) HS.out ?_
          try simp only [Act.put, List.setIfInBounds_toArray, List.set_cons_succ, List.set_cons_zero]
          refine wpAnyH_take (i := 2) (oi := ⟨some 21, .move (.tmp 20), 4, _, _, none⟩) (v := .bool true) rfl (by kernel_rfl) (by kernel_rfl) (by kernel_rfl) (fun _ _ _ h => h) (Or.inl ⟨by rfl, fun _ _ => by go_simp⟩) HS.out ?_
          try simp only [Act.put, List.setIfInBounds_toArray, List.set_cons_succ, List.set_cons_zero]
          refine wpAnyH_take (i := 3) (oi := ⟨some 22, .fieldAddr 25 (.tmp 5) 0, _, _, _, some (2, true)⟩) (v := .pointer (some ⟨gx, 0, none⟩)) rfl (by kernel_rfl) (by kernel_rfl) (by kernel_rfl) (fun _ _ _ h => h) (Or.inl ⟨by rfl, fun _ _ => by go_simp⟩) HS.out ?_
          try simp only [Act.put, List.setIfInBounds_toArray, List.set_cons_succ, List.set_cons_zero]
          refine wpAnyH_take (i := 4) (oi := ⟨some 23, .load 23 (.tmp 22), 23, _, _, some (2, true)⟩) (v := .int .u64 (r.lo : Nat)) rfl (by kernel_rfl) (by kernel_rfl) (by kernel_rfl) (fun _ _ _ h => h) (Or.inl ⟨by rfl, fun vv hvv => yields_u64 (.tmp 22) rfl ⟨gx, 0, none⟩ rfl ((BX.out.below hvv BX.out.lt).cell 0 rfl)⟩) HS.out ?_
          try simp only [Act.put, List.setIfInBounds_toArray, List.set_cons_succ, List.set_cons_zero]
          refine wpAnyH_take (i := 5) (oi := ⟨some 24, .move (.tmp 3), 22, _, _, some (2, true)⟩) (v := .slice (some ⟨gs, 0, none⟩) m cs) rfl (by kernel_rfl) (by kernel_rfl) (by kernel_rfl) (fun _ _ _ h => h) (Or.inl ⟨by rfl, fun _ _ => by go_simp⟩) HS.out ?_
          try simp only [Act.put, List.setIfInBounds_toArray, List.set_cons_succ, List.set_cons_zero]
          refine wpAnyH_take (i := 6) (oi := ⟨some 25, .move (.tmp 6), 3, _, _, some (2, true)⟩) (v := .int .i64 (m : Nat)) rfl (by kernel_rfl) (by kernel_rfl) (by kernel_rfl) (fun _ _ _ h => h) (Or.inl ⟨by rfl, fun _ _ => by go_simp⟩) HS.out ?_
          try simp only [Act.put, List.setIfInBounds_toArray, List.set_cons_succ, List.set_cons_zero]
          refine wpAnyH_take (i := 7) (oi := ⟨some 26, .binOp .sub 3 (.tmp 25) (.const (.int .i64 1)) 3, 3, _, _, some (2, true)⟩) (v := .int .i64 (m1 : Nat)) rfl (by kernel_rfl) (by kernel_rfl) (by kernel_rfl) (fun _ _ _ h => h) (Or.inl ⟨by rfl, fun _ _ => by go_simp⟩) HS.out ?_
          try simp only [Act.put, List.setIfInBounds_toArray, List.set_cons_succ, List.set_cons_zero]
          refine wpAnyH_take (i := 8) (oi := ⟨some 27, .indexAddr 22 (.tmp 24) (.tmp 26), _, _, _, some (2, true)⟩) (v := .pointer (some ⟨gs, m1 * 2, none⟩)) rfl (by kernel_rfl) (by kernel_rfl) (by kernel_rfl) (fun _ _ _ h => h) (Or.inl ⟨by rfl, fun _ _ => by go_simp⟩) HS.out ?_
          try simp only [Act.put, List.setIfInBounds_toArray, List.set_cons_succ, List.set_cons_zero]
          refine wpAnyH_take (i := 9) (oi := ⟨some 28, .fieldAddr 25 (.tmp 27) 1, _, _, _, some (2, true)⟩) (v := .pointer (some ⟨gs, m1 * 2 + 1, none⟩)) rfl (by kernel_rfl) (by kernel_rfl) (by kernel_rfl) (fun _ _ _ h => h) (Or.inl ⟨by rfl, fun _ _ => by go_simp⟩) HS.out ?_
          try simp only [Act.put, List.setIfInBounds_toArray, List.set_cons_succ, List.set_cons_zero]
          refine wpAnyH_take (i := 10) (oi := ⟨some 29, .load 23 (.tmp 28), 23, _, _, some (2, true)⟩) (v := .int .u64 (x.hi : Nat)) rfl (by kernel_rfl) (by kernel_rfl) (by kernel_rfl) (fun _ _ _ h => h) (Or.inl ⟨by rfl, fun vv hvv => yields_u64 (.tmp 28) rfl ⟨gs, m1 * 2 + 1, none⟩ rfl ((hvv.cell (p := ⟨gs, m1 * 2 + 1, none⟩) HGS.out).trans CX.out)⟩) HS.out ?_
          try simp only [Act.put, List.setIfInBounds_toArray, List.set_cons_succ, List.set_cons_zero]
          refine wpAnyH_take (i := 11) (oi := ⟨some 30, .binOp .leq 23 (.tmp 23) (.tmp 29) 23, 4, _, _, some (2, true)⟩) (v := .bool false) rfl (by kernel_rfl) (by kernel_rfl) (by kernel_rfl) (fun _ _ _ h => h) (Or.inl ⟨by rfl, fun _ _ => by go_simp⟩) HS.out ?_
          try simp only [Act.put, List.setIfInBounds_toArray, List.set_cons_succ, List.set_cons_zero]
          refine wpAnyH_take (i := 12) (oi := ⟨some 31, .pick (.tmp 21) (.tmp 30) (.const (.bool false)), 4, _, _, none⟩) (v := .bool false) rfl (by kernel_rfl) (by kernel_rfl) (by kernel_rfl) (fun _ _ _ h => h) (Or.inl ⟨by rfl, fun _ _ => by go_simp⟩) HS.out ?_
          try simp only [Act.put, List.setIfInBounds_toArray, List.set_cons_succ, List.set_cons_zero]
          refine wpAnyH_done (by kernel_rfl) ?_ _
          have HLEN := Lib.hid (show ((O1 ++ [x]) : List Rg).length + [r].length ≤ 1000000000000 by rw [← HM.out]; have := HOl.out; have := HKn.out; have := HI.out; simp; omega)
          have HBX := Lib.hid (HBW.out.trans (HS.out.mono HBW.out.size))
          have HOS2 := Lib.hid ((HOSW.out.on HS.out).on (below_one1 v0 (.cells #[.int .u64 (r.lo : Nat), .int .u64 (r.hi : Nat)] 25)))
          have BX2 := Lib.hid (BX.out.below HS.out BX.out.lt)
          have HBA := Lib.hid (below_alloc HBX.out HBX.out.size (.cells #[.int .u64 (r.lo : Nat), .int .u64 (r.hi : Nat)] 25))
          go_wp2_with (first | (refine wpList_load_mid rfl 25 (.tmp 5) rfl gx 0 rfl [.int .u64 (r.lo : Nat), .int .u64 (r.hi : Nat)] _ (range_blk BX2.out 0 _ (fun j hj => by simp)) Try.underlying25 rfl size_rg ?_) | (refine wpList_append_rgs rfl (.tmp 46) (.tmp 48) (by rfl) w3.heap.size _ (O1 ++ [x]) (by rfl) HOS2.out _ 1 1 [r] (by rfl) rfl (RgR.one (Blk.new v0 _ 25)) HLEN.out HBA.out.size ?_; intro a6 n6 c6 w6 hO6 hg6; have HO6 := Lib.hid hO6; have HB6 := Lib.hid (below_ownR HBA.out HOS2.out HBA.out.size hg6); clear hO6 hg6))
          go_roundw
          case rel => exact ⟨i + 1, by have := HI.out; omega, by go_num, by rw [HSu.out]; exact HO6.out, HB6.out⟩
          case measure => simp [intOf]; omega
    · have HF := Lib.hid (show O = mfold k by rw [hO, List.take_of_length_le (by omega)]; rfl)
      have HI := Lib.hid (show i = k.length by omega)
      clear hO
      go_wp2
      go_ret
      exact ⟨_, k, rfl, HP.out, HAs.out, by rw [← HF.out]; exact HOS.out.mono HB3.out.size, HB3.out.trans (HBr.out.mono HB3.out.size)⟩
end Go.Proofs.Ytajjbffppkpjpaa
