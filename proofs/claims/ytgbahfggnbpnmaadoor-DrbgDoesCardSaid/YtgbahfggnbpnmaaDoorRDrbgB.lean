import Derived.Test.YtgbahfggnbpnmaaDoorRDrbg
/-
  The reference's generator: fits, filled, New, Reseed, Draw.
-/
namespace Go.Proofs.YtgbahfggnbpnmaaDoor
open Go.RowKit
set_option maxRecDepth 100000 in
set_option maxHeartbeats 1000000 in
theorem rfits_walk (ent : List UInt8) (ls : List (List UInt8)) (a r : Option Addr) (n c m d : Nat) (w : World) (hE : Txt w a n c ent) (hm : m = ls.length) (hP : Parts w (· < w.heap.size) r ls) (hls : ls.length ≤ 1000) :
    Calls Tryd.prog 116 #[.slice a n c, .slice r m d] w fun e w' => e = .returned (.int .i64 (mayE ent ls)) ∧ w = w' := by
  have HM := Lib.hid hm
  have HN := Lib.hid hE.len
  have HP := Lib.hid hP
  have hmb : m ≤ 1000 := by omega
  clear hE hP hm
  by_cases h32 : n < 32
  · have e1 : mayE ent ls = 50 := by unfold mayE; rw [if_pos (by have := HN.out; omega)]
    rw [e1]
    have g1 : (n : Int) < 32 := by omega
    go_enter Tryd.func116, Tryd.ntmps116
    go_wp2
    go_ret
    exact ⟨rfl, rfl⟩
  · have e1 : mayE ent ls = if fewOf 4096 (ls ++ [ent]) = true then 0 else 3 := by unfold mayE; rw [if_neg (by have := HN.out; omega)]
    rw [e1]
    have g1 : ¬ (n : Int) < 32 := by omega
    by_cases h40 : 4096 < n
    · have e2 : ¬ fewOf 4096 (ls ++ [ent]) = true := by
        intro h
        simp only [fewOf, List.all_eq_true, decide_eq_true_eq] at h
        have := h ent (by simp)
        have := HN.out
        omega
      rw [if_neg e2]
      have g2 : (4096 : Int) < (n : Int) := by omega
      go_enter Tryd.func116, Tryd.ntmps116
      go_wp2
      go_ret
      exact ⟨rfl, rfl⟩
    · obtain ⟨ER, hER⟩ : ∃ z : Int, z = if fewOf 4096 (ls ++ [ent]) = true then 0 else 3 := ⟨_, rfl⟩
      rw [← hER]
      have HER := Lib.hid hER
      have g2 : ¬ (4096 : Int) < (n : Int) := by omega
      clear hER e1
      go_enter Tryd.func116, Tryd.ntmps116
      go_wp2
      go_loop [15] (fun i => ∃ k, k ≤ m ∧ i = .int .i64 (k : Nat) ∧ Hid (∀ j, j < k → (ls.getD j []).length ≤ 4096)) (fun i => m - (intOf i).toNat)
      case atStart => exact ⟨0, Nat.zero_le _, rfl, fun j hj => by omega⟩
      case round =>
        obtain ⟨k, hk, rfl, hall⟩ := hrel
        by_cases hlt : k < m
        · obtain ⟨b, o, a2, n2, cap2, rfl, _, h3, h4, _, _, _⟩ := HP.out k (by have := HM.out; omega)
          have H4 := Lib.hid h4
          clear h4
          by_cases h3000 : n2 ≤ 4096
          · have hd : ¬ (4096 : Int) < (n2 : Int) := by omega
            go_wp2
            go_round
            case rel =>
              refine ⟨k + 1, by omega, by go_num, fun j hj => ?_⟩
              rcases Nat.lt_or_ge j k with h | h
              · exact hall.out j h
              · obtain rfl : j = k := by omega
                rw [← H4.out]; exact h3000
            case measure => simp [intOf]; omega
          · have hd : (4096 : Int) < (n2 : Int) := by omega
            go_wp2
            go_ret
            refine ⟨?_, rfl⟩
            have : ¬ fewOf 4096 (ls ++ [ent]) = true := by
              intro h
              simp only [fewOf, List.all_eq_true, decide_eq_true_eq] at h
              have h1 := h (ls.getD k []) (List.mem_append_left _ (by rw [List.getD, List.getElem?_eq_getElem (by have := HM.out; omega)]; exact List.getElem_mem _))
              have := H4.out
              omega
            show Ending.returned (.int .i64 3) = _
            rw [HER.out, if_neg this]
        · have HK := Lib.hid (show k = m by omega)
          go_wp2
          go_ret
          refine ⟨?_, rfl⟩
          have h1 : fewOf 4096 (ls ++ [ent]) = true := by
            simp only [fewOf, List.all_eq_true, decide_eq_true_eq]
            intro l hl
            rcases List.mem_append.1 hl with hl | hl
            · obtain ⟨j, hj, rfl⟩ := List.getElem_of_mem hl
              have := hall.out j (by have := HK.out; have := HM.out; omega)
              simpa [List.getD, hj] using this
            · simp only [List.mem_singleton] at hl
              rw [hl]; have := HN.out; omega
          show Ending.returned (.int .i64 0) = _
          rw [HER.out, if_pos h1]
def fl (x : UInt8) (k : Nat) : List UInt8 := List.replicate k x ++ List.replicate (32 - k) 0
theorem fl_step (x : UInt8) (k : Nat) (h : k < 32) : (fl x k).set k x = fl x (k + 1) := by
  unfold fl
  rw [show 32 - k = (32 - (k + 1)) + 1 by omega, List.replicate_succ, List.set_append_right _ _ (by simp), List.replicate_succ' (n := k)]
  simp
theorem fl_len (x : UInt8) (k : Nat) (h : k ≤ 32) : (fl x k).length = 32 := by simp [fl]; omega
set_option maxRecDepth 100000 in
set_option maxHeartbeats 1000000 in
theorem rfilled_walk (x : UInt8) (w : World) : Calls Tryd.prog 118 #[bv x] w fun e w' => e = .returned (.slice (some ⟨w.heap.size, 0, none⟩) 32 32) ∧ Txt w' (some ⟨w.heap.size, 0, none⟩) 32 32 (fl x 32) ∧ Below w.heap.size w w' := by
  go_enter Tryd.func118, Tryd.ntmps118
  go_wp2_with (refine wpList_make_abs rfl 28 (.const (.int .i64 32)) (.const (.int .i64 32)) rfl 5 (.int .u8 0) 1 Tryd.underlying28 info_u8 rfl .i64 .i64 32 32 rfl rfl (Nat.le_refl _) (by omega) (by omega) ?_)
  rw [rep_bytes]
  go_loopw [8] (fun i wr => ∃ k : Nat, k ≤ 32 ∧ i = .int .i64 (k : Nat) ∧ Blk wr w.heap.size (barr (fl x k)) 5 ∧ Below w.heap.size w wr) (fun i _ => 32 - (intOf i).toNat)
  case atStart =>
    obtain ⟨h0, h1⟩ := new1 w (barr (List.replicate 32 0)) 5
    exact ⟨0, Nat.zero_le _, rfl, h0, h1⟩
  case round =>
    obtain ⟨k, hk, rfl, hB, hb⟩ := hrel
    by_cases hlt : k < 32
    · have c0 := hB.cell k (barr_get (fl x k) k (by rw [fl_len x k (by omega)]; exact hlt))
      have c1 := hB.free k
      have HB := Lib.hid hB
      have HBw := Lib.hid hb
      clear hB hb
      go_wp2
      go_roundw
      case rel =>
        refine ⟨k + 1, by omega, by go_num, ?_, below_setCell HBw.out (Nat.le_refl _) _⟩
        have h := HB.out.set k (bv x)
        rw [barr_set, fl_step x k hlt] at h
        exact h
      case measure => simp [intOf]; omega
    · obtain rfl : k = 32 := by omega
      have HT := Lib.hid (show Txt wr (some ⟨w.heap.size, 0, none⟩) 32 32 (fl x 32) from Txt.of_blk hB)
      clear hB
      go_wp2
      go_ret
      exact ⟨rfl, HT.out, hb⟩
theorem fl_zero : fl 0 32 = z32 := rfl
theorem fl_ones : fl 1 32 = ones 32 := rfl
end Go.Proofs.YtgbahfggnbpnmaaDoor
/-
  The reference's generator: New.
-/
namespace Go.Proofs.YtgbahfggnbpnmaaDoor
open Go.RowKit
theorem info_i64 : (Tryd.prog.info? 3).map (fun i => (i.zero, i.size, i.bytes)) = some (some (.int .i64 0), 1, 8) := by kernel_rfl
section
variable {ops : Array Oper} {rest : List Oper} {o : Oper} {a : Act} {w : World} {Q : Exit → Act → World → Prop} {K : Act → World → Prop}
theorem wp_store_i64 (x y : Operand) (ho : o.op = .store 3 x y) (g off : Nat) (z : Int) (hx : a.eval x = .pointer (some ⟨g, off, none⟩)) (hy : a.eval y = .int .i64 z) {cur : Array Value} {t : TypeId} (hg : Blk w g cur t) (hfit : off < cur.size)
    (h : ∀ W, Wrote w W g → Blk W g (cur.setIfInBounds off (.int .i64 z)) t → K (a.put o.dst undef) W) : o.wp Tryd.prog a w K Q := by
  obtain ⟨W, h1, h2, h3⟩ := wrote_one w g off t cur (.int .i64 z) hg hfit rfl
  obtain ⟨i, i1, i2, i3, i4⟩ := info_parts info_i64
  have hs : (storeVar 3 ⟨g, off, none⟩ (.int .i64 z)).run Tryd.prog w = .ok () W := by
    simp [storeVar, sizeOf, typeInfo, i1, Value.cells, i3, h1]
  unfold Oper.wp execOp
  simp only [ho, hx, hy, Instr.storeAt, Instr.sureAddr, Sem.run_bind, Sem.run_pure, Result.andThen_ok, hs]
  exact h _ h2 h3
theorem wpList_store_i64 (hgd : o.guard = none) (x y : Operand) (ho : o.op = .store 3 x y) (g off : Nat) (z : Int) (hx : a.eval x = .pointer (some ⟨g, off, none⟩)) (hy : a.eval y = .int .i64 z) {cur : Array Value} {t : TypeId} (hg : Blk w g cur t) (hfit : off < cur.size)
    (h : ∀ W, Wrote w W g → Blk W g (cur.setIfInBounds off (.int .i64 z)) t → wpList Tryd.prog ops Q rest (a.put o.dst undef) W) : wpList Tryd.prog ops Q (o :: rest) a w :=
  wpList_plain hgd fun _ hK => wp_store_i64 x y ho g off z hx hy hg hfit (fun W h1 h2 => hK _ _ (h W h1 h2))
end
theorem results_st_tmp {P : Program} {fn : Func} {p u : Tmp} {ty : TypeId} (h : fn.results = #[.cell p ty, .tmp u]) (tmps : Array Value) {w : World} {g : Nat} {t : TypeId} {cs : Array Value} {d : TypeDesc} (hg : Blk w g cs t)
    (hp : tmps.getD p undef = .pointer (some ⟨g, 0, none⟩)) (hu : P.underlying ty = some d) (hd : (match d with | .struct _ | .array _ _ => true | _ => false) = true) (hi : (P.info? ty).map (·.size) = some cs.size) :
    (results fn tmps).run P w = .ok (.tuple #[.agg cs, tmps.getD u undef]) w := by
  rw [results_cell_tmp h, hp]
  simp [asAddr, run_loadVar_row w g t ty cs (0, 0) d hg hu hd hi, Result.andThen]
theorem results_tct {P : Program} {fn : Func} {s p u : Tmp} {ty : TypeId} (h : fn.results = #[.tmp s, .cell p ty, .tmp u]) (tmps : Array Value) {w : World} {g : Nat} {t : TypeId} {cs : Array Value} {d : TypeDesc} (hg : Blk w g cs t)
    (hp : tmps.getD p undef = .pointer (some ⟨g, 0, none⟩)) (hu : P.underlying ty = some d) (hd : (match d with | .struct _ | .array _ _ => true | _ => false) = true) (hi : (P.info? ty).map (·.size) = some cs.size) :
    (results fn tmps).run P w = .ok (.tuple #[tmps.getD s undef, .agg cs, tmps.getD u undef]) w := by
  have hp' : tmps[p]?.getD undef = .pointer (some ⟨g, 0, none⟩) := by simpa using hp
  simp [results, h, hp', asAddr, run_loadVar_row w g t ty cs (0, 0) d hg hu hd hi, Sem.run_bind, Result.andThen]
def z3 : Array Value := #[.slice none 0 0, .slice none 0 0, .int .i64 0]
theorem z3_size : (Tryd.prog.info? 88).map (·.size) = some z3.size := by kernel_rfl
set_option maxRecDepth 100000 in
set_option maxHeartbeats 1000000 in
theorem rnew_err (ent nonce person : List UInt8) (a b c0 : Option Addr) (n c m d p q : Nat) (w : World) (hE : Txt w a n c ent) (hN : Txt w b m d nonce) (hP : Txt w c0 p q person) (he : mayE ent [nonce, person] ≠ 0) :
    Calls Tryd.prog 66 #[.slice a n c, .slice b m d, .slice c0 p q] w fun e w' => e = .returned (.tuple #[.agg #[.slice none 0 0, .slice none 0 0, .int .i64 0], .int .i64 (mayE ent [nonce, person])]) ∧ Below w.heap.size w w' := by
  obtain ⟨er, her⟩ : ∃ z, z = mayE ent [nonce, person] := ⟨_, rfl⟩
  rw [← her] at he ⊢
  have hb1 := below_one' w (.cells #[.slice none 0 0, .slice none 0 0, .int .i64 0] 88)
  have hb2 := below_two w (.cells #[.slice none 0 0, .slice none 0 0, .int .i64 0] 88) (.cells #[.slice b m d, .slice c0 p q] 28)
  have BY := Lib.hid ((Blk.new w #[.slice none 0 0, .slice none 0 0, .int .i64 0] 88).alloc (.cells #[.slice b m d, .slice c0 p q] 28))
  have HE := Lib.hid (hE.on hb2)
  have HP := Lib.hid ((hN.on hb2).parts2 (hP.on hb2) (Blk.new' (w.alloc (.cells #[.slice none 0 0, .slice none 0 0, .int .i64 0] 88)) #[.slice b m d, .slice c0 p q] 28 (g := w.heap.size + 1) (by simp)))
  have HB := Lib.hid hb2
  have HER := Lib.hid her
  clear hE hN hP hb1 hb2 her
  go_enter Tryd.func66, Tryd.ntmps66
  go_wp2_with fail
  refine (rfits_walk ent [nonce, person] _ _ _ _ 2 2 _ HE.out rfl HP.out (by simp)).mono ?_
  rintro e w2 ⟨he2, rfl⟩
  rw [← HER.out] at he2
  subst he2
  go_wp2_with (refine wpList_store_abs rfl 88 (.tmp 6) (.tmp 17) (by rfl) w.heap.size #[.slice none 0 0, .slice none 0 0, .int .i64 0] (by rfl) (by rfl) 88 _ BY.out size_ref5 (by rfl) (by simp [Value.oneCell']) ?_; intro W9 hW p9; have HB9 := Lib.hid (hW.below HB.out (Nat.le_refl _)); clear hW)
  refine bodyPost_ret (v := .tuple #[.agg #[.slice none 0 0, .slice none 0 0, .int .i64 0], .int .i64 er]) ?_ rfl ⟨rfl, HB9.out⟩
  exact (results_st_tmp rfl _ p9 (by rfl) Tryd.underlying88 rfl size_ref5).trans rfl
set_option maxRecDepth 100000 in
set_option maxHeartbeats 1000000 in
theorem rnew_walk (ent nonce person : List UInt8) (a b c0 : Option Addr) (n c m d p q : Nat) (w : World) (hE : Txt w a n c ent) (hN : Txt w b m d nonce) (hP : Txt w c0 p q person) (he : mayE ent [nonce, person] = 0) :
    Calls Tryd.prog 66 #[.slice a n c, .slice b m d, .slice c0 p q] w fun e w' => ∃ ka kn kc va vn vc, e = .returned (.tuple #[.agg #[.slice ka kn kc, .slice va vn vc, .int .i64 1], .int .i64 0]) ∧ Txt w' ka kn kc (updK z32 (ones 32) (ent ++ (nonce ++ person))) ∧ Txt w' va vn vc (updV z32 (ones 32) (ent ++ (nonce ++ person))) ∧ (∀ q o, ka = some ⟨q, o, none⟩ → w.heap.size ≤ q) ∧ (∀ q o, va = some ⟨q, o, none⟩ → w.heap.size ≤ q) ∧ Below w.heap.size w w' := by
  have hb1 := below_one' w (.cells #[.slice none 0 0, .slice none 0 0, .int .i64 0] 88)
  have hb2 := below_two w (.cells #[.slice none 0 0, .slice none 0 0, .int .i64 0] 88) (.cells #[.slice b m d, .slice c0 p q] 28)
  have BY := Lib.hid ((Blk.new w #[.slice none 0 0, .slice none 0 0, .int .i64 0] 88).alloc (.cells #[.slice b m d, .slice c0 p q] 28))
  have HE := Lib.hid (hE.on hb2)
  have HP := Lib.hid ((hN.on hb2).parts2 (hP.on hb2) (Blk.new' (w.alloc (.cells #[.slice none 0 0, .slice none 0 0, .int .i64 0] 88)) #[.slice b m d, .slice c0 p q] 28 (g := w.heap.size + 1) (by simp)))
  have HB := Lib.hid hb2
  have HE0 := Lib.hid hE
  have HN0 := Lib.hid hN
  have HP0 := Lib.hid hP
  have HLn := Lib.hid (mayE_len he)
  have HER := Lib.hid he
  clear hE hN hP hb1 hb2 he
  go_enter Tryd.func66, Tryd.ntmps66
  go_wp2_with fail
  refine (rfits_walk ent [nonce, person] _ _ _ _ 2 2 _ HE.out rfl HP.out (by simp)).mono ?_
  rintro e w' ⟨he2, hw⟩
  obtain ⟨w2, rfl⟩ : ∃ w2, w2 = w' := ⟨_, rfl⟩
  rw [HER.out] at he2
  subst he2
  rw [hw] at BY HB
  clear HE HP hw
  go_wp2_with fail
  refine (rfilled_walk 0 w2).mono ?_
  rintro e w3 ⟨rfl, hF, hb⟩
  have BY := Lib.hid (BY.out.on hb)
  have HB := Lib.hid (HB.out.trans (hb.mono HB.out.size))
  have TF := Lib.hid hF
  clear hb hF
  generalize w2.heap.size = g2 at *
  go_wp2_with fail
  refine (rfilled_walk 1 w3).mono ?_
  rintro e w4 ⟨rfl, hF, hb⟩
  have BY := Lib.hid (BY.out.on hb)
  have HB := Lib.hid (HB.out.trans (hb.mono HB.out.size))
  have TF := Lib.hid (TF.out.on hb)
  have TG := Lib.hid hF
  clear hb hF
  generalize w3.heap.size = g3 at *
  go_wp2_with fail
  refine (join3 w4 28 _ rfl (HE0.out.on HB.out) (HN0.out.on HB.out) (HP0.out.on HB.out) (by have h := HLn.out; have h1 := h.2.2 nonce (by simp); have h2 := h.2.2 person (by simp); omega)).mono ?_
  rintro e w5 ⟨aj, nj, cj, rfl, hO, hb⟩
  have BY := Lib.hid (BY.out.on hb)
  have HB := Lib.hid (HB.out.trans (hb.mono HB.out.size))
  have TF := Lib.hid (TF.out.on hb)
  have TG := Lib.hid (TG.out.on hb)
  have TJ := Lib.hid hO.txt
  clear hb hO
  go_wp2_with fail
  refine (rupd_walk z32 (ones 32) (ent ++ (nonce ++ person)) _ _ aj _ _ _ _ nj cj 0 w5 TF.out TG.out TJ.out (by rfl) (by rfl) (by have h := HLn.out; have h1 := h.2.2 nonce (by simp); have h2 := h.2.2 person (by simp); simp; omega)).mono ?_
  rintro e w6 ⟨ka, kn, kc, va, vn, vc, rfl, hK, hV, hfk, hfv, hb⟩
  have FK0 := Lib.hid (show Off ka (updK z32 (ones 32) (ent ++ (nonce ++ person))) w.heap.size from fun q o e _ => by have := hfk q o e; have := BY.out.lt; omega)
  have FV0 := Lib.hid (show Off va (updV z32 (ones 32) (ent ++ (nonce ++ person))) w.heap.size from fun q o e _ => by have := hfv q o e; have := BY.out.lt; omega)
  have FKZ := Lib.hid (show ∀ q o, ka = some ⟨q, o, none⟩ → w.heap.size ≤ q from fun q o e => Nat.le_trans HB.out.size (hfk q o e))
  have FVZ := Lib.hid (show ∀ q o, va = some ⟨q, o, none⟩ → w.heap.size ≤ q from fun q o e => Nat.le_trans HB.out.size (hfv q o e))
  clear hfk hfv
  have BY := Lib.hid (BY.out.on hb)
  have HB := Lib.hid (HB.out.trans (hb.mono HB.out.size))
  have TK := Lib.hid hK
  have TV := Lib.hid hV
  clear hb hK hV TF TG TJ
  have FK := Lib.hid (show Off ka (updK z32 (ones 32) (ent ++ (nonce ++ person))) w6.heap.size from fun q o e h => by have := TK.out.old q o e h; omega)
  have FV := Lib.hid (show Off va (updV z32 (ones 32) (ent ++ (nonce ++ person))) w6.heap.size from fun q o e h => by have := TV.out.old q o e h; omega)
  have HLT := Lib.hid (show w.heap.size < w6.heap.size from BY.out.lt)
  have hbx := below_one' w6 (.cells #[.slice none 0 0, .slice none 0 0, .int .i64 0] 88)
  have BX := Lib.hid (Blk.new w6 #[.slice none 0 0, .slice none 0 0, .int .i64 0] 88)
  have BY := Lib.hid (BY.out.on hbx)
  have HB := Lib.hid (HB.out.trans (hbx.mono HB.out.size))
  have TK := Lib.hid (TK.out.on hbx)
  have TV := Lib.hid (TV.out.on hbx)
  clear hbx
  go_wp2_with (first | (refine wpList_store_abs rfl 88 (.tmp 9) (.tmp 27) (by rfl) w6.heap.size #[.slice ka kn kc, .slice va vn vc, .int .i64 0] (by rfl) (by rfl) 88 _ BX.out size_ref5 (by rfl) (by simp [Value.oneCell']) ?_; intro W7 hW p; have BX := Lib.hid p; have BY := Lib.hid (hW.blk BY.out (by have := HLT.out; omega)); have HB := Lib.hid (hW.below HB.out (by have := HLT.out; omega)); have TK := Lib.hid (TK.out.off (row_of_wrote hW) FK.out); have TV := Lib.hid (TV.out.off (row_of_wrote hW) FV.out); clear hW p) | (refine wpList_store_i64 rfl (.tmp 28) (.const (.int .i64 1)) (by rfl) w6.heap.size 2 1 (by rfl) (by rfl) BX.out (by simp) ?_; intro W8 hW p; have BX := Lib.hid (show Blk W8 w6.heap.size #[.slice ka kn kc, .slice va vn vc, .int .i64 1] 88 from p); have BY := Lib.hid (hW.blk BY.out (by have := HLT.out; omega)); have HB := Lib.hid (hW.below HB.out (by have := HLT.out; omega)); have TK := Lib.hid (TK.out.off (row_of_wrote hW) FK.out); have TV := Lib.hid (TV.out.off (row_of_wrote hW) FV.out); clear hW p) | (refine wpList_load_row rfl 88 (.tmp 9) rfl w6.heap.size rfl 88 _ _ _ BX.out Tryd.underlying88 rfl size_ref5 ?_) | (refine wpList_store_abs rfl 88 (.tmp 6) (.tmp 29) (by rfl) w.heap.size #[.slice ka kn kc, .slice va vn vc, .int .i64 1] (by rfl) (by rfl) 88 _ BY.out size_ref5 (by rfl) (by simp [Value.oneCell']) ?_; intro W9 hW p9; have HB9 := Lib.hid (hW.below HB.out (Nat.le_refl _)); have TK9 := Lib.hid (TK.out.off (row_of_wrote hW) FK0.out); have TV9 := Lib.hid (TV.out.off (row_of_wrote hW) FV0.out); clear hW))
  refine bodyPost_ret (v := .tuple #[.agg #[.slice ka kn kc, .slice va vn vc, .int .i64 1], .int .i64 0]) ?_ rfl ⟨ka, kn, kc, va, vn, vc, rfl, TK9.out, TV9.out, FKZ.out, FVZ.out, HB9.out⟩
  exact (results_st_tmp rfl _ p9 (by rfl) Tryd.underlying88 rfl size_ref5).trans rfl
end Go.Proofs.YtgbahfggnbpnmaaDoor
