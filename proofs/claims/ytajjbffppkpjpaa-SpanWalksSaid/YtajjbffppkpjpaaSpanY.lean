import Derived.Test.YtajjbffppkpjpaaSpanM
/-
  span.May.
-/
namespace Go.Proofs.Ytajjbffppkpjpaa
open Go.RowKit
theorem rng_on {w w' : World} {g k : Nat} {cs : List Value} (h : w.rangeAt g k cs) (hb : Below w.heap.size w w') : w'.rangeAt g k cs := fun j v hv => by
  have h := h j v hv
  exact (hb.cell (p := ⟨g, k + j, none⟩) (block_lt_of_cell h)).trans h
theorem yields_agg {P : Program} {o : Oper} {a : Act} {w : World} (ty : TypeId) (x : Operand) (ho : o.op = .load ty x)
    (g : Nat) (hx : a.eval x = .pointer (some ⟨g, 0, none⟩)) {cur : Array Value} {t : TypeId} (hg : Blk w g cur t)
    (d : TypeDesc) (hu : P.underlying ty = some d) (hd : d.isRow = true) (hi : (P.info? ty).map (·.size) = some cur.size) : (execOp a.eval o).run P w = .ok (.value (.agg cur)) w := by
  unfold execOp
  have := run_loadVar_mid w g 0 ty cur.toList d (range_blk hg 0 cur.toList (by simp)) hu hd (by simpa using hi)
  simp [ho, hx, Instr.loadAt, Instr.sureAddr, this]
theorem yields_u64 {o : Oper} {a : Act} {w : World} (x : Operand) (ho : o.op = .load 23 x) (p : Addr) (hx : a.eval x = .pointer (some p)) {z : Int} (hc : w.cell? p = some (.int .u64 z)) : (execOp a.eval o).run Try.prog w = .ok (.value (.int .u64 z)) w := by
  unfold execOp
  simp only [ho, hx]
  go_simp
set_option maxRecDepth 100000 in
set_option maxHeartbeats 1000000 in
theorem may_walkS (l : List Rg) (a : Option Addr) (n c : Nat) (w : World) (hL : RgsIn w a n c l) (M : Bool) (hM : M = true ↔ MayP l) :
    Calls Try.prog 58 #[.slice a n c] w fun e w' => e = .returned (.bool M) ∧ Below w.heap.size w w' := by
  have HL := Lib.hid hL
  have HN := Lib.hid hL.len
  have hn63 : n ≤ 9223372036854775807 := by have h1 := hL.fit; have h2 := hL.top; unfold maxLen at h2; omega
  have HMM := Lib.hid (hM.trans (may_iff l))
  clear hL hM
  go_enter Try.func58, Try.ntmps58
  go_wp2
  go_loopw [7] (fun x wr => ∃ k : Nat, k ≤ n ∧ x = .int .i64 (k : Nat) ∧ Below w.heap.size w wr ∧ Hid (∀ j, j < k → stepP l j)) (fun x _ => n - (intOf x).toNat)
  case atStart => exact ⟨0, Nat.zero_le _, rfl, Below.refl _ _, fun j hj => by omega⟩
  case round =>
    obtain ⟨k, hk, rfl, hb, HJ⟩ := hrel
    have HBr := Lib.hid hb
    by_cases hlt : k < n
    · obtain ⟨g, o, rfl, hg, hr⟩ := HL.out.rd k (by have := HN.out; omega)
      obtain ⟨r, hre⟩ : ∃ r, r = l.getD k r0 := ⟨_, rfl⟩
      rw [← hre] at hr
      have HRE := Lib.hid hre
      have HG := Lib.hid hg
      have HGr := Lib.hid (Nat.lt_of_lt_of_le hg hb.size)
      have HR := Lib.hid (rng_on hr hb)
      clear hr hre hg hb
      have HKL := Lib.hid (show k < l.length by have := HN.out; omega)
      by_cases hone : oneP r
      · have HONE := Lib.hid hone
        clear hone
        by_cases hk0 : k = 0
        · have HST := Lib.hid (show stepP l k from ⟨by rw [← HRE.out]; exact HONE.out, fun h => by omega⟩)
          have hgt : ¬ (0 : Int) < (k : Int) := by omega
          clear hk0
          go_wp2_with (first | (refine wpList_load_mid rfl 25 (.tmp 10) rfl g (o + k * 2) rfl (rcl r) _ HR.out Try.underlying25 rfl size_rg ?_) | (refine wpList_store_abs rfl 25 (.tmp 4) (.tmp 11) (by rfl) wr.heap.size #[.int .u64 (r.lo : Nat), .int .u64 (r.hi : Nat)] (by rfl) (by rfl) 25 _ (Blk.new wr _ _) size_rg (by rfl) (by simp [Value.oneCell']) ?_; intro W hW hp5; have hbW := hW.below ((Below.refl _ wr).alloc (Nat.le_refl _) _) (Nat.le_refl _); have HBW := Lib.hid (HBr.out.trans (hbW.mono HBr.out.size)); have BX := Lib.hid hp5; have HGW := Lib.hid (show g < W.heap.size from Nat.lt_of_lt_of_le HGr.out hbW.size); have HW2 := Lib.hid hbW; clear hW hbW))
          generalize wr.heap.size = gx at *
          clear hp5
          refine wp_region_held_drew (S := fun w' => Below W.heap.size W w') (by kernel_rfl) (Below.refl _ _).drew (fun _ => ?_)
          have HS := Lib.hid ((Below.refl W.heap.size W).drew)
          generalize World.drew W = v0 at *
          try simp only [Act.put, List.setIfInBounds_toArray, List.set_cons_succ, List.set_cons_zero]
          refine wpAnyH_take (i := 0) (oi := ⟨some 12, .load 25 (.tmp 4), 25, _, _, none⟩) (v := .agg #[.int .u64 (r.lo : Nat), .int .u64 (r.hi : Nat)]) rfl (by kernel_rfl) (by kernel_rfl) (by kernel_rfl) (fun _ _ _ h => h) (Or.inl ⟨by rfl, fun vv hvv => yields_agg 25 (.tmp 4) rfl gx rfl (BX.out.below hvv BX.out.lt) _ Try.underlying25 rfl size_rg⟩) HS.out ?_
          try simp only [Act.put, List.setIfInBounds_toArray, List.set_cons_succ, List.set_cons_zero]
          refine wpAnyH_ready (rs := [1]) (by kernel_rfl) (by simp) ?_
          refine AllReadyH.cons (o := ⟨some 13, .call { callee := .value (.func 74), args := #[.tmp 12], argTypes := #[25] }, 4, _, _, none⟩) rfl (fun K hK => ?_) AllReadyH.nil
          go_simp
          refine (one_walk r v0).mono ?_
          rintro e v1 ⟨he, hb⟩
          rw [decide_eq_true HONE.out] at he
          subst he
          have HS := Lib.hid (HS.out.trans (hb.mono HS.out.size))
          clear hb
          refine hK _ _ HS.out (fun _ => ?_)
          clear hK K
          try simp only [Act.put, List.setIfInBounds_toArray, List.set_cons_succ, List.set_cons_zero]
          refine wpAnyH_take (i := 2) (oi := ⟨some 14, .unOp .not 4 (.tmp 13), 4, _, _, none⟩) (v := .bool false) rfl (by kernel_rfl) (by kernel_rfl) (by kernel_rfl) (fun _ _ _ h => h) (Or.inl ⟨by rfl, fun _ _ => by go_simp⟩) HS.out ?_
          try simp only [Act.put, List.setIfInBounds_toArray, List.set_cons_succ, List.set_cons_zero]
          refine wpAnyH_take (i := 3) (oi := ⟨some 15, .move (.tmp 14), 4, _, _, none⟩) (v := .bool false) rfl (by kernel_rfl) (by kernel_rfl) (by kernel_rfl) (fun _ _ _ h => h) (Or.inl ⟨by rfl, fun _ _ => by go_simp⟩) HS.out ?_
          try simp only [Act.put, List.setIfInBounds_toArray, List.set_cons_succ, List.set_cons_zero]
          refine wpAnyH_take (i := 4) (oi := ⟨some 16, .move (.tmp 3), 3, _, _, some (3, false)⟩) (v := .int .i64 (k : Nat)) rfl (by kernel_rfl) (by kernel_rfl) (by kernel_rfl) (fun _ _ _ h => h) (Or.inl ⟨by rfl, fun _ _ => by go_simp⟩) HS.out ?_
          try simp only [Act.put, List.setIfInBounds_toArray, List.set_cons_succ, List.set_cons_zero]
          refine wpAnyH_take (i := 5) (oi := ⟨some 17, .binOp .gtr 3 (.tmp 16) (.const (.int .i64 0)) 3, 4, _, _, some (3, false)⟩) (v := .bool false) rfl (by kernel_rfl) (by kernel_rfl) (by kernel_rfl) (fun _ _ _ h => h) (Or.inl ⟨by rfl, fun _ _ => by (go_simp <;> omega)⟩) HS.out ?_
          try simp only [Act.put, List.setIfInBounds_toArray, List.set_cons_succ, List.set_cons_zero]
          refine wpAnyH_take (i := 6) (oi := ⟨some 18, .move (.tmp 17), 4, _, _, some (3, false)⟩) (v := .bool false) rfl (by kernel_rfl) (by kernel_rfl) (by kernel_rfl) (fun _ _ _ h => h) (Or.inl ⟨by rfl, fun _ _ => by go_simp⟩) HS.out ?_
          try simp only [Act.put, List.setIfInBounds_toArray, List.set_cons_succ, List.set_cons_zero]
          refine wpAnyH_take (i := 7) (oi := ⟨some 19, .fieldAddr 25 (.tmp 4) 0, _, _, _, some (6, true)⟩) (v := undef) rfl (by kernel_rfl) (by kernel_rfl) (by kernel_rfl) (fun _ _ _ h => h) (Or.inr ⟨by rfl, rfl⟩) HS.out ?_
          try simp only [Act.put, List.setIfInBounds_toArray, List.set_cons_succ, List.set_cons_zero]
          refine wpAnyH_take (i := 8) (oi := ⟨some 20, .load 23 (.tmp 19), 23, _, _, some (6, true)⟩) (v := undef) rfl (by kernel_rfl) (by kernel_rfl) (by kernel_rfl) (fun _ _ _ h => h) (Or.inr ⟨by rfl, rfl⟩) HS.out ?_
          try simp only [Act.put, List.setIfInBounds_toArray, List.set_cons_succ, List.set_cons_zero]
          refine wpAnyH_take (i := 9) (oi := ⟨some 21, .move (.tmp 0), 22, _, _, some (6, true)⟩) (v := undef) rfl (by kernel_rfl) (by kernel_rfl) (by kernel_rfl) (fun _ _ _ h => h) (Or.inr ⟨by rfl, rfl⟩) HS.out ?_
          try simp only [Act.put, List.setIfInBounds_toArray, List.set_cons_succ, List.set_cons_zero]
          refine wpAnyH_take (i := 10) (oi := ⟨some 22, .move (.tmp 3), 3, _, _, some (6, true)⟩) (v := undef) rfl (by kernel_rfl) (by kernel_rfl) (by kernel_rfl) (fun _ _ _ h => h) (Or.inr ⟨by rfl, rfl⟩) HS.out ?_
          try simp only [Act.put, List.setIfInBounds_toArray, List.set_cons_succ, List.set_cons_zero]
          refine wpAnyH_take (i := 11) (oi := ⟨some 23, .binOp .sub 3 (.tmp 22) (.const (.int .i64 1)) 3, 3, _, _, some (6, true)⟩) (v := undef) rfl (by kernel_rfl) (by kernel_rfl) (by kernel_rfl) (fun _ _ _ h => h) (Or.inr ⟨by rfl, rfl⟩) HS.out ?_
          try simp only [Act.put, List.setIfInBounds_toArray, List.set_cons_succ, List.set_cons_zero]
          refine wpAnyH_take (i := 12) (oi := ⟨some 24, .indexAddr 22 (.tmp 21) (.tmp 23), _, _, _, some (6, true)⟩) (v := undef) rfl (by kernel_rfl) (by kernel_rfl) (by kernel_rfl) (fun _ _ _ h => h) (Or.inr ⟨by rfl, rfl⟩) HS.out ?_
          try simp only [Act.put, List.setIfInBounds_toArray, List.set_cons_succ, List.set_cons_zero]
          refine wpAnyH_take (i := 13) (oi := ⟨some 25, .fieldAddr 25 (.tmp 24) 1, _, _, _, some (6, true)⟩) (v := undef) rfl (by kernel_rfl) (by kernel_rfl) (by kernel_rfl) (fun _ _ _ h => h) (Or.inr ⟨by rfl, rfl⟩) HS.out ?_
          try simp only [Act.put, List.setIfInBounds_toArray, List.set_cons_succ, List.set_cons_zero]
          refine wpAnyH_take (i := 14) (oi := ⟨some 26, .load 23 (.tmp 25), 23, _, _, some (6, true)⟩) (v := undef) rfl (by kernel_rfl) (by kernel_rfl) (by kernel_rfl) (fun _ _ _ h => h) (Or.inr ⟨by rfl, rfl⟩) HS.out ?_
          try simp only [Act.put, List.setIfInBounds_toArray, List.set_cons_succ, List.set_cons_zero]
          refine wpAnyH_take (i := 15) (oi := ⟨some 27, .binOp .leq 23 (.tmp 20) (.tmp 26) 23, 4, _, _, some (6, true)⟩) (v := undef) rfl (by kernel_rfl) (by kernel_rfl) (by kernel_rfl) (fun _ _ _ h => h) (Or.inr ⟨by rfl, rfl⟩) HS.out ?_
          try simp only [Act.put, List.setIfInBounds_toArray, List.set_cons_succ, List.set_cons_zero]
          refine wpAnyH_take (i := 16) (oi := ⟨some 28, .pick (.tmp 18) (.tmp 27) (.const (.bool false)), 4, _, _, some (3, false)⟩) (v := .bool false) rfl (by kernel_rfl) (by kernel_rfl) (by kernel_rfl) (fun _ _ _ h => h) (Or.inl ⟨by rfl, fun _ _ => by go_simp⟩) HS.out ?_
          try simp only [Act.put, List.setIfInBounds_toArray, List.set_cons_succ, List.set_cons_zero]
          refine wpAnyH_take (i := 17) (oi := ⟨some 29, .pick (.tmp 15) (.const (.bool true)) (.tmp 28), 4, _, _, none⟩) (v := .bool false) rfl (by kernel_rfl) (by kernel_rfl) (by kernel_rfl) (fun _ _ _ h => h) (Or.inl ⟨by rfl, fun _ _ => by go_simp⟩) HS.out ?_
          try simp only [Act.put, List.setIfInBounds_toArray, List.set_cons_succ, List.set_cons_zero]
          refine wpAnyH_done (by kernel_rfl) ?_ _
          have HBX := Lib.hid (HBW.out.trans (HS.out.mono HBW.out.size))
          go_wp2
          go_roundw
          case rel =>
            refine ⟨k + 1, by omega, by go_num, HBX.out, fun j hj => ?_⟩
            rcases Nat.lt_or_ge j k with h | h
            · exact HJ.out j h
            · obtain rfl : j = k := by omega
              exact HST.out
          case measure => simp [intOf]; omega
        · obtain ⟨K1, hK1⟩ : ∃ K1, k = K1 + 1 := ⟨k - 1, by omega⟩
          have hgt : (0 : Int) < (k : Int) := by omega
          have hkw : IntKind.i64.wrap ((k : Int) - 1) = (K1 : Int) := by rw [IntWalk.i64_in _ (by omega)]; omega
          have hk1n : K1 < n := by omega
          have hk1i : (K1 : Int) < (n : Int) := by omega
          obtain ⟨g', o', eg, _, hr'⟩ := HL.out.rd K1 (by have := HKL.out; omega)
          simp only [Option.some.injEq, Addr.mk.injEq] at eg
          obtain ⟨rfl, rfl, _⟩ := eg
          obtain ⟨pv, hpv⟩ : ∃ r, r = l.getD K1 r0 := ⟨_, rfl⟩
          rw [← hpv] at hr'
          have HPV := Lib.hid hpv
          have CP0 := Lib.hid (hr' 1 (.int .u64 (pv.hi : Nat)) rfl)
          have HK1 := Lib.hid hK1
          clear hr' hpv hk0 hK1
          by_cases hle : r.lo ≤ pv.hi
          · have HM := Lib.hid (show M = false from Bool.eq_false_iff.2 fun h => by
              have := ((HMM.out.1 h).1 k HKL.out).2 (by have := HK1.out; omega)
              rw [show k - 1 = K1 by have := HK1.out; omega, ← HPV.out, ← HRE.out] at this
              omega)
            have hlei : (r.lo : Int) ≤ (pv.hi : Int) := by omega
            go_wp2_with (first | (refine wpList_load_mid rfl 25 (.tmp 10) rfl g (o + k * 2) rfl (rcl r) _ HR.out Try.underlying25 rfl size_rg ?_) | (refine wpList_store_abs rfl 25 (.tmp 4) (.tmp 11) (by rfl) wr.heap.size #[.int .u64 (r.lo : Nat), .int .u64 (r.hi : Nat)] (by rfl) (by rfl) 25 _ (Blk.new wr _ _) size_rg (by rfl) (by simp [Value.oneCell']) ?_; intro W hW hp5; have hbW := hW.below ((Below.refl _ wr).alloc (Nat.le_refl _) _) (Nat.le_refl _); have HBW := Lib.hid (HBr.out.trans (hbW.mono HBr.out.size)); have BX := Lib.hid hp5; have HGW := Lib.hid (show g < W.heap.size from Nat.lt_of_lt_of_le HGr.out hbW.size); have HW2 := Lib.hid hbW; clear hW hbW))
            generalize wr.heap.size = gx at *
            clear hp5
            have CP := Lib.hid ((Below.cell (p := ⟨g, o + K1 * 2 + 1, none⟩) HBW.out HG.out).trans CP0.out)
            refine wp_region_held_drew (S := fun w' => Below W.heap.size W w') (by kernel_rfl) (Below.refl _ _).drew (fun _ => ?_)
            have HS := Lib.hid ((Below.refl W.heap.size W).drew)
            generalize World.drew W = v0 at *
            try simp only [Act.put, List.setIfInBounds_toArray, List.set_cons_succ, List.set_cons_zero]
            refine wpAnyH_take (i := 0) (oi := ⟨some 12, .load 25 (.tmp 4), 25, _, _, none⟩) (v := .agg #[.int .u64 (r.lo : Nat), .int .u64 (r.hi : Nat)]) rfl (by kernel_rfl) (by kernel_rfl) (by kernel_rfl) (fun _ _ _ h => h) (Or.inl ⟨by rfl, fun vv hvv => yields_agg 25 (.tmp 4) rfl gx rfl (BX.out.below hvv BX.out.lt) _ Try.underlying25 rfl size_rg⟩) HS.out ?_
            try simp only [Act.put, List.setIfInBounds_toArray, List.set_cons_succ, List.set_cons_zero]
            refine wpAnyH_ready (rs := [1]) (by kernel_rfl) (by simp) ?_
            refine AllReadyH.cons (o := ⟨some 13, .call { callee := .value (.func 74), args := #[.tmp 12], argTypes := #[25] }, 4, _, _, none⟩) rfl (fun K hK => ?_) AllReadyH.nil
            go_simp
            refine (one_walk r v0).mono ?_
            rintro e v1 ⟨he, hb⟩
            rw [decide_eq_true HONE.out] at he
            subst he
            have HS := Lib.hid (HS.out.trans (hb.mono HS.out.size))
            clear hb
            refine hK _ _ HS.out (fun _ => ?_)
            clear hK K
            try simp only [Act.put, List.setIfInBounds_toArray, List.set_cons_succ, List.set_cons_zero]
            refine wpAnyH_take (i := 2) (oi := ⟨some 14, .unOp .not 4 (.tmp 13), 4, _, _, none⟩) (v := .bool false) rfl (by kernel_rfl) (by kernel_rfl) (by kernel_rfl) (fun _ _ _ h => h) (Or.inl ⟨by rfl, fun _ _ => by go_simp⟩) HS.out ?_
            try simp only [Act.put, List.setIfInBounds_toArray, List.set_cons_succ, List.set_cons_zero]
            refine wpAnyH_take (i := 3) (oi := ⟨some 15, .move (.tmp 14), 4, _, _, none⟩) (v := .bool false) rfl (by kernel_rfl) (by kernel_rfl) (by kernel_rfl) (fun _ _ _ h => h) (Or.inl ⟨by rfl, fun _ _ => by go_simp⟩) HS.out ?_
            try simp only [Act.put, List.setIfInBounds_toArray, List.set_cons_succ, List.set_cons_zero]
            refine wpAnyH_take (i := 4) (oi := ⟨some 16, .move (.tmp 3), 3, _, _, some (3, false)⟩) (v := .int .i64 (k : Nat)) rfl (by kernel_rfl) (by kernel_rfl) (by kernel_rfl) (fun _ _ _ h => h) (Or.inl ⟨by rfl, fun _ _ => by go_simp⟩) HS.out ?_
            try simp only [Act.put, List.setIfInBounds_toArray, List.set_cons_succ, List.set_cons_zero]
            refine wpAnyH_take (i := 5) (oi := ⟨some 17, .binOp .gtr 3 (.tmp 16) (.const (.int .i64 0)) 3, 4, _, _, some (3, false)⟩) (v := .bool true) rfl (by kernel_rfl) (by kernel_rfl) (by kernel_rfl) (fun _ _ _ h => h) (Or.inl ⟨by rfl, fun _ _ => by (go_simp <;> omega)⟩) HS.out ?_
            try simp only [Act.put, List.setIfInBounds_toArray, List.set_cons_succ, List.set_cons_zero]
            refine wpAnyH_take (i := 6) (oi := ⟨some 18, .move (.tmp 17), 4, _, _, some (3, false)⟩) (v := .bool true) rfl (by kernel_rfl) (by kernel_rfl) (by kernel_rfl) (fun _ _ _ h => h) (Or.inl ⟨by rfl, fun _ _ => by go_simp⟩) HS.out ?_
            try simp only [Act.put, List.setIfInBounds_toArray, List.set_cons_succ, List.set_cons_zero]
            refine wpAnyH_take (i := 7) (oi := ⟨some 19, .fieldAddr 25 (.tmp 4) 0, _, _, _, some (6, true)⟩) (v := .pointer (some ⟨gx, 0, none⟩)) rfl (by kernel_rfl) (by kernel_rfl) (by kernel_rfl) (fun _ _ _ h => h) (Or.inl ⟨by rfl, fun _ _ => by go_simp⟩) HS.out ?_
            try simp only [Act.put, List.setIfInBounds_toArray, List.set_cons_succ, List.set_cons_zero]
            refine wpAnyH_take (i := 8) (oi := ⟨some 20, .load 23 (.tmp 19), 23, _, _, some (6, true)⟩) (v := .int .u64 (r.lo : Nat)) rfl (by kernel_rfl) (by kernel_rfl) (by kernel_rfl) (fun _ _ _ h => h) (Or.inl ⟨by rfl, fun vv hvv => yields_u64 (.tmp 19) rfl ⟨gx, 0, none⟩ rfl ((BX.out.below hvv BX.out.lt).cell 0 rfl)⟩) HS.out ?_
            try simp only [Act.put, List.setIfInBounds_toArray, List.set_cons_succ, List.set_cons_zero]
            refine wpAnyH_take (i := 9) (oi := ⟨some 21, .move (.tmp 0), 22, _, _, some (6, true)⟩) (v := .slice (some ⟨g, o, none⟩) n c) rfl (by kernel_rfl) (by kernel_rfl) (by kernel_rfl) (fun _ _ _ h => h) (Or.inl ⟨by rfl, fun _ _ => by go_simp⟩) HS.out ?_
            try simp only [Act.put, List.setIfInBounds_toArray, List.set_cons_succ, List.set_cons_zero]
            refine wpAnyH_take (i := 10) (oi := ⟨some 22, .move (.tmp 3), 3, _, _, some (6, true)⟩) (v := .int .i64 (k : Nat)) rfl (by kernel_rfl) (by kernel_rfl) (by kernel_rfl) (fun _ _ _ h => h) (Or.inl ⟨by rfl, fun _ _ => by go_simp⟩) HS.out ?_
            try simp only [Act.put, List.setIfInBounds_toArray, List.set_cons_succ, List.set_cons_zero]
            refine wpAnyH_take (i := 11) (oi := ⟨some 23, .binOp .sub 3 (.tmp 22) (.const (.int .i64 1)) 3, 3, _, _, some (6, true)⟩) (v := .int .i64 (K1 : Nat)) rfl (by kernel_rfl) (by kernel_rfl) (by kernel_rfl) (fun _ _ _ h => h) (Or.inl ⟨by rfl, fun _ _ => by go_simp⟩) HS.out ?_
            try simp only [Act.put, List.setIfInBounds_toArray, List.set_cons_succ, List.set_cons_zero]
            refine wpAnyH_take (i := 12) (oi := ⟨some 24, .indexAddr 22 (.tmp 21) (.tmp 23), _, _, _, some (6, true)⟩) (v := .pointer (some ⟨g, o + K1 * 2, none⟩)) rfl (by kernel_rfl) (by kernel_rfl) (by kernel_rfl) (fun _ _ _ h => h) (Or.inl ⟨by rfl, fun _ _ => by go_simp⟩) HS.out ?_
            try simp only [Act.put, List.setIfInBounds_toArray, List.set_cons_succ, List.set_cons_zero]
            refine wpAnyH_take (i := 13) (oi := ⟨some 25, .fieldAddr 25 (.tmp 24) 1, _, _, _, some (6, true)⟩) (v := .pointer (some ⟨g, o + K1 * 2 + 1, none⟩)) rfl (by kernel_rfl) (by kernel_rfl) (by kernel_rfl) (fun _ _ _ h => h) (Or.inl ⟨by rfl, fun _ _ => by go_simp⟩) HS.out ?_
            try simp only [Act.put, List.setIfInBounds_toArray, List.set_cons_succ, List.set_cons_zero]
            refine wpAnyH_take (i := 14) (oi := ⟨some 26, .load 23 (.tmp 25), 23, _, _, some (6, true)⟩) (v := .int .u64 (pv.hi : Nat)) rfl (by kernel_rfl) (by kernel_rfl) (by kernel_rfl) (fun _ _ _ h => h) (Or.inl ⟨by rfl, fun vv hvv => yields_u64 (.tmp 25) rfl ⟨g, o + K1 * 2 + 1, none⟩ rfl ((hvv.cell (p := ⟨g, o + K1 * 2 + 1, none⟩) HGW.out).trans CP.out)⟩) HS.out ?_
            try simp only [Act.put, List.setIfInBounds_toArray, List.set_cons_succ, List.set_cons_zero]
            refine wpAnyH_take (i := 15) (oi := ⟨some 27, .binOp .leq 23 (.tmp 20) (.tmp 26) 23, 4, _, _, some (6, true)⟩) (v := .bool true) rfl (by kernel_rfl) (by kernel_rfl) (by kernel_rfl) (fun _ _ _ h => h) (Or.inl ⟨by rfl, fun _ _ => by go_simp⟩) HS.out ?_
            try simp only [Act.put, List.setIfInBounds_toArray, List.set_cons_succ, List.set_cons_zero]
            refine wpAnyH_take (i := 16) (oi := ⟨some 28, .pick (.tmp 18) (.tmp 27) (.const (.bool false)), 4, _, _, some (3, false)⟩) (v := .bool true) rfl (by kernel_rfl) (by kernel_rfl) (by kernel_rfl) (fun _ _ _ h => h) (Or.inl ⟨by rfl, fun _ _ => by go_simp⟩) HS.out ?_
            try simp only [Act.put, List.setIfInBounds_toArray, List.set_cons_succ, List.set_cons_zero]
            refine wpAnyH_take (i := 17) (oi := ⟨some 29, .pick (.tmp 15) (.const (.bool true)) (.tmp 28), 4, _, _, none⟩) (v := .bool true) rfl (by kernel_rfl) (by kernel_rfl) (by kernel_rfl) (fun _ _ _ h => h) (Or.inl ⟨by rfl, fun _ _ => by go_simp⟩) HS.out ?_
            try simp only [Act.put, List.setIfInBounds_toArray, List.set_cons_succ, List.set_cons_zero]
            refine wpAnyH_done (by kernel_rfl) ?_ _
            go_wp2
            go_ret
            exact ⟨by show Ending.returned (.bool false) = _; rw [HM.out], HBW.out.trans (HS.out.mono HBW.out.size)⟩
          · have HST := Lib.hid (show stepP l k from ⟨by rw [← HRE.out]; exact HONE.out, fun _ => by rw [show k - 1 = K1 by have := HK1.out; omega, ← HPV.out, ← HRE.out]; omega⟩)
            have hlei : ¬ (r.lo : Int) ≤ (pv.hi : Int) := by omega
            go_wp2_with (first | (refine wpList_load_mid rfl 25 (.tmp 10) rfl g (o + k * 2) rfl (rcl r) _ HR.out Try.underlying25 rfl size_rg ?_) | (refine wpList_store_abs rfl 25 (.tmp 4) (.tmp 11) (by rfl) wr.heap.size #[.int .u64 (r.lo : Nat), .int .u64 (r.hi : Nat)] (by rfl) (by rfl) 25 _ (Blk.new wr _ _) size_rg (by rfl) (by simp [Value.oneCell']) ?_; intro W hW hp5; have hbW := hW.below ((Below.refl _ wr).alloc (Nat.le_refl _) _) (Nat.le_refl _); have HBW := Lib.hid (HBr.out.trans (hbW.mono HBr.out.size)); have BX := Lib.hid hp5; have HGW := Lib.hid (show g < W.heap.size from Nat.lt_of_lt_of_le HGr.out hbW.size); have HW2 := Lib.hid hbW; clear hW hbW))
            generalize wr.heap.size = gx at *
            clear hp5
            have CP := Lib.hid ((Below.cell (p := ⟨g, o + K1 * 2 + 1, none⟩) HBW.out HG.out).trans CP0.out)
            refine wp_region_held_drew (S := fun w' => Below W.heap.size W w') (by kernel_rfl) (Below.refl _ _).drew (fun _ => ?_)
            have HS := Lib.hid ((Below.refl W.heap.size W).drew)
            generalize World.drew W = v0 at *
            try simp only [Act.put, List.setIfInBounds_toArray, List.set_cons_succ, List.set_cons_zero]
            refine wpAnyH_take (i := 0) (oi := ⟨some 12, .load 25 (.tmp 4), 25, _, _, none⟩) (v := .agg #[.int .u64 (r.lo : Nat), .int .u64 (r.hi : Nat)]) rfl (by kernel_rfl) (by kernel_rfl) (by kernel_rfl) (fun _ _ _ h => h) (Or.inl ⟨by rfl, fun vv hvv => yields_agg 25 (.tmp 4) rfl gx rfl (BX.out.below hvv BX.out.lt) _ Try.underlying25 rfl size_rg⟩) HS.out ?_
            try simp only [Act.put, List.setIfInBounds_toArray, List.set_cons_succ, List.set_cons_zero]
            refine wpAnyH_ready (rs := [1]) (by kernel_rfl) (by simp) ?_
            refine AllReadyH.cons (o := ⟨some 13, .call { callee := .value (.func 74), args := #[.tmp 12], argTypes := #[25] }, 4, _, _, none⟩) rfl (fun K hK => ?_) AllReadyH.nil
            go_simp
            refine (one_walk r v0).mono ?_
            rintro e v1 ⟨he, hb⟩
            rw [decide_eq_true HONE.out] at he
            subst he
            have HS := Lib.hid (HS.out.trans (hb.mono HS.out.size))
            clear hb
            refine hK _ _ HS.out (fun _ => ?_)
            clear hK K
            try simp only [Act.put, List.setIfInBounds_toArray, List.set_cons_succ, List.set_cons_zero]
            refine wpAnyH_take (i := 2) (oi := ⟨some 14, .unOp .not 4 (.tmp 13), 4, _, _, none⟩) (v := .bool false) rfl (by kernel_rfl) (by kernel_rfl) (by kernel_rfl) (fun _ _ _ h => h) (Or.inl ⟨by rfl, fun _ _ => by go_simp⟩) HS.out ?_
            try simp only [Act.put, List.setIfInBounds_toArray, List.set_cons_succ, List.set_cons_zero]
            refine wpAnyH_take (i := 3) (oi := ⟨some 15, .move (.tmp 14), 4, _, _, none⟩) (v := .bool false) rfl (by kernel_rfl) (by kernel_rfl) (by kernel_rfl) (fun _ _ _ h => h) (Or.inl ⟨by rfl, fun _ _ => by go_simp⟩) HS.out ?_
            try simp only [Act.put, List.setIfInBounds_toArray, List.set_cons_succ, List.set_cons_zero]
            refine wpAnyH_take (i := 4) (oi := ⟨some 16, .move (.tmp 3), 3, _, _, some (3, false)⟩) (v := .int .i64 (k : Nat)) rfl (by kernel_rfl) (by kernel_rfl) (by kernel_rfl) (fun _ _ _ h => h) (Or.inl ⟨by rfl, fun _ _ => by go_simp⟩) HS.out ?_
            try simp only [Act.put, List.setIfInBounds_toArray, List.set_cons_succ, List.set_cons_zero]
            refine wpAnyH_take (i := 5) (oi := ⟨some 17, .binOp .gtr 3 (.tmp 16) (.const (.int .i64 0)) 3, 4, _, _, some (3, false)⟩) (v := .bool true) rfl (by kernel_rfl) (by kernel_rfl) (by kernel_rfl) (fun _ _ _ h => h) (Or.inl ⟨by rfl, fun _ _ => by (go_simp <;> omega)⟩) HS.out ?_
            try simp only [Act.put, List.setIfInBounds_toArray, List.set_cons_succ, List.set_cons_zero]
            refine wpAnyH_take (i := 6) (oi := ⟨some 18, .move (.tmp 17), 4, _, _, some (3, false)⟩) (v := .bool true) rfl (by kernel_rfl) (by kernel_rfl) (by kernel_rfl) (fun _ _ _ h => h) (Or.inl ⟨by rfl, fun _ _ => by go_simp⟩) HS.out ?_
            try simp only [Act.put, List.setIfInBounds_toArray, List.set_cons_succ, List.set_cons_zero]
            refine wpAnyH_take (i := 7) (oi := ⟨some 19, .fieldAddr 25 (.tmp 4) 0, _, _, _, some (6, true)⟩) (v := .pointer (some ⟨gx, 0, none⟩)) rfl (by kernel_rfl) (by kernel_rfl) (by kernel_rfl) (fun _ _ _ h => h) (Or.inl ⟨by rfl, fun _ _ => by go_simp⟩) HS.out ?_
            try simp only [Act.put, List.setIfInBounds_toArray, List.set_cons_succ, List.set_cons_zero]
            refine wpAnyH_take (i := 8) (oi := ⟨some 20, .load 23 (.tmp 19), 23, _, _, some (6, true)⟩) (v := .int .u64 (r.lo : Nat)) rfl (by kernel_rfl) (by kernel_rfl) (by kernel_rfl) (fun _ _ _ h => h) (Or.inl ⟨by rfl, fun vv hvv => yields_u64 (.tmp 19) rfl ⟨gx, 0, none⟩ rfl ((BX.out.below hvv BX.out.lt).cell 0 rfl)⟩) HS.out ?_
            try simp only [Act.put, List.setIfInBounds_toArray, List.set_cons_succ, List.set_cons_zero]
            refine wpAnyH_take (i := 9) (oi := ⟨some 21, .move (.tmp 0), 22, _, _, some (6, true)⟩) (v := .slice (some ⟨g, o, none⟩) n c) rfl (by kernel_rfl) (by kernel_rfl) (by kernel_rfl) (fun _ _ _ h => h) (Or.inl ⟨by rfl, fun _ _ => by go_simp⟩) HS.out ?_
            try simp only [Act.put, List.setIfInBounds_toArray, List.set_cons_succ, List.set_cons_zero]
            refine wpAnyH_take (i := 10) (oi := ⟨some 22, .move (.tmp 3), 3, _, _, some (6, true)⟩) (v := .int .i64 (k : Nat)) rfl (by kernel_rfl) (by kernel_rfl) (by kernel_rfl) (fun _ _ _ h => h) (Or.inl ⟨by rfl, fun _ _ => by go_simp⟩) HS.out ?_
            try simp only [Act.put, List.setIfInBounds_toArray, List.set_cons_succ, List.set_cons_zero]
            refine wpAnyH_take (i := 11) (oi := ⟨some 23, .binOp .sub 3 (.tmp 22) (.const (.int .i64 1)) 3, 3, _, _, some (6, true)⟩) (v := .int .i64 (K1 : Nat)) rfl (by kernel_rfl) (by kernel_rfl) (by kernel_rfl) (fun _ _ _ h => h) (Or.inl ⟨by rfl, fun _ _ => by go_simp⟩) HS.out ?_
            try simp only [Act.put, List.setIfInBounds_toArray, List.set_cons_succ, List.set_cons_zero]
            refine wpAnyH_take (i := 12) (oi := ⟨some 24, .indexAddr 22 (.tmp 21) (.tmp 23), _, _, _, some (6, true)⟩) (v := .pointer (some ⟨g, o + K1 * 2, none⟩)) rfl (by kernel_rfl) (by kernel_rfl) (by kernel_rfl) (fun _ _ _ h => h) (Or.inl ⟨by rfl, fun _ _ => by go_simp⟩) HS.out ?_
            try simp only [Act.put, List.setIfInBounds_toArray, List.set_cons_succ, List.set_cons_zero]
            refine wpAnyH_take (i := 13) (oi := ⟨some 25, .fieldAddr 25 (.tmp 24) 1, _, _, _, some (6, true)⟩) (v := .pointer (some ⟨g, o + K1 * 2 + 1, none⟩)) rfl (by kernel_rfl) (by kernel_rfl) (by kernel_rfl) (fun _ _ _ h => h) (Or.inl ⟨by rfl, fun _ _ => by go_simp⟩) HS.out ?_
            try simp only [Act.put, List.setIfInBounds_toArray, List.set_cons_succ, List.set_cons_zero]
            refine wpAnyH_take (i := 14) (oi := ⟨some 26, .load 23 (.tmp 25), 23, _, _, some (6, true)⟩) (v := .int .u64 (pv.hi : Nat)) rfl (by kernel_rfl) (by kernel_rfl) (by kernel_rfl) (fun _ _ _ h => h) (Or.inl ⟨by rfl, fun vv hvv => yields_u64 (.tmp 25) rfl ⟨g, o + K1 * 2 + 1, none⟩ rfl ((hvv.cell (p := ⟨g, o + K1 * 2 + 1, none⟩) HGW.out).trans CP.out)⟩) HS.out ?_
            try simp only [Act.put, List.setIfInBounds_toArray, List.set_cons_succ, List.set_cons_zero]
            refine wpAnyH_take (i := 15) (oi := ⟨some 27, .binOp .leq 23 (.tmp 20) (.tmp 26) 23, 4, _, _, some (6, true)⟩) (v := .bool false) rfl (by kernel_rfl) (by kernel_rfl) (by kernel_rfl) (fun _ _ _ h => h) (Or.inl ⟨by rfl, fun _ _ => by go_simp⟩) HS.out ?_
            try simp only [Act.put, List.setIfInBounds_toArray, List.set_cons_succ, List.set_cons_zero]
            refine wpAnyH_take (i := 16) (oi := ⟨some 28, .pick (.tmp 18) (.tmp 27) (.const (.bool false)), 4, _, _, some (3, false)⟩) (v := .bool false) rfl (by kernel_rfl) (by kernel_rfl) (by kernel_rfl) (fun _ _ _ h => h) (Or.inl ⟨by rfl, fun _ _ => by go_simp⟩) HS.out ?_
            try simp only [Act.put, List.setIfInBounds_toArray, List.set_cons_succ, List.set_cons_zero]
            refine wpAnyH_take (i := 17) (oi := ⟨some 29, .pick (.tmp 15) (.const (.bool true)) (.tmp 28), 4, _, _, none⟩) (v := .bool false) rfl (by kernel_rfl) (by kernel_rfl) (by kernel_rfl) (fun _ _ _ h => h) (Or.inl ⟨by rfl, fun _ _ => by go_simp⟩) HS.out ?_
            try simp only [Act.put, List.setIfInBounds_toArray, List.set_cons_succ, List.set_cons_zero]
            refine wpAnyH_done (by kernel_rfl) ?_ _
            have HBX := Lib.hid (HBW.out.trans (HS.out.mono HBW.out.size))
            go_wp2
            go_roundw
            case rel =>
              refine ⟨k + 1, by omega, by go_num, HBX.out, fun j hj => ?_⟩
              rcases Nat.lt_or_ge j k with h | h
              · exact HJ.out j h
              · obtain rfl : j = k := by omega
                exact HST.out
            case measure => simp [intOf]; omega
      · have HONE := Lib.hid hone
        have HM := Lib.hid (show M = false from Bool.eq_false_iff.2 fun h => hone (by rw [HRE.out]; exact ((HMM.out.1 h).1 k HKL.out).1))
        clear hone
        go_wp2_with (first | (refine wpList_load_mid rfl 25 (.tmp 10) rfl g (o + k * 2) rfl (rcl r) _ HR.out Try.underlying25 rfl size_rg ?_) | (refine wpList_store_abs rfl 25 (.tmp 4) (.tmp 11) (by rfl) wr.heap.size #[.int .u64 (r.lo : Nat), .int .u64 (r.hi : Nat)] (by rfl) (by rfl) 25 _ (Blk.new wr _ _) size_rg (by rfl) (by simp [Value.oneCell']) ?_; intro W hW hp5; have hbW := hW.below ((Below.refl _ wr).alloc (Nat.le_refl _) _) (Nat.le_refl _); have HBW := Lib.hid (HBr.out.trans (hbW.mono HBr.out.size)); have BX := Lib.hid hp5; have HGW := Lib.hid (show g < W.heap.size from Nat.lt_of_lt_of_le HGr.out hbW.size); have HW2 := Lib.hid hbW; clear hW hbW))
        generalize wr.heap.size = gx at *
        clear hp5
        refine wp_region_held_drew (S := fun w' => Below W.heap.size W w') (by kernel_rfl) (Below.refl _ _).drew (fun _ => ?_)
        have HS := Lib.hid ((Below.refl W.heap.size W).drew)
        generalize World.drew W = v0 at *
        try simp only [Act.put, List.setIfInBounds_toArray, List.set_cons_succ, List.set_cons_zero]
        refine wpAnyH_take (i := 0) (oi := ⟨some 12, .load 25 (.tmp 4), 25, _, _, none⟩) (v := .agg #[.int .u64 (r.lo : Nat), .int .u64 (r.hi : Nat)]) rfl (by kernel_rfl) (by kernel_rfl) (by kernel_rfl) (fun _ _ _ h => h) (Or.inl ⟨by rfl, fun vv hvv => yields_agg 25 (.tmp 4) rfl gx rfl (BX.out.below hvv BX.out.lt) _ Try.underlying25 rfl size_rg⟩) HS.out ?_
        try simp only [Act.put, List.setIfInBounds_toArray, List.set_cons_succ, List.set_cons_zero]
        refine wpAnyH_ready (rs := [1]) (by kernel_rfl) (by simp) ?_
        refine AllReadyH.cons (o := ⟨some 13, .call { callee := .value (.func 74), args := #[.tmp 12], argTypes := #[25] }, 4, _, _, none⟩) rfl (fun K hK => ?_) AllReadyH.nil
        go_simp
        refine (one_walk r v0).mono ?_
        rintro e v1 ⟨he, hb⟩
        rw [decide_eq_false HONE.out] at he
        subst he
        have HS := Lib.hid (HS.out.trans (hb.mono HS.out.size))
        clear hb
        refine hK _ _ HS.out (fun _ => ?_)
        clear hK K
        try simp only [Act.put, List.setIfInBounds_toArray, List.set_cons_succ, List.set_cons_zero]
        refine wpAnyH_take (i := 2) (oi := ⟨some 14, .unOp .not 4 (.tmp 13), 4, _, _, none⟩) (v := .bool true) rfl (by kernel_rfl) (by kernel_rfl) (by kernel_rfl) (fun _ _ _ h => h) (Or.inl ⟨by rfl, fun _ _ => by go_simp⟩) HS.out ?_
        try simp only [Act.put, List.setIfInBounds_toArray, List.set_cons_succ, List.set_cons_zero]
        refine wpAnyH_take (i := 3) (oi := ⟨some 15, .move (.tmp 14), 4, _, _, none⟩) (v := .bool true) rfl (by kernel_rfl) (by kernel_rfl) (by kernel_rfl) (fun _ _ _ h => h) (Or.inl ⟨by rfl, fun _ _ => by go_simp⟩) HS.out ?_
        try simp only [Act.put, List.setIfInBounds_toArray, List.set_cons_succ, List.set_cons_zero]
        refine wpAnyH_take (i := 4) (oi := ⟨some 16, .move (.tmp 3), 3, _, _, some (3, false)⟩) (v := undef) rfl (by kernel_rfl) (by kernel_rfl) (by kernel_rfl) (fun _ _ _ h => h) (Or.inr ⟨by rfl, rfl⟩) HS.out ?_
        try simp only [Act.put, List.setIfInBounds_toArray, List.set_cons_succ, List.set_cons_zero]
        refine wpAnyH_take (i := 5) (oi := ⟨some 17, .binOp .gtr 3 (.tmp 16) (.const (.int .i64 0)) 3, 4, _, _, some (3, false)⟩) (v := undef) rfl (by kernel_rfl) (by kernel_rfl) (by kernel_rfl) (fun _ _ _ h => h) (Or.inr ⟨by rfl, rfl⟩) HS.out ?_
        try simp only [Act.put, List.setIfInBounds_toArray, List.set_cons_succ, List.set_cons_zero]
        refine wpAnyH_take (i := 6) (oi := ⟨some 18, .move (.tmp 17), 4, _, _, some (3, false)⟩) (v := undef) rfl (by kernel_rfl) (by kernel_rfl) (by kernel_rfl) (fun _ _ _ h => h) (Or.inr ⟨by rfl, rfl⟩) HS.out ?_
        try simp only [Act.put, List.setIfInBounds_toArray, List.set_cons_succ, List.set_cons_zero]
        refine wpAnyH_take (i := 7) (oi := ⟨some 19, .fieldAddr 25 (.tmp 4) 0, _, _, _, some (6, true)⟩) (v := undef) rfl (by kernel_rfl) (by kernel_rfl) (by kernel_rfl) (fun _ _ _ h => h) (Or.inr ⟨by rfl, rfl⟩) HS.out ?_
        try simp only [Act.put, List.setIfInBounds_toArray, List.set_cons_succ, List.set_cons_zero]
        refine wpAnyH_take (i := 8) (oi := ⟨some 20, .load 23 (.tmp 19), 23, _, _, some (6, true)⟩) (v := undef) rfl (by kernel_rfl) (by kernel_rfl) (by kernel_rfl) (fun _ _ _ h => h) (Or.inr ⟨by rfl, rfl⟩) HS.out ?_
        try simp only [Act.put, List.setIfInBounds_toArray, List.set_cons_succ, List.set_cons_zero]
        refine wpAnyH_take (i := 9) (oi := ⟨some 21, .move (.tmp 0), 22, _, _, some (6, true)⟩) (v := undef) rfl (by kernel_rfl) (by kernel_rfl) (by kernel_rfl) (fun _ _ _ h => h) (Or.inr ⟨by rfl, rfl⟩) HS.out ?_
        try simp only [Act.put, List.setIfInBounds_toArray, List.set_cons_succ, List.set_cons_zero]
        refine wpAnyH_take (i := 10) (oi := ⟨some 22, .move (.tmp 3), 3, _, _, some (6, true)⟩) (v := undef) rfl (by kernel_rfl) (by kernel_rfl) (by kernel_rfl) (fun _ _ _ h => h) (Or.inr ⟨by rfl, rfl⟩) HS.out ?_
        try simp only [Act.put, List.setIfInBounds_toArray, List.set_cons_succ, List.set_cons_zero]
        refine wpAnyH_take (i := 11) (oi := ⟨some 23, .binOp .sub 3 (.tmp 22) (.const (.int .i64 1)) 3, 3, _, _, some (6, true)⟩) (v := undef) rfl (by kernel_rfl) (by kernel_rfl) (by kernel_rfl) (fun _ _ _ h => h) (Or.inr ⟨by rfl, rfl⟩) HS.out ?_
        try simp only [Act.put, List.setIfInBounds_toArray, List.set_cons_succ, List.set_cons_zero]
        refine wpAnyH_take (i := 12) (oi := ⟨some 24, .indexAddr 22 (.tmp 21) (.tmp 23), _, _, _, some (6, true)⟩) (v := undef) rfl (by kernel_rfl) (by kernel_rfl) (by kernel_rfl) (fun _ _ _ h => h) (Or.inr ⟨by rfl, rfl⟩) HS.out ?_
        try simp only [Act.put, List.setIfInBounds_toArray, List.set_cons_succ, List.set_cons_zero]
        refine wpAnyH_take (i := 13) (oi := ⟨some 25, .fieldAddr 25 (.tmp 24) 1, _, _, _, some (6, true)⟩) (v := undef) rfl (by kernel_rfl) (by kernel_rfl) (by kernel_rfl) (fun _ _ _ h => h) (Or.inr ⟨by rfl, rfl⟩) HS.out ?_
        try simp only [Act.put, List.setIfInBounds_toArray, List.set_cons_succ, List.set_cons_zero]
        refine wpAnyH_take (i := 14) (oi := ⟨some 26, .load 23 (.tmp 25), 23, _, _, some (6, true)⟩) (v := undef) rfl (by kernel_rfl) (by kernel_rfl) (by kernel_rfl) (fun _ _ _ h => h) (Or.inr ⟨by rfl, rfl⟩) HS.out ?_
        try simp only [Act.put, List.setIfInBounds_toArray, List.set_cons_succ, List.set_cons_zero]
        refine wpAnyH_take (i := 15) (oi := ⟨some 27, .binOp .leq 23 (.tmp 20) (.tmp 26) 23, 4, _, _, some (6, true)⟩) (v := undef) rfl (by kernel_rfl) (by kernel_rfl) (by kernel_rfl) (fun _ _ _ h => h) (Or.inr ⟨by rfl, rfl⟩) HS.out ?_
        try simp only [Act.put, List.setIfInBounds_toArray, List.set_cons_succ, List.set_cons_zero]
        refine wpAnyH_take (i := 16) (oi := ⟨some 28, .pick (.tmp 18) (.tmp 27) (.const (.bool false)), 4, _, _, some (3, false)⟩) (v := undef) rfl (by kernel_rfl) (by kernel_rfl) (by kernel_rfl) (fun _ _ _ h => h) (Or.inr ⟨by rfl, rfl⟩) HS.out ?_
        try simp only [Act.put, List.setIfInBounds_toArray, List.set_cons_succ, List.set_cons_zero]
        refine wpAnyH_take (i := 17) (oi := ⟨some 29, .pick (.tmp 15) (.const (.bool true)) (.tmp 28), 4, _, _, none⟩) (v := .bool true) rfl (by kernel_rfl) (by kernel_rfl) (by kernel_rfl) (fun _ _ _ h => h) (Or.inl ⟨by rfl, fun _ _ => by go_simp⟩) HS.out ?_
        try simp only [Act.put, List.setIfInBounds_toArray, List.set_cons_succ, List.set_cons_zero]
        refine wpAnyH_done (by kernel_rfl) ?_ _
        go_wp2
        go_ret
        exact ⟨by show Ending.returned (.bool false) = _; rw [HM.out], HBW.out.trans (HS.out.mono HBW.out.size)⟩
    · have HK := Lib.hid (show k = n by omega)
      have HB := Lib.hid hb
      clear hb
      have HF := Lib.hid (show M = decide ((n : Int) ≤ 64) by
        by_cases q : n ≤ 64
        · rw [decide_eq_true (show (n : Int) ≤ 64 by omega)]
          exact HMM.out.2 ⟨fun i hi => HJ.out i (by have := HK.out; have := HN.out; omega), by have := HN.out; omega⟩
        · rw [decide_eq_false (show ¬ (n : Int) ≤ 64 by omega)]
          exact Bool.eq_false_iff.2 fun h => by have := (HMM.out.1 h).2; have := HN.out; omega)
      go_wp2
      go_ret
      exact ⟨by show Ending.returned (.bool (decide ((n : Int) ≤ 64))) = _; rw [HF.out], HB.out⟩
set_option maxRecDepth 100000 in
set_option maxHeartbeats 1000000 in
theorem may_walkR (l : List Rg) (a : Option Addr) (n c : Nat) (w : World) (hL : RgsIn w a n c l) (M : Bool) (hM : M = true ↔ MayP l) :
    Calls Try.prog 17 #[.slice a n c] w fun e w' => e = .returned (.bool M) ∧ Below w.heap.size w w' := by
  have HL := Lib.hid hL
  have HN := Lib.hid hL.len
  have hn63 : n ≤ 9223372036854775807 := by have h1 := hL.fit; have h2 := hL.top; unfold maxLen at h2; omega
  have HMM := Lib.hid (hM.trans (may_iff l))
  clear hL hM
  go_enter Try.func17, Try.ntmps17
  go_wp2
  go_loopw [7] (fun x wr => ∃ k : Nat, k ≤ n ∧ x = .int .i64 (k : Nat) ∧ Below w.heap.size w wr ∧ Hid (∀ j, j < k → stepP l j)) (fun x _ => n - (intOf x).toNat)
  case atStart => exact ⟨0, Nat.zero_le _, rfl, Below.refl _ _, fun j hj => by omega⟩
  case round =>
    obtain ⟨k, hk, rfl, hb, HJ⟩ := hrel
    have HBr := Lib.hid hb
    by_cases hlt : k < n
    · obtain ⟨g, o, rfl, hg, hr⟩ := HL.out.rd k (by have := HN.out; omega)
      obtain ⟨r, hre⟩ : ∃ r, r = l.getD k r0 := ⟨_, rfl⟩
      rw [← hre] at hr
      have HRE := Lib.hid hre
      have HG := Lib.hid hg
      have HGr := Lib.hid (Nat.lt_of_lt_of_le hg hb.size)
      have HR := Lib.hid (rng_on hr hb)
      clear hr hre hg hb
      have HKL := Lib.hid (show k < l.length by have := HN.out; omega)
      by_cases hone : oneP r
      · have HONE := Lib.hid hone
        clear hone
        by_cases hk0 : k = 0
        · have HST := Lib.hid (show stepP l k from ⟨by rw [← HRE.out]; exact HONE.out, fun h => by omega⟩)
          have hgt : ¬ (0 : Int) < (k : Int) := by omega
          clear hk0
          go_wp2_with (first | (refine wpList_load_mid rfl 25 (.tmp 10) rfl g (o + k * 2) rfl (rcl r) _ HR.out Try.underlying25 rfl size_rg ?_) | (refine wpList_store_abs rfl 25 (.tmp 4) (.tmp 11) (by rfl) wr.heap.size #[.int .u64 (r.lo : Nat), .int .u64 (r.hi : Nat)] (by rfl) (by rfl) 25 _ (Blk.new wr _ _) size_rg (by rfl) (by simp [Value.oneCell']) ?_; intro W hW hp5; have hbW := hW.below ((Below.refl _ wr).alloc (Nat.le_refl _) _) (Nat.le_refl _); have HBW := Lib.hid (HBr.out.trans (hbW.mono HBr.out.size)); have BX := Lib.hid hp5; have HGW := Lib.hid (show g < W.heap.size from Nat.lt_of_lt_of_le HGr.out hbW.size); have HW2 := Lib.hid hbW; clear hW hbW))
          generalize wr.heap.size = gx at *
          clear hp5
          refine wp_region_held_drew (S := fun w' => Below W.heap.size W w') (by kernel_rfl) (Below.refl _ _).drew (fun _ => ?_)
          have HS := Lib.hid ((Below.refl W.heap.size W).drew)
          generalize World.drew W = v0 at *
          try simp only [Act.put, List.setIfInBounds_toArray, List.set_cons_succ, List.set_cons_zero]
          refine wpAnyH_take (i := 0) (oi := ⟨some 12, .load 25 (.tmp 4), 25, _, _, none⟩) (v := .agg #[.int .u64 (r.lo : Nat), .int .u64 (r.hi : Nat)]) rfl (by kernel_rfl) (by kernel_rfl) (by kernel_rfl) (fun _ _ _ h => h) (Or.inl ⟨by rfl, fun vv hvv => yields_agg 25 (.tmp 4) rfl gx rfl (BX.out.below hvv BX.out.lt) _ Try.underlying25 rfl size_rg⟩) HS.out ?_
          try simp only [Act.put, List.setIfInBounds_toArray, List.set_cons_succ, List.set_cons_zero]
          refine wpAnyH_ready (rs := [1]) (by kernel_rfl) (by simp) ?_
          refine AllReadyH.cons (o := ⟨some 13, .call { callee := .value (.func 18), args := #[.tmp 12], argTypes := #[25] }, 4, _, _, none⟩) rfl (fun K hK => ?_) AllReadyH.nil
          go_simp
          refine (rone_walk r v0).mono ?_
          rintro e v1 ⟨he, hb⟩
          rw [decide_eq_true HONE.out] at he
          subst he
          have HS := Lib.hid (HS.out.trans (hb.mono HS.out.size))
          clear hb
          refine hK _ _ HS.out (fun _ => ?_)
          clear hK K
          try simp only [Act.put, List.setIfInBounds_toArray, List.set_cons_succ, List.set_cons_zero]
          refine wpAnyH_take (i := 2) (oi := ⟨some 14, .unOp .not 4 (.tmp 13), 4, _, _, none⟩) (v := .bool false) rfl (by kernel_rfl) (by kernel_rfl) (by kernel_rfl) (fun _ _ _ h => h) (Or.inl ⟨by rfl, fun _ _ => by go_simp⟩) HS.out ?_
          try simp only [Act.put, List.setIfInBounds_toArray, List.set_cons_succ, List.set_cons_zero]
          refine wpAnyH_take (i := 3) (oi := ⟨some 15, .move (.tmp 14), 4, _, _, none⟩) (v := .bool false) rfl (by kernel_rfl) (by kernel_rfl) (by kernel_rfl) (fun _ _ _ h => h) (Or.inl ⟨by rfl, fun _ _ => by go_simp⟩) HS.out ?_
          try simp only [Act.put, List.setIfInBounds_toArray, List.set_cons_succ, List.set_cons_zero]
          refine wpAnyH_take (i := 4) (oi := ⟨some 16, .move (.tmp 3), 3, _, _, some (3, false)⟩) (v := .int .i64 (k : Nat)) rfl (by kernel_rfl) (by kernel_rfl) (by kernel_rfl) (fun _ _ _ h => h) (Or.inl ⟨by rfl, fun _ _ => by go_simp⟩) HS.out ?_
          try simp only [Act.put, List.setIfInBounds_toArray, List.set_cons_succ, List.set_cons_zero]
          refine wpAnyH_take (i := 5) (oi := ⟨some 17, .binOp .gtr 3 (.tmp 16) (.const (.int .i64 0)) 3, 4, _, _, some (3, false)⟩) (v := .bool false) rfl (by kernel_rfl) (by kernel_rfl) (by kernel_rfl) (fun _ _ _ h => h) (Or.inl ⟨by rfl, fun _ _ => by (go_simp <;> omega)⟩) HS.out ?_
          try simp only [Act.put, List.setIfInBounds_toArray, List.set_cons_succ, List.set_cons_zero]
          refine wpAnyH_take (i := 6) (oi := ⟨some 18, .move (.tmp 17), 4, _, _, some (3, false)⟩) (v := .bool false) rfl (by kernel_rfl) (by kernel_rfl) (by kernel_rfl) (fun _ _ _ h => h) (Or.inl ⟨by rfl, fun _ _ => by go_simp⟩) HS.out ?_
          try simp only [Act.put, List.setIfInBounds_toArray, List.set_cons_succ, List.set_cons_zero]
          refine wpAnyH_take (i := 7) (oi := ⟨some 19, .fieldAddr 25 (.tmp 4) 0, _, _, _, some (6, true)⟩) (v := undef) rfl (by kernel_rfl) (by kernel_rfl) (by kernel_rfl) (fun _ _ _ h => h) (Or.inr ⟨by rfl, rfl⟩) HS.out ?_
          try simp only [Act.put, List.setIfInBounds_toArray, List.set_cons_succ, List.set_cons_zero]
          refine wpAnyH_take (i := 8) (oi := ⟨some 20, .load 23 (.tmp 19), 23, _, _, some (6, true)⟩) (v := undef) rfl (by kernel_rfl) (by kernel_rfl) (by kernel_rfl) (fun _ _ _ h => h) (Or.inr ⟨by rfl, rfl⟩) HS.out ?_
          try simp only [Act.put, List.setIfInBounds_toArray, List.set_cons_succ, List.set_cons_zero]
          refine wpAnyH_take (i := 9) (oi := ⟨some 21, .move (.tmp 0), 22, _, _, some (6, true)⟩) (v := undef) rfl (by kernel_rfl) (by kernel_rfl) (by kernel_rfl) (fun _ _ _ h => h) (Or.inr ⟨by rfl, rfl⟩) HS.out ?_
          try simp only [Act.put, List.setIfInBounds_toArray, List.set_cons_succ, List.set_cons_zero]
          refine wpAnyH_take (i := 10) (oi := ⟨some 22, .move (.tmp 3), 3, _, _, some (6, true)⟩) (v := undef) rfl (by kernel_rfl) (by kernel_rfl) (by kernel_rfl) (fun _ _ _ h => h) (Or.inr ⟨by rfl, rfl⟩) HS.out ?_
          try simp only [Act.put, List.setIfInBounds_toArray, List.set_cons_succ, List.set_cons_zero]
          refine wpAnyH_take (i := 11) (oi := ⟨some 23, .binOp .sub 3 (.tmp 22) (.const (.int .i64 1)) 3, 3, _, _, some (6, true)⟩) (v := undef) rfl (by kernel_rfl) (by kernel_rfl) (by kernel_rfl) (fun _ _ _ h => h) (Or.inr ⟨by rfl, rfl⟩) HS.out ?_
          try simp only [Act.put, List.setIfInBounds_toArray, List.set_cons_succ, List.set_cons_zero]
          refine wpAnyH_take (i := 12) (oi := ⟨some 24, .indexAddr 22 (.tmp 21) (.tmp 23), _, _, _, some (6, true)⟩) (v := undef) rfl (by kernel_rfl) (by kernel_rfl) (by kernel_rfl) (fun _ _ _ h => h) (Or.inr ⟨by rfl, rfl⟩) HS.out ?_
          try simp only [Act.put, List.setIfInBounds_toArray, List.set_cons_succ, List.set_cons_zero]
          refine wpAnyH_take (i := 13) (oi := ⟨some 25, .fieldAddr 25 (.tmp 24) 1, _, _, _, some (6, true)⟩) (v := undef) rfl (by kernel_rfl) (by kernel_rfl) (by kernel_rfl) (fun _ _ _ h => h) (Or.inr ⟨by rfl, rfl⟩) HS.out ?_
          try simp only [Act.put, List.setIfInBounds_toArray, List.set_cons_succ, List.set_cons_zero]
          refine wpAnyH_take (i := 14) (oi := ⟨some 26, .load 23 (.tmp 25), 23, _, _, some (6, true)⟩) (v := undef) rfl (by kernel_rfl) (by kernel_rfl) (by kernel_rfl) (fun _ _ _ h => h) (Or.inr ⟨by rfl, rfl⟩) HS.out ?_
          try simp only [Act.put, List.setIfInBounds_toArray, List.set_cons_succ, List.set_cons_zero]
          refine wpAnyH_take (i := 15) (oi := ⟨some 27, .binOp .leq 23 (.tmp 20) (.tmp 26) 23, 4, _, _, some (6, true)⟩) (v := undef) rfl (by kernel_rfl) (by kernel_rfl) (by kernel_rfl) (fun _ _ _ h => h) (Or.inr ⟨by rfl, rfl⟩) HS.out ?_
          try simp only [Act.put, List.setIfInBounds_toArray, List.set_cons_succ, List.set_cons_zero]
          refine wpAnyH_take (i := 16) (oi := ⟨some 28, .pick (.tmp 18) (.tmp 27) (.const (.bool false)), 4, _, _, some (3, false)⟩) (v := .bool false) rfl (by kernel_rfl) (by kernel_rfl) (by kernel_rfl) (fun _ _ _ h => h) (Or.inl ⟨by rfl, fun _ _ => by go_simp⟩) HS.out ?_
          try simp only [Act.put, List.setIfInBounds_toArray, List.set_cons_succ, List.set_cons_zero]
          refine wpAnyH_take (i := 17) (oi := ⟨some 29, .pick (.tmp 15) (.const (.bool true)) (.tmp 28), 4, _, _, none⟩) (v := .bool false) rfl (by kernel_rfl) (by kernel_rfl) (by kernel_rfl) (fun _ _ _ h => h) (Or.inl ⟨by rfl, fun _ _ => by go_simp⟩) HS.out ?_
          try simp only [Act.put, List.setIfInBounds_toArray, List.set_cons_succ, List.set_cons_zero]
          refine wpAnyH_done (by kernel_rfl) ?_ _
          have HBX := Lib.hid (HBW.out.trans (HS.out.mono HBW.out.size))
          go_wp2
          go_roundw
          case rel =>
            refine ⟨k + 1, by omega, by go_num, HBX.out, fun j hj => ?_⟩
            rcases Nat.lt_or_ge j k with h | h
            · exact HJ.out j h
            · obtain rfl : j = k := by omega
              exact HST.out
          case measure => simp [intOf]; omega
        · obtain ⟨K1, hK1⟩ : ∃ K1, k = K1 + 1 := ⟨k - 1, by omega⟩
          have hgt : (0 : Int) < (k : Int) := by omega
          have hkw : IntKind.i64.wrap ((k : Int) - 1) = (K1 : Int) := by rw [IntWalk.i64_in _ (by omega)]; omega
          have hk1n : K1 < n := by omega
          have hk1i : (K1 : Int) < (n : Int) := by omega
          obtain ⟨g', o', eg, _, hr'⟩ := HL.out.rd K1 (by have := HKL.out; omega)
          simp only [Option.some.injEq, Addr.mk.injEq] at eg
          obtain ⟨rfl, rfl, _⟩ := eg
          obtain ⟨pv, hpv⟩ : ∃ r, r = l.getD K1 r0 := ⟨_, rfl⟩
          rw [← hpv] at hr'
          have HPV := Lib.hid hpv
          have CP0 := Lib.hid (hr' 1 (.int .u64 (pv.hi : Nat)) rfl)
          have HK1 := Lib.hid hK1
          clear hr' hpv hk0 hK1
          by_cases hle : r.lo ≤ pv.hi
          · have HM := Lib.hid (show M = false from Bool.eq_false_iff.2 fun h => by
              have := ((HMM.out.1 h).1 k HKL.out).2 (by have := HK1.out; omega)
              rw [show k - 1 = K1 by have := HK1.out; omega, ← HPV.out, ← HRE.out] at this
              omega)
            have hlei : (r.lo : Int) ≤ (pv.hi : Int) := by omega
            go_wp2_with (first | (refine wpList_load_mid rfl 25 (.tmp 10) rfl g (o + k * 2) rfl (rcl r) _ HR.out Try.underlying25 rfl size_rg ?_) | (refine wpList_store_abs rfl 25 (.tmp 4) (.tmp 11) (by rfl) wr.heap.size #[.int .u64 (r.lo : Nat), .int .u64 (r.hi : Nat)] (by rfl) (by rfl) 25 _ (Blk.new wr _ _) size_rg (by rfl) (by simp [Value.oneCell']) ?_; intro W hW hp5; have hbW := hW.below ((Below.refl _ wr).alloc (Nat.le_refl _) _) (Nat.le_refl _); have HBW := Lib.hid (HBr.out.trans (hbW.mono HBr.out.size)); have BX := Lib.hid hp5; have HGW := Lib.hid (show g < W.heap.size from Nat.lt_of_lt_of_le HGr.out hbW.size); have HW2 := Lib.hid hbW; clear hW hbW))
            generalize wr.heap.size = gx at *
            clear hp5
            have CP := Lib.hid ((Below.cell (p := ⟨g, o + K1 * 2 + 1, none⟩) HBW.out HG.out).trans CP0.out)
            refine wp_region_held_drew (S := fun w' => Below W.heap.size W w') (by kernel_rfl) (Below.refl _ _).drew (fun _ => ?_)
            have HS := Lib.hid ((Below.refl W.heap.size W).drew)
            generalize World.drew W = v0 at *
            try simp only [Act.put, List.setIfInBounds_toArray, List.set_cons_succ, List.set_cons_zero]
            refine wpAnyH_take (i := 0) (oi := ⟨some 12, .load 25 (.tmp 4), 25, _, _, none⟩) (v := .agg #[.int .u64 (r.lo : Nat), .int .u64 (r.hi : Nat)]) rfl (by kernel_rfl) (by kernel_rfl) (by kernel_rfl) (fun _ _ _ h => h) (Or.inl ⟨by rfl, fun vv hvv => yields_agg 25 (.tmp 4) rfl gx rfl (BX.out.below hvv BX.out.lt) _ Try.underlying25 rfl size_rg⟩) HS.out ?_
            try simp only [Act.put, List.setIfInBounds_toArray, List.set_cons_succ, List.set_cons_zero]
            refine wpAnyH_ready (rs := [1]) (by kernel_rfl) (by simp) ?_
            refine AllReadyH.cons (o := ⟨some 13, .call { callee := .value (.func 18), args := #[.tmp 12], argTypes := #[25] }, 4, _, _, none⟩) rfl (fun K hK => ?_) AllReadyH.nil
            go_simp
            refine (rone_walk r v0).mono ?_
            rintro e v1 ⟨he, hb⟩
            rw [decide_eq_true HONE.out] at he
            subst he
            have HS := Lib.hid (HS.out.trans (hb.mono HS.out.size))
            clear hb
            refine hK _ _ HS.out (fun _ => ?_)
            clear hK K
            try simp only [Act.put, List.setIfInBounds_toArray, List.set_cons_succ, List.set_cons_zero]
            refine wpAnyH_take (i := 2) (oi := ⟨some 14, .unOp .not 4 (.tmp 13), 4, _, _, none⟩) (v := .bool false) rfl (by kernel_rfl) (by kernel_rfl) (by kernel_rfl) (fun _ _ _ h => h) (Or.inl ⟨by rfl, fun _ _ => by go_simp⟩) HS.out ?_
            try simp only [Act.put, List.setIfInBounds_toArray, List.set_cons_succ, List.set_cons_zero]
            refine wpAnyH_take (i := 3) (oi := ⟨some 15, .move (.tmp 14), 4, _, _, none⟩) (v := .bool false) rfl (by kernel_rfl) (by kernel_rfl) (by kernel_rfl) (fun _ _ _ h => h) (Or.inl ⟨by rfl, fun _ _ => by go_simp⟩) HS.out ?_
            try simp only [Act.put, List.setIfInBounds_toArray, List.set_cons_succ, List.set_cons_zero]
            refine wpAnyH_take (i := 4) (oi := ⟨some 16, .move (.tmp 3), 3, _, _, some (3, false)⟩) (v := .int .i64 (k : Nat)) rfl (by kernel_rfl) (by kernel_rfl) (by kernel_rfl) (fun _ _ _ h => h) (Or.inl ⟨by rfl, fun _ _ => by go_simp⟩) HS.out ?_
            try simp only [Act.put, List.setIfInBounds_toArray, List.set_cons_succ, List.set_cons_zero]
            refine wpAnyH_take (i := 5) (oi := ⟨some 17, .binOp .gtr 3 (.tmp 16) (.const (.int .i64 0)) 3, 4, _, _, some (3, false)⟩) (v := .bool true) rfl (by kernel_rfl) (by kernel_rfl) (by kernel_rfl) (fun _ _ _ h => h) (Or.inl ⟨by rfl, fun _ _ => by (go_simp <;> omega)⟩) HS.out ?_
            try simp only [Act.put, List.setIfInBounds_toArray, List.set_cons_succ, List.set_cons_zero]
            refine wpAnyH_take (i := 6) (oi := ⟨some 18, .move (.tmp 17), 4, _, _, some (3, false)⟩) (v := .bool true) rfl (by kernel_rfl) (by kernel_rfl) (by kernel_rfl) (fun _ _ _ h => h) (Or.inl ⟨by rfl, fun _ _ => by go_simp⟩) HS.out ?_
            try simp only [Act.put, List.setIfInBounds_toArray, List.set_cons_succ, List.set_cons_zero]
            refine wpAnyH_take (i := 7) (oi := ⟨some 19, .fieldAddr 25 (.tmp 4) 0, _, _, _, some (6, true)⟩) (v := .pointer (some ⟨gx, 0, none⟩)) rfl (by kernel_rfl) (by kernel_rfl) (by kernel_rfl) (fun _ _ _ h => h) (Or.inl ⟨by rfl, fun _ _ => by go_simp⟩) HS.out ?_
            try simp only [Act.put, List.setIfInBounds_toArray, List.set_cons_succ, List.set_cons_zero]
            refine wpAnyH_take (i := 8) (oi := ⟨some 20, .load 23 (.tmp 19), 23, _, _, some (6, true)⟩) (v := .int .u64 (r.lo : Nat)) rfl (by kernel_rfl) (by kernel_rfl) (by kernel_rfl) (fun _ _ _ h => h) (Or.inl ⟨by rfl, fun vv hvv => yields_u64 (.tmp 19) rfl ⟨gx, 0, none⟩ rfl ((BX.out.below hvv BX.out.lt).cell 0 rfl)⟩) HS.out ?_
            try simp only [Act.put, List.setIfInBounds_toArray, List.set_cons_succ, List.set_cons_zero]
            refine wpAnyH_take (i := 9) (oi := ⟨some 21, .move (.tmp 0), 22, _, _, some (6, true)⟩) (v := .slice (some ⟨g, o, none⟩) n c) rfl (by kernel_rfl) (by kernel_rfl) (by kernel_rfl) (fun _ _ _ h => h) (Or.inl ⟨by rfl, fun _ _ => by go_simp⟩) HS.out ?_
            try simp only [Act.put, List.setIfInBounds_toArray, List.set_cons_succ, List.set_cons_zero]
            refine wpAnyH_take (i := 10) (oi := ⟨some 22, .move (.tmp 3), 3, _, _, some (6, true)⟩) (v := .int .i64 (k : Nat)) rfl (by kernel_rfl) (by kernel_rfl) (by kernel_rfl) (fun _ _ _ h => h) (Or.inl ⟨by rfl, fun _ _ => by go_simp⟩) HS.out ?_
            try simp only [Act.put, List.setIfInBounds_toArray, List.set_cons_succ, List.set_cons_zero]
            refine wpAnyH_take (i := 11) (oi := ⟨some 23, .binOp .sub 3 (.tmp 22) (.const (.int .i64 1)) 3, 3, _, _, some (6, true)⟩) (v := .int .i64 (K1 : Nat)) rfl (by kernel_rfl) (by kernel_rfl) (by kernel_rfl) (fun _ _ _ h => h) (Or.inl ⟨by rfl, fun _ _ => by go_simp⟩) HS.out ?_
            try simp only [Act.put, List.setIfInBounds_toArray, List.set_cons_succ, List.set_cons_zero]
            refine wpAnyH_take (i := 12) (oi := ⟨some 24, .indexAddr 22 (.tmp 21) (.tmp 23), _, _, _, some (6, true)⟩) (v := .pointer (some ⟨g, o + K1 * 2, none⟩)) rfl (by kernel_rfl) (by kernel_rfl) (by kernel_rfl) (fun _ _ _ h => h) (Or.inl ⟨by rfl, fun _ _ => by go_simp⟩) HS.out ?_
            try simp only [Act.put, List.setIfInBounds_toArray, List.set_cons_succ, List.set_cons_zero]
            refine wpAnyH_take (i := 13) (oi := ⟨some 25, .fieldAddr 25 (.tmp 24) 1, _, _, _, some (6, true)⟩) (v := .pointer (some ⟨g, o + K1 * 2 + 1, none⟩)) rfl (by kernel_rfl) (by kernel_rfl) (by kernel_rfl) (fun _ _ _ h => h) (Or.inl ⟨by rfl, fun _ _ => by go_simp⟩) HS.out ?_
            try simp only [Act.put, List.setIfInBounds_toArray, List.set_cons_succ, List.set_cons_zero]
            refine wpAnyH_take (i := 14) (oi := ⟨some 26, .load 23 (.tmp 25), 23, _, _, some (6, true)⟩) (v := .int .u64 (pv.hi : Nat)) rfl (by kernel_rfl) (by kernel_rfl) (by kernel_rfl) (fun _ _ _ h => h) (Or.inl ⟨by rfl, fun vv hvv => yields_u64 (.tmp 25) rfl ⟨g, o + K1 * 2 + 1, none⟩ rfl ((hvv.cell (p := ⟨g, o + K1 * 2 + 1, none⟩) HGW.out).trans CP.out)⟩) HS.out ?_
            try simp only [Act.put, List.setIfInBounds_toArray, List.set_cons_succ, List.set_cons_zero]
            refine wpAnyH_take (i := 15) (oi := ⟨some 27, .binOp .leq 23 (.tmp 20) (.tmp 26) 23, 4, _, _, some (6, true)⟩) (v := .bool true) rfl (by kernel_rfl) (by kernel_rfl) (by kernel_rfl) (fun _ _ _ h => h) (Or.inl ⟨by rfl, fun _ _ => by go_simp⟩) HS.out ?_
            try simp only [Act.put, List.setIfInBounds_toArray, List.set_cons_succ, List.set_cons_zero]
            refine wpAnyH_take (i := 16) (oi := ⟨some 28, .pick (.tmp 18) (.tmp 27) (.const (.bool false)), 4, _, _, some (3, false)⟩) (v := .bool true) rfl (by kernel_rfl) (by kernel_rfl) (by kernel_rfl) (fun _ _ _ h => h) (Or.inl ⟨by rfl, fun _ _ => by go_simp⟩) HS.out ?_
            try simp only [Act.put, List.setIfInBounds_toArray, List.set_cons_succ, List.set_cons_zero]
            refine wpAnyH_take (i := 17) (oi := ⟨some 29, .pick (.tmp 15) (.const (.bool true)) (.tmp 28), 4, _, _, none⟩) (v := .bool true) rfl (by kernel_rfl) (by kernel_rfl) (by kernel_rfl) (fun _ _ _ h => h) (Or.inl ⟨by rfl, fun _ _ => by go_simp⟩) HS.out ?_
            try simp only [Act.put, List.setIfInBounds_toArray, List.set_cons_succ, List.set_cons_zero]
            refine wpAnyH_done (by kernel_rfl) ?_ _
            go_wp2
            go_ret
            exact ⟨by show Ending.returned (.bool false) = _; rw [HM.out], HBW.out.trans (HS.out.mono HBW.out.size)⟩
          · have HST := Lib.hid (show stepP l k from ⟨by rw [← HRE.out]; exact HONE.out, fun _ => by rw [show k - 1 = K1 by have := HK1.out; omega, ← HPV.out, ← HRE.out]; omega⟩)
            have hlei : ¬ (r.lo : Int) ≤ (pv.hi : Int) := by omega
            go_wp2_with (first | (refine wpList_load_mid rfl 25 (.tmp 10) rfl g (o + k * 2) rfl (rcl r) _ HR.out Try.underlying25 rfl size_rg ?_) | (refine wpList_store_abs rfl 25 (.tmp 4) (.tmp 11) (by rfl) wr.heap.size #[.int .u64 (r.lo : Nat), .int .u64 (r.hi : Nat)] (by rfl) (by rfl) 25 _ (Blk.new wr _ _) size_rg (by rfl) (by simp [Value.oneCell']) ?_; intro W hW hp5; have hbW := hW.below ((Below.refl _ wr).alloc (Nat.le_refl _) _) (Nat.le_refl _); have HBW := Lib.hid (HBr.out.trans (hbW.mono HBr.out.size)); have BX := Lib.hid hp5; have HGW := Lib.hid (show g < W.heap.size from Nat.lt_of_lt_of_le HGr.out hbW.size); have HW2 := Lib.hid hbW; clear hW hbW))
            generalize wr.heap.size = gx at *
            clear hp5
            have CP := Lib.hid ((Below.cell (p := ⟨g, o + K1 * 2 + 1, none⟩) HBW.out HG.out).trans CP0.out)
            refine wp_region_held_drew (S := fun w' => Below W.heap.size W w') (by kernel_rfl) (Below.refl _ _).drew (fun _ => ?_)
            have HS := Lib.hid ((Below.refl W.heap.size W).drew)
            generalize World.drew W = v0 at *
            try simp only [Act.put, List.setIfInBounds_toArray, List.set_cons_succ, List.set_cons_zero]
            refine wpAnyH_take (i := 0) (oi := ⟨some 12, .load 25 (.tmp 4), 25, _, _, none⟩) (v := .agg #[.int .u64 (r.lo : Nat), .int .u64 (r.hi : Nat)]) rfl (by kernel_rfl) (by kernel_rfl) (by kernel_rfl) (fun _ _ _ h => h) (Or.inl ⟨by rfl, fun vv hvv => yields_agg 25 (.tmp 4) rfl gx rfl (BX.out.below hvv BX.out.lt) _ Try.underlying25 rfl size_rg⟩) HS.out ?_
            try simp only [Act.put, List.setIfInBounds_toArray, List.set_cons_succ, List.set_cons_zero]
            refine wpAnyH_ready (rs := [1]) (by kernel_rfl) (by simp) ?_
            refine AllReadyH.cons (o := ⟨some 13, .call { callee := .value (.func 18), args := #[.tmp 12], argTypes := #[25] }, 4, _, _, none⟩) rfl (fun K hK => ?_) AllReadyH.nil
            go_simp
            refine (rone_walk r v0).mono ?_
            rintro e v1 ⟨he, hb⟩
            rw [decide_eq_true HONE.out] at he
            subst he
            have HS := Lib.hid (HS.out.trans (hb.mono HS.out.size))
            clear hb
            refine hK _ _ HS.out (fun _ => ?_)
            clear hK K
            try simp only [Act.put, List.setIfInBounds_toArray, List.set_cons_succ, List.set_cons_zero]
            refine wpAnyH_take (i := 2) (oi := ⟨some 14, .unOp .not 4 (.tmp 13), 4, _, _, none⟩) (v := .bool false) rfl (by kernel_rfl) (by kernel_rfl) (by kernel_rfl) (fun _ _ _ h => h) (Or.inl ⟨by rfl, fun _ _ => by go_simp⟩) HS.out ?_
            try simp only [Act.put, List.setIfInBounds_toArray, List.set_cons_succ, List.set_cons_zero]
            refine wpAnyH_take (i := 3) (oi := ⟨some 15, .move (.tmp 14), 4, _, _, none⟩) (v := .bool false) rfl (by kernel_rfl) (by kernel_rfl) (by kernel_rfl) (fun _ _ _ h => h) (Or.inl ⟨by rfl, fun _ _ => by go_simp⟩) HS.out ?_
            try simp only [Act.put, List.setIfInBounds_toArray, List.set_cons_succ, List.set_cons_zero]
            refine wpAnyH_take (i := 4) (oi := ⟨some 16, .move (.tmp 3), 3, _, _, some (3, false)⟩) (v := .int .i64 (k : Nat)) rfl (by kernel_rfl) (by kernel_rfl) (by kernel_rfl) (fun _ _ _ h => h) (Or.inl ⟨by rfl, fun _ _ => by go_simp⟩) HS.out ?_
            try simp only [Act.put, List.setIfInBounds_toArray, List.set_cons_succ, List.set_cons_zero]
            refine wpAnyH_take (i := 5) (oi := ⟨some 17, .binOp .gtr 3 (.tmp 16) (.const (.int .i64 0)) 3, 4, _, _, some (3, false)⟩) (v := .bool true) rfl (by kernel_rfl) (by kernel_rfl) (by kernel_rfl) (fun _ _ _ h => h) (Or.inl ⟨by rfl, fun _ _ => by (go_simp <;> omega)⟩) HS.out ?_
            try simp only [Act.put, List.setIfInBounds_toArray, List.set_cons_succ, List.set_cons_zero]
            refine wpAnyH_take (i := 6) (oi := ⟨some 18, .move (.tmp 17), 4, _, _, some (3, false)⟩) (v := .bool true) rfl (by kernel_rfl) (by kernel_rfl) (by kernel_rfl) (fun _ _ _ h => h) (Or.inl ⟨by rfl, fun _ _ => by go_simp⟩) HS.out ?_
            try simp only [Act.put, List.setIfInBounds_toArray, List.set_cons_succ, List.set_cons_zero]
            refine wpAnyH_take (i := 7) (oi := ⟨some 19, .fieldAddr 25 (.tmp 4) 0, _, _, _, some (6, true)⟩) (v := .pointer (some ⟨gx, 0, none⟩)) rfl (by kernel_rfl) (by kernel_rfl) (by kernel_rfl) (fun _ _ _ h => h) (Or.inl ⟨by rfl, fun _ _ => by go_simp⟩) HS.out ?_
            try simp only [Act.put, List.setIfInBounds_toArray, List.set_cons_succ, List.set_cons_zero]
            refine wpAnyH_take (i := 8) (oi := ⟨some 20, .load 23 (.tmp 19), 23, _, _, some (6, true)⟩) (v := .int .u64 (r.lo : Nat)) rfl (by kernel_rfl) (by kernel_rfl) (by kernel_rfl) (fun _ _ _ h => h) (Or.inl ⟨by rfl, fun vv hvv => yields_u64 (.tmp 19) rfl ⟨gx, 0, none⟩ rfl ((BX.out.below hvv BX.out.lt).cell 0 rfl)⟩) HS.out ?_
            try simp only [Act.put, List.setIfInBounds_toArray, List.set_cons_succ, List.set_cons_zero]
            refine wpAnyH_take (i := 9) (oi := ⟨some 21, .move (.tmp 0), 22, _, _, some (6, true)⟩) (v := .slice (some ⟨g, o, none⟩) n c) rfl (by kernel_rfl) (by kernel_rfl) (by kernel_rfl) (fun _ _ _ h => h) (Or.inl ⟨by rfl, fun _ _ => by go_simp⟩) HS.out ?_
            try simp only [Act.put, List.setIfInBounds_toArray, List.set_cons_succ, List.set_cons_zero]
            refine wpAnyH_take (i := 10) (oi := ⟨some 22, .move (.tmp 3), 3, _, _, some (6, true)⟩) (v := .int .i64 (k : Nat)) rfl (by kernel_rfl) (by kernel_rfl) (by kernel_rfl) (fun _ _ _ h => h) (Or.inl ⟨by rfl, fun _ _ => by go_simp⟩) HS.out ?_
            try simp only [Act.put, List.setIfInBounds_toArray, List.set_cons_succ, List.set_cons_zero]
            refine wpAnyH_take (i := 11) (oi := ⟨some 23, .binOp .sub 3 (.tmp 22) (.const (.int .i64 1)) 3, 3, _, _, some (6, true)⟩) (v := .int .i64 (K1 : Nat)) rfl (by kernel_rfl) (by kernel_rfl) (by kernel_rfl) (fun _ _ _ h => h) (Or.inl ⟨by rfl, fun _ _ => by go_simp⟩) HS.out ?_
            try simp only [Act.put, List.setIfInBounds_toArray, List.set_cons_succ, List.set_cons_zero]
            refine wpAnyH_take (i := 12) (oi := ⟨some 24, .indexAddr 22 (.tmp 21) (.tmp 23), _, _, _, some (6, true)⟩) (v := .pointer (some ⟨g, o + K1 * 2, none⟩)) rfl (by kernel_rfl) (by kernel_rfl) (by kernel_rfl) (fun _ _ _ h => h) (Or.inl ⟨by rfl, fun _ _ => by go_simp⟩) HS.out ?_
            try simp only [Act.put, List.setIfInBounds_toArray, List.set_cons_succ, List.set_cons_zero]
            refine wpAnyH_take (i := 13) (oi := ⟨some 25, .fieldAddr 25 (.tmp 24) 1, _, _, _, some (6, true)⟩) (v := .pointer (some ⟨g, o + K1 * 2 + 1, none⟩)) rfl (by kernel_rfl) (by kernel_rfl) (by kernel_rfl) (fun _ _ _ h => h) (Or.inl ⟨by rfl, fun _ _ => by go_simp⟩) HS.out ?_
            try simp only [Act.put, List.setIfInBounds_toArray, List.set_cons_succ, List.set_cons_zero]
            refine wpAnyH_take (i := 14) (oi := ⟨some 26, .load 23 (.tmp 25), 23, _, _, some (6, true)⟩) (v := .int .u64 (pv.hi : Nat)) rfl (by kernel_rfl) (by kernel_rfl) (by kernel_rfl) (fun _ _ _ h => h) (Or.inl ⟨by rfl, fun vv hvv => yields_u64 (.tmp 25) rfl ⟨g, o + K1 * 2 + 1, none⟩ rfl ((hvv.cell (p := ⟨g, o + K1 * 2 + 1, none⟩) HGW.out).trans CP.out)⟩) HS.out ?_
            try simp only [Act.put, List.setIfInBounds_toArray, List.set_cons_succ, List.set_cons_zero]
            refine wpAnyH_take (i := 15) (oi := ⟨some 27, .binOp .leq 23 (.tmp 20) (.tmp 26) 23, 4, _, _, some (6, true)⟩) (v := .bool false) rfl (by kernel_rfl) (by kernel_rfl) (by kernel_rfl) (fun _ _ _ h => h) (Or.inl ⟨by rfl, fun _ _ => by go_simp⟩) HS.out ?_
            try simp only [Act.put, List.setIfInBounds_toArray, List.set_cons_succ, List.set_cons_zero]
            refine wpAnyH_take (i := 16) (oi := ⟨some 28, .pick (.tmp 18) (.tmp 27) (.const (.bool false)), 4, _, _, some (3, false)⟩) (v := .bool false) rfl (by kernel_rfl) (by kernel_rfl) (by kernel_rfl) (fun _ _ _ h => h) (Or.inl ⟨by rfl, fun _ _ => by go_simp⟩) HS.out ?_
            try simp only [Act.put, List.setIfInBounds_toArray, List.set_cons_succ, List.set_cons_zero]
            refine wpAnyH_take (i := 17) (oi := ⟨some 29, .pick (.tmp 15) (.const (.bool true)) (.tmp 28), 4, _, _, none⟩) (v := .bool false) rfl (by kernel_rfl) (by kernel_rfl) (by kernel_rfl) (fun _ _ _ h => h) (Or.inl ⟨by rfl, fun _ _ => by go_simp⟩) HS.out ?_
            try simp only [Act.put, List.setIfInBounds_toArray, List.set_cons_succ, List.set_cons_zero]
            refine wpAnyH_done (by kernel_rfl) ?_ _
            have HBX := Lib.hid (HBW.out.trans (HS.out.mono HBW.out.size))
            go_wp2
            go_roundw
            case rel =>
              refine ⟨k + 1, by omega, by go_num, HBX.out, fun j hj => ?_⟩
              rcases Nat.lt_or_ge j k with h | h
              · exact HJ.out j h
              · obtain rfl : j = k := by omega
                exact HST.out
            case measure => simp [intOf]; omega
      · have HONE := Lib.hid hone
        have HM := Lib.hid (show M = false from Bool.eq_false_iff.2 fun h => hone (by rw [HRE.out]; exact ((HMM.out.1 h).1 k HKL.out).1))
        clear hone
        go_wp2_with (first | (refine wpList_load_mid rfl 25 (.tmp 10) rfl g (o + k * 2) rfl (rcl r) _ HR.out Try.underlying25 rfl size_rg ?_) | (refine wpList_store_abs rfl 25 (.tmp 4) (.tmp 11) (by rfl) wr.heap.size #[.int .u64 (r.lo : Nat), .int .u64 (r.hi : Nat)] (by rfl) (by rfl) 25 _ (Blk.new wr _ _) size_rg (by rfl) (by simp [Value.oneCell']) ?_; intro W hW hp5; have hbW := hW.below ((Below.refl _ wr).alloc (Nat.le_refl _) _) (Nat.le_refl _); have HBW := Lib.hid (HBr.out.trans (hbW.mono HBr.out.size)); have BX := Lib.hid hp5; have HGW := Lib.hid (show g < W.heap.size from Nat.lt_of_lt_of_le HGr.out hbW.size); have HW2 := Lib.hid hbW; clear hW hbW))
        generalize wr.heap.size = gx at *
        clear hp5
        refine wp_region_held_drew (S := fun w' => Below W.heap.size W w') (by kernel_rfl) (Below.refl _ _).drew (fun _ => ?_)
        have HS := Lib.hid ((Below.refl W.heap.size W).drew)
        generalize World.drew W = v0 at *
        try simp only [Act.put, List.setIfInBounds_toArray, List.set_cons_succ, List.set_cons_zero]
        refine wpAnyH_take (i := 0) (oi := ⟨some 12, .load 25 (.tmp 4), 25, _, _, none⟩) (v := .agg #[.int .u64 (r.lo : Nat), .int .u64 (r.hi : Nat)]) rfl (by kernel_rfl) (by kernel_rfl) (by kernel_rfl) (fun _ _ _ h => h) (Or.inl ⟨by rfl, fun vv hvv => yields_agg 25 (.tmp 4) rfl gx rfl (BX.out.below hvv BX.out.lt) _ Try.underlying25 rfl size_rg⟩) HS.out ?_
        try simp only [Act.put, List.setIfInBounds_toArray, List.set_cons_succ, List.set_cons_zero]
        refine wpAnyH_ready (rs := [1]) (by kernel_rfl) (by simp) ?_
        refine AllReadyH.cons (o := ⟨some 13, .call { callee := .value (.func 18), args := #[.tmp 12], argTypes := #[25] }, 4, _, _, none⟩) rfl (fun K hK => ?_) AllReadyH.nil
        go_simp
        refine (rone_walk r v0).mono ?_
        rintro e v1 ⟨he, hb⟩
        rw [decide_eq_false HONE.out] at he
        subst he
        have HS := Lib.hid (HS.out.trans (hb.mono HS.out.size))
        clear hb
        refine hK _ _ HS.out (fun _ => ?_)
        clear hK K
        try simp only [Act.put, List.setIfInBounds_toArray, List.set_cons_succ, List.set_cons_zero]
        refine wpAnyH_take (i := 2) (oi := ⟨some 14, .unOp .not 4 (.tmp 13), 4, _, _, none⟩) (v := .bool true) rfl (by kernel_rfl) (by kernel_rfl) (by kernel_rfl) (fun _ _ _ h => h) (Or.inl ⟨by rfl, fun _ _ => by go_simp⟩) HS.out ?_
        try simp only [Act.put, List.setIfInBounds_toArray, List.set_cons_succ, List.set_cons_zero]
        refine wpAnyH_take (i := 3) (oi := ⟨some 15, .move (.tmp 14), 4, _, _, none⟩) (v := .bool true) rfl (by kernel_rfl) (by kernel_rfl) (by kernel_rfl) (fun _ _ _ h => h) (Or.inl ⟨by rfl, fun _ _ => by go_simp⟩) HS.out ?_
        try simp only [Act.put, List.setIfInBounds_toArray, List.set_cons_succ, List.set_cons_zero]
        refine wpAnyH_take (i := 4) (oi := ⟨some 16, .move (.tmp 3), 3, _, _, some (3, false)⟩) (v := undef) rfl (by kernel_rfl) (by kernel_rfl) (by kernel_rfl) (fun _ _ _ h => h) (Or.inr ⟨by rfl, rfl⟩) HS.out ?_
        try simp only [Act.put, List.setIfInBounds_toArray, List.set_cons_succ, List.set_cons_zero]
        refine wpAnyH_take (i := 5) (oi := ⟨some 17, .binOp .gtr 3 (.tmp 16) (.const (.int .i64 0)) 3, 4, _, _, some (3, false)⟩) (v := undef) rfl (by kernel_rfl) (by kernel_rfl) (by kernel_rfl) (fun _ _ _ h => h) (Or.inr ⟨by rfl, rfl⟩) HS.out ?_
        try simp only [Act.put, List.setIfInBounds_toArray, List.set_cons_succ, List.set_cons_zero]
        refine wpAnyH_take (i := 6) (oi := ⟨some 18, .move (.tmp 17), 4, _, _, some (3, false)⟩) (v := undef) rfl (by kernel_rfl) (by kernel_rfl) (by kernel_rfl) (fun _ _ _ h => h) (Or.inr ⟨by rfl, rfl⟩) HS.out ?_
        try simp only [Act.put, List.setIfInBounds_toArray, List.set_cons_succ, List.set_cons_zero]
        refine wpAnyH_take (i := 7) (oi := ⟨some 19, .fieldAddr 25 (.tmp 4) 0, _, _, _, some (6, true)⟩) (v := undef) rfl (by kernel_rfl) (by kernel_rfl) (by kernel_rfl) (fun _ _ _ h => h) (Or.inr ⟨by rfl, rfl⟩) HS.out ?_
        try simp only [Act.put, List.setIfInBounds_toArray, List.set_cons_succ, List.set_cons_zero]
        refine wpAnyH_take (i := 8) (oi := ⟨some 20, .load 23 (.tmp 19), 23, _, _, some (6, true)⟩) (v := undef) rfl (by kernel_rfl) (by kernel_rfl) (by kernel_rfl) (fun _ _ _ h => h) (Or.inr ⟨by rfl, rfl⟩) HS.out ?_
        try simp only [Act.put, List.setIfInBounds_toArray, List.set_cons_succ, List.set_cons_zero]
        refine wpAnyH_take (i := 9) (oi := ⟨some 21, .move (.tmp 0), 22, _, _, some (6, true)⟩) (v := undef) rfl (by kernel_rfl) (by kernel_rfl) (by kernel_rfl) (fun _ _ _ h => h) (Or.inr ⟨by rfl, rfl⟩) HS.out ?_
        try simp only [Act.put, List.setIfInBounds_toArray, List.set_cons_succ, List.set_cons_zero]
        refine wpAnyH_take (i := 10) (oi := ⟨some 22, .move (.tmp 3), 3, _, _, some (6, true)⟩) (v := undef) rfl (by kernel_rfl) (by kernel_rfl) (by kernel_rfl) (fun _ _ _ h => h) (Or.inr ⟨by rfl, rfl⟩) HS.out ?_
        try simp only [Act.put, List.setIfInBounds_toArray, List.set_cons_succ, List.set_cons_zero]
        refine wpAnyH_take (i := 11) (oi := ⟨some 23, .binOp .sub 3 (.tmp 22) (.const (.int .i64 1)) 3, 3, _, _, some (6, true)⟩) (v := undef) rfl (by kernel_rfl) (by kernel_rfl) (by kernel_rfl) (fun _ _ _ h => h) (Or.inr ⟨by rfl, rfl⟩) HS.out ?_
        try simp only [Act.put, List.setIfInBounds_toArray, List.set_cons_succ, List.set_cons_zero]
        refine wpAnyH_take (i := 12) (oi := ⟨some 24, .indexAddr 22 (.tmp 21) (.tmp 23), _, _, _, some (6, true)⟩) (v := undef) rfl (by kernel_rfl) (by kernel_rfl) (by kernel_rfl) (fun _ _ _ h => h) (Or.inr ⟨by rfl, rfl⟩) HS.out ?_
        try simp only [Act.put, List.setIfInBounds_toArray, List.set_cons_succ, List.set_cons_zero]
        refine wpAnyH_take (i := 13) (oi := ⟨some 25, .fieldAddr 25 (.tmp 24) 1, _, _, _, some (6, true)⟩) (v := undef) rfl (by kernel_rfl) (by kernel_rfl) (by kernel_rfl) (fun _ _ _ h => h) (Or.inr ⟨by rfl, rfl⟩) HS.out ?_
        try simp only [Act.put, List.setIfInBounds_toArray, List.set_cons_succ, List.set_cons_zero]
        refine wpAnyH_take (i := 14) (oi := ⟨some 26, .load 23 (.tmp 25), 23, _, _, some (6, true)⟩) (v := undef) rfl (by kernel_rfl) (by kernel_rfl) (by kernel_rfl) (fun _ _ _ h => h) (Or.inr ⟨by rfl, rfl⟩) HS.out ?_
        try simp only [Act.put, List.setIfInBounds_toArray, List.set_cons_succ, List.set_cons_zero]
        refine wpAnyH_take (i := 15) (oi := ⟨some 27, .binOp .leq 23 (.tmp 20) (.tmp 26) 23, 4, _, _, some (6, true)⟩) (v := undef) rfl (by kernel_rfl) (by kernel_rfl) (by kernel_rfl) (fun _ _ _ h => h) (Or.inr ⟨by rfl, rfl⟩) HS.out ?_
        try simp only [Act.put, List.setIfInBounds_toArray, List.set_cons_succ, List.set_cons_zero]
        refine wpAnyH_take (i := 16) (oi := ⟨some 28, .pick (.tmp 18) (.tmp 27) (.const (.bool false)), 4, _, _, some (3, false)⟩) (v := undef) rfl (by kernel_rfl) (by kernel_rfl) (by kernel_rfl) (fun _ _ _ h => h) (Or.inr ⟨by rfl, rfl⟩) HS.out ?_
        try simp only [Act.put, List.setIfInBounds_toArray, List.set_cons_succ, List.set_cons_zero]
        refine wpAnyH_take (i := 17) (oi := ⟨some 29, .pick (.tmp 15) (.const (.bool true)) (.tmp 28), 4, _, _, none⟩) (v := .bool true) rfl (by kernel_rfl) (by kernel_rfl) (by kernel_rfl) (fun _ _ _ h => h) (Or.inl ⟨by rfl, fun _ _ => by go_simp⟩) HS.out ?_
        try simp only [Act.put, List.setIfInBounds_toArray, List.set_cons_succ, List.set_cons_zero]
        refine wpAnyH_done (by kernel_rfl) ?_ _
        go_wp2
        go_ret
        exact ⟨by show Ending.returned (.bool false) = _; rw [HM.out], HBW.out.trans (HS.out.mono HBW.out.size)⟩
    · have HK := Lib.hid (show k = n by omega)
      have HB := Lib.hid hb
      clear hb
      have HF := Lib.hid (show M = decide ((n : Int) ≤ 64) by
        by_cases q : n ≤ 64
        · rw [decide_eq_true (show (n : Int) ≤ 64 by omega)]
          exact HMM.out.2 ⟨fun i hi => HJ.out i (by have := HK.out; have := HN.out; omega), by have := HN.out; omega⟩
        · rw [decide_eq_false (show ¬ (n : Int) ≤ 64 by omega)]
          exact Bool.eq_false_iff.2 fun h => by have := (HMM.out.1 h).2; have := HN.out; omega)
      go_wp2
      go_ret
      exact ⟨by show Ending.returned (.bool (decide ((n : Int) ≤ 64))) = _; rw [HF.out], HB.out⟩
end Go.Proofs.Ytajjbffppkpjpaa
