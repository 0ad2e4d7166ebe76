import Derived.Test.YtgbahfggnbpnmaaDoorBits
/-
  The reference's Xor.
-/
namespace Go.Proofs.YtgbahfggnbpnmaaDoor
open Go.RowKit
theorem yields_bool {o : Oper} {a : Act} {w : World} (x : Operand) (ho : o.op = .load 4 x) (p : Addr) (hx : a.eval x = .pointer (some p)) {b : Bool} (hc : w.cell? p = some (.bool b)) : (execOp a.eval o).run Tryd.prog w = .ok (.value (.bool b)) w := by
  unfold execOp
  simp only [ho, hx]
  go_simp
set_option maxRecDepth 100000 in
set_option maxHeartbeats 1000000 in
theorem xor_walk (l l2 : List UInt8) (a b : Option Addr) (n c m d : Nat) (hnm : n = m) (hn : n ≤ 1048576) (w : World) (hA : Txt w a n c l) (hB : Txt w b m d l2) :
    Calls Tryd.prog 51 #[.slice a n c, .slice b m d] w fun e w' => ∃ a' c', e = .returned (.slice a' n c') ∧ Txt w' a' n c' (xorL l l2) ∧ Below w.heap.size w w' := by
  subst hnm
  have HA := Lib.hid hA
  have HB0 := Lib.hid hB
  have HLE := Lib.hid (show l.length = l2.length by rw [← hA.len, ← hB.len])
  have HLN := Lib.hid hA.len
  clear hA hB
  go_enter Tryd.func51, Tryd.ntmps51
  go_wp2_with fail
  refine (bits_walk l a n c hn w HA.out).mono ?_
  rintro e w1 ⟨a1, c1, rfl, hO1, hb1⟩
  obtain ⟨N, hN⟩ : ∃ N, N = 8 * n := ⟨_, rfl⟩
  rw [← hN] at hO1
  have eN : (8 * (n : Int)) = (N : Int) := by omega
  have R1 := Lib.hid hO1.reads
  have HB1 := Lib.hid (HB0.out.on hb1)
  have HW1 := Lib.hid hb1
  have HN := Lib.hid hN
  clear hO1 hb1
  rw [← hN]
  go_wp2_with fail
  refine (bits_walk l2 b n d hn w1 HB1.out).mono ?_
  rintro e w2 ⟨a2, c2, rfl, hO2, hb2⟩
  rw [← hN] at hO2
  have R2 := Lib.hid hO2.reads
  have R1' := Lib.hid (R1.out.on hb2)
  have HW2 := Lib.hid (HW1.out.trans (hb2.mono HW1.out.size))
  rw [← hN]
  have hNb : N ≤ 8388608 := by omega
  clear hO2 hb2 R1 HW1 HB1 hN eN
  go_wp2
  obtain ⟨C, hC⟩ : ∃ C, C = xorL l l2 := ⟨_, rfl⟩
  have HC := Lib.hid hC
  have HCL := Lib.hid (show C.length = n by rw [hC, xorL_len _ _ HLE.out, ← HLN.out])
  clear hC
  go_loopw [7, 16] (fun xx i wr => ∃ (k z : Nat) (ao : Option Addr) (co : Nat), k ≤ N ∧ i = .int .i64 (k : Nat) ∧ xx = .slice ao z co ∧ Hid (z = k) ∧ OwnL wr w2.heap.size (.slice ao z co) (bitsTo C k) ∧ Below w2.heap.size w2 wr) (fun _ i _ => N - (intOf i).toNat)
  case atStart => exact ⟨0, 0, _, _, Nat.zero_le _, rfl, rfl, rfl, OwnL.made w2, below_one' w2 _⟩
  case round =>
    obtain ⟨k, z, ao, co, hk, rfl, rfl, HZ, hO, hb⟩ := hrel
    have HO := Lib.hid hO
    have HB := Lib.hid hb
    clear hO hb
    by_cases hlt : k < N
    · have HKN := Lib.hid hlt
      obtain ⟨ga, rfl, hga, hca⟩ := R1'.out k hlt
      obtain ⟨gb, rfl, hgb, hcb⟩ := R2.out k hlt
      obtain ⟨x, hx⟩ : ∃ x, x = bitAt l k := ⟨_, rfl⟩
      obtain ⟨y, hy⟩ : ∃ y, y = bitAt l2 k := ⟨_, rfl⟩
      rw [← hx] at hca
      rw [← hy] at hcb
      have HBIT := Lib.hid (show bitAt C k = (x != y) by rw [HC.out, bitAt_xor l l2 HLE.out k (by have := HN.out; have := HLN.out; omega), hx, hy])
      have Gga := Lib.hid hga
      have Ggb := Lib.hid hgb
      have Cga := Lib.hid hca
      have Cgb := Lib.hid hcb
      clear hx hy hga hgb hca hcb
      go_wp2
      refine wp_region_held_drew (S := fun w' => Below w2.heap.size w2 w') (by kernel_rfl) HB.out.drew (fun _ => ?_)
      have HS := Lib.hid (HB.out.drew)
      have hb : Below wr.heap.size wr (World.drew wr) := (Below.refl _ _).drew
      have HO := Lib.hid (HO.out.on hb)
      clear hb HB
      generalize World.drew wr = v0 at *
      refine wpAnyH_take (i := 0) (oi := ⟨some 19, .move (.tmp 7), 48, _, _, none⟩) (v := .slice ao z co) rfl (by kernel_rfl) (by kernel_rfl) (by kernel_rfl) (fun _ _ _ h => h) (Or.inl ⟨by rfl, fun _ _ => by go_simp⟩) HS.out ?_
      refine wpAnyH_take (i := 1) (oi := ⟨some 20, .move (.tmp 5), 48, _, _, none⟩) (v := .slice (some ⟨ga, 0, none⟩) N c1) rfl (by kernel_rfl) (by kernel_rfl) (by kernel_rfl) (fun _ _ _ h => h) (Or.inl ⟨by rfl, fun _ _ => by go_simp⟩) HS.out ?_
      refine wpAnyH_take (i := 2) (oi := ⟨some 21, .move (.tmp 8), 3, _, _, none⟩) (v := .int .i64 (k : Nat)) rfl (by kernel_rfl) (by kernel_rfl) (by kernel_rfl) (fun _ _ _ h => h) (Or.inl ⟨by rfl, fun _ _ => by go_simp⟩) HS.out ?_
      refine wpAnyH_take (i := 3) (oi := ⟨some 22, .indexAddr 48 (.tmp 20) (.tmp 21), _, _, _, none⟩) (v := .pointer (some ⟨ga, k, none⟩)) rfl (by kernel_rfl) (by kernel_rfl) (by kernel_rfl) (fun _ _ _ h => h) (Or.inl ⟨by rfl, fun _ _ => by go_simp⟩) HS.out ?_
      try simp only [Act.put, List.setIfInBounds_toArray, List.set_cons_succ, List.set_cons_zero]
      refine wpAnyH_take (i := 4) (oi := ⟨some 23, .load 4 (.tmp 22), 4, _, _, none⟩) (v := .bool x) rfl (by kernel_rfl) (by kernel_rfl) (by kernel_rfl) (fun _ _ _ h => h) (Or.inl ⟨by rfl, fun vv hvv => yields_bool (.tmp 22) rfl ⟨ga, k, none⟩ rfl ((hvv.cell (p := ⟨ga, k, none⟩) Gga.out).trans Cga.out)⟩) HS.out ?_
      refine wpAnyH_take (i := 5) (oi := ⟨some 24, .move (.tmp 6), 48, _, _, none⟩) (v := .slice (some ⟨gb, 0, none⟩) N c2) rfl (by kernel_rfl) (by kernel_rfl) (by kernel_rfl) (fun _ _ _ h => h) (Or.inl ⟨by rfl, fun _ _ => by go_simp⟩) HS.out ?_
      refine wpAnyH_take (i := 6) (oi := ⟨some 25, .move (.tmp 8), 3, _, _, none⟩) (v := .int .i64 (k : Nat)) rfl (by kernel_rfl) (by kernel_rfl) (by kernel_rfl) (fun _ _ _ h => h) (Or.inl ⟨by rfl, fun _ _ => by go_simp⟩) HS.out ?_
      refine wpAnyH_take (i := 7) (oi := ⟨some 26, .indexAddr 48 (.tmp 24) (.tmp 25), _, _, _, none⟩) (v := .pointer (some ⟨gb, k, none⟩)) rfl (by kernel_rfl) (by kernel_rfl) (by kernel_rfl) (fun _ _ _ h => h) (Or.inl ⟨by rfl, fun _ _ => by go_simp⟩) HS.out ?_
      try simp only [Act.put, List.setIfInBounds_toArray, List.set_cons_succ, List.set_cons_zero]
      refine wpAnyH_take (i := 8) (oi := ⟨some 27, .load 4 (.tmp 26), 4, _, _, none⟩) (v := .bool y) rfl (by kernel_rfl) (by kernel_rfl) (by kernel_rfl) (fun _ _ _ h => h) (Or.inl ⟨by rfl, fun vv hvv => yields_bool (.tmp 26) rfl ⟨gb, k, none⟩ rfl ((hvv.cell (p := ⟨gb, k, none⟩) Ggb.out).trans Cgb.out)⟩) HS.out ?_
      refine wpAnyH_take (i := 9) (oi := ⟨some 28, .binOp .neq 4 (.tmp 23) (.tmp 27) 4, 4, _, _, none⟩) (v := .bool (x != y)) rfl (by kernel_rfl) (by kernel_rfl) (by kernel_rfl) (fun _ _ _ h => h) (Or.inl ⟨by rfl, fun _ _ => by (go_simp; cases x <;> cases y <;> rfl)⟩) HS.out ?_
      try simp only [Act.put, List.setIfInBounds_toArray, List.set_cons_succ, List.set_cons_zero]
      refine wpAnyH_ready (rs := [10]) (by kernel_rfl) (by simp) ?_
      refine AllReadyH.cons (o := ⟨some 29, .buildSlice 48 1 #[(0, .tmp 28)], 48, _, _, none⟩) rfl (fun K hK => ?_) AllReadyH.nil
      go_simp
      have BJ := Blk.new v0 #[.bool (x != y)] 4
      have hb := below_one' v0 (.cells #[.bool (x != y)] 4)
      generalize World.alloc v0 _ = v1 at *
      have HO := Lib.hid (HO.out.on hb)
      have HS := Lib.hid (HS.out.trans (hb.mono HS.out.size))
      replace BJ := Lib.hid BJ
      clear hb
      refine hK _ _ HS.out (fun _ => ?_)
      clear hK K
      try simp only [Act.put, List.setIfInBounds_toArray, List.set_cons_succ, List.set_cons_zero]
      refine wpAnyH_ready (rs := [11]) (by kernel_rfl) (by simp) ?_
      refine AllReadyH.cons (o := ⟨some 30, .call { callee := .builtin .append, args := #[.tmp 19, .tmp 29], argTypes := #[48, 48] }, 48, _, _, none⟩) rfl (fun K hK => ?_) AllReadyH.nil
      rw [if_pos (by rfl)]
      refine wp_append_bool (.tmp 19) (.tmp 29) (by rfl) w2.heap.size (.slice ao z co) (bitsTo C k) (by rfl) HO.out _ (x != y) (by rfl) (BJ.out.cell 0 rfl) (by rw [bitsTo_len]; omega) HS.out.size ?_
      intro a9 n9 c9 v2 hO9 hg9
      have HS9 := Lib.hid (below_ownL HS.out HO.out HS.out.size hg9)
      have HO9 := Lib.hid hO9
      refine hK _ _ HS9.out (fun _ => ?_)
      clear hK K hg9 hO9 HO BJ HS
      refine wpAnyH_take (i := 12) (oi := ⟨some 7, .assign (.tmp 30), 48, _, _, none⟩) (v := .slice a9 n9 c9) rfl (by kernel_rfl) (by kernel_rfl) (by kernel_rfl) (fun _ _ _ h => h) (Or.inl ⟨by rfl, fun _ _ => by go_simp⟩) HS9.out ?_
      try simp only [Act.put, List.setIfInBounds_toArray, List.set_cons_succ, List.set_cons_zero]
      refine wpAnyH_done (by kernel_rfl) ?_ _
      go_wp2
      go_roundw
      case rel =>
        have e9 : n9 = k + 1 := by
          obtain ⟨a', c', e, _⟩ := HO9.out.form
          simp only [Value.slice.injEq] at e
          rw [e.2.1, List.length_append, bitsTo_len]; rfl
        refine ⟨k + 1, n9, a9, c9, by have := HKN.out; omega, by go_num, rfl, e9, ?_, HS9.out⟩
        have h := HO9.out
        rw [show (x != y) = bitAt C k from HBIT.out.symm] at h
        rw [← bitsTo_succ] at h
        exact h
      case measure => simp [intOf]; omega
    · have HK := Lib.hid (show k = N by omega)
      obtain rfl : z = N := by have := HZ.out; have := HK.out; omega
      have HR := Lib.hid (by have h := HO.out; rw [HK.out] at h; exact h.reads)
      go_wp2_with fail
      refine (frombits_walk C ao z co n HN.out HCL.out.symm hn wr HR.out).mono ?_
      rintro e w5 ⟨a5, c5, rfl, hO5, hb5⟩
      have HT5 := Lib.hid hO5.txt
      have HB5 := Lib.hid (HW2.out.trans ((HB.out.trans (hb5.mono HB.out.size)).mono HW2.out.size))
      clear hO5 hb5
      go_wp2
      go_ret
      refine ⟨a5, c5, rfl, ?_, HB5.out⟩
      rw [← HC.out]
      exact HT5.out
end Go.Proofs.YtgbahfggnbpnmaaDoor
