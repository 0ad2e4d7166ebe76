import Derived.Test.YtajjbffppkpjpaaSpanE
/-
  The walks of liverylaw19.covered and SpanCounts.
-/
namespace Go.Proofs.Ytajjbffppkpjpaa
open Go.RowKit
set_option maxRecDepth 100000 in
set_option maxHeartbeats 1000000 in
theorem covered_walk (l : List Rg) (r : Rg) (m : Nat) (a : Option Addr) (n c : Nat) (w : World) (hL : RgsIn w a n c l) (hM : MayP l) (hR : oneP r) (Q : Bool) (hQ : Q = true ↔ count (bothP l [r]) = m) :
    Calls Try.prog 24 #[.slice a n c, rag r, .int .u64 (m : Nat)] w fun e w' => e = .returned (.bool Q) ∧ Below w.heap.size w w' := by
  have hb := below_two2 w (.cells (rcb r) 25) (.cells (rcb r) 25)
  have HL := Lib.hid (hL.on hb)
  have HLr := Lib.hid (RgsIn.blk (l := [r]) (Blk.new' (w.alloc (.cells (rcb r) 25)) (rcb r) 25 (g := w.heap.size + 1) (by simp)) (by simp [rcs, rcl]) 1 rfl (by simp [maxLen]) hR.may.b64)
  have HB := Lib.hid hb
  have HM := Lib.hid hM
  have HR := Lib.hid hR
  have HQ := Lib.hid hQ
  clear hL hb hQ hM hR
  go_enter Try.func24, Try.ntmps24
  go_wp2_with fail
  refine (meet_walk l [r] a n c _ 1 1 _ HL.out HLr.out).mono ?_
  rintro e w2 ⟨v2, z2, rfl, hO, hz, hb2⟩
  have hm := meetR_may l [r]
  rw [meetR_one HM.out HR.out] at hO hz hm
  obtain ⟨pa, ca, rfl, _⟩ := hO.form
  obtain rfl : z2 = 0 := hz
  have HB2 := Lib.hid (HB.out.trans (hb2.mono HB.out.size))
  have HV := Lib.hid (hO.set hm)
  have HCN := Lib.hid (show countR (bothP l [r]) = count (bothP l [r]) from if_pos hm)
  clear hO hb2 hm
  go_wp2_with fail
  refine (count_walk _ _ _ _ _ HV.out).mono ?_
  rintro e w3 ⟨rfl, hb3⟩
  rw [HCN.out]
  have HB3 := Lib.hid (HB2.out.trans (hb3.mono HB2.out.size))
  clear hb3
  by_cases hq : count (bothP l [r]) = m
  · have g : ((count (bothP l [r]) : Nat) : Int) = (m : Int) := by rw [hq]
    obtain rfl : Q = true := HQ.out.2 hq
    clear hq
    go_wp2
    go_ret
    exact ⟨rfl, HB3.out⟩
  · have g : ¬ ((count (bothP l [r]) : Nat) : Int) = (m : Int) := by omega
    obtain rfl : Q = false := by
      cases Q with
      | false => rfl
      | true => exact absurd (HQ.out.1 rfl) hq
    clear hq
    go_wp2
    go_ret
    exact ⟨by first | rfl | (simp [g]) | (simp; omega), HB3.out⟩
set_option maxRecDepth 100000 in
set_option maxHeartbeats 4000000 in
theorem spancounts_walk (l : List Rg) (r : Rg) (a : Option Addr) (n c : Nat) (w : World) (hL : RgsIn w a n c l) :
    Calls Try.prog 3 #[.slice a n c, rag r] w fun e w' => e = .returned (.bool true) ∧ Below w.heap.size w w' := by
  have hb := below_one1 w (.cells (rcb r) 25)
  have HL := Lib.hid (hL.on hb)
  have BG := Lib.hid (Blk.new w (rcb r) 25)
  have HB := Lib.hid hb
  obtain ⟨M, h1⟩ := bool_of (MayP l)
  have H1 := Lib.hid h1
  clear hL hb h1
  go_enter Try.func3, Try.ntmps3
  go_wp2_with fail
  refine (live19_walk _).mono ?_
  rintro e w2 ⟨rfl, hb2⟩
  have HB2 := Lib.hid (HB.out.trans (hb2.mono HB.out.size))
  have HL2 := Lib.hid (HL.out.on hb2)
  have BG2 := Lib.hid (BG.out.on hb2)
  clear hb2 HL BG HB
  go_wp2_with fail
  refine (may_walkR l a n c _ HL2.out M H1.out).mono ?_
  rintro e w3 ⟨rfl, hb3⟩
  have HBx := Lib.hid (HB2.out.trans (hb3.mono HB2.out.size))
  have HL3 := Lib.hid (HL2.out.on hb3)
  have BG3 := Lib.hid (BG2.out.on hb3)
  clear hb3 HL2 BG2 HB2
  cases M with
  | false =>
    go_wp2_with fail
    refine (live19_walk _).mono ?_
    rintro e w9 ⟨rfl, hb9⟩
    have HB9 := Lib.hid (HBx.out.trans (hb9.mono HBx.out.size))
    clear hb9
    go_wp2
    go_ret
    exact ⟨rfl, HB9.out⟩
  | true =>
    have HMAY := Lib.hid (H1.out.1 rfl)
    have b0 := BG3.out.cell 0 rfl
    have b1 := BG3.out.cell 1 rfl
    go_wp2_with fail
    refine (rone_walk r _).mono ?_
    rintro e W ⟨he, hb4⟩
    have HBW := Lib.hid (HBx.out.trans (hb4.mono HBx.out.size))
    have HL := Lib.hid (HL3.out.on hb4)
    have BG := Lib.hid (BG3.out.on hb4)
    clear hb4 b0 b1 HL3 BG3 HBx
    by_cases ho : oneP r
    · rw [decide_eq_true ho] at he
      subst he
      have HONE := Lib.hid ho
      obtain ⟨q, hq⟩ : ∃ q, q = count l := ⟨_, rfl⟩
      obtain ⟨m, hm⟩ : ∃ m, m = r.hi - r.lo := ⟨_, rfl⟩
      have HQM := Lib.hid (show q = count l ∧ m = r.hi - r.lo from ⟨hq, hm⟩)
      have HQ60 := Lib.hid (show q ≤ 1152921504606846976 by rw [hq]; exact HMAY.out.count_le)
      have HCN := Lib.hid (show countR l = q by rw [hq]; exact if_pos HMAY.out)
      have HGE := Lib.hid (show covP l r → m ≤ q from fun h => by rw [hm, hq]; exact count_ge HMAY.out.1 (show r.pos from ho.1) HMAY.out.2.1 ho.2 h)
      have HCV := Lib.hid (show covP l r ↔ count (bothP l [r]) = m by rw [hm]; exact covers_count HMAY.out.1 (show r.pos from ho.1) HMAY.out.2.1 ho.2)
      have HCC := Lib.hid (show count (belowP l r.hi) + count (aboveP l r.hi) = q by rw [hq]; exact count_cut HMAY.out.1 r.hi HMAY.out.2.1)
      have gr1 : (r.lo : Int) < (r.hi : Int) := by have := ho.1; omega
      have gr2 : (r.hi : Int) ≤ 1152921504606846976 := by have := ho.2; unfold maxIx at this; omega
      have gw : IntKind.u64.wrap ((r.hi : Int) - (r.lo : Int)) = (m : Int) := by rw [hm, IntKind.wrap_u64]; omega
      have hm60 : m ≤ 1152921504606846976 := by omega
      have gs : IntKind.u64.wrap ((q : Int) + (m : Int)) = ((q + m : Nat) : Int) := by have := HQ60.out; rw [IntKind.wrap_u64]; omega
      clear hq ho hm hm60
      have BG0 := Lib.hid BG.out
      go_wp2_with fail
      refine wp_region_held_drew (S := fun w' => Below W.heap.size W w') (by kernel_rfl) (Below.refl _ _).drew (fun _ => ?_)
      have HS := Lib.hid ((Below.refl W.heap.size W).drew)
      have HL := Lib.hid (HL.out.on (HS.out))
      have BG := Lib.hid (BG.out.on (HS.out))
      have HBW := Lib.hid (HBW.out.trans ((HS.out).mono HBW.out.size))
      generalize World.drew W = v0 at *
      try simp only [Act.put, List.setIfInBounds_toArray, List.set_cons_succ, List.set_cons_zero]
      refine wpAnyH_take (i := 0) (oi := ⟨some 26, .move (.tmp 0), 22, _, _, none⟩) (v := .slice a n c) rfl (by kernel_rfl) (by kernel_rfl) (by kernel_rfl) (fun _ _ _ h => h) (Or.inl ⟨by rfl, fun _ _ => by go_simp⟩) HS.out ?_
      try simp only [Act.put, List.setIfInBounds_toArray, List.set_cons_succ, List.set_cons_zero]
      refine wpAnyH_take (i := 2) (oi := ⟨some 28, .fieldAddr 25 (.tmp 3) 1, _, _, _, none⟩) (v := .pointer (some ⟨w.heap.size, 1, none⟩)) rfl (by kernel_rfl) (by kernel_rfl) (by kernel_rfl) (fun _ _ _ h => h) (Or.inl ⟨by rfl, fun _ _ => by go_simp⟩) HS.out ?_
      try simp only [Act.put, List.setIfInBounds_toArray, List.set_cons_succ, List.set_cons_zero]
      refine wpAnyH_take (i := 3) (oi := ⟨some 29, .load 23 (.tmp 28), 23, _, _, none⟩) (v := .int .u64 (r.hi : Nat)) rfl (by kernel_rfl) (by kernel_rfl) (by kernel_rfl) (fun _ _ _ h => h) (Or.inl ⟨by rfl, fun vv hvv => yields_u64 (.tmp 28) rfl ⟨w.heap.size, 1, none⟩ rfl ((BG0.out.below hvv BG0.out.lt).cell 1 rfl)⟩) HS.out ?_
      try simp only [Act.put, List.setIfInBounds_toArray, List.set_cons_succ, List.set_cons_zero]
      refine wpAnyH_take (i := 4) (oi := ⟨some 30, .fieldAddr 25 (.tmp 3) 0, _, _, _, none⟩) (v := .pointer (some ⟨w.heap.size, 0, none⟩)) rfl (by kernel_rfl) (by kernel_rfl) (by kernel_rfl) (fun _ _ _ h => h) (Or.inl ⟨by rfl, fun _ _ => by go_simp⟩) HS.out ?_
      try simp only [Act.put, List.setIfInBounds_toArray, List.set_cons_succ, List.set_cons_zero]
      refine wpAnyH_take (i := 5) (oi := ⟨some 31, .load 23 (.tmp 30), 23, _, _, none⟩) (v := .int .u64 (r.lo : Nat)) rfl (by kernel_rfl) (by kernel_rfl) (by kernel_rfl) (fun _ _ _ h => h) (Or.inl ⟨by rfl, fun vv hvv => yields_u64 (.tmp 30) rfl ⟨w.heap.size, 0, none⟩ rfl ((BG0.out.below hvv BG0.out.lt).cell 0 rfl)⟩) HS.out ?_
      try simp only [Act.put, List.setIfInBounds_toArray, List.set_cons_succ, List.set_cons_zero]
      refine wpAnyH_take (i := 6) (oi := ⟨some 32, .binOp .sub 23 (.tmp 29) (.tmp 31) 23, 23, _, _, none⟩) (v := .int .u64 (m : Nat)) rfl (by kernel_rfl) (by kernel_rfl) (by kernel_rfl) (fun _ _ _ h => h) (Or.inl ⟨by rfl, fun _ _ => by go_simp⟩) HS.out ?_
      try simp only [Act.put, List.setIfInBounds_toArray, List.set_cons_succ, List.set_cons_zero]
      refine wpAnyH_ready (rs := [1]) (by kernel_rfl) (by simp) ?_
      refine AllReadyH.cons (o := ⟨some 27, .call { callee := .value (.func 19), args := #[.tmp 26], argTypes := #[22] }, 23, _, _, none⟩) rfl (fun K hK => ?_) AllReadyH.nil
      go_simp
      refine (count_walk l a n c v0 HL.out).mono ?_
      rintro e v1 ⟨rfl, hb⟩
      rw [HCN.out]
      have HL := Lib.hid (HL.out.on hb)
      have BG := Lib.hid (BG.out.on hb)
      have HBW := Lib.hid (HBW.out.trans (hb.mono HBW.out.size))
      have HS := Lib.hid (HS.out.trans (hb.mono HS.out.size))
      clear hb
      refine hK _ _ HS.out (fun _ => ?_)
      clear hK K
      try simp only [Act.put, List.setIfInBounds_toArray, List.set_cons_succ, List.set_cons_zero]
      refine wpAnyH_take (i := 7) (oi := ⟨some 5, .assign (.tmp 27), 23, _, _, none⟩) (v := .int .u64 (q : Nat)) rfl (by kernel_rfl) (by kernel_rfl) (by kernel_rfl) (fun _ _ _ h => h) (Or.inl ⟨by rfl, fun _ _ => by go_simp⟩) HS.out ?_
      try simp only [Act.put, List.setIfInBounds_toArray, List.set_cons_succ, List.set_cons_zero]
      refine wpAnyH_take (i := 8) (oi := ⟨some 6, .assign (.tmp 32), 23, _, _, none⟩) (v := .int .u64 (m : Nat)) rfl (by kernel_rfl) (by kernel_rfl) (by kernel_rfl) (fun _ _ _ h => h) (Or.inl ⟨by rfl, fun _ _ => by go_simp⟩) HS.out ?_
      try simp only [Act.put, List.setIfInBounds_toArray, List.set_cons_succ, List.set_cons_zero]
      refine wpAnyH_done (by kernel_rfl) ?_ _
      have b0 := BG.out.cell 0 rfl
      have b1 := BG.out.cell 1 rfl
      have HB := Lib.hid HBW.out
      clear HS HBW
      go_wp2_with fail
      refine (add_walk l r a n c _ HL.out).mono ?_
      rintro e w4 ⟨v4, z4, rfl, hO4, hz4, hb4⟩
      have HB4 := Lib.hid (HB.out.trans (hb4.mono HB.out.size))
      have HL4 := Lib.hid (HL.out.on hb4)
      have BG4 := Lib.hid (BG.out.on hb4)
      have HO4 := Lib.hid hO4
      obtain ⟨pa4, ca4, rfl, _⟩ := hO4.form
      clear hO4 hb4 b0 b1
      have b0 := BG4.out.cell 0 rfl
      have b1 := BG4.out.cell 1 rfl
      by_cases hz : (addR l r).2 = 0
      · have HKM := Lib.hid (addR_may l r)
        have HCK := Lib.hid (show countR (addR l r).1 = q + m by
          obtain ⟨k1, k2, k3, k4, k5⟩ := addR_ok (pair_eta hz)
          rw [countR, if_pos k5, k4, HQM.out.1, HQM.out.2]
          exact count_put k1.1 (show r.pos from k2.1) k3 k1.2.1 k2.2)
        rw [hz] at hz4
        subst hz4
        have HK := Lib.hid (HO4.out.set HKM.out)
        clear hz
        go_wp2_with fail
        refine (count_walk _ _ _ _ _ HK.out).mono ?_
        rintro e w5 ⟨rfl, hb5⟩
        rw [HCK.out]
        have HB5 := Lib.hid (HB4.out.trans (hb5.mono HB4.out.size))
        have HL5 := Lib.hid (HL4.out.on hb5)
        have BG5 := Lib.hid (BG4.out.on hb5)
        clear hb5 b0 b1 HK HO4 HL4 HB4 BG4
        have b0 := BG5.out.cell 0 rfl
        have b1 := BG5.out.cell 1 rfl
        go_wp2_with fail
        refine (sub_walk l r a n c _ HL5.out).mono ?_
        rintro e w6 ⟨v6, z6, rfl, hO6, hz6, hb6⟩
        have HB6 := Lib.hid (HB5.out.trans (hb6.mono HB5.out.size))
        have HL6 := Lib.hid (HL5.out.on hb6)
        have BG6 := Lib.hid (BG5.out.on hb6)
        have HO6 := Lib.hid hO6
        obtain ⟨pa6, ca6, rfl, _⟩ := hO6.form
        clear hO6 hb6 b0 b1 HL5 HB5 BG5
        have b0 := BG6.out.cell 0 rfl
        have b1 := BG6.out.cell 1 rfl
        by_cases hz : (subR l r).2 = 0
        · have HKM := Lib.hid (subR_may l r)
          have HCK := Lib.hid (show countR (subR l r).1 + m = q by
            obtain ⟨k1, k2, k3, k4, k5⟩ := subR_ok (pair_eta hz)
            rw [countR, if_pos k5, k4, HQM.out.1, HQM.out.2]
            exact count_sub k1.1 (show r.pos from k2.1) (covers_has k3) k1.2.1 k2.2)
          rw [hz] at hz6
          subst hz6
          have HK := Lib.hid (HO6.out.set HKM.out)
          have hsub : IntKind.u64.wrap ((q : Int) - (m : Int)) = ((countR (subR l r).1 : Nat) : Int) := by
            have h1 := HCK.out; have h2 := HQ60.out; rw [IntKind.wrap_u64]; omega
          clear hz
          go_wp2_with fail
          refine (count_walk _ _ _ _ _ HK.out).mono ?_
          rintro e w7 ⟨rfl, hb7⟩
          have HB7 := Lib.hid (HB6.out.trans (hb7.mono HB6.out.size))
          have HL7 := Lib.hid (HL6.out.on hb7)
          have BG7 := Lib.hid (BG6.out.on hb7)
          clear hb7 b0 b1 HK HO6 HL6 HB6 BG6
          have b0 := BG7.out.cell 0 rfl
          have b1 := BG7.out.cell 1 rfl
          go_wp2_with fail
          refine (cut_walk l r.hi a n c _ HL7.out).mono ?_
          rintro e w8 ⟨v8, u8, rfl, hV, hU, hb8⟩
          have HB8 := Lib.hid (HB7.out.trans (hb8.mono HB7.out.size))
          have HL8 := Lib.hid (HL7.out.on hb8)
          have BG8 := Lib.hid (BG7.out.on hb8)
          rw [show cutR l r.hi = (belowP l r.hi, aboveP l r.hi) from if_pos HMAY.out] at hV hU
          have HV := Lib.hid hV
          obtain ⟨pv, cv, rfl, _⟩ := hV.form
          obtain ⟨pu, cu, rfl, _⟩ := hU.form
          have HVs := Lib.hid (hV.set (below_hi HMAY.out r.hi))
          have HUs := Lib.hid (hU.set (above_hi HMAY.out r.hi))
          clear hV hU hb8 b0 b1 HL7 HB7 BG7 HV
          go_wp2_with fail
          refine (count_walk _ _ _ _ _ HVs.out).mono ?_
          rintro e w9 ⟨rfl, hb9⟩
          rw [show countR (belowP l r.hi) = count (belowP l r.hi) from if_pos (below_hi HMAY.out r.hi)]
          have HB9 := Lib.hid (HB8.out.trans (hb9.mono HB8.out.size))
          have HL9 := Lib.hid (HL8.out.on hb9)
          have BG9 := Lib.hid (BG8.out.on hb9)
          have HUs9 := Lib.hid (HUs.out.on hb9)
          clear hb9 HVs HUs HL8 HB8 BG8
          go_wp2_with fail
          refine (count_walk _ _ _ _ _ HUs9.out).mono ?_
          rintro e w10 ⟨rfl, hb10⟩
          rw [show countR (aboveP l r.hi) = count (aboveP l r.hi) from if_pos (above_hi HMAY.out r.hi)]
          have HB10 := Lib.hid (HB9.out.trans (hb10.mono HB9.out.size))
          have HL10 := Lib.hid (HL9.out.on hb10)
          have BG10 := Lib.hid (BG9.out.on hb10)
          have hcc : IntKind.u64.wrap (((count (belowP l r.hi) : Nat) : Int) + ((count (aboveP l r.hi) : Nat) : Int)) = (q : Int) := by
            have h1 := HCC.out; have h2 := HQ60.out; rw [IntKind.wrap_u64]; omega
          have b0 := BG10.out.cell 0 rfl
          have b1 := BG10.out.cell 1 rfl
          clear hb10 HUs9 HL9 HB9 BG9
          by_cases hc : covP l r
          · have HC := Lib.hid hc
            have g3 : (m : Int) ≤ (q : Int) := by have := (HGE.out hc); omega
            clear hc
            go_wp2_with fail
            refine (covers_x l r a n c _ HL10.out true ⟨fun _ => ⟨HMAY.out, HONE.out, HC.out⟩, fun _ => rfl⟩).mono ?_
            rintro e w11 ⟨rfl, hb11⟩
            have HB11 := Lib.hid (HB10.out.trans (hb11.mono HB10.out.size))
            have HL11 := Lib.hid (HL10.out.on hb11)
            have BG11 := Lib.hid (BG10.out.on hb11)
            clear hb11 b0 b1
            have b0 := BG11.out.cell 0 rfl
            have b1 := BG11.out.cell 1 rfl
            go_wp2_with fail
            refine (covered_walk l r m a n c _ HL11.out HMAY.out HONE.out true ⟨fun _ => HCV.out.1 HC.out, fun _ => rfl⟩).mono ?_
            rintro e w12 ⟨rfl, hb12⟩
            have HB12 := Lib.hid (HB11.out.trans (hb12.mono HB11.out.size))
            clear hb12 b0 b1
            go_wp2
            go_ret
            exact ⟨rfl, HB12.out⟩
          · have HC := Lib.hid hc
            clear hc
            go_wp2_with fail
            refine (covers_x l r a n c _ HL10.out false ⟨fun h => (by cases h), fun h => absurd h.2.2 HC.out⟩).mono ?_
            rintro e w11 ⟨rfl, hb11⟩
            have HB11 := Lib.hid (HB10.out.trans (hb11.mono HB10.out.size))
            have HL11 := Lib.hid (HL10.out.on hb11)
            have BG11 := Lib.hid (BG10.out.on hb11)
            clear hb11 b0 b1
            have b0 := BG11.out.cell 0 rfl
            have b1 := BG11.out.cell 1 rfl
            by_cases hge : m ≤ q
            · have g3 : (m : Int) ≤ (q : Int) := by omega
              go_wp2_with fail
              refine (covered_walk l r m a n c _ HL11.out HMAY.out HONE.out false ⟨fun h => (by cases h), fun h => absurd (HCV.out.2 h) HC.out⟩).mono ?_
              rintro e w12 ⟨rfl, hb12⟩
              have HB12 := Lib.hid (HB11.out.trans (hb12.mono HB11.out.size))
              clear hb12 b0 b1
              go_wp2
              go_ret
              exact ⟨rfl, HB12.out⟩
            · have g3 : ¬ (m : Int) ≤ (q : Int) := by omega
              go_wp2
              go_ret
              exact ⟨rfl, HB11.out⟩
        · have g1 : ¬ z6 = 0 := by rw [hz6]; exact hz
          clear hz hz6 HO6
          go_wp2_with fail
          refine (cut_walk l r.hi a n c _ HL6.out).mono ?_
          rintro e w8 ⟨v8, u8, rfl, hV, hU, hb8⟩
          have HB8 := Lib.hid (HB6.out.trans (hb8.mono HB6.out.size))
          have HL8 := Lib.hid (HL6.out.on hb8)
          have BG8 := Lib.hid (BG6.out.on hb8)
          rw [show cutR l r.hi = (belowP l r.hi, aboveP l r.hi) from if_pos HMAY.out] at hV hU
          have HV := Lib.hid hV
          obtain ⟨pv, cv, rfl, _⟩ := hV.form
          obtain ⟨pu, cu, rfl, _⟩ := hU.form
          have HVs := Lib.hid (hV.set (below_hi HMAY.out r.hi))
          have HUs := Lib.hid (hU.set (above_hi HMAY.out r.hi))
          clear hV hU hb8 b0 b1 HL6 HB6 BG6 HV
          go_wp2_with fail
          refine (count_walk _ _ _ _ _ HVs.out).mono ?_
          rintro e w9 ⟨rfl, hb9⟩
          rw [show countR (belowP l r.hi) = count (belowP l r.hi) from if_pos (below_hi HMAY.out r.hi)]
          have HB9 := Lib.hid (HB8.out.trans (hb9.mono HB8.out.size))
          have HL9 := Lib.hid (HL8.out.on hb9)
          have BG9 := Lib.hid (BG8.out.on hb9)
          have HUs9 := Lib.hid (HUs.out.on hb9)
          clear hb9 HVs HUs HL8 HB8 BG8
          go_wp2_with fail
          refine (count_walk _ _ _ _ _ HUs9.out).mono ?_
          rintro e w10 ⟨rfl, hb10⟩
          rw [show countR (aboveP l r.hi) = count (aboveP l r.hi) from if_pos (above_hi HMAY.out r.hi)]
          have HB10 := Lib.hid (HB9.out.trans (hb10.mono HB9.out.size))
          have HL10 := Lib.hid (HL9.out.on hb10)
          have BG10 := Lib.hid (BG9.out.on hb10)
          have hcc : IntKind.u64.wrap (((count (belowP l r.hi) : Nat) : Int) + ((count (aboveP l r.hi) : Nat) : Int)) = (q : Int) := by
            have h1 := HCC.out; have h2 := HQ60.out; rw [IntKind.wrap_u64]; omega
          have b0 := BG10.out.cell 0 rfl
          have b1 := BG10.out.cell 1 rfl
          clear hb10 HUs9 HL9 HB9 BG9
          by_cases hc : covP l r
          · have HC := Lib.hid hc
            have g3 : (m : Int) ≤ (q : Int) := by have := (HGE.out hc); omega
            clear hc
            go_wp2_with fail
            refine (covers_x l r a n c _ HL10.out true ⟨fun _ => ⟨HMAY.out, HONE.out, HC.out⟩, fun _ => rfl⟩).mono ?_
            rintro e w11 ⟨rfl, hb11⟩
            have HB11 := Lib.hid (HB10.out.trans (hb11.mono HB10.out.size))
            have HL11 := Lib.hid (HL10.out.on hb11)
            have BG11 := Lib.hid (BG10.out.on hb11)
            clear hb11 b0 b1
            have b0 := BG11.out.cell 0 rfl
            have b1 := BG11.out.cell 1 rfl
            go_wp2_with fail
            refine (covered_walk l r m a n c _ HL11.out HMAY.out HONE.out true ⟨fun _ => HCV.out.1 HC.out, fun _ => rfl⟩).mono ?_
            rintro e w12 ⟨rfl, hb12⟩
            have HB12 := Lib.hid (HB11.out.trans (hb12.mono HB11.out.size))
            clear hb12 b0 b1
            go_wp2
            go_ret
            exact ⟨rfl, HB12.out⟩
          · have HC := Lib.hid hc
            clear hc
            go_wp2_with fail
            refine (covers_x l r a n c _ HL10.out false ⟨fun h => (by cases h), fun h => absurd h.2.2 HC.out⟩).mono ?_
            rintro e w11 ⟨rfl, hb11⟩
            have HB11 := Lib.hid (HB10.out.trans (hb11.mono HB10.out.size))
            have HL11 := Lib.hid (HL10.out.on hb11)
            have BG11 := Lib.hid (BG10.out.on hb11)
            clear hb11 b0 b1
            have b0 := BG11.out.cell 0 rfl
            have b1 := BG11.out.cell 1 rfl
            by_cases hge : m ≤ q
            · have g3 : (m : Int) ≤ (q : Int) := by omega
              go_wp2_with fail
              refine (covered_walk l r m a n c _ HL11.out HMAY.out HONE.out false ⟨fun h => (by cases h), fun h => absurd (HCV.out.2 h) HC.out⟩).mono ?_
              rintro e w12 ⟨rfl, hb12⟩
              have HB12 := Lib.hid (HB11.out.trans (hb12.mono HB11.out.size))
              clear hb12 b0 b1
              go_wp2
              go_ret
              exact ⟨rfl, HB12.out⟩
            · have g3 : ¬ (m : Int) ≤ (q : Int) := by omega
              go_wp2
              go_ret
              exact ⟨rfl, HB11.out⟩
      · have g0 : ¬ z4 = 0 := by rw [hz4]; exact hz
        clear hz hz4 HO4
        go_wp2_with fail
        refine (sub_walk l r a n c _ HL4.out).mono ?_
        rintro e w6 ⟨v6, z6, rfl, hO6, hz6, hb6⟩
        have HB6 := Lib.hid (HB4.out.trans (hb6.mono HB4.out.size))
        have HL6 := Lib.hid (HL4.out.on hb6)
        have BG6 := Lib.hid (BG4.out.on hb6)
        have HO6 := Lib.hid hO6
        obtain ⟨pa6, ca6, rfl, _⟩ := hO6.form
        clear hO6 hb6 b0 b1 HL4 HB4 BG4
        have b0 := BG6.out.cell 0 rfl
        have b1 := BG6.out.cell 1 rfl
        by_cases hz : (subR l r).2 = 0
        · have HKM := Lib.hid (subR_may l r)
          have HCK := Lib.hid (show countR (subR l r).1 + m = q by
            obtain ⟨k1, k2, k3, k4, k5⟩ := subR_ok (pair_eta hz)
            rw [countR, if_pos k5, k4, HQM.out.1, HQM.out.2]
            exact count_sub k1.1 (show r.pos from k2.1) (covers_has k3) k1.2.1 k2.2)
          rw [hz] at hz6
          subst hz6
          have HK := Lib.hid (HO6.out.set HKM.out)
          have hsub : IntKind.u64.wrap ((q : Int) - (m : Int)) = ((countR (subR l r).1 : Nat) : Int) := by
            have h1 := HCK.out; have h2 := HQ60.out; rw [IntKind.wrap_u64]; omega
          clear hz
          go_wp2_with fail
          refine (count_walk _ _ _ _ _ HK.out).mono ?_
          rintro e w7 ⟨rfl, hb7⟩
          have HB7 := Lib.hid (HB6.out.trans (hb7.mono HB6.out.size))
          have HL7 := Lib.hid (HL6.out.on hb7)
          have BG7 := Lib.hid (BG6.out.on hb7)
          clear hb7 b0 b1 HK HO6 HL6 HB6 BG6
          have b0 := BG7.out.cell 0 rfl
          have b1 := BG7.out.cell 1 rfl
          go_wp2_with fail
          refine (cut_walk l r.hi a n c _ HL7.out).mono ?_
          rintro e w8 ⟨v8, u8, rfl, hV, hU, hb8⟩
          have HB8 := Lib.hid (HB7.out.trans (hb8.mono HB7.out.size))
          have HL8 := Lib.hid (HL7.out.on hb8)
          have BG8 := Lib.hid (BG7.out.on hb8)
          rw [show cutR l r.hi = (belowP l r.hi, aboveP l r.hi) from if_pos HMAY.out] at hV hU
          have HV := Lib.hid hV
          obtain ⟨pv, cv, rfl, _⟩ := hV.form
          obtain ⟨pu, cu, rfl, _⟩ := hU.form
          have HVs := Lib.hid (hV.set (below_hi HMAY.out r.hi))
          have HUs := Lib.hid (hU.set (above_hi HMAY.out r.hi))
          clear hV hU hb8 b0 b1 HL7 HB7 BG7 HV
          go_wp2_with fail
          refine (count_walk _ _ _ _ _ HVs.out).mono ?_
          rintro e w9 ⟨rfl, hb9⟩
          rw [show countR (belowP l r.hi) = count (belowP l r.hi) from if_pos (below_hi HMAY.out r.hi)]
          have HB9 := Lib.hid (HB8.out.trans (hb9.mono HB8.out.size))
          have HL9 := Lib.hid (HL8.out.on hb9)
          have BG9 := Lib.hid (BG8.out.on hb9)
          have HUs9 := Lib.hid (HUs.out.on hb9)
          clear hb9 HVs HUs HL8 HB8 BG8
          go_wp2_with fail
          refine (count_walk _ _ _ _ _ HUs9.out).mono ?_
          rintro e w10 ⟨rfl, hb10⟩
          rw [show countR (aboveP l r.hi) = count (aboveP l r.hi) from if_pos (above_hi HMAY.out r.hi)]
          have HB10 := Lib.hid (HB9.out.trans (hb10.mono HB9.out.size))
          have HL10 := Lib.hid (HL9.out.on hb10)
          have BG10 := Lib.hid (BG9.out.on hb10)
          have hcc : IntKind.u64.wrap (((count (belowP l r.hi) : Nat) : Int) + ((count (aboveP l r.hi) : Nat) : Int)) = (q : Int) := by
            have h1 := HCC.out; have h2 := HQ60.out; rw [IntKind.wrap_u64]; omega
          have b0 := BG10.out.cell 0 rfl
          have b1 := BG10.out.cell 1 rfl
          clear hb10 HUs9 HL9 HB9 BG9
          by_cases hc : covP l r
          · have HC := Lib.hid hc
            have g3 : (m : Int) ≤ (q : Int) := by have := (HGE.out hc); omega
            clear hc
            go_wp2_with fail
            refine (covers_x l r a n c _ HL10.out true ⟨fun _ => ⟨HMAY.out, HONE.out, HC.out⟩, fun _ => rfl⟩).mono ?_
            rintro e w11 ⟨rfl, hb11⟩
            have HB11 := Lib.hid (HB10.out.trans (hb11.mono HB10.out.size))
            have HL11 := Lib.hid (HL10.out.on hb11)
            have BG11 := Lib.hid (BG10.out.on hb11)
            clear hb11 b0 b1
            have b0 := BG11.out.cell 0 rfl
            have b1 := BG11.out.cell 1 rfl
            go_wp2_with fail
            refine (covered_walk l r m a n c _ HL11.out HMAY.out HONE.out true ⟨fun _ => HCV.out.1 HC.out, fun _ => rfl⟩).mono ?_
            rintro e w12 ⟨rfl, hb12⟩
            have HB12 := Lib.hid (HB11.out.trans (hb12.mono HB11.out.size))
            clear hb12 b0 b1
            go_wp2
            go_ret
            exact ⟨rfl, HB12.out⟩
          · have HC := Lib.hid hc
            clear hc
            go_wp2_with fail
            refine (covers_x l r a n c _ HL10.out false ⟨fun h => (by cases h), fun h => absurd h.2.2 HC.out⟩).mono ?_
            rintro e w11 ⟨rfl, hb11⟩
            have HB11 := Lib.hid (HB10.out.trans (hb11.mono HB10.out.size))
            have HL11 := Lib.hid (HL10.out.on hb11)
            have BG11 := Lib.hid (BG10.out.on hb11)
            clear hb11 b0 b1
            have b0 := BG11.out.cell 0 rfl
            have b1 := BG11.out.cell 1 rfl
            by_cases hge : m ≤ q
            · have g3 : (m : Int) ≤ (q : Int) := by omega
              go_wp2_with fail
              refine (covered_walk l r m a n c _ HL11.out HMAY.out HONE.out false ⟨fun h => (by cases h), fun h => absurd (HCV.out.2 h) HC.out⟩).mono ?_
              rintro e w12 ⟨rfl, hb12⟩
              have HB12 := Lib.hid (HB11.out.trans (hb12.mono HB11.out.size))
              clear hb12 b0 b1
              go_wp2
              go_ret
              exact ⟨rfl, HB12.out⟩
            · have g3 : ¬ (m : Int) ≤ (q : Int) := by omega
              go_wp2
              go_ret
              exact ⟨rfl, HB11.out⟩
        · have g1 : ¬ z6 = 0 := by rw [hz6]; exact hz
          clear hz hz6 HO6
          go_wp2_with fail
          refine (cut_walk l r.hi a n c _ HL6.out).mono ?_
          rintro e w8 ⟨v8, u8, rfl, hV, hU, hb8⟩
          have HB8 := Lib.hid (HB6.out.trans (hb8.mono HB6.out.size))
          have HL8 := Lib.hid (HL6.out.on hb8)
          have BG8 := Lib.hid (BG6.out.on hb8)
          rw [show cutR l r.hi = (belowP l r.hi, aboveP l r.hi) from if_pos HMAY.out] at hV hU
          have HV := Lib.hid hV
          obtain ⟨pv, cv, rfl, _⟩ := hV.form
          obtain ⟨pu, cu, rfl, _⟩ := hU.form
          have HVs := Lib.hid (hV.set (below_hi HMAY.out r.hi))
          have HUs := Lib.hid (hU.set (above_hi HMAY.out r.hi))
          clear hV hU hb8 b0 b1 HL6 HB6 BG6 HV
          go_wp2_with fail
          refine (count_walk _ _ _ _ _ HVs.out).mono ?_
          rintro e w9 ⟨rfl, hb9⟩
          rw [show countR (belowP l r.hi) = count (belowP l r.hi) from if_pos (below_hi HMAY.out r.hi)]
          have HB9 := Lib.hid (HB8.out.trans (hb9.mono HB8.out.size))
          have HL9 := Lib.hid (HL8.out.on hb9)
          have BG9 := Lib.hid (BG8.out.on hb9)
          have HUs9 := Lib.hid (HUs.out.on hb9)
          clear hb9 HVs HUs HL8 HB8 BG8
          go_wp2_with fail
          refine (count_walk _ _ _ _ _ HUs9.out).mono ?_
          rintro e w10 ⟨rfl, hb10⟩
          rw [show countR (aboveP l r.hi) = count (aboveP l r.hi) from if_pos (above_hi HMAY.out r.hi)]
          have HB10 := Lib.hid (HB9.out.trans (hb10.mono HB9.out.size))
          have HL10 := Lib.hid (HL9.out.on hb10)
          have BG10 := Lib.hid (BG9.out.on hb10)
          have hcc : IntKind.u64.wrap (((count (belowP l r.hi) : Nat) : Int) + ((count (aboveP l r.hi) : Nat) : Int)) = (q : Int) := by
            have h1 := HCC.out; have h2 := HQ60.out; rw [IntKind.wrap_u64]; omega
          have b0 := BG10.out.cell 0 rfl
          have b1 := BG10.out.cell 1 rfl
          clear hb10 HUs9 HL9 HB9 BG9
          by_cases hc : covP l r
          · have HC := Lib.hid hc
            have g3 : (m : Int) ≤ (q : Int) := by have := (HGE.out hc); omega
            clear hc
            go_wp2_with fail
            refine (covers_x l r a n c _ HL10.out true ⟨fun _ => ⟨HMAY.out, HONE.out, HC.out⟩, fun _ => rfl⟩).mono ?_
            rintro e w11 ⟨rfl, hb11⟩
            have HB11 := Lib.hid (HB10.out.trans (hb11.mono HB10.out.size))
            have HL11 := Lib.hid (HL10.out.on hb11)
            have BG11 := Lib.hid (BG10.out.on hb11)
            clear hb11 b0 b1
            have b0 := BG11.out.cell 0 rfl
            have b1 := BG11.out.cell 1 rfl
            go_wp2_with fail
            refine (covered_walk l r m a n c _ HL11.out HMAY.out HONE.out true ⟨fun _ => HCV.out.1 HC.out, fun _ => rfl⟩).mono ?_
            rintro e w12 ⟨rfl, hb12⟩
            have HB12 := Lib.hid (HB11.out.trans (hb12.mono HB11.out.size))
            clear hb12 b0 b1
            go_wp2
            go_ret
            exact ⟨rfl, HB12.out⟩
          · have HC := Lib.hid hc
            clear hc
            go_wp2_with fail
            refine (covers_x l r a n c _ HL10.out false ⟨fun h => (by cases h), fun h => absurd h.2.2 HC.out⟩).mono ?_
            rintro e w11 ⟨rfl, hb11⟩
            have HB11 := Lib.hid (HB10.out.trans (hb11.mono HB10.out.size))
            have HL11 := Lib.hid (HL10.out.on hb11)
            have BG11 := Lib.hid (BG10.out.on hb11)
            clear hb11 b0 b1
            have b0 := BG11.out.cell 0 rfl
            have b1 := BG11.out.cell 1 rfl
            by_cases hge : m ≤ q
            · have g3 : (m : Int) ≤ (q : Int) := by omega
              go_wp2_with fail
              refine (covered_walk l r m a n c _ HL11.out HMAY.out HONE.out false ⟨fun h => (by cases h), fun h => absurd (HCV.out.2 h) HC.out⟩).mono ?_
              rintro e w12 ⟨rfl, hb12⟩
              have HB12 := Lib.hid (HB11.out.trans (hb12.mono HB11.out.size))
              clear hb12 b0 b1
              go_wp2
              go_ret
              exact ⟨rfl, HB12.out⟩
            · have g3 : ¬ (m : Int) ≤ (q : Int) := by omega
              go_wp2
              go_ret
              exact ⟨rfl, HB11.out⟩
    · rw [decide_eq_false ho] at he
      subst he
      have HBx := Lib.hid HBW.out
      go_wp2_with fail
      refine (live19_walk _).mono ?_
      rintro e w9 ⟨rfl, hb9⟩
      have HB9 := Lib.hid (HBx.out.trans (hb9.mono HBx.out.size))
      clear hb9
      go_wp2
      go_ret
      exact ⟨rfl, HB9.out⟩
end Go.Proofs.Ytajjbffppkpjpaa
