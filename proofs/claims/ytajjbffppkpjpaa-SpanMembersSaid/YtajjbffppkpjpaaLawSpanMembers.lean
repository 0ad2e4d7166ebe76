import Derived.Test.YtajjbffppkpjpaaSpanE
/-
  The walk of liverylaw19.SpanMembers.
-/
namespace Go.Proofs.Ytajjbffppkpjpaa
open Go.RowKit
/-- What is in what was put together, taken away, met or cut. -/
structure Members (l : List Rg) (r : Rg) (i : Nat) (p o lt : Bool) : Prop where
  has : p = true ↔ MayP l ∧ mem l i
  add : (addR l r).2 = 0 → ((p || o) = true ↔ MayP (addR l r).1 ∧ mem (addR l r).1 i)
  ex : (addR l r).2 = 0 → ¬ (subR l r).2 = 0
  sub : (subR l r).2 = 0 → ((p && !o) = true ↔ MayP (subR l r).1 ∧ mem (subR l r).1 i)
  meet : (p && o) = true ↔ MayP (bothP l [r]) ∧ mem (bothP l [r]) i
  mm : MayP (bothP l [r])
  below : (p && lt) = true ↔ MayP (belowP l r.lo) ∧ mem (belowP l r.lo) i
  above : (p && !lt) = true ↔ MayP (aboveP l r.lo) ∧ mem (aboveP l r.lo) i
theorem members_of {l : List Rg} {r : Rg} {i : Nat} (hl : MayP l) (hr : oneP r) {p o lt : Bool} (hp : p = true ↔ mem l i) (ho : o = true ↔ r.has i) (hlt : lt = true ↔ i < r.lo) : Members l r i p o lt := by
  have hrp : r.pos := hr.1
  have hm : MayP (bothP l [r]) := by have := meetR_may l [r]; rw [meetR_one hl hr] at this; exact this
  have hlt' : lt = false ↔ r.lo ≤ i := by
    rw [← Bool.not_eq_true, hlt]; omega
  have ho' : o = false ↔ ¬ r.has i := by
    rw [← Bool.not_eq_true, ho]
  refine ⟨?_, fun h => ?_, fun h h' => ?_, fun h => ?_, ?_, hm, ?_, ?_⟩
  · rw [hp]; exact ⟨fun q => ⟨hl, q⟩, fun q => q.2⟩
  · obtain ⟨k1, k2, k3, k4, k5⟩ := addR_ok (pair_eta h)
    rw [Bool.or_eq_true, hp, ho]
    refine ⟨fun q => ⟨k5, ?_⟩, fun q => ?_⟩
    · rw [k4]; exact ((put_ok hl.1 hrp).2 i).2 q
    · have := q.2; rw [k4] at this; exact ((put_ok hl.1 hrp).2 i).1 this
  · obtain ⟨k1, k2, k3, k4, k5⟩ := addR_ok (pair_eta h)
    obtain ⟨m1, m2, m3, m4, m5⟩ := subR_ok (pair_eta h')
    exact k3 r.lo (covers_has m3 r.lo ⟨Nat.le_refl _, hr.1⟩) ⟨Nat.le_refl _, hr.1⟩
  · obtain ⟨m1, m2, m3, m4, m5⟩ := subR_ok (pair_eta h)
    rw [Bool.and_eq_true, Bool.not_eq_true', hp, ho']
    refine ⟨fun q => ⟨m5, ?_⟩, fun q => ?_⟩
    · rw [m4]; exact ((sub_ok hrp hl.1).2 i).2 q
    · have := q.2; rw [m4] at this; exact ((sub_ok hrp hl.1).2 i).1 this
  · rw [Bool.and_eq_true, hp, ho]
    refine ⟨fun q => ⟨hm, ?_⟩, fun q => ?_⟩
    · exact ((both_sep l [r]).2 i).2 ⟨q.1, (mem_one r i).2 q.2⟩
    · have := ((both_sep l [r]).2 i).1 q.2
      exact ⟨this.1, (mem_one r i).1 this.2⟩
  · rw [Bool.and_eq_true, hp, hlt]
    exact ⟨fun q => ⟨below_hi hl r.lo, ((below_ok r.lo hl.1).2.1 i).2 q⟩, fun q => ((below_ok r.lo hl.1).2.1 i).1 q.2⟩
  · rw [Bool.and_eq_true, Bool.not_eq_true', hp, hlt']
    exact ⟨fun q => ⟨above_hi hl r.lo, ((above_ok r.lo hl.1).2.1 i).2 q⟩, fun q => ((above_ok r.lo hl.1).2.1 i).1 q.2⟩
set_option maxRecDepth 100000 in
set_option maxHeartbeats 8000000 in
theorem spanmembers_walk (l : List Rg) (r : Rg) (i : Nat) (hi64 : i < 18446744073709551616) (a : Option Addr) (n c : Nat) (w : World) (hL : RgsIn w a n c l) :
    Calls Try.prog 15 #[.slice a n c, rag r, .int .u64 (i : Nat)] w fun e w' => e = .returned (.bool true) ∧ Below w.heap.size w w' := by
  have hb := below_one1 w (.cells (rcb r) 25)
  have HL := Lib.hid (hL.on hb)
  have BG := Lib.hid (Blk.new w (rcb r) 25)
  have HB := Lib.hid hb
  obtain ⟨M, h1⟩ := bool_of (MayP l)
  have H1 := Lib.hid h1
  clear hL hb h1 hi64
  go_enter Try.func15, Try.ntmps15
  go_wp2_with fail
  refine (live19_walk _).mono ?_
  rintro e w2 ⟨rfl, hb2⟩
  have HB2 := Lib.hid (HB.out.trans (hb2.mono HB.out.size))
  have HL2 := Lib.hid (HL.out.on hb2)
  have BG2 := Lib.hid (BG.out.on hb2)
  clear hb2 HL BG HB
  go_wp2_with fail
  refine (may_walkR l a n c _ HL2.out M H1.out).mono ?_
  rintro e w3 ⟨rfl, hb3⟩
  have HBx := Lib.hid (HB2.out.trans (hb3.mono HB2.out.size))
  have HL3 := Lib.hid (HL2.out.on hb3)
  have BG3 := Lib.hid (BG2.out.on hb3)
  clear hb3 HL2 BG2 HB2
  cases M with
  | false =>
    go_wp2_with fail
    refine (live19_walk _).mono ?_
    rintro e w9 ⟨rfl, hb9⟩
    have HB9 := Lib.hid (HBx.out.trans (hb9.mono HBx.out.size))
    clear hb9
    go_wp2
    go_ret
    exact ⟨rfl, HB9.out⟩
  | true =>
    have HMAY := Lib.hid (H1.out.1 rfl)
    have b0 := BG3.out.cell 0 rfl
    have b1 := BG3.out.cell 1 rfl
    go_wp2_with fail
    refine (rone_walk r _).mono ?_
    rintro e W ⟨he, hb4⟩
    have HBW := Lib.hid (HBx.out.trans (hb4.mono HBx.out.size))
    have HL := Lib.hid (HL3.out.on hb4)
    have BG := Lib.hid (BG3.out.on hb4)
    clear hb4 b0 b1 HL3 BG3 HBx
    by_cases ho : oneP r
    · rw [decide_eq_true ho] at he
      subst he
      have HONE := Lib.hid ho
      clear ho
      by_cases gi : 1152921504606846976 ≤ (i : Int)
      · have HBx := Lib.hid HBW.out
        have gd : decide ((1152921504606846976 : Int) ≤ (i : Int)) = true := by simpa using gi
        clear gi
        go_wp2_with fail
        refine (live19_walk _).mono ?_
        rintro e w9 ⟨rfl, hb9⟩
        have HB9 := Lib.hid (HBx.out.trans (hb9.mono HBx.out.size))
        clear hb9
        go_wp2
        go_ret
        exact ⟨rfl, HB9.out⟩
      · have BG0 := Lib.hid BG.out
        have HMEQ := Lib.hid (meetR_one HMAY.out HONE.out)
        have HCEQ := Lib.hid (show cutR l r.lo = (belowP l r.lo, aboveP l r.lo) from if_pos HMAY.out)
        have HVM := Lib.hid (below_hi HMAY.out r.lo)
        have HUM := Lib.hid (above_hi HMAY.out r.lo)
        have gd : decide ((1152921504606846976 : Int) ≤ (i : Int)) = false := by simpa using gi
        clear gi
        go_wp2_with fail
        clear gd
        by_cases hm : mem l i
        · rcases Nat.lt_or_ge i r.lo with q1 | q1
          · have g1 : (i : Int) < (r.lo : Int) := by omega
            have g2 : ¬ (r.lo : Int) ≤ (i : Int) := by omega
            have HX := members_of (p := true) (o := false) (lt := true) HMAY.out HONE.out ⟨fun _ => hm, fun _ => rfl⟩ ⟨fun h => (by cases h), fun h => absurd h.1 (by omega)⟩ ⟨fun _ => by omega, fun _ => rfl⟩
            have HP := Lib.hid HX.has
            have HADD := Lib.hid HX.add
            have HEX := Lib.hid HX.ex
            have HSUB := Lib.hid HX.sub
            have HMEET := Lib.hid HX.meet
            have HMM := Lib.hid HX.mm
            have HHV := Lib.hid HX.below
            have HHU := Lib.hid HX.above
            clear HX hm
            refine wp_region_held_drew (S := fun w' => Below W.heap.size W w') (by kernel_rfl) (Below.refl _ _).drew (fun _ => ?_)
            have HS := Lib.hid ((Below.refl W.heap.size W).drew)
            have HL := Lib.hid (HL.out.on (HS.out))
            have BG := Lib.hid (BG.out.on (HS.out))
            have HBW := Lib.hid (HBW.out.trans ((HS.out).mono HBW.out.size))
            generalize World.drew W = v0 at *
            try simp only [Act.put, List.setIfInBounds_toArray, List.set_cons_succ, List.set_cons_zero]
            refine wpAnyH_take (i := 0) (oi := ⟨some 34, .move (.tmp 0), 22, _, _, none⟩) (v := .slice a n c) rfl (by kernel_rfl) (by kernel_rfl) (by kernel_rfl) (fun _ _ _ h => h) (Or.inl ⟨by rfl, fun _ _ => by go_simp⟩) HS.out ?_
            try simp only [Act.put, List.setIfInBounds_toArray, List.set_cons_succ, List.set_cons_zero]
            refine wpAnyH_take (i := 1) (oi := ⟨some 35, .move (.tmp 2), 23, _, _, none⟩) (v := .int .u64 (i : Nat)) rfl (by kernel_rfl) (by kernel_rfl) (by kernel_rfl) (fun _ _ _ h => h) (Or.inl ⟨by rfl, fun _ _ => by go_simp⟩) HS.out ?_
            try simp only [Act.put, List.setIfInBounds_toArray, List.set_cons_succ, List.set_cons_zero]
            refine wpAnyH_take (i := 3) (oi := ⟨some 37, .move (.tmp 2), 23, _, _, none⟩) (v := .int .u64 (i : Nat)) rfl (by kernel_rfl) (by kernel_rfl) (by kernel_rfl) (fun _ _ _ h => h) (Or.inl ⟨by rfl, fun _ _ => by go_simp⟩) HS.out ?_
            try simp only [Act.put, List.setIfInBounds_toArray, List.set_cons_succ, List.set_cons_zero]
            refine wpAnyH_take (i := 4) (oi := ⟨some 38, .fieldAddr 25 (.tmp 4) 0, _, _, _, none⟩) (v := .pointer (some ⟨w.heap.size, 0, none⟩)) rfl (by kernel_rfl) (by kernel_rfl) (by kernel_rfl) (fun _ _ _ h => h) (Or.inl ⟨by rfl, fun _ _ => by go_simp⟩) HS.out ?_
            try simp only [Act.put, List.setIfInBounds_toArray, List.set_cons_succ, List.set_cons_zero]
            refine wpAnyH_take (i := 5) (oi := ⟨some 39, .load 23 (.tmp 38), 23, _, _, none⟩) (v := .int .u64 (r.lo : Nat)) rfl (by kernel_rfl) (by kernel_rfl) (by kernel_rfl) (fun _ _ _ h => h) (Or.inl ⟨by rfl, fun vv hvv => yields_u64 (.tmp 38) rfl ⟨w.heap.size, 0, none⟩ rfl ((BG0.out.below hvv BG0.out.lt).cell 0 rfl)⟩) HS.out ?_
            try simp only [Act.put, List.setIfInBounds_toArray, List.set_cons_succ, List.set_cons_zero]
            refine wpAnyH_take (i := 6) (oi := ⟨some 40, .binOp .geq 23 (.tmp 37) (.tmp 39) 23, 4, _, _, none⟩) (v := .bool false) rfl (by kernel_rfl) (by kernel_rfl) (by kernel_rfl) (fun _ _ _ h => h) (Or.inl ⟨by rfl, fun _ _ => by go_simp⟩) HS.out ?_
            try simp only [Act.put, List.setIfInBounds_toArray, List.set_cons_succ, List.set_cons_zero]
            refine wpAnyH_ready (rs := [2]) (by kernel_rfl) (by simp) ?_
            refine AllReadyH.cons (o := ⟨some 36, .call { callee := .value (.func 72), args := #[.tmp 34, .tmp 35], argTypes := #[22, 23] }, 4, _, _, none⟩) rfl (fun K hK => ?_) AllReadyH.nil
            go_simp
            refine (has_x l i a n c v0 HL.out true HP.out).mono ?_
            rintro e v1 ⟨rfl, hb⟩
            have HL := Lib.hid (HL.out.on hb)
            have BG := Lib.hid (BG.out.on hb)
            have HBW := Lib.hid (HBW.out.trans (hb.mono HBW.out.size))
            have HS := Lib.hid (HS.out.trans (hb.mono HS.out.size))
            clear hb
            refine hK _ _ HS.out (fun _ => ?_)
            clear hK K
            try simp only [Act.put, List.setIfInBounds_toArray, List.set_cons_succ, List.set_cons_zero]
            refine wpAnyH_take (i := 7) (oi := ⟨some 41, .move (.tmp 40), 4, _, _, none⟩) (v := .bool false) rfl (by kernel_rfl) (by kernel_rfl) (by kernel_rfl) (fun _ _ _ h => h) (Or.inl ⟨by rfl, fun _ _ => by go_simp⟩) HS.out ?_
            try simp only [Act.put, List.setIfInBounds_toArray, List.set_cons_succ, List.set_cons_zero]
            refine wpAnyH_take (i := 8) (oi := ⟨some 42, .move (.tmp 2), 23, _, _, some (7, true)⟩) (v := undef) rfl (by kernel_rfl) (by kernel_rfl) (by kernel_rfl) (fun _ _ _ h => h) (Or.inr ⟨by rfl, rfl⟩) HS.out ?_
            try simp only [Act.put, List.setIfInBounds_toArray, List.set_cons_succ, List.set_cons_zero]
            refine wpAnyH_take (i := 9) (oi := ⟨some 43, .fieldAddr 25 (.tmp 4) 1, _, _, _, some (7, true)⟩) (v := undef) rfl (by kernel_rfl) (by kernel_rfl) (by kernel_rfl) (fun _ _ _ h => h) (Or.inr ⟨by rfl, rfl⟩) HS.out ?_
            try simp only [Act.put, List.setIfInBounds_toArray, List.set_cons_succ, List.set_cons_zero]
            refine wpAnyH_take (i := 10) (oi := ⟨some 44, .load 23 (.tmp 43), 23, _, _, some (7, true)⟩) (v := undef) rfl (by kernel_rfl) (by kernel_rfl) (by kernel_rfl) (fun _ _ _ h => h) (Or.inr ⟨by rfl, rfl⟩) HS.out ?_
            try simp only [Act.put, List.setIfInBounds_toArray, List.set_cons_succ, List.set_cons_zero]
            refine wpAnyH_take (i := 11) (oi := ⟨some 45, .binOp .lss 23 (.tmp 42) (.tmp 44) 23, 4, _, _, some (7, true)⟩) (v := undef) rfl (by kernel_rfl) (by kernel_rfl) (by kernel_rfl) (fun _ _ _ h => h) (Or.inr ⟨by rfl, rfl⟩) HS.out ?_
            try simp only [Act.put, List.setIfInBounds_toArray, List.set_cons_succ, List.set_cons_zero]
            refine wpAnyH_take (i := 12) (oi := ⟨some 46, .pick (.tmp 41) (.tmp 45) (.const (.bool false)), 4, _, _, none⟩) (v := .bool false) rfl (by kernel_rfl) (by kernel_rfl) (by kernel_rfl) (fun _ _ _ h => h) (Or.inl ⟨by rfl, fun _ _ => by go_simp⟩) HS.out ?_
            try simp only [Act.put, List.setIfInBounds_toArray, List.set_cons_succ, List.set_cons_zero]
            refine wpAnyH_take (i := 13) (oi := ⟨some 7, .assign (.tmp 36), 4, _, _, none⟩) (v := .bool true) rfl (by kernel_rfl) (by kernel_rfl) (by kernel_rfl) (fun _ _ _ h => h) (Or.inl ⟨by rfl, fun _ _ => by go_simp⟩) HS.out ?_
            try simp only [Act.put, List.setIfInBounds_toArray, List.set_cons_succ, List.set_cons_zero]
            refine wpAnyH_take (i := 14) (oi := ⟨some 8, .assign (.tmp 46), 4, _, _, none⟩) (v := .bool false) rfl (by kernel_rfl) (by kernel_rfl) (by kernel_rfl) (fun _ _ _ h => h) (Or.inl ⟨by rfl, fun _ _ => by go_simp⟩) HS.out ?_
            try simp only [Act.put, List.setIfInBounds_toArray, List.set_cons_succ, List.set_cons_zero]
            refine wpAnyH_done (by kernel_rfl) ?_ _
            have b0 := BG.out.cell 0 rfl
            have b1 := BG.out.cell 1 rfl
            have HB := Lib.hid HBW.out
            clear HS HBW
            go_wp2_with fail
            refine (add_walk l r a n c _ HL.out).mono ?_
            rintro e w4 ⟨v4, z4, rfl, hO4, hz4, hb4⟩
            have HB4 := Lib.hid (HB.out.trans (hb4.mono HB.out.size))
            have HL4 := Lib.hid (HL.out.on hb4)
            have BG4 := Lib.hid (BG.out.on hb4)
            have HO4 := Lib.hid hO4
            obtain ⟨pa4, ca4, rfl, _⟩ := hO4.form
            clear hO4 hb4 b0 b1
            have b0 := BG4.out.cell 0 rfl
            have b1 := BG4.out.cell 1 rfl
            by_cases hz : (addR l r).2 = 0
            · have HKM := Lib.hid (addR_may l r)
              have HQ := Lib.hid (HADD.out hz)
              have HNS := Lib.hid (HEX.out hz)
              rw [hz] at hz4
              subst hz4
              have HK := Lib.hid (HO4.out.set HKM.out)
              clear hz
              go_wp2_with fail
              refine (has_x _ i _ _ _ _ HK.out (true || false) HQ.out).mono ?_
              rintro e w5 ⟨rfl, hb5⟩
              have HB5 := Lib.hid (HB4.out.trans (hb5.mono HB4.out.size))
              have HL5 := Lib.hid (HL4.out.on hb5)
              have BG5 := Lib.hid (BG4.out.on hb5)
              clear hb5 b0 b1 HK HO4 HL4 HB4 BG4
              have b0 := BG5.out.cell 0 rfl
              have b1 := BG5.out.cell 1 rfl
              go_wp2_with fail
              refine (sub_walk l r a n c _ HL5.out).mono ?_
              rintro e w6 ⟨v6, z6, rfl, hO6, hz6, hb6⟩
              have HB6 := Lib.hid (HB5.out.trans (hb6.mono HB5.out.size))
              have HL6 := Lib.hid (HL5.out.on hb6)
              have BG6 := Lib.hid (BG5.out.on hb6)
              have HO6 := Lib.hid hO6
              obtain ⟨pa6, ca6, rfl, _⟩ := hO6.form
              clear hO6 hb6 b0 b1 HL5 HB5 BG5
              have b0 := BG6.out.cell 0 rfl
              have b1 := BG6.out.cell 1 rfl
              have g1 : ¬ z6 = 0 := by rw [hz6]; exact HNS.out
              clear hz6 HO6
              have hbx := below_one1 w6 (.cells (rcb r) 25)
              have HBx := Lib.hid (HB6.out.trans (hbx.mono HB6.out.size))
              have HLx := Lib.hid (HL6.out.on hbx)
              have BGx := Lib.hid (BG6.out.on hbx)
              have HLr := Lib.hid (RgsIn.blk (l := [r]) (Blk.new w6 (rcb r) 25) (by simp [rcs, rcl]) 1 rfl (by simp [maxLen]) HONE.out.may.b64)
              clear hbx HL6 HB6 BG6
              go_wp2_with fail
              refine (meet_walk l [r] a n c _ 1 1 _ HLx.out HLr.out).mono ?_
              rintro e w8 ⟨v8, z8, rfl, hO, hz, hb8⟩
              rw [HMEQ.out] at hO hz
              obtain ⟨pm, cm, rfl, _⟩ := hO.form
              obtain rfl : z8 = 0 := hz
              have HB8 := Lib.hid (HBx.out.trans (hb8.mono HBx.out.size))
              have HL8 := Lib.hid (HLx.out.on hb8)
              have BG8 := Lib.hid (BGx.out.on hb8)
              have HK := Lib.hid (hO.set HMM.out)
              clear hO hb8 HLx HBx BGx HLr b0 b1
              have b0 := BG8.out.cell 0 rfl
              have b1 := BG8.out.cell 1 rfl
              go_wp2_with fail
              refine (has_x _ i _ _ _ _ HK.out (true && false) HMEET.out).mono ?_
              rintro e w9 ⟨rfl, hb9⟩
              have HB9 := Lib.hid (HB8.out.trans (hb9.mono HB8.out.size))
              have HL9 := Lib.hid (HL8.out.on hb9)
              have BG9 := Lib.hid (BG8.out.on hb9)
              clear hb9 HK HL8 HB8 BG8 b0 b1
              have b0 := BG9.out.cell 0 rfl
              have b1 := BG9.out.cell 1 rfl
              go_wp2_with fail
              refine (cut_walk l r.lo a n c _ HL9.out).mono ?_
              rintro e w10 ⟨v10, u10, rfl, hV, hU, hb10⟩
              have HB10 := Lib.hid (HB9.out.trans (hb10.mono HB9.out.size))
              have BG10 := Lib.hid (BG9.out.on hb10)
              rw [HCEQ.out] at hV hU
              obtain ⟨pv, cv, rfl, _⟩ := hV.form
              obtain ⟨pu, cu, rfl, _⟩ := hU.form
              have HV := Lib.hid (hV.set HVM.out)
              have HU := Lib.hid (hU.set HUM.out)
              clear hV hU hb10 HL9 HB9 BG9 b0 b1
              go_wp2_with fail
              refine (may_walkS _ _ _ _ _ HV.out true ⟨fun _ => HVM.out, fun _ => rfl⟩).mono ?_
              rintro e w11 ⟨rfl, hb11⟩
              have HB11 := Lib.hid (HB10.out.trans (hb11.mono HB10.out.size))
              have BG11 := Lib.hid (BG10.out.on hb11)
              have HV11 := Lib.hid (HV.out.on hb11)
              have HU11 := Lib.hid (HU.out.on hb11)
              clear hb11 HV HU HB10 BG10
              go_wp2_with fail
              refine (may_walkS _ _ _ _ _ HU11.out true ⟨fun _ => HUM.out, fun _ => rfl⟩).mono ?_
              rintro e w12 ⟨rfl, hb12⟩
              have HB12 := Lib.hid (HB11.out.trans (hb12.mono HB11.out.size))
              have BG12 := Lib.hid (BG11.out.on hb12)
              have HV12 := Lib.hid (HV11.out.on hb12)
              have HU12 := Lib.hid (HU11.out.on hb12)
              clear hb12 HV11 HU11 HB11 BG11
              have b0 := BG12.out.cell 0 rfl
              have b1 := BG12.out.cell 1 rfl
              go_wp2_with fail
              refine (has_x _ i _ _ _ _ HV12.out (true && true) HHV.out).mono ?_
              rintro e w13 ⟨rfl, hb13⟩
              have HB13 := Lib.hid (HB12.out.trans (hb13.mono HB12.out.size))
              have BG13 := Lib.hid (BG12.out.on hb13)
              have HU13 := Lib.hid (HU12.out.on hb13)
              clear hb13 HV12 HU12 HB12 BG12 b0 b1
              have b0 := BG13.out.cell 0 rfl
              have b1 := BG13.out.cell 1 rfl
              go_wp2_with fail
              refine (has_x _ i _ _ _ _ HU13.out (true && !true) HHU.out).mono ?_
              rintro e w14 ⟨rfl, hb14⟩
              have HB14 := Lib.hid (HB13.out.trans (hb14.mono HB13.out.size))
              have BG14 := Lib.hid (BG13.out.on hb14)
              clear hb14 HU13 HB13 BG13 b0 b1
              have b0 := BG14.out.cell 0 rfl
              have b1 := BG14.out.cell 1 rfl
              go_wp2
              go_ret
              exact ⟨by first | rfl | (simp; omega) | (simp; done), HB14.out⟩
            · have g0 : ¬ z4 = 0 := by rw [hz4]; exact hz
              clear hz hz4 HO4
              go_wp2_with fail
              refine (sub_walk l r a n c _ HL4.out).mono ?_
              rintro e w6 ⟨v6, z6, rfl, hO6, hz6, hb6⟩
              have HB6 := Lib.hid (HB4.out.trans (hb6.mono HB4.out.size))
              have HL6 := Lib.hid (HL4.out.on hb6)
              have BG6 := Lib.hid (BG4.out.on hb6)
              have HO6 := Lib.hid hO6
              obtain ⟨pa6, ca6, rfl, _⟩ := hO6.form
              clear hO6 hb6 b0 b1 HL4 HB4 BG4
              have b0 := BG6.out.cell 0 rfl
              have b1 := BG6.out.cell 1 rfl
              by_cases hz : (subR l r).2 = 0
              · have HKM := Lib.hid (subR_may l r)
                have HQ := Lib.hid (HSUB.out hz)
                rw [hz] at hz6
                subst hz6
                have HK := Lib.hid (HO6.out.set HKM.out)
                clear hz
                go_wp2_with fail
                refine (has_x _ i _ _ _ _ HK.out (true && !false) HQ.out).mono ?_
                rintro e w7 ⟨rfl, hb7⟩
                have HB7 := Lib.hid (HB6.out.trans (hb7.mono HB6.out.size))
                have HL7 := Lib.hid (HL6.out.on hb7)
                have BG7 := Lib.hid (BG6.out.on hb7)
                clear hb7 b0 b1 HK HO6 HL6 HB6 BG6
                have b0 := BG7.out.cell 0 rfl
                have b1 := BG7.out.cell 1 rfl
                have hbx := below_one1 w7 (.cells (rcb r) 25)
                have HBx := Lib.hid (HB7.out.trans (hbx.mono HB7.out.size))
                have HLx := Lib.hid (HL7.out.on hbx)
                have BGx := Lib.hid (BG7.out.on hbx)
                have HLr := Lib.hid (RgsIn.blk (l := [r]) (Blk.new w7 (rcb r) 25) (by simp [rcs, rcl]) 1 rfl (by simp [maxLen]) HONE.out.may.b64)
                clear hbx HL7 HB7 BG7
                go_wp2_with fail
                refine (meet_walk l [r] a n c _ 1 1 _ HLx.out HLr.out).mono ?_
                rintro e w8 ⟨v8, z8, rfl, hO, hz, hb8⟩
                rw [HMEQ.out] at hO hz
                obtain ⟨pm, cm, rfl, _⟩ := hO.form
                obtain rfl : z8 = 0 := hz
                have HB8 := Lib.hid (HBx.out.trans (hb8.mono HBx.out.size))
                have HL8 := Lib.hid (HLx.out.on hb8)
                have BG8 := Lib.hid (BGx.out.on hb8)
                have HK := Lib.hid (hO.set HMM.out)
                clear hO hb8 HLx HBx BGx HLr b0 b1
                have b0 := BG8.out.cell 0 rfl
                have b1 := BG8.out.cell 1 rfl
                go_wp2_with fail
                refine (has_x _ i _ _ _ _ HK.out (true && false) HMEET.out).mono ?_
                rintro e w9 ⟨rfl, hb9⟩
                have HB9 := Lib.hid (HB8.out.trans (hb9.mono HB8.out.size))
                have HL9 := Lib.hid (HL8.out.on hb9)
                have BG9 := Lib.hid (BG8.out.on hb9)
                clear hb9 HK HL8 HB8 BG8 b0 b1
                have b0 := BG9.out.cell 0 rfl
                have b1 := BG9.out.cell 1 rfl
                go_wp2_with fail
                refine (cut_walk l r.lo a n c _ HL9.out).mono ?_
                rintro e w10 ⟨v10, u10, rfl, hV, hU, hb10⟩
                have HB10 := Lib.hid (HB9.out.trans (hb10.mono HB9.out.size))
                have BG10 := Lib.hid (BG9.out.on hb10)
                rw [HCEQ.out] at hV hU
                obtain ⟨pv, cv, rfl, _⟩ := hV.form
                obtain ⟨pu, cu, rfl, _⟩ := hU.form
                have HV := Lib.hid (hV.set HVM.out)
                have HU := Lib.hid (hU.set HUM.out)
                clear hV hU hb10 HL9 HB9 BG9 b0 b1
                go_wp2_with fail
                refine (may_walkS _ _ _ _ _ HV.out true ⟨fun _ => HVM.out, fun _ => rfl⟩).mono ?_
                rintro e w11 ⟨rfl, hb11⟩
                have HB11 := Lib.hid (HB10.out.trans (hb11.mono HB10.out.size))
                have BG11 := Lib.hid (BG10.out.on hb11)
                have HV11 := Lib.hid (HV.out.on hb11)
                have HU11 := Lib.hid (HU.out.on hb11)
                clear hb11 HV HU HB10 BG10
                go_wp2_with fail
                refine (may_walkS _ _ _ _ _ HU11.out true ⟨fun _ => HUM.out, fun _ => rfl⟩).mono ?_
                rintro e w12 ⟨rfl, hb12⟩
                have HB12 := Lib.hid (HB11.out.trans (hb12.mono HB11.out.size))
                have BG12 := Lib.hid (BG11.out.on hb12)
                have HV12 := Lib.hid (HV11.out.on hb12)
                have HU12 := Lib.hid (HU11.out.on hb12)
                clear hb12 HV11 HU11 HB11 BG11
                have b0 := BG12.out.cell 0 rfl
                have b1 := BG12.out.cell 1 rfl
                go_wp2_with fail
                refine (has_x _ i _ _ _ _ HV12.out (true && true) HHV.out).mono ?_
                rintro e w13 ⟨rfl, hb13⟩
                have HB13 := Lib.hid (HB12.out.trans (hb13.mono HB12.out.size))
                have BG13 := Lib.hid (BG12.out.on hb13)
                have HU13 := Lib.hid (HU12.out.on hb13)
                clear hb13 HV12 HU12 HB12 BG12 b0 b1
                have b0 := BG13.out.cell 0 rfl
                have b1 := BG13.out.cell 1 rfl
                go_wp2_with fail
                refine (has_x _ i _ _ _ _ HU13.out (true && !true) HHU.out).mono ?_
                rintro e w14 ⟨rfl, hb14⟩
                have HB14 := Lib.hid (HB13.out.trans (hb14.mono HB13.out.size))
                have BG14 := Lib.hid (BG13.out.on hb14)
                clear hb14 HU13 HB13 BG13 b0 b1
                have b0 := BG14.out.cell 0 rfl
                have b1 := BG14.out.cell 1 rfl
                go_wp2
                go_ret
                exact ⟨by first | rfl | (simp; omega) | (simp; done), HB14.out⟩
              · have g1 : ¬ z6 = 0 := by rw [hz6]; exact hz
                clear hz hz6 HO6
                have hbx := below_one1 w6 (.cells (rcb r) 25)
                have HBx := Lib.hid (HB6.out.trans (hbx.mono HB6.out.size))
                have HLx := Lib.hid (HL6.out.on hbx)
                have BGx := Lib.hid (BG6.out.on hbx)
                have HLr := Lib.hid (RgsIn.blk (l := [r]) (Blk.new w6 (rcb r) 25) (by simp [rcs, rcl]) 1 rfl (by simp [maxLen]) HONE.out.may.b64)
                clear hbx HL6 HB6 BG6
                go_wp2_with fail
                refine (meet_walk l [r] a n c _ 1 1 _ HLx.out HLr.out).mono ?_
                rintro e w8 ⟨v8, z8, rfl, hO, hz, hb8⟩
                rw [HMEQ.out] at hO hz
                obtain ⟨pm, cm, rfl, _⟩ := hO.form
                obtain rfl : z8 = 0 := hz
                have HB8 := Lib.hid (HBx.out.trans (hb8.mono HBx.out.size))
                have HL8 := Lib.hid (HLx.out.on hb8)
                have BG8 := Lib.hid (BGx.out.on hb8)
                have HK := Lib.hid (hO.set HMM.out)
                clear hO hb8 HLx HBx BGx HLr b0 b1
                have b0 := BG8.out.cell 0 rfl
                have b1 := BG8.out.cell 1 rfl
                go_wp2_with fail
                refine (has_x _ i _ _ _ _ HK.out (true && false) HMEET.out).mono ?_
                rintro e w9 ⟨rfl, hb9⟩
                have HB9 := Lib.hid (HB8.out.trans (hb9.mono HB8.out.size))
                have HL9 := Lib.hid (HL8.out.on hb9)
                have BG9 := Lib.hid (BG8.out.on hb9)
                clear hb9 HK HL8 HB8 BG8 b0 b1
                have b0 := BG9.out.cell 0 rfl
                have b1 := BG9.out.cell 1 rfl
                go_wp2_with fail
                refine (cut_walk l r.lo a n c _ HL9.out).mono ?_
                rintro e w10 ⟨v10, u10, rfl, hV, hU, hb10⟩
                have HB10 := Lib.hid (HB9.out.trans (hb10.mono HB9.out.size))
                have BG10 := Lib.hid (BG9.out.on hb10)
                rw [HCEQ.out] at hV hU
                obtain ⟨pv, cv, rfl, _⟩ := hV.form
                obtain ⟨pu, cu, rfl, _⟩ := hU.form
                have HV := Lib.hid (hV.set HVM.out)
                have HU := Lib.hid (hU.set HUM.out)
                clear hV hU hb10 HL9 HB9 BG9 b0 b1
                go_wp2_with fail
                refine (may_walkS _ _ _ _ _ HV.out true ⟨fun _ => HVM.out, fun _ => rfl⟩).mono ?_
                rintro e w11 ⟨rfl, hb11⟩
                have HB11 := Lib.hid (HB10.out.trans (hb11.mono HB10.out.size))
                have BG11 := Lib.hid (BG10.out.on hb11)
                have HV11 := Lib.hid (HV.out.on hb11)
                have HU11 := Lib.hid (HU.out.on hb11)
                clear hb11 HV HU HB10 BG10
                go_wp2_with fail
                refine (may_walkS _ _ _ _ _ HU11.out true ⟨fun _ => HUM.out, fun _ => rfl⟩).mono ?_
                rintro e w12 ⟨rfl, hb12⟩
                have HB12 := Lib.hid (HB11.out.trans (hb12.mono HB11.out.size))
                have BG12 := Lib.hid (BG11.out.on hb12)
                have HV12 := Lib.hid (HV11.out.on hb12)
                have HU12 := Lib.hid (HU11.out.on hb12)
                clear hb12 HV11 HU11 HB11 BG11
                have b0 := BG12.out.cell 0 rfl
                have b1 := BG12.out.cell 1 rfl
                go_wp2_with fail
                refine (has_x _ i _ _ _ _ HV12.out (true && true) HHV.out).mono ?_
                rintro e w13 ⟨rfl, hb13⟩
                have HB13 := Lib.hid (HB12.out.trans (hb13.mono HB12.out.size))
                have BG13 := Lib.hid (BG12.out.on hb13)
                have HU13 := Lib.hid (HU12.out.on hb13)
                clear hb13 HV12 HU12 HB12 BG12 b0 b1
                have b0 := BG13.out.cell 0 rfl
                have b1 := BG13.out.cell 1 rfl
                go_wp2_with fail
                refine (has_x _ i _ _ _ _ HU13.out (true && !true) HHU.out).mono ?_
                rintro e w14 ⟨rfl, hb14⟩
                have HB14 := Lib.hid (HB13.out.trans (hb14.mono HB13.out.size))
                have BG14 := Lib.hid (BG13.out.on hb14)
                clear hb14 HU13 HB13 BG13 b0 b1
                have b0 := BG14.out.cell 0 rfl
                have b1 := BG14.out.cell 1 rfl
                go_wp2
                go_ret
                exact ⟨by first | rfl | (simp; omega) | (simp; done), HB14.out⟩
          · have g1 : (r.lo : Int) ≤ (i : Int) := by omega
            have g2 : ¬ (i : Int) < (r.lo : Int) := by omega
            rcases Nat.lt_or_ge i r.hi with q2 | q2
            · have g3 : (i : Int) < (r.hi : Int) := by omega
              have HX := members_of (p := true) (o := true) (lt := false) HMAY.out HONE.out ⟨fun _ => hm, fun _ => rfl⟩ ⟨fun _ => ⟨by omega, by omega⟩, fun _ => rfl⟩ ⟨fun h => (by cases h), fun h => absurd h (by omega)⟩
              have HP := Lib.hid HX.has
              have HADD := Lib.hid HX.add
              have HEX := Lib.hid HX.ex
              have HSUB := Lib.hid HX.sub
              have HMEET := Lib.hid HX.meet
              have HMM := Lib.hid HX.mm
              have HHV := Lib.hid HX.below
              have HHU := Lib.hid HX.above
              clear HX hm
              refine wp_region_held_drew (S := fun w' => Below W.heap.size W w') (by kernel_rfl) (Below.refl _ _).drew (fun _ => ?_)
              have HS := Lib.hid ((Below.refl W.heap.size W).drew)
              have HL := Lib.hid (HL.out.on (HS.out))
              have BG := Lib.hid (BG.out.on (HS.out))
              have HBW := Lib.hid (HBW.out.trans ((HS.out).mono HBW.out.size))
              generalize World.drew W = v0 at *
              try simp only [Act.put, List.setIfInBounds_toArray, List.set_cons_succ, List.set_cons_zero]
              refine wpAnyH_take (i := 0) (oi := ⟨some 34, .move (.tmp 0), 22, _, _, none⟩) (v := .slice a n c) rfl (by kernel_rfl) (by kernel_rfl) (by kernel_rfl) (fun _ _ _ h => h) (Or.inl ⟨by rfl, fun _ _ => by go_simp⟩) HS.out ?_
              try simp only [Act.put, List.setIfInBounds_toArray, List.set_cons_succ, List.set_cons_zero]
              refine wpAnyH_take (i := 1) (oi := ⟨some 35, .move (.tmp 2), 23, _, _, none⟩) (v := .int .u64 (i : Nat)) rfl (by kernel_rfl) (by kernel_rfl) (by kernel_rfl) (fun _ _ _ h => h) (Or.inl ⟨by rfl, fun _ _ => by go_simp⟩) HS.out ?_
              try simp only [Act.put, List.setIfInBounds_toArray, List.set_cons_succ, List.set_cons_zero]
              refine wpAnyH_take (i := 3) (oi := ⟨some 37, .move (.tmp 2), 23, _, _, none⟩) (v := .int .u64 (i : Nat)) rfl (by kernel_rfl) (by kernel_rfl) (by kernel_rfl) (fun _ _ _ h => h) (Or.inl ⟨by rfl, fun _ _ => by go_simp⟩) HS.out ?_
              try simp only [Act.put, List.setIfInBounds_toArray, List.set_cons_succ, List.set_cons_zero]
              refine wpAnyH_take (i := 4) (oi := ⟨some 38, .fieldAddr 25 (.tmp 4) 0, _, _, _, none⟩) (v := .pointer (some ⟨w.heap.size, 0, none⟩)) rfl (by kernel_rfl) (by kernel_rfl) (by kernel_rfl) (fun _ _ _ h => h) (Or.inl ⟨by rfl, fun _ _ => by go_simp⟩) HS.out ?_
              try simp only [Act.put, List.setIfInBounds_toArray, List.set_cons_succ, List.set_cons_zero]
              refine wpAnyH_take (i := 5) (oi := ⟨some 39, .load 23 (.tmp 38), 23, _, _, none⟩) (v := .int .u64 (r.lo : Nat)) rfl (by kernel_rfl) (by kernel_rfl) (by kernel_rfl) (fun _ _ _ h => h) (Or.inl ⟨by rfl, fun vv hvv => yields_u64 (.tmp 38) rfl ⟨w.heap.size, 0, none⟩ rfl ((BG0.out.below hvv BG0.out.lt).cell 0 rfl)⟩) HS.out ?_
              try simp only [Act.put, List.setIfInBounds_toArray, List.set_cons_succ, List.set_cons_zero]
              refine wpAnyH_take (i := 6) (oi := ⟨some 40, .binOp .geq 23 (.tmp 37) (.tmp 39) 23, 4, _, _, none⟩) (v := .bool true) rfl (by kernel_rfl) (by kernel_rfl) (by kernel_rfl) (fun _ _ _ h => h) (Or.inl ⟨by rfl, fun _ _ => by go_simp⟩) HS.out ?_
              try simp only [Act.put, List.setIfInBounds_toArray, List.set_cons_succ, List.set_cons_zero]
              refine wpAnyH_ready (rs := [2]) (by kernel_rfl) (by simp) ?_
              refine AllReadyH.cons (o := ⟨some 36, .call { callee := .value (.func 72), args := #[.tmp 34, .tmp 35], argTypes := #[22, 23] }, 4, _, _, none⟩) rfl (fun K hK => ?_) AllReadyH.nil
              go_simp
              refine (has_x l i a n c v0 HL.out true HP.out).mono ?_
              rintro e v1 ⟨rfl, hb⟩
              have HL := Lib.hid (HL.out.on hb)
              have BG := Lib.hid (BG.out.on hb)
              have HBW := Lib.hid (HBW.out.trans (hb.mono HBW.out.size))
              have HS := Lib.hid (HS.out.trans (hb.mono HS.out.size))
              clear hb
              refine hK _ _ HS.out (fun _ => ?_)
              clear hK K
              try simp only [Act.put, List.setIfInBounds_toArray, List.set_cons_succ, List.set_cons_zero]
              refine wpAnyH_take (i := 7) (oi := ⟨some 41, .move (.tmp 40), 4, _, _, none⟩) (v := .bool true) rfl (by kernel_rfl) (by kernel_rfl) (by kernel_rfl) (fun _ _ _ h => h) (Or.inl ⟨by rfl, fun _ _ => by go_simp⟩) HS.out ?_
              try simp only [Act.put, List.setIfInBounds_toArray, List.set_cons_succ, List.set_cons_zero]
              refine wpAnyH_take (i := 8) (oi := ⟨some 42, .move (.tmp 2), 23, _, _, some (7, true)⟩) (v := .int .u64 (i : Nat)) rfl (by kernel_rfl) (by kernel_rfl) (by kernel_rfl) (fun _ _ _ h => h) (Or.inl ⟨by rfl, fun _ _ => by go_simp⟩) HS.out ?_
              try simp only [Act.put, List.setIfInBounds_toArray, List.set_cons_succ, List.set_cons_zero]
              refine wpAnyH_take (i := 9) (oi := ⟨some 43, .fieldAddr 25 (.tmp 4) 1, _, _, _, some (7, true)⟩) (v := .pointer (some ⟨w.heap.size, 1, none⟩)) rfl (by kernel_rfl) (by kernel_rfl) (by kernel_rfl) (fun _ _ _ h => h) (Or.inl ⟨by rfl, fun _ _ => by go_simp⟩) HS.out ?_
              try simp only [Act.put, List.setIfInBounds_toArray, List.set_cons_succ, List.set_cons_zero]
              refine wpAnyH_take (i := 10) (oi := ⟨some 44, .load 23 (.tmp 43), 23, _, _, some (7, true)⟩) (v := .int .u64 (r.hi : Nat)) rfl (by kernel_rfl) (by kernel_rfl) (by kernel_rfl) (fun _ _ _ h => h) (Or.inl ⟨by rfl, fun vv hvv => yields_u64 (.tmp 43) rfl ⟨w.heap.size, 1, none⟩ rfl ((BG0.out.below hvv BG0.out.lt).cell 1 rfl)⟩) HS.out ?_
              try simp only [Act.put, List.setIfInBounds_toArray, List.set_cons_succ, List.set_cons_zero]
              refine wpAnyH_take (i := 11) (oi := ⟨some 45, .binOp .lss 23 (.tmp 42) (.tmp 44) 23, 4, _, _, some (7, true)⟩) (v := .bool true) rfl (by kernel_rfl) (by kernel_rfl) (by kernel_rfl) (fun _ _ _ h => h) (Or.inl ⟨by rfl, fun _ _ => by go_simp⟩) HS.out ?_
              try simp only [Act.put, List.setIfInBounds_toArray, List.set_cons_succ, List.set_cons_zero]
              refine wpAnyH_take (i := 12) (oi := ⟨some 46, .pick (.tmp 41) (.tmp 45) (.const (.bool false)), 4, _, _, none⟩) (v := .bool true) rfl (by kernel_rfl) (by kernel_rfl) (by kernel_rfl) (fun _ _ _ h => h) (Or.inl ⟨by rfl, fun _ _ => by go_simp⟩) HS.out ?_
              try simp only [Act.put, List.setIfInBounds_toArray, List.set_cons_succ, List.set_cons_zero]
              refine wpAnyH_take (i := 13) (oi := ⟨some 7, .assign (.tmp 36), 4, _, _, none⟩) (v := .bool true) rfl (by kernel_rfl) (by kernel_rfl) (by kernel_rfl) (fun _ _ _ h => h) (Or.inl ⟨by rfl, fun _ _ => by go_simp⟩) HS.out ?_
              try simp only [Act.put, List.setIfInBounds_toArray, List.set_cons_succ, List.set_cons_zero]
              refine wpAnyH_take (i := 14) (oi := ⟨some 8, .assign (.tmp 46), 4, _, _, none⟩) (v := .bool true) rfl (by kernel_rfl) (by kernel_rfl) (by kernel_rfl) (fun _ _ _ h => h) (Or.inl ⟨by rfl, fun _ _ => by go_simp⟩) HS.out ?_
              try simp only [Act.put, List.setIfInBounds_toArray, List.set_cons_succ, List.set_cons_zero]
              refine wpAnyH_done (by kernel_rfl) ?_ _
              have b0 := BG.out.cell 0 rfl
              have b1 := BG.out.cell 1 rfl
              have HB := Lib.hid HBW.out
              clear HS HBW
              go_wp2_with fail
              refine (add_walk l r a n c _ HL.out).mono ?_
              rintro e w4 ⟨v4, z4, rfl, hO4, hz4, hb4⟩
              have HB4 := Lib.hid (HB.out.trans (hb4.mono HB.out.size))
              have HL4 := Lib.hid (HL.out.on hb4)
              have BG4 := Lib.hid (BG.out.on hb4)
              have HO4 := Lib.hid hO4
              obtain ⟨pa4, ca4, rfl, _⟩ := hO4.form
              clear hO4 hb4 b0 b1
              have b0 := BG4.out.cell 0 rfl
              have b1 := BG4.out.cell 1 rfl
              by_cases hz : (addR l r).2 = 0
              · have HKM := Lib.hid (addR_may l r)
                have HQ := Lib.hid (HADD.out hz)
                have HNS := Lib.hid (HEX.out hz)
                rw [hz] at hz4
                subst hz4
                have HK := Lib.hid (HO4.out.set HKM.out)
                clear hz
                go_wp2_with fail
                refine (has_x _ i _ _ _ _ HK.out (true || true) HQ.out).mono ?_
                rintro e w5 ⟨rfl, hb5⟩
                have HB5 := Lib.hid (HB4.out.trans (hb5.mono HB4.out.size))
                have HL5 := Lib.hid (HL4.out.on hb5)
                have BG5 := Lib.hid (BG4.out.on hb5)
                clear hb5 b0 b1 HK HO4 HL4 HB4 BG4
                have b0 := BG5.out.cell 0 rfl
                have b1 := BG5.out.cell 1 rfl
                go_wp2_with fail
                refine (sub_walk l r a n c _ HL5.out).mono ?_
                rintro e w6 ⟨v6, z6, rfl, hO6, hz6, hb6⟩
                have HB6 := Lib.hid (HB5.out.trans (hb6.mono HB5.out.size))
                have HL6 := Lib.hid (HL5.out.on hb6)
                have BG6 := Lib.hid (BG5.out.on hb6)
                have HO6 := Lib.hid hO6
                obtain ⟨pa6, ca6, rfl, _⟩ := hO6.form
                clear hO6 hb6 b0 b1 HL5 HB5 BG5
                have b0 := BG6.out.cell 0 rfl
                have b1 := BG6.out.cell 1 rfl
                have g1 : ¬ z6 = 0 := by rw [hz6]; exact HNS.out
                clear hz6 HO6
                have hbx := below_one1 w6 (.cells (rcb r) 25)
                have HBx := Lib.hid (HB6.out.trans (hbx.mono HB6.out.size))
                have HLx := Lib.hid (HL6.out.on hbx)
                have BGx := Lib.hid (BG6.out.on hbx)
                have HLr := Lib.hid (RgsIn.blk (l := [r]) (Blk.new w6 (rcb r) 25) (by simp [rcs, rcl]) 1 rfl (by simp [maxLen]) HONE.out.may.b64)
                clear hbx HL6 HB6 BG6
                go_wp2_with fail
                refine (meet_walk l [r] a n c _ 1 1 _ HLx.out HLr.out).mono ?_
                rintro e w8 ⟨v8, z8, rfl, hO, hz, hb8⟩
                rw [HMEQ.out] at hO hz
                obtain ⟨pm, cm, rfl, _⟩ := hO.form
                obtain rfl : z8 = 0 := hz
                have HB8 := Lib.hid (HBx.out.trans (hb8.mono HBx.out.size))
                have HL8 := Lib.hid (HLx.out.on hb8)
                have BG8 := Lib.hid (BGx.out.on hb8)
                have HK := Lib.hid (hO.set HMM.out)
                clear hO hb8 HLx HBx BGx HLr b0 b1
                have b0 := BG8.out.cell 0 rfl
                have b1 := BG8.out.cell 1 rfl
                go_wp2_with fail
                refine (has_x _ i _ _ _ _ HK.out (true && true) HMEET.out).mono ?_
                rintro e w9 ⟨rfl, hb9⟩
                have HB9 := Lib.hid (HB8.out.trans (hb9.mono HB8.out.size))
                have HL9 := Lib.hid (HL8.out.on hb9)
                have BG9 := Lib.hid (BG8.out.on hb9)
                clear hb9 HK HL8 HB8 BG8 b0 b1
                have b0 := BG9.out.cell 0 rfl
                have b1 := BG9.out.cell 1 rfl
                go_wp2_with fail
                refine (cut_walk l r.lo a n c _ HL9.out).mono ?_
                rintro e w10 ⟨v10, u10, rfl, hV, hU, hb10⟩
                have HB10 := Lib.hid (HB9.out.trans (hb10.mono HB9.out.size))
                have BG10 := Lib.hid (BG9.out.on hb10)
                rw [HCEQ.out] at hV hU
                obtain ⟨pv, cv, rfl, _⟩ := hV.form
                obtain ⟨pu, cu, rfl, _⟩ := hU.form
                have HV := Lib.hid (hV.set HVM.out)
                have HU := Lib.hid (hU.set HUM.out)
                clear hV hU hb10 HL9 HB9 BG9 b0 b1
                go_wp2_with fail
                refine (may_walkS _ _ _ _ _ HV.out true ⟨fun _ => HVM.out, fun _ => rfl⟩).mono ?_
                rintro e w11 ⟨rfl, hb11⟩
                have HB11 := Lib.hid (HB10.out.trans (hb11.mono HB10.out.size))
                have BG11 := Lib.hid (BG10.out.on hb11)
                have HV11 := Lib.hid (HV.out.on hb11)
                have HU11 := Lib.hid (HU.out.on hb11)
                clear hb11 HV HU HB10 BG10
                go_wp2_with fail
                refine (may_walkS _ _ _ _ _ HU11.out true ⟨fun _ => HUM.out, fun _ => rfl⟩).mono ?_
                rintro e w12 ⟨rfl, hb12⟩
                have HB12 := Lib.hid (HB11.out.trans (hb12.mono HB11.out.size))
                have BG12 := Lib.hid (BG11.out.on hb12)
                have HV12 := Lib.hid (HV11.out.on hb12)
                have HU12 := Lib.hid (HU11.out.on hb12)
                clear hb12 HV11 HU11 HB11 BG11
                have b0 := BG12.out.cell 0 rfl
                have b1 := BG12.out.cell 1 rfl
                go_wp2_with fail
                refine (has_x _ i _ _ _ _ HV12.out (true && false) HHV.out).mono ?_
                rintro e w13 ⟨rfl, hb13⟩
                have HB13 := Lib.hid (HB12.out.trans (hb13.mono HB12.out.size))
                have BG13 := Lib.hid (BG12.out.on hb13)
                have HU13 := Lib.hid (HU12.out.on hb13)
                clear hb13 HV12 HU12 HB12 BG12 b0 b1
                have b0 := BG13.out.cell 0 rfl
                have b1 := BG13.out.cell 1 rfl
                go_wp2_with fail
                refine (has_x _ i _ _ _ _ HU13.out (true && !false) HHU.out).mono ?_
                rintro e w14 ⟨rfl, hb14⟩
                have HB14 := Lib.hid (HB13.out.trans (hb14.mono HB13.out.size))
                have BG14 := Lib.hid (BG13.out.on hb14)
                clear hb14 HU13 HB13 BG13 b0 b1
                have b0 := BG14.out.cell 0 rfl
                have b1 := BG14.out.cell 1 rfl
                go_wp2
                go_ret
                exact ⟨by first | rfl | (simp; omega) | (simp; done), HB14.out⟩
              · have g0 : ¬ z4 = 0 := by rw [hz4]; exact hz
                clear hz hz4 HO4
                go_wp2_with fail
                refine (sub_walk l r a n c _ HL4.out).mono ?_
                rintro e w6 ⟨v6, z6, rfl, hO6, hz6, hb6⟩
                have HB6 := Lib.hid (HB4.out.trans (hb6.mono HB4.out.size))
                have HL6 := Lib.hid (HL4.out.on hb6)
                have BG6 := Lib.hid (BG4.out.on hb6)
                have HO6 := Lib.hid hO6
                obtain ⟨pa6, ca6, rfl, _⟩ := hO6.form
                clear hO6 hb6 b0 b1 HL4 HB4 BG4
                have b0 := BG6.out.cell 0 rfl
                have b1 := BG6.out.cell 1 rfl
                by_cases hz : (subR l r).2 = 0
                · have HKM := Lib.hid (subR_may l r)
                  have HQ := Lib.hid (HSUB.out hz)
                  rw [hz] at hz6
                  subst hz6
                  have HK := Lib.hid (HO6.out.set HKM.out)
                  clear hz
                  go_wp2_with fail
                  refine (has_x _ i _ _ _ _ HK.out (true && !true) HQ.out).mono ?_
                  rintro e w7 ⟨rfl, hb7⟩
                  have HB7 := Lib.hid (HB6.out.trans (hb7.mono HB6.out.size))
                  have HL7 := Lib.hid (HL6.out.on hb7)
                  have BG7 := Lib.hid (BG6.out.on hb7)
                  clear hb7 b0 b1 HK HO6 HL6 HB6 BG6
                  have b0 := BG7.out.cell 0 rfl
                  have b1 := BG7.out.cell 1 rfl
                  have hbx := below_one1 w7 (.cells (rcb r) 25)
                  have HBx := Lib.hid (HB7.out.trans (hbx.mono HB7.out.size))
                  have HLx := Lib.hid (HL7.out.on hbx)
                  have BGx := Lib.hid (BG7.out.on hbx)
                  have HLr := Lib.hid (RgsIn.blk (l := [r]) (Blk.new w7 (rcb r) 25) (by simp [rcs, rcl]) 1 rfl (by simp [maxLen]) HONE.out.may.b64)
                  clear hbx HL7 HB7 BG7
                  go_wp2_with fail
                  refine (meet_walk l [r] a n c _ 1 1 _ HLx.out HLr.out).mono ?_
                  rintro e w8 ⟨v8, z8, rfl, hO, hz, hb8⟩
                  rw [HMEQ.out] at hO hz
                  obtain ⟨pm, cm, rfl, _⟩ := hO.form
                  obtain rfl : z8 = 0 := hz
                  have HB8 := Lib.hid (HBx.out.trans (hb8.mono HBx.out.size))
                  have HL8 := Lib.hid (HLx.out.on hb8)
                  have BG8 := Lib.hid (BGx.out.on hb8)
                  have HK := Lib.hid (hO.set HMM.out)
                  clear hO hb8 HLx HBx BGx HLr b0 b1
                  have b0 := BG8.out.cell 0 rfl
                  have b1 := BG8.out.cell 1 rfl
                  go_wp2_with fail
                  refine (has_x _ i _ _ _ _ HK.out (true && true) HMEET.out).mono ?_
                  rintro e w9 ⟨rfl, hb9⟩
                  have HB9 := Lib.hid (HB8.out.trans (hb9.mono HB8.out.size))
                  have HL9 := Lib.hid (HL8.out.on hb9)
                  have BG9 := Lib.hid (BG8.out.on hb9)
                  clear hb9 HK HL8 HB8 BG8 b0 b1
                  have b0 := BG9.out.cell 0 rfl
                  have b1 := BG9.out.cell 1 rfl
                  go_wp2_with fail
                  refine (cut_walk l r.lo a n c _ HL9.out).mono ?_
                  rintro e w10 ⟨v10, u10, rfl, hV, hU, hb10⟩
                  have HB10 := Lib.hid (HB9.out.trans (hb10.mono HB9.out.size))
                  have BG10 := Lib.hid (BG9.out.on hb10)
                  rw [HCEQ.out] at hV hU
                  obtain ⟨pv, cv, rfl, _⟩ := hV.form
                  obtain ⟨pu, cu, rfl, _⟩ := hU.form
                  have HV := Lib.hid (hV.set HVM.out)
                  have HU := Lib.hid (hU.set HUM.out)
                  clear hV hU hb10 HL9 HB9 BG9 b0 b1
                  go_wp2_with fail
                  refine (may_walkS _ _ _ _ _ HV.out true ⟨fun _ => HVM.out, fun _ => rfl⟩).mono ?_
                  rintro e w11 ⟨rfl, hb11⟩
                  have HB11 := Lib.hid (HB10.out.trans (hb11.mono HB10.out.size))
                  have BG11 := Lib.hid (BG10.out.on hb11)
                  have HV11 := Lib.hid (HV.out.on hb11)
                  have HU11 := Lib.hid (HU.out.on hb11)
                  clear hb11 HV HU HB10 BG10
                  go_wp2_with fail
                  refine (may_walkS _ _ _ _ _ HU11.out true ⟨fun _ => HUM.out, fun _ => rfl⟩).mono ?_
                  rintro e w12 ⟨rfl, hb12⟩
                  have HB12 := Lib.hid (HB11.out.trans (hb12.mono HB11.out.size))
                  have BG12 := Lib.hid (BG11.out.on hb12)
                  have HV12 := Lib.hid (HV11.out.on hb12)
                  have HU12 := Lib.hid (HU11.out.on hb12)
                  clear hb12 HV11 HU11 HB11 BG11
                  have b0 := BG12.out.cell 0 rfl
                  have b1 := BG12.out.cell 1 rfl
                  go_wp2_with fail
                  refine (has_x _ i _ _ _ _ HV12.out (true && false) HHV.out).mono ?_
                  rintro e w13 ⟨rfl, hb13⟩
                  have HB13 := Lib.hid (HB12.out.trans (hb13.mono HB12.out.size))
                  have BG13 := Lib.hid (BG12.out.on hb13)
                  have HU13 := Lib.hid (HU12.out.on hb13)
                  clear hb13 HV12 HU12 HB12 BG12 b0 b1
                  have b0 := BG13.out.cell 0 rfl
                  have b1 := BG13.out.cell 1 rfl
                  go_wp2_with fail
                  refine (has_x _ i _ _ _ _ HU13.out (true && !false) HHU.out).mono ?_
                  rintro e w14 ⟨rfl, hb14⟩
                  have HB14 := Lib.hid (HB13.out.trans (hb14.mono HB13.out.size))
                  have BG14 := Lib.hid (BG13.out.on hb14)
                  clear hb14 HU13 HB13 BG13 b0 b1
                  have b0 := BG14.out.cell 0 rfl
                  have b1 := BG14.out.cell 1 rfl
                  go_wp2
                  go_ret
                  exact ⟨by first | rfl | (simp; omega) | (simp; done), HB14.out⟩
                · have g1 : ¬ z6 = 0 := by rw [hz6]; exact hz
                  clear hz hz6 HO6
                  have hbx := below_one1 w6 (.cells (rcb r) 25)
                  have HBx := Lib.hid (HB6.out.trans (hbx.mono HB6.out.size))
                  have HLx := Lib.hid (HL6.out.on hbx)
                  have BGx := Lib.hid (BG6.out.on hbx)
                  have HLr := Lib.hid (RgsIn.blk (l := [r]) (Blk.new w6 (rcb r) 25) (by simp [rcs, rcl]) 1 rfl (by simp [maxLen]) HONE.out.may.b64)
                  clear hbx HL6 HB6 BG6
                  go_wp2_with fail
                  refine (meet_walk l [r] a n c _ 1 1 _ HLx.out HLr.out).mono ?_
                  rintro e w8 ⟨v8, z8, rfl, hO, hz, hb8⟩
                  rw [HMEQ.out] at hO hz
                  obtain ⟨pm, cm, rfl, _⟩ := hO.form
                  obtain rfl : z8 = 0 := hz
                  have HB8 := Lib.hid (HBx.out.trans (hb8.mono HBx.out.size))
                  have HL8 := Lib.hid (HLx.out.on hb8)
                  have BG8 := Lib.hid (BGx.out.on hb8)
                  have HK := Lib.hid (hO.set HMM.out)
                  clear hO hb8 HLx HBx BGx HLr b0 b1
                  have b0 := BG8.out.cell 0 rfl
                  have b1 := BG8.out.cell 1 rfl
                  go_wp2_with fail
                  refine (has_x _ i _ _ _ _ HK.out (true && true) HMEET.out).mono ?_
                  rintro e w9 ⟨rfl, hb9⟩
                  have HB9 := Lib.hid (HB8.out.trans (hb9.mono HB8.out.size))
                  have HL9 := Lib.hid (HL8.out.on hb9)
                  have BG9 := Lib.hid (BG8.out.on hb9)
                  clear hb9 HK HL8 HB8 BG8 b0 b1
                  have b0 := BG9.out.cell 0 rfl
                  have b1 := BG9.out.cell 1 rfl
                  go_wp2_with fail
                  refine (cut_walk l r.lo a n c _ HL9.out).mono ?_
                  rintro e w10 ⟨v10, u10, rfl, hV, hU, hb10⟩
                  have HB10 := Lib.hid (HB9.out.trans (hb10.mono HB9.out.size))
                  have BG10 := Lib.hid (BG9.out.on hb10)
                  rw [HCEQ.out] at hV hU
                  obtain ⟨pv, cv, rfl, _⟩ := hV.form
                  obtain ⟨pu, cu, rfl, _⟩ := hU.form
                  have HV := Lib.hid (hV.set HVM.out)
                  have HU := Lib.hid (hU.set HUM.out)
                  clear hV hU hb10 HL9 HB9 BG9 b0 b1
                  go_wp2_with fail
                  refine (may_walkS _ _ _ _ _ HV.out true ⟨fun _ => HVM.out, fun _ => rfl⟩).mono ?_
                  rintro e w11 ⟨rfl, hb11⟩
                  have HB11 := Lib.hid (HB10.out.trans (hb11.mono HB10.out.size))
                  have BG11 := Lib.hid (BG10.out.on hb11)
                  have HV11 := Lib.hid (HV.out.on hb11)
                  have HU11 := Lib.hid (HU.out.on hb11)
                  clear hb11 HV HU HB10 BG10
                  go_wp2_with fail
                  refine (may_walkS _ _ _ _ _ HU11.out true ⟨fun _ => HUM.out, fun _ => rfl⟩).mono ?_
                  rintro e w12 ⟨rfl, hb12⟩
                  have HB12 := Lib.hid (HB11.out.trans (hb12.mono HB11.out.size))
                  have BG12 := Lib.hid (BG11.out.on hb12)
                  have HV12 := Lib.hid (HV11.out.on hb12)
                  have HU12 := Lib.hid (HU11.out.on hb12)
                  clear hb12 HV11 HU11 HB11 BG11
                  have b0 := BG12.out.cell 0 rfl
                  have b1 := BG12.out.cell 1 rfl
                  go_wp2_with fail
                  refine (has_x _ i _ _ _ _ HV12.out (true && false) HHV.out).mono ?_
                  rintro e w13 ⟨rfl, hb13⟩
                  have HB13 := Lib.hid (HB12.out.trans (hb13.mono HB12.out.size))
                  have BG13 := Lib.hid (BG12.out.on hb13)
                  have HU13 := Lib.hid (HU12.out.on hb13)
                  clear hb13 HV12 HU12 HB12 BG12 b0 b1
                  have b0 := BG13.out.cell 0 rfl
                  have b1 := BG13.out.cell 1 rfl
                  go_wp2_with fail
                  refine (has_x _ i _ _ _ _ HU13.out (true && !false) HHU.out).mono ?_
                  rintro e w14 ⟨rfl, hb14⟩
                  have HB14 := Lib.hid (HB13.out.trans (hb14.mono HB13.out.size))
                  have BG14 := Lib.hid (BG13.out.on hb14)
                  clear hb14 HU13 HB13 BG13 b0 b1
                  have b0 := BG14.out.cell 0 rfl
                  have b1 := BG14.out.cell 1 rfl
                  go_wp2
                  go_ret
                  exact ⟨by first | rfl | (simp; omega) | (simp; done), HB14.out⟩
            · have g3 : ¬ (i : Int) < (r.hi : Int) := by omega
              have HX := members_of (p := true) (o := false) (lt := false) HMAY.out HONE.out ⟨fun _ => hm, fun _ => rfl⟩ ⟨fun h => (by cases h), fun h => absurd h.2 (by omega)⟩ ⟨fun h => (by cases h), fun h => absurd h (by omega)⟩
              have HP := Lib.hid HX.has
              have HADD := Lib.hid HX.add
              have HEX := Lib.hid HX.ex
              have HSUB := Lib.hid HX.sub
              have HMEET := Lib.hid HX.meet
              have HMM := Lib.hid HX.mm
              have HHV := Lib.hid HX.below
              have HHU := Lib.hid HX.above
              clear HX hm
              refine wp_region_held_drew (S := fun w' => Below W.heap.size W w') (by kernel_rfl) (Below.refl _ _).drew (fun _ => ?_)
              have HS := Lib.hid ((Below.refl W.heap.size W).drew)
              have HL := Lib.hid (HL.out.on (HS.out))
              have BG := Lib.hid (BG.out.on (HS.out))
              have HBW := Lib.hid (HBW.out.trans ((HS.out).mono HBW.out.size))
              generalize World.drew W = v0 at *
              try simp only [Act.put, List.setIfInBounds_toArray, List.set_cons_succ, List.set_cons_zero]
              refine wpAnyH_take (i := 0) (oi := ⟨some 34, .move (.tmp 0), 22, _, _, none⟩) (v := .slice a n c) rfl (by kernel_rfl) (by kernel_rfl) (by kernel_rfl) (fun _ _ _ h => h) (Or.inl ⟨by rfl, fun _ _ => by go_simp⟩) HS.out ?_
              try simp only [Act.put, List.setIfInBounds_toArray, List.set_cons_succ, List.set_cons_zero]
              refine wpAnyH_take (i := 1) (oi := ⟨some 35, .move (.tmp 2), 23, _, _, none⟩) (v := .int .u64 (i : Nat)) rfl (by kernel_rfl) (by kernel_rfl) (by kernel_rfl) (fun _ _ _ h => h) (Or.inl ⟨by rfl, fun _ _ => by go_simp⟩) HS.out ?_
              try simp only [Act.put, List.setIfInBounds_toArray, List.set_cons_succ, List.set_cons_zero]
              refine wpAnyH_take (i := 3) (oi := ⟨some 37, .move (.tmp 2), 23, _, _, none⟩) (v := .int .u64 (i : Nat)) rfl (by kernel_rfl) (by kernel_rfl) (by kernel_rfl) (fun _ _ _ h => h) (Or.inl ⟨by rfl, fun _ _ => by go_simp⟩) HS.out ?_
              try simp only [Act.put, List.setIfInBounds_toArray, List.set_cons_succ, List.set_cons_zero]
              refine wpAnyH_take (i := 4) (oi := ⟨some 38, .fieldAddr 25 (.tmp 4) 0, _, _, _, none⟩) (v := .pointer (some ⟨w.heap.size, 0, none⟩)) rfl (by kernel_rfl) (by kernel_rfl) (by kernel_rfl) (fun _ _ _ h => h) (Or.inl ⟨by rfl, fun _ _ => by go_simp⟩) HS.out ?_
              try simp only [Act.put, List.setIfInBounds_toArray, List.set_cons_succ, List.set_cons_zero]
              refine wpAnyH_take (i := 5) (oi := ⟨some 39, .load 23 (.tmp 38), 23, _, _, none⟩) (v := .int .u64 (r.lo : Nat)) rfl (by kernel_rfl) (by kernel_rfl) (by kernel_rfl) (fun _ _ _ h => h) (Or.inl ⟨by rfl, fun vv hvv => yields_u64 (.tmp 38) rfl ⟨w.heap.size, 0, none⟩ rfl ((BG0.out.below hvv BG0.out.lt).cell 0 rfl)⟩) HS.out ?_
              try simp only [Act.put, List.setIfInBounds_toArray, List.set_cons_succ, List.set_cons_zero]
              refine wpAnyH_take (i := 6) (oi := ⟨some 40, .binOp .geq 23 (.tmp 37) (.tmp 39) 23, 4, _, _, none⟩) (v := .bool true) rfl (by kernel_rfl) (by kernel_rfl) (by kernel_rfl) (fun _ _ _ h => h) (Or.inl ⟨by rfl, fun _ _ => by go_simp⟩) HS.out ?_
              try simp only [Act.put, List.setIfInBounds_toArray, List.set_cons_succ, List.set_cons_zero]
              refine wpAnyH_ready (rs := [2]) (by kernel_rfl) (by simp) ?_
              refine AllReadyH.cons (o := ⟨some 36, .call { callee := .value (.func 72), args := #[.tmp 34, .tmp 35], argTypes := #[22, 23] }, 4, _, _, none⟩) rfl (fun K hK => ?_) AllReadyH.nil
              go_simp
              refine (has_x l i a n c v0 HL.out true HP.out).mono ?_
              rintro e v1 ⟨rfl, hb⟩
              have HL := Lib.hid (HL.out.on hb)
              have BG := Lib.hid (BG.out.on hb)
              have HBW := Lib.hid (HBW.out.trans (hb.mono HBW.out.size))
              have HS := Lib.hid (HS.out.trans (hb.mono HS.out.size))
              clear hb
              refine hK _ _ HS.out (fun _ => ?_)
              clear hK K
              try simp only [Act.put, List.setIfInBounds_toArray, List.set_cons_succ, List.set_cons_zero]
              refine wpAnyH_take (i := 7) (oi := ⟨some 41, .move (.tmp 40), 4, _, _, none⟩) (v := .bool true) rfl (by kernel_rfl) (by kernel_rfl) (by kernel_rfl) (fun _ _ _ h => h) (Or.inl ⟨by rfl, fun _ _ => by go_simp⟩) HS.out ?_
              try simp only [Act.put, List.setIfInBounds_toArray, List.set_cons_succ, List.set_cons_zero]
              refine wpAnyH_take (i := 8) (oi := ⟨some 42, .move (.tmp 2), 23, _, _, some (7, true)⟩) (v := .int .u64 (i : Nat)) rfl (by kernel_rfl) (by kernel_rfl) (by kernel_rfl) (fun _ _ _ h => h) (Or.inl ⟨by rfl, fun _ _ => by go_simp⟩) HS.out ?_
              try simp only [Act.put, List.setIfInBounds_toArray, List.set_cons_succ, List.set_cons_zero]
              refine wpAnyH_take (i := 9) (oi := ⟨some 43, .fieldAddr 25 (.tmp 4) 1, _, _, _, some (7, true)⟩) (v := .pointer (some ⟨w.heap.size, 1, none⟩)) rfl (by kernel_rfl) (by kernel_rfl) (by kernel_rfl) (fun _ _ _ h => h) (Or.inl ⟨by rfl, fun _ _ => by go_simp⟩) HS.out ?_
              try simp only [Act.put, List.setIfInBounds_toArray, List.set_cons_succ, List.set_cons_zero]
              refine wpAnyH_take (i := 10) (oi := ⟨some 44, .load 23 (.tmp 43), 23, _, _, some (7, true)⟩) (v := .int .u64 (r.hi : Nat)) rfl (by kernel_rfl) (by kernel_rfl) (by kernel_rfl) (fun _ _ _ h => h) (Or.inl ⟨by rfl, fun vv hvv => yields_u64 (.tmp 43) rfl ⟨w.heap.size, 1, none⟩ rfl ((BG0.out.below hvv BG0.out.lt).cell 1 rfl)⟩) HS.out ?_
              try simp only [Act.put, List.setIfInBounds_toArray, List.set_cons_succ, List.set_cons_zero]
              refine wpAnyH_take (i := 11) (oi := ⟨some 45, .binOp .lss 23 (.tmp 42) (.tmp 44) 23, 4, _, _, some (7, true)⟩) (v := .bool false) rfl (by kernel_rfl) (by kernel_rfl) (by kernel_rfl) (fun _ _ _ h => h) (Or.inl ⟨by rfl, fun _ _ => by go_simp⟩) HS.out ?_
              try simp only [Act.put, List.setIfInBounds_toArray, List.set_cons_succ, List.set_cons_zero]
              refine wpAnyH_take (i := 12) (oi := ⟨some 46, .pick (.tmp 41) (.tmp 45) (.const (.bool false)), 4, _, _, none⟩) (v := .bool false) rfl (by kernel_rfl) (by kernel_rfl) (by kernel_rfl) (fun _ _ _ h => h) (Or.inl ⟨by rfl, fun _ _ => by go_simp⟩) HS.out ?_
              try simp only [Act.put, List.setIfInBounds_toArray, List.set_cons_succ, List.set_cons_zero]
              refine wpAnyH_take (i := 13) (oi := ⟨some 7, .assign (.tmp 36), 4, _, _, none⟩) (v := .bool true) rfl (by kernel_rfl) (by kernel_rfl) (by kernel_rfl) (fun _ _ _ h => h) (Or.inl ⟨by rfl, fun _ _ => by go_simp⟩) HS.out ?_
              try simp only [Act.put, List.setIfInBounds_toArray, List.set_cons_succ, List.set_cons_zero]
              refine wpAnyH_take (i := 14) (oi := ⟨some 8, .assign (.tmp 46), 4, _, _, none⟩) (v := .bool false) rfl (by kernel_rfl) (by kernel_rfl) (by kernel_rfl) (fun _ _ _ h => h) (Or.inl ⟨by rfl, fun _ _ => by go_simp⟩) HS.out ?_
              try simp only [Act.put, List.setIfInBounds_toArray, List.set_cons_succ, List.set_cons_zero]
              refine wpAnyH_done (by kernel_rfl) ?_ _
              have b0 := BG.out.cell 0 rfl
              have b1 := BG.out.cell 1 rfl
              have HB := Lib.hid HBW.out
              clear HS HBW
              go_wp2_with fail
              refine (add_walk l r a n c _ HL.out).mono ?_
              rintro e w4 ⟨v4, z4, rfl, hO4, hz4, hb4⟩
              have HB4 := Lib.hid (HB.out.trans (hb4.mono HB.out.size))
              have HL4 := Lib.hid (HL.out.on hb4)
              have BG4 := Lib.hid (BG.out.on hb4)
              have HO4 := Lib.hid hO4
              obtain ⟨pa4, ca4, rfl, _⟩ := hO4.form
              clear hO4 hb4 b0 b1
              have b0 := BG4.out.cell 0 rfl
              have b1 := BG4.out.cell 1 rfl
              by_cases hz : (addR l r).2 = 0
              · have HKM := Lib.hid (addR_may l r)
                have HQ := Lib.hid (HADD.out hz)
                have HNS := Lib.hid (HEX.out hz)
                rw [hz] at hz4
                subst hz4
                have HK := Lib.hid (HO4.out.set HKM.out)
                clear hz
                go_wp2_with fail
                refine (has_x _ i _ _ _ _ HK.out (true || false) HQ.out).mono ?_
                rintro e w5 ⟨rfl, hb5⟩
                have HB5 := Lib.hid (HB4.out.trans (hb5.mono HB4.out.size))
                have HL5 := Lib.hid (HL4.out.on hb5)
                have BG5 := Lib.hid (BG4.out.on hb5)
                clear hb5 b0 b1 HK HO4 HL4 HB4 BG4
                have b0 := BG5.out.cell 0 rfl
                have b1 := BG5.out.cell 1 rfl
                go_wp2_with fail
                refine (sub_walk l r a n c _ HL5.out).mono ?_
                rintro e w6 ⟨v6, z6, rfl, hO6, hz6, hb6⟩
                have HB6 := Lib.hid (HB5.out.trans (hb6.mono HB5.out.size))
                have HL6 := Lib.hid (HL5.out.on hb6)
                have BG6 := Lib.hid (BG5.out.on hb6)
                have HO6 := Lib.hid hO6
                obtain ⟨pa6, ca6, rfl, _⟩ := hO6.form
                clear hO6 hb6 b0 b1 HL5 HB5 BG5
                have b0 := BG6.out.cell 0 rfl
                have b1 := BG6.out.cell 1 rfl
                have g1 : ¬ z6 = 0 := by rw [hz6]; exact HNS.out
                clear hz6 HO6
                have hbx := below_one1 w6 (.cells (rcb r) 25)
                have HBx := Lib.hid (HB6.out.trans (hbx.mono HB6.out.size))
                have HLx := Lib.hid (HL6.out.on hbx)
                have BGx := Lib.hid (BG6.out.on hbx)
                have HLr := Lib.hid (RgsIn.blk (l := [r]) (Blk.new w6 (rcb r) 25) (by simp [rcs, rcl]) 1 rfl (by simp [maxLen]) HONE.out.may.b64)
                clear hbx HL6 HB6 BG6
                go_wp2_with fail
                refine (meet_walk l [r] a n c _ 1 1 _ HLx.out HLr.out).mono ?_
                rintro e w8 ⟨v8, z8, rfl, hO, hz, hb8⟩
                rw [HMEQ.out] at hO hz
                obtain ⟨pm, cm, rfl, _⟩ := hO.form
                obtain rfl : z8 = 0 := hz
                have HB8 := Lib.hid (HBx.out.trans (hb8.mono HBx.out.size))
                have HL8 := Lib.hid (HLx.out.on hb8)
                have BG8 := Lib.hid (BGx.out.on hb8)
                have HK := Lib.hid (hO.set HMM.out)
                clear hO hb8 HLx HBx BGx HLr b0 b1
                have b0 := BG8.out.cell 0 rfl
                have b1 := BG8.out.cell 1 rfl
                go_wp2_with fail
                refine (has_x _ i _ _ _ _ HK.out (true && false) HMEET.out).mono ?_
                rintro e w9 ⟨rfl, hb9⟩
                have HB9 := Lib.hid (HB8.out.trans (hb9.mono HB8.out.size))
                have HL9 := Lib.hid (HL8.out.on hb9)
                have BG9 := Lib.hid (BG8.out.on hb9)
                clear hb9 HK HL8 HB8 BG8 b0 b1
                have b0 := BG9.out.cell 0 rfl
                have b1 := BG9.out.cell 1 rfl
                go_wp2_with fail
                refine (cut_walk l r.lo a n c _ HL9.out).mono ?_
                rintro e w10 ⟨v10, u10, rfl, hV, hU, hb10⟩
                have HB10 := Lib.hid (HB9.out.trans (hb10.mono HB9.out.size))
                have BG10 := Lib.hid (BG9.out.on hb10)
                rw [HCEQ.out] at hV hU
                obtain ⟨pv, cv, rfl, _⟩ := hV.form
                obtain ⟨pu, cu, rfl, _⟩ := hU.form
                have HV := Lib.hid (hV.set HVM.out)
                have HU := Lib.hid (hU.set HUM.out)
                clear hV hU hb10 HL9 HB9 BG9 b0 b1
                go_wp2_with fail
                refine (may_walkS _ _ _ _ _ HV.out true ⟨fun _ => HVM.out, fun _ => rfl⟩).mono ?_
                rintro e w11 ⟨rfl, hb11⟩
                have HB11 := Lib.hid (HB10.out.trans (hb11.mono HB10.out.size))
                have BG11 := Lib.hid (BG10.out.on hb11)
                have HV11 := Lib.hid (HV.out.on hb11)
                have HU11 := Lib.hid (HU.out.on hb11)
                clear hb11 HV HU HB10 BG10
                go_wp2_with fail
                refine (may_walkS _ _ _ _ _ HU11.out true ⟨fun _ => HUM.out, fun _ => rfl⟩).mono ?_
                rintro e w12 ⟨rfl, hb12⟩
                have HB12 := Lib.hid (HB11.out.trans (hb12.mono HB11.out.size))
                have BG12 := Lib.hid (BG11.out.on hb12)
                have HV12 := Lib.hid (HV11.out.on hb12)
                have HU12 := Lib.hid (HU11.out.on hb12)
                clear hb12 HV11 HU11 HB11 BG11
                have b0 := BG12.out.cell 0 rfl
                have b1 := BG12.out.cell 1 rfl
                go_wp2_with fail
                refine (has_x _ i _ _ _ _ HV12.out (true && false) HHV.out).mono ?_
                rintro e w13 ⟨rfl, hb13⟩
                have HB13 := Lib.hid (HB12.out.trans (hb13.mono HB12.out.size))
                have BG13 := Lib.hid (BG12.out.on hb13)
                have HU13 := Lib.hid (HU12.out.on hb13)
                clear hb13 HV12 HU12 HB12 BG12 b0 b1
                have b0 := BG13.out.cell 0 rfl
                have b1 := BG13.out.cell 1 rfl
                go_wp2_with fail
                refine (has_x _ i _ _ _ _ HU13.out (true && !false) HHU.out).mono ?_
                rintro e w14 ⟨rfl, hb14⟩
                have HB14 := Lib.hid (HB13.out.trans (hb14.mono HB13.out.size))
                have BG14 := Lib.hid (BG13.out.on hb14)
                clear hb14 HU13 HB13 BG13 b0 b1
                have b0 := BG14.out.cell 0 rfl
                have b1 := BG14.out.cell 1 rfl
                go_wp2
                go_ret
                exact ⟨by first | rfl | (simp; omega) | (simp; done), HB14.out⟩
              · have g0 : ¬ z4 = 0 := by rw [hz4]; exact hz
                clear hz hz4 HO4
                go_wp2_with fail
                refine (sub_walk l r a n c _ HL4.out).mono ?_
                rintro e w6 ⟨v6, z6, rfl, hO6, hz6, hb6⟩
                have HB6 := Lib.hid (HB4.out.trans (hb6.mono HB4.out.size))
                have HL6 := Lib.hid (HL4.out.on hb6)
                have BG6 := Lib.hid (BG4.out.on hb6)
                have HO6 := Lib.hid hO6
                obtain ⟨pa6, ca6, rfl, _⟩ := hO6.form
                clear hO6 hb6 b0 b1 HL4 HB4 BG4
                have b0 := BG6.out.cell 0 rfl
                have b1 := BG6.out.cell 1 rfl
                by_cases hz : (subR l r).2 = 0
                · have HKM := Lib.hid (subR_may l r)
                  have HQ := Lib.hid (HSUB.out hz)
                  rw [hz] at hz6
                  subst hz6
                  have HK := Lib.hid (HO6.out.set HKM.out)
                  clear hz
                  go_wp2_with fail
                  refine (has_x _ i _ _ _ _ HK.out (true && !false) HQ.out).mono ?_
                  rintro e w7 ⟨rfl, hb7⟩
                  have HB7 := Lib.hid (HB6.out.trans (hb7.mono HB6.out.size))
                  have HL7 := Lib.hid (HL6.out.on hb7)
                  have BG7 := Lib.hid (BG6.out.on hb7)
                  clear hb7 b0 b1 HK HO6 HL6 HB6 BG6
                  have b0 := BG7.out.cell 0 rfl
                  have b1 := BG7.out.cell 1 rfl
                  have hbx := below_one1 w7 (.cells (rcb r) 25)
                  have HBx := Lib.hid (HB7.out.trans (hbx.mono HB7.out.size))
                  have HLx := Lib.hid (HL7.out.on hbx)
                  have BGx := Lib.hid (BG7.out.on hbx)
                  have HLr := Lib.hid (RgsIn.blk (l := [r]) (Blk.new w7 (rcb r) 25) (by simp [rcs, rcl]) 1 rfl (by simp [maxLen]) HONE.out.may.b64)
                  clear hbx HL7 HB7 BG7
                  go_wp2_with fail
                  refine (meet_walk l [r] a n c _ 1 1 _ HLx.out HLr.out).mono ?_
                  rintro e w8 ⟨v8, z8, rfl, hO, hz, hb8⟩
                  rw [HMEQ.out] at hO hz
                  obtain ⟨pm, cm, rfl, _⟩ := hO.form
                  obtain rfl : z8 = 0 := hz
                  have HB8 := Lib.hid (HBx.out.trans (hb8.mono HBx.out.size))
                  have HL8 := Lib.hid (HLx.out.on hb8)
                  have BG8 := Lib.hid (BGx.out.on hb8)
                  have HK := Lib.hid (hO.set HMM.out)
                  clear hO hb8 HLx HBx BGx HLr b0 b1
                  have b0 := BG8.out.cell 0 rfl
                  have b1 := BG8.out.cell 1 rfl
                  go_wp2_with fail
                  refine (has_x _ i _ _ _ _ HK.out (true && false) HMEET.out).mono ?_
                  rintro e w9 ⟨rfl, hb9⟩
                  have HB9 := Lib.hid (HB8.out.trans (hb9.mono HB8.out.size))
                  have HL9 := Lib.hid (HL8.out.on hb9)
                  have BG9 := Lib.hid (BG8.out.on hb9)
                  clear hb9 HK HL8 HB8 BG8 b0 b1
                  have b0 := BG9.out.cell 0 rfl
                  have b1 := BG9.out.cell 1 rfl
                  go_wp2_with fail
                  refine (cut_walk l r.lo a n c _ HL9.out).mono ?_
                  rintro e w10 ⟨v10, u10, rfl, hV, hU, hb10⟩
                  have HB10 := Lib.hid (HB9.out.trans (hb10.mono HB9.out.size))
                  have BG10 := Lib.hid (BG9.out.on hb10)
                  rw [HCEQ.out] at hV hU
                  obtain ⟨pv, cv, rfl, _⟩ := hV.form
                  obtain ⟨pu, cu, rfl, _⟩ := hU.form
                  have HV := Lib.hid (hV.set HVM.out)
                  have HU := Lib.hid (hU.set HUM.out)
                  clear hV hU hb10 HL9 HB9 BG9 b0 b1
                  go_wp2_with fail
                  refine (may_walkS _ _ _ _ _ HV.out true ⟨fun _ => HVM.out, fun _ => rfl⟩).mono ?_
                  rintro e w11 ⟨rfl, hb11⟩
                  have HB11 := Lib.hid (HB10.out.trans (hb11.mono HB10.out.size))
                  have BG11 := Lib.hid (BG10.out.on hb11)
                  have HV11 := Lib.hid (HV.out.on hb11)
                  have HU11 := Lib.hid (HU.out.on hb11)
                  clear hb11 HV HU HB10 BG10
                  go_wp2_with fail
                  refine (may_walkS _ _ _ _ _ HU11.out true ⟨fun _ => HUM.out, fun _ => rfl⟩).mono ?_
                  rintro e w12 ⟨rfl, hb12⟩
                  have HB12 := Lib.hid (HB11.out.trans (hb12.mono HB11.out.size))
                  have BG12 := Lib.hid (BG11.out.on hb12)
                  have HV12 := Lib.hid (HV11.out.on hb12)
                  have HU12 := Lib.hid (HU11.out.on hb12)
                  clear hb12 HV11 HU11 HB11 BG11
                  have b0 := BG12.out.cell 0 rfl
                  have b1 := BG12.out.cell 1 rfl
                  go_wp2_with fail
                  refine (has_x _ i _ _ _ _ HV12.out (true && false) HHV.out).mono ?_
                  rintro e w13 ⟨rfl, hb13⟩
                  have HB13 := Lib.hid (HB12.out.trans (hb13.mono HB12.out.size))
                  have BG13 := Lib.hid (BG12.out.on hb13)
                  have HU13 := Lib.hid (HU12.out.on hb13)
                  clear hb13 HV12 HU12 HB12 BG12 b0 b1
                  have b0 := BG13.out.cell 0 rfl
                  have b1 := BG13.out.cell 1 rfl
                  go_wp2_with fail
                  refine (has_x _ i _ _ _ _ HU13.out (true && !false) HHU.out).mono ?_
                  rintro e w14 ⟨rfl, hb14⟩
                  have HB14 := Lib.hid (HB13.out.trans (hb14.mono HB13.out.size))
                  have BG14 := Lib.hid (BG13.out.on hb14)
                  clear hb14 HU13 HB13 BG13 b0 b1
                  have b0 := BG14.out.cell 0 rfl
                  have b1 := BG14.out.cell 1 rfl
                  go_wp2
                  go_ret
                  exact ⟨by first | rfl | (simp; omega) | (simp; done), HB14.out⟩
                · have g1 : ¬ z6 = 0 := by rw [hz6]; exact hz
                  clear hz hz6 HO6
                  have hbx := below_one1 w6 (.cells (rcb r) 25)
                  have HBx := Lib.hid (HB6.out.trans (hbx.mono HB6.out.size))
                  have HLx := Lib.hid (HL6.out.on hbx)
                  have BGx := Lib.hid (BG6.out.on hbx)
                  have HLr := Lib.hid (RgsIn.blk (l := [r]) (Blk.new w6 (rcb r) 25) (by simp [rcs, rcl]) 1 rfl (by simp [maxLen]) HONE.out.may.b64)
                  clear hbx HL6 HB6 BG6
                  go_wp2_with fail
                  refine (meet_walk l [r] a n c _ 1 1 _ HLx.out HLr.out).mono ?_
                  rintro e w8 ⟨v8, z8, rfl, hO, hz, hb8⟩
                  rw [HMEQ.out] at hO hz
                  obtain ⟨pm, cm, rfl, _⟩ := hO.form
                  obtain rfl : z8 = 0 := hz
                  have HB8 := Lib.hid (HBx.out.trans (hb8.mono HBx.out.size))
                  have HL8 := Lib.hid (HLx.out.on hb8)
                  have BG8 := Lib.hid (BGx.out.on hb8)
                  have HK := Lib.hid (hO.set HMM.out)
                  clear hO hb8 HLx HBx BGx HLr b0 b1
                  have b0 := BG8.out.cell 0 rfl
                  have b1 := BG8.out.cell 1 rfl
                  go_wp2_with fail
                  refine (has_x _ i _ _ _ _ HK.out (true && false) HMEET.out).mono ?_
                  rintro e w9 ⟨rfl, hb9⟩
                  have HB9 := Lib.hid (HB8.out.trans (hb9.mono HB8.out.size))
                  have HL9 := Lib.hid (HL8.out.on hb9)
                  have BG9 := Lib.hid (BG8.out.on hb9)
                  clear hb9 HK HL8 HB8 BG8 b0 b1
                  have b0 := BG9.out.cell 0 rfl
                  have b1 := BG9.out.cell 1 rfl
                  go_wp2_with fail
                  refine (cut_walk l r.lo a n c _ HL9.out).mono ?_
                  rintro e w10 ⟨v10, u10, rfl, hV, hU, hb10⟩
                  have HB10 := Lib.hid (HB9.out.trans (hb10.mono HB9.out.size))
                  have BG10 := Lib.hid (BG9.out.on hb10)
                  rw [HCEQ.out] at hV hU
                  obtain ⟨pv, cv, rfl, _⟩ := hV.form
                  obtain ⟨pu, cu, rfl, _⟩ := hU.form
                  have HV := Lib.hid (hV.set HVM.out)
                  have HU := Lib.hid (hU.set HUM.out)
                  clear hV hU hb10 HL9 HB9 BG9 b0 b1
                  go_wp2_with fail
                  refine (may_walkS _ _ _ _ _ HV.out true ⟨fun _ => HVM.out, fun _ => rfl⟩).mono ?_
                  rintro e w11 ⟨rfl, hb11⟩
                  have HB11 := Lib.hid (HB10.out.trans (hb11.mono HB10.out.size))
                  have BG11 := Lib.hid (BG10.out.on hb11)
                  have HV11 := Lib.hid (HV.out.on hb11)
                  have HU11 := Lib.hid (HU.out.on hb11)
                  clear hb11 HV HU HB10 BG10
                  go_wp2_with fail
                  refine (may_walkS _ _ _ _ _ HU11.out true ⟨fun _ => HUM.out, fun _ => rfl⟩).mono ?_
                  rintro e w12 ⟨rfl, hb12⟩
                  have HB12 := Lib.hid (HB11.out.trans (hb12.mono HB11.out.size))
                  have BG12 := Lib.hid (BG11.out.on hb12)
                  have HV12 := Lib.hid (HV11.out.on hb12)
                  have HU12 := Lib.hid (HU11.out.on hb12)
                  clear hb12 HV11 HU11 HB11 BG11
                  have b0 := BG12.out.cell 0 rfl
                  have b1 := BG12.out.cell 1 rfl
                  go_wp2_with fail
                  refine (has_x _ i _ _ _ _ HV12.out (true && false) HHV.out).mono ?_
                  rintro e w13 ⟨rfl, hb13⟩
                  have HB13 := Lib.hid (HB12.out.trans (hb13.mono HB12.out.size))
                  have BG13 := Lib.hid (BG12.out.on hb13)
                  have HU13 := Lib.hid (HU12.out.on hb13)
                  clear hb13 HV12 HU12 HB12 BG12 b0 b1
                  have b0 := BG13.out.cell 0 rfl
                  have b1 := BG13.out.cell 1 rfl
                  go_wp2_with fail
                  refine (has_x _ i _ _ _ _ HU13.out (true && !false) HHU.out).mono ?_
                  rintro e w14 ⟨rfl, hb14⟩
                  have HB14 := Lib.hid (HB13.out.trans (hb14.mono HB13.out.size))
                  have BG14 := Lib.hid (BG13.out.on hb14)
                  clear hb14 HU13 HB13 BG13 b0 b1
                  have b0 := BG14.out.cell 0 rfl
                  have b1 := BG14.out.cell 1 rfl
                  go_wp2
                  go_ret
                  exact ⟨by first | rfl | (simp; omega) | (simp; done), HB14.out⟩
        · rcases Nat.lt_or_ge i r.lo with q1 | q1
          · have g1 : (i : Int) < (r.lo : Int) := by omega
            have g2 : ¬ (r.lo : Int) ≤ (i : Int) := by omega
            have HX := members_of (p := false) (o := false) (lt := true) HMAY.out HONE.out ⟨fun h => (by cases h), fun h => absurd h hm⟩ ⟨fun h => (by cases h), fun h => absurd h.1 (by omega)⟩ ⟨fun _ => by omega, fun _ => rfl⟩
            have HP := Lib.hid HX.has
            have HADD := Lib.hid HX.add
            have HEX := Lib.hid HX.ex
            have HSUB := Lib.hid HX.sub
            have HMEET := Lib.hid HX.meet
            have HMM := Lib.hid HX.mm
            have HHV := Lib.hid HX.below
            have HHU := Lib.hid HX.above
            clear HX hm
            refine wp_region_held_drew (S := fun w' => Below W.heap.size W w') (by kernel_rfl) (Below.refl _ _).drew (fun _ => ?_)
            have HS := Lib.hid ((Below.refl W.heap.size W).drew)
            have HL := Lib.hid (HL.out.on (HS.out))
            have BG := Lib.hid (BG.out.on (HS.out))
            have HBW := Lib.hid (HBW.out.trans ((HS.out).mono HBW.out.size))
            generalize World.drew W = v0 at *
            try simp only [Act.put, List.setIfInBounds_toArray, List.set_cons_succ, List.set_cons_zero]
            refine wpAnyH_take (i := 0) (oi := ⟨some 34, .move (.tmp 0), 22, _, _, none⟩) (v := .slice a n c) rfl (by kernel_rfl) (by kernel_rfl) (by kernel_rfl) (fun _ _ _ h => h) (Or.inl ⟨by rfl, fun _ _ => by go_simp⟩) HS.out ?_
            try simp only [Act.put, List.setIfInBounds_toArray, List.set_cons_succ, List.set_cons_zero]
            refine wpAnyH_take (i := 1) (oi := ⟨some 35, .move (.tmp 2), 23, _, _, none⟩) (v := .int .u64 (i : Nat)) rfl (by kernel_rfl) (by kernel_rfl) (by kernel_rfl) (fun _ _ _ h => h) (Or.inl ⟨by rfl, fun _ _ => by go_simp⟩) HS.out ?_
            try simp only [Act.put, List.setIfInBounds_toArray, List.set_cons_succ, List.set_cons_zero]
            refine wpAnyH_take (i := 3) (oi := ⟨some 37, .move (.tmp 2), 23, _, _, none⟩) (v := .int .u64 (i : Nat)) rfl (by kernel_rfl) (by kernel_rfl) (by kernel_rfl) (fun _ _ _ h => h) (Or.inl ⟨by rfl, fun _ _ => by go_simp⟩) HS.out ?_
            try simp only [Act.put, List.setIfInBounds_toArray, List.set_cons_succ, List.set_cons_zero]
            refine wpAnyH_take (i := 4) (oi := ⟨some 38, .fieldAddr 25 (.tmp 4) 0, _, _, _, none⟩) (v := .pointer (some ⟨w.heap.size, 0, none⟩)) rfl (by kernel_rfl) (by kernel_rfl) (by kernel_rfl) (fun _ _ _ h => h) (Or.inl ⟨by rfl, fun _ _ => by go_simp⟩) HS.out ?_
            try simp only [Act.put, List.setIfInBounds_toArray, List.set_cons_succ, List.set_cons_zero]
            refine wpAnyH_take (i := 5) (oi := ⟨some 39, .load 23 (.tmp 38), 23, _, _, none⟩) (v := .int .u64 (r.lo : Nat)) rfl (by kernel_rfl) (by kernel_rfl) (by kernel_rfl) (fun _ _ _ h => h) (Or.inl ⟨by rfl, fun vv hvv => yields_u64 (.tmp 38) rfl ⟨w.heap.size, 0, none⟩ rfl ((BG0.out.below hvv BG0.out.lt).cell 0 rfl)⟩) HS.out ?_
            try simp only [Act.put, List.setIfInBounds_toArray, List.set_cons_succ, List.set_cons_zero]
            refine wpAnyH_take (i := 6) (oi := ⟨some 40, .binOp .geq 23 (.tmp 37) (.tmp 39) 23, 4, _, _, none⟩) (v := .bool false) rfl (by kernel_rfl) (by kernel_rfl) (by kernel_rfl) (fun _ _ _ h => h) (Or.inl ⟨by rfl, fun _ _ => by go_simp⟩) HS.out ?_
            try simp only [Act.put, List.setIfInBounds_toArray, List.set_cons_succ, List.set_cons_zero]
            refine wpAnyH_ready (rs := [2]) (by kernel_rfl) (by simp) ?_
            refine AllReadyH.cons (o := ⟨some 36, .call { callee := .value (.func 72), args := #[.tmp 34, .tmp 35], argTypes := #[22, 23] }, 4, _, _, none⟩) rfl (fun K hK => ?_) AllReadyH.nil
            go_simp
            refine (has_x l i a n c v0 HL.out false HP.out).mono ?_
            rintro e v1 ⟨rfl, hb⟩
            have HL := Lib.hid (HL.out.on hb)
            have BG := Lib.hid (BG.out.on hb)
            have HBW := Lib.hid (HBW.out.trans (hb.mono HBW.out.size))
            have HS := Lib.hid (HS.out.trans (hb.mono HS.out.size))
            clear hb
            refine hK _ _ HS.out (fun _ => ?_)
            clear hK K
            try simp only [Act.put, List.setIfInBounds_toArray, List.set_cons_succ, List.set_cons_zero]
            refine wpAnyH_take (i := 7) (oi := ⟨some 41, .move (.tmp 40), 4, _, _, none⟩) (v := .bool false) rfl (by kernel_rfl) (by kernel_rfl) (by kernel_rfl) (fun _ _ _ h => h) (Or.inl ⟨by rfl, fun _ _ => by go_simp⟩) HS.out ?_
            try simp only [Act.put, List.setIfInBounds_toArray, List.set_cons_succ, List.set_cons_zero]
            refine wpAnyH_take (i := 8) (oi := ⟨some 42, .move (.tmp 2), 23, _, _, some (7, true)⟩) (v := undef) rfl (by kernel_rfl) (by kernel_rfl) (by kernel_rfl) (fun _ _ _ h => h) (Or.inr ⟨by rfl, rfl⟩) HS.out ?_
            try simp only [Act.put, List.setIfInBounds_toArray, List.set_cons_succ, List.set_cons_zero]
            refine wpAnyH_take (i := 9) (oi := ⟨some 43, .fieldAddr 25 (.tmp 4) 1, _, _, _, some (7, true)⟩) (v := undef) rfl (by kernel_rfl) (by kernel_rfl) (by kernel_rfl) (fun _ _ _ h => h) (Or.inr ⟨by rfl, rfl⟩) HS.out ?_
            try simp only [Act.put, List.setIfInBounds_toArray, List.set_cons_succ, List.set_cons_zero]
            refine wpAnyH_take (i := 10) (oi := ⟨some 44, .load 23 (.tmp 43), 23, _, _, some (7, true)⟩) (v := undef) rfl (by kernel_rfl) (by kernel_rfl) (by kernel_rfl) (fun _ _ _ h => h) (Or.inr ⟨by rfl, rfl⟩) HS.out ?_
            try simp only [Act.put, List.setIfInBounds_toArray, List.set_cons_succ, List.set_cons_zero]
            refine wpAnyH_take (i := 11) (oi := ⟨some 45, .binOp .lss 23 (.tmp 42) (.tmp 44) 23, 4, _, _, some (7, true)⟩) (v := undef) rfl (by kernel_rfl) (by kernel_rfl) (by kernel_rfl) (fun _ _ _ h => h) (Or.inr ⟨by rfl, rfl⟩) HS.out ?_
            try simp only [Act.put, List.setIfInBounds_toArray, List.set_cons_succ, List.set_cons_zero]
            refine wpAnyH_take (i := 12) (oi := ⟨some 46, .pick (.tmp 41) (.tmp 45) (.const (.bool false)), 4, _, _, none⟩) (v := .bool false) rfl (by kernel_rfl) (by kernel_rfl) (by kernel_rfl) (fun _ _ _ h => h) (Or.inl ⟨by rfl, fun _ _ => by go_simp⟩) HS.out ?_
            try simp only [Act.put, List.setIfInBounds_toArray, List.set_cons_succ, List.set_cons_zero]
            refine wpAnyH_take (i := 13) (oi := ⟨some 7, .assign (.tmp 36), 4, _, _, none⟩) (v := .bool false) rfl (by kernel_rfl) (by kernel_rfl) (by kernel_rfl) (fun _ _ _ h => h) (Or.inl ⟨by rfl, fun _ _ => by go_simp⟩) HS.out ?_
            try simp only [Act.put, List.setIfInBounds_toArray, List.set_cons_succ, List.set_cons_zero]
            refine wpAnyH_take (i := 14) (oi := ⟨some 8, .assign (.tmp 46), 4, _, _, none⟩) (v := .bool false) rfl (by kernel_rfl) (by kernel_rfl) (by kernel_rfl) (fun _ _ _ h => h) (Or.inl ⟨by rfl, fun _ _ => by go_simp⟩) HS.out ?_
            try simp only [Act.put, List.setIfInBounds_toArray, List.set_cons_succ, List.set_cons_zero]
            refine wpAnyH_done (by kernel_rfl) ?_ _
            have b0 := BG.out.cell 0 rfl
            have b1 := BG.out.cell 1 rfl
            have HB := Lib.hid HBW.out
            clear HS HBW
            go_wp2_with fail
            refine (add_walk l r a n c _ HL.out).mono ?_
            rintro e w4 ⟨v4, z4, rfl, hO4, hz4, hb4⟩
            have HB4 := Lib.hid (HB.out.trans (hb4.mono HB.out.size))
            have HL4 := Lib.hid (HL.out.on hb4)
            have BG4 := Lib.hid (BG.out.on hb4)
            have HO4 := Lib.hid hO4
            obtain ⟨pa4, ca4, rfl, _⟩ := hO4.form
            clear hO4 hb4 b0 b1
            have b0 := BG4.out.cell 0 rfl
            have b1 := BG4.out.cell 1 rfl
            by_cases hz : (addR l r).2 = 0
            · have HKM := Lib.hid (addR_may l r)
              have HQ := Lib.hid (HADD.out hz)
              have HNS := Lib.hid (HEX.out hz)
              rw [hz] at hz4
              subst hz4
              have HK := Lib.hid (HO4.out.set HKM.out)
              clear hz
              go_wp2_with fail
              refine (has_x _ i _ _ _ _ HK.out (false || false) HQ.out).mono ?_
              rintro e w5 ⟨rfl, hb5⟩
              have HB5 := Lib.hid (HB4.out.trans (hb5.mono HB4.out.size))
              have HL5 := Lib.hid (HL4.out.on hb5)
              have BG5 := Lib.hid (BG4.out.on hb5)
              clear hb5 b0 b1 HK HO4 HL4 HB4 BG4
              have b0 := BG5.out.cell 0 rfl
              have b1 := BG5.out.cell 1 rfl
              go_wp2_with fail
              refine (sub_walk l r a n c _ HL5.out).mono ?_
              rintro e w6 ⟨v6, z6, rfl, hO6, hz6, hb6⟩
              have HB6 := Lib.hid (HB5.out.trans (hb6.mono HB5.out.size))
              have HL6 := Lib.hid (HL5.out.on hb6)
              have BG6 := Lib.hid (BG5.out.on hb6)
              have HO6 := Lib.hid hO6
              obtain ⟨pa6, ca6, rfl, _⟩ := hO6.form
              clear hO6 hb6 b0 b1 HL5 HB5 BG5
              have b0 := BG6.out.cell 0 rfl
              have b1 := BG6.out.cell 1 rfl
              have g1 : ¬ z6 = 0 := by rw [hz6]; exact HNS.out
              clear hz6 HO6
              have hbx := below_one1 w6 (.cells (rcb r) 25)
              have HBx := Lib.hid (HB6.out.trans (hbx.mono HB6.out.size))
              have HLx := Lib.hid (HL6.out.on hbx)
              have BGx := Lib.hid (BG6.out.on hbx)
              have HLr := Lib.hid (RgsIn.blk (l := [r]) (Blk.new w6 (rcb r) 25) (by simp [rcs, rcl]) 1 rfl (by simp [maxLen]) HONE.out.may.b64)
              clear hbx HL6 HB6 BG6
              go_wp2_with fail
              refine (meet_walk l [r] a n c _ 1 1 _ HLx.out HLr.out).mono ?_
              rintro e w8 ⟨v8, z8, rfl, hO, hz, hb8⟩
              rw [HMEQ.out] at hO hz
              obtain ⟨pm, cm, rfl, _⟩ := hO.form
              obtain rfl : z8 = 0 := hz
              have HB8 := Lib.hid (HBx.out.trans (hb8.mono HBx.out.size))
              have HL8 := Lib.hid (HLx.out.on hb8)
              have BG8 := Lib.hid (BGx.out.on hb8)
              have HK := Lib.hid (hO.set HMM.out)
              clear hO hb8 HLx HBx BGx HLr b0 b1
              have b0 := BG8.out.cell 0 rfl
              have b1 := BG8.out.cell 1 rfl
              go_wp2_with fail
              refine (has_x _ i _ _ _ _ HK.out (false && false) HMEET.out).mono ?_
              rintro e w9 ⟨rfl, hb9⟩
              have HB9 := Lib.hid (HB8.out.trans (hb9.mono HB8.out.size))
              have HL9 := Lib.hid (HL8.out.on hb9)
              have BG9 := Lib.hid (BG8.out.on hb9)
              clear hb9 HK HL8 HB8 BG8 b0 b1
              have b0 := BG9.out.cell 0 rfl
              have b1 := BG9.out.cell 1 rfl
              go_wp2_with fail
              refine (cut_walk l r.lo a n c _ HL9.out).mono ?_
              rintro e w10 ⟨v10, u10, rfl, hV, hU, hb10⟩
              have HB10 := Lib.hid (HB9.out.trans (hb10.mono HB9.out.size))
              have BG10 := Lib.hid (BG9.out.on hb10)
              rw [HCEQ.out] at hV hU
              obtain ⟨pv, cv, rfl, _⟩ := hV.form
              obtain ⟨pu, cu, rfl, _⟩ := hU.form
              have HV := Lib.hid (hV.set HVM.out)
              have HU := Lib.hid (hU.set HUM.out)
              clear hV hU hb10 HL9 HB9 BG9 b0 b1
              go_wp2_with fail
              refine (may_walkS _ _ _ _ _ HV.out true ⟨fun _ => HVM.out, fun _ => rfl⟩).mono ?_
              rintro e w11 ⟨rfl, hb11⟩
              have HB11 := Lib.hid (HB10.out.trans (hb11.mono HB10.out.size))
              have BG11 := Lib.hid (BG10.out.on hb11)
              have HV11 := Lib.hid (HV.out.on hb11)
              have HU11 := Lib.hid (HU.out.on hb11)
              clear hb11 HV HU HB10 BG10
              go_wp2_with fail
              refine (may_walkS _ _ _ _ _ HU11.out true ⟨fun _ => HUM.out, fun _ => rfl⟩).mono ?_
              rintro e w12 ⟨rfl, hb12⟩
              have HB12 := Lib.hid (HB11.out.trans (hb12.mono HB11.out.size))
              have BG12 := Lib.hid (BG11.out.on hb12)
              have HV12 := Lib.hid (HV11.out.on hb12)
              have HU12 := Lib.hid (HU11.out.on hb12)
              clear hb12 HV11 HU11 HB11 BG11
              have b0 := BG12.out.cell 0 rfl
              have b1 := BG12.out.cell 1 rfl
              go_wp2_with fail
              refine (has_x _ i _ _ _ _ HV12.out (false && true) HHV.out).mono ?_
              rintro e w13 ⟨rfl, hb13⟩
              have HB13 := Lib.hid (HB12.out.trans (hb13.mono HB12.out.size))
              have BG13 := Lib.hid (BG12.out.on hb13)
              have HU13 := Lib.hid (HU12.out.on hb13)
              clear hb13 HV12 HU12 HB12 BG12 b0 b1
              have b0 := BG13.out.cell 0 rfl
              have b1 := BG13.out.cell 1 rfl
              go_wp2_with fail
              refine (has_x _ i _ _ _ _ HU13.out (false && !true) HHU.out).mono ?_
              rintro e w14 ⟨rfl, hb14⟩
              have HB14 := Lib.hid (HB13.out.trans (hb14.mono HB13.out.size))
              have BG14 := Lib.hid (BG13.out.on hb14)
              clear hb14 HU13 HB13 BG13 b0 b1
              have b0 := BG14.out.cell 0 rfl
              have b1 := BG14.out.cell 1 rfl
              go_wp2
              go_ret
              exact ⟨by first | rfl | (simp; omega) | (simp; done), HB14.out⟩
            · have g0 : ¬ z4 = 0 := by rw [hz4]; exact hz
              clear hz hz4 HO4
              go_wp2_with fail
              refine (sub_walk l r a n c _ HL4.out).mono ?_
              rintro e w6 ⟨v6, z6, rfl, hO6, hz6, hb6⟩
              have HB6 := Lib.hid (HB4.out.trans (hb6.mono HB4.out.size))
              have HL6 := Lib.hid (HL4.out.on hb6)
              have BG6 := Lib.hid (BG4.out.on hb6)
              have HO6 := Lib.hid hO6
              obtain ⟨pa6, ca6, rfl, _⟩ := hO6.form
              clear hO6 hb6 b0 b1 HL4 HB4 BG4
              have b0 := BG6.out.cell 0 rfl
              have b1 := BG6.out.cell 1 rfl
              by_cases hz : (subR l r).2 = 0
              · have HKM := Lib.hid (subR_may l r)
                have HQ := Lib.hid (HSUB.out hz)
                rw [hz] at hz6
                subst hz6
                have HK := Lib.hid (HO6.out.set HKM.out)
                clear hz
                go_wp2_with fail
                refine (has_x _ i _ _ _ _ HK.out (false && !false) HQ.out).mono ?_
                rintro e w7 ⟨rfl, hb7⟩
                have HB7 := Lib.hid (HB6.out.trans (hb7.mono HB6.out.size))
                have HL7 := Lib.hid (HL6.out.on hb7)
                have BG7 := Lib.hid (BG6.out.on hb7)
                clear hb7 b0 b1 HK HO6 HL6 HB6 BG6
                have b0 := BG7.out.cell 0 rfl
                have b1 := BG7.out.cell 1 rfl
                have hbx := below_one1 w7 (.cells (rcb r) 25)
                have HBx := Lib.hid (HB7.out.trans (hbx.mono HB7.out.size))
                have HLx := Lib.hid (HL7.out.on hbx)
                have BGx := Lib.hid (BG7.out.on hbx)
                have HLr := Lib.hid (RgsIn.blk (l := [r]) (Blk.new w7 (rcb r) 25) (by simp [rcs, rcl]) 1 rfl (by simp [maxLen]) HONE.out.may.b64)
                clear hbx HL7 HB7 BG7
                go_wp2_with fail
                refine (meet_walk l [r] a n c _ 1 1 _ HLx.out HLr.out).mono ?_
                rintro e w8 ⟨v8, z8, rfl, hO, hz, hb8⟩
                rw [HMEQ.out] at hO hz
                obtain ⟨pm, cm, rfl, _⟩ := hO.form
                obtain rfl : z8 = 0 := hz
                have HB8 := Lib.hid (HBx.out.trans (hb8.mono HBx.out.size))
                have HL8 := Lib.hid (HLx.out.on hb8)
                have BG8 := Lib.hid (BGx.out.on hb8)
                have HK := Lib.hid (hO.set HMM.out)
                clear hO hb8 HLx HBx BGx HLr b0 b1
                have b0 := BG8.out.cell 0 rfl
                have b1 := BG8.out.cell 1 rfl
                go_wp2_with fail
                refine (has_x _ i _ _ _ _ HK.out (false && false) HMEET.out).mono ?_
                rintro e w9 ⟨rfl, hb9⟩
                have HB9 := Lib.hid (HB8.out.trans (hb9.mono HB8.out.size))
                have HL9 := Lib.hid (HL8.out.on hb9)
                have BG9 := Lib.hid (BG8.out.on hb9)
                clear hb9 HK HL8 HB8 BG8 b0 b1
                have b0 := BG9.out.cell 0 rfl
                have b1 := BG9.out.cell 1 rfl
                go_wp2_with fail
                refine (cut_walk l r.lo a n c _ HL9.out).mono ?_
                rintro e w10 ⟨v10, u10, rfl, hV, hU, hb10⟩
                have HB10 := Lib.hid (HB9.out.trans (hb10.mono HB9.out.size))
                have BG10 := Lib.hid (BG9.out.on hb10)
                rw [HCEQ.out] at hV hU
                obtain ⟨pv, cv, rfl, _⟩ := hV.form
                obtain ⟨pu, cu, rfl, _⟩ := hU.form
                have HV := Lib.hid (hV.set HVM.out)
                have HU := Lib.hid (hU.set HUM.out)
                clear hV hU hb10 HL9 HB9 BG9 b0 b1
                go_wp2_with fail
                refine (may_walkS _ _ _ _ _ HV.out true ⟨fun _ => HVM.out, fun _ => rfl⟩).mono ?_
                rintro e w11 ⟨rfl, hb11⟩
                have HB11 := Lib.hid (HB10.out.trans (hb11.mono HB10.out.size))
                have BG11 := Lib.hid (BG10.out.on hb11)
                have HV11 := Lib.hid (HV.out.on hb11)
                have HU11 := Lib.hid (HU.out.on hb11)
                clear hb11 HV HU HB10 BG10
                go_wp2_with fail
                refine (may_walkS _ _ _ _ _ HU11.out true ⟨fun _ => HUM.out, fun _ => rfl⟩).mono ?_
                rintro e w12 ⟨rfl, hb12⟩
                have HB12 := Lib.hid (HB11.out.trans (hb12.mono HB11.out.size))
                have BG12 := Lib.hid (BG11.out.on hb12)
                have HV12 := Lib.hid (HV11.out.on hb12)
                have HU12 := Lib.hid (HU11.out.on hb12)
                clear hb12 HV11 HU11 HB11 BG11
                have b0 := BG12.out.cell 0 rfl
                have b1 := BG12.out.cell 1 rfl
                go_wp2_with fail
                refine (has_x _ i _ _ _ _ HV12.out (false && true) HHV.out).mono ?_
                rintro e w13 ⟨rfl, hb13⟩
                have HB13 := Lib.hid (HB12.out.trans (hb13.mono HB12.out.size))
                have BG13 := Lib.hid (BG12.out.on hb13)
                have HU13 := Lib.hid (HU12.out.on hb13)
                clear hb13 HV12 HU12 HB12 BG12 b0 b1
                have b0 := BG13.out.cell 0 rfl
                have b1 := BG13.out.cell 1 rfl
                go_wp2_with fail
                refine (has_x _ i _ _ _ _ HU13.out (false && !true) HHU.out).mono ?_
                rintro e w14 ⟨rfl, hb14⟩
                have HB14 := Lib.hid (HB13.out.trans (hb14.mono HB13.out.size))
                have BG14 := Lib.hid (BG13.out.on hb14)
                clear hb14 HU13 HB13 BG13 b0 b1
                have b0 := BG14.out.cell 0 rfl
                have b1 := BG14.out.cell 1 rfl
                go_wp2
                go_ret
                exact ⟨by first | rfl | (simp; omega) | (simp; done), HB14.out⟩
              · have g1 : ¬ z6 = 0 := by rw [hz6]; exact hz
                clear hz hz6 HO6
                have hbx := below_one1 w6 (.cells (rcb r) 25)
                have HBx := Lib.hid (HB6.out.trans (hbx.mono HB6.out.size))
                have HLx := Lib.hid (HL6.out.on hbx)
                have BGx := Lib.hid (BG6.out.on hbx)
                have HLr := Lib.hid (RgsIn.blk (l := [r]) (Blk.new w6 (rcb r) 25) (by simp [rcs, rcl]) 1 rfl (by simp [maxLen]) HONE.out.may.b64)
                clear hbx HL6 HB6 BG6
                go_wp2_with fail
                refine (meet_walk l [r] a n c _ 1 1 _ HLx.out HLr.out).mono ?_
                rintro e w8 ⟨v8, z8, rfl, hO, hz, hb8⟩
                rw [HMEQ.out] at hO hz
                obtain ⟨pm, cm, rfl, _⟩ := hO.form
                obtain rfl : z8 = 0 := hz
                have HB8 := Lib.hid (HBx.out.trans (hb8.mono HBx.out.size))
                have HL8 := Lib.hid (HLx.out.on hb8)
                have BG8 := Lib.hid (BGx.out.on hb8)
                have HK := Lib.hid (hO.set HMM.out)
                clear hO hb8 HLx HBx BGx HLr b0 b1
                have b0 := BG8.out.cell 0 rfl
                have b1 := BG8.out.cell 1 rfl
                go_wp2_with fail
                refine (has_x _ i _ _ _ _ HK.out (false && false) HMEET.out).mono ?_
                rintro e w9 ⟨rfl, hb9⟩
                have HB9 := Lib.hid (HB8.out.trans (hb9.mono HB8.out.size))
                have HL9 := Lib.hid (HL8.out.on hb9)
                have BG9 := Lib.hid (BG8.out.on hb9)
                clear hb9 HK HL8 HB8 BG8 b0 b1
                have b0 := BG9.out.cell 0 rfl
                have b1 := BG9.out.cell 1 rfl
                go_wp2_with fail
                refine (cut_walk l r.lo a n c _ HL9.out).mono ?_
                rintro e w10 ⟨v10, u10, rfl, hV, hU, hb10⟩
                have HB10 := Lib.hid (HB9.out.trans (hb10.mono HB9.out.size))
                have BG10 := Lib.hid (BG9.out.on hb10)
                rw [HCEQ.out] at hV hU
                obtain ⟨pv, cv, rfl, _⟩ := hV.form
                obtain ⟨pu, cu, rfl, _⟩ := hU.form
                have HV := Lib.hid (hV.set HVM.out)
                have HU := Lib.hid (hU.set HUM.out)
                clear hV hU hb10 HL9 HB9 BG9 b0 b1
                go_wp2_with fail
                refine (may_walkS _ _ _ _ _ HV.out true ⟨fun _ => HVM.out, fun _ => rfl⟩).mono ?_
                rintro e w11 ⟨rfl, hb11⟩
                have HB11 := Lib.hid (HB10.out.trans (hb11.mono HB10.out.size))
                have BG11 := Lib.hid (BG10.out.on hb11)
                have HV11 := Lib.hid (HV.out.on hb11)
                have HU11 := Lib.hid (HU.out.on hb11)
                clear hb11 HV HU HB10 BG10
                go_wp2_with fail
                refine (may_walkS _ _ _ _ _ HU11.out true ⟨fun _ => HUM.out, fun _ => rfl⟩).mono ?_
                rintro e w12 ⟨rfl, hb12⟩
                have HB12 := Lib.hid (HB11.out.trans (hb12.mono HB11.out.size))
                have BG12 := Lib.hid (BG11.out.on hb12)
                have HV12 := Lib.hid (HV11.out.on hb12)
                have HU12 := Lib.hid (HU11.out.on hb12)
                clear hb12 HV11 HU11 HB11 BG11
                have b0 := BG12.out.cell 0 rfl
                have b1 := BG12.out.cell 1 rfl
                go_wp2_with fail
                refine (has_x _ i _ _ _ _ HV12.out (false && true) HHV.out).mono ?_
                rintro e w13 ⟨rfl, hb13⟩
                have HB13 := Lib.hid (HB12.out.trans (hb13.mono HB12.out.size))
                have BG13 := Lib.hid (BG12.out.on hb13)
                have HU13 := Lib.hid (HU12.out.on hb13)
                clear hb13 HV12 HU12 HB12 BG12 b0 b1
                have b0 := BG13.out.cell 0 rfl
                have b1 := BG13.out.cell 1 rfl
                go_wp2_with fail
                refine (has_x _ i _ _ _ _ HU13.out (false && !true) HHU.out).mono ?_
                rintro e w14 ⟨rfl, hb14⟩
                have HB14 := Lib.hid (HB13.out.trans (hb14.mono HB13.out.size))
                have BG14 := Lib.hid (BG13.out.on hb14)
                clear hb14 HU13 HB13 BG13 b0 b1
                have b0 := BG14.out.cell 0 rfl
                have b1 := BG14.out.cell 1 rfl
                go_wp2
                go_ret
                exact ⟨by first | rfl | (simp; omega) | (simp; done), HB14.out⟩
          · have g1 : (r.lo : Int) ≤ (i : Int) := by omega
            have g2 : ¬ (i : Int) < (r.lo : Int) := by omega
            rcases Nat.lt_or_ge i r.hi with q2 | q2
            · have g3 : (i : Int) < (r.hi : Int) := by omega
              have HX := members_of (p := false) (o := true) (lt := false) HMAY.out HONE.out ⟨fun h => (by cases h), fun h => absurd h hm⟩ ⟨fun _ => ⟨by omega, by omega⟩, fun _ => rfl⟩ ⟨fun h => (by cases h), fun h => absurd h (by omega)⟩
              have HP := Lib.hid HX.has
              have HADD := Lib.hid HX.add
              have HEX := Lib.hid HX.ex
              have HSUB := Lib.hid HX.sub
              have HMEET := Lib.hid HX.meet
              have HMM := Lib.hid HX.mm
              have HHV := Lib.hid HX.below
              have HHU := Lib.hid HX.above
              clear HX hm
              refine wp_region_held_drew (S := fun w' => Below W.heap.size W w') (by kernel_rfl) (Below.refl _ _).drew (fun _ => ?_)
              have HS := Lib.hid ((Below.refl W.heap.size W).drew)
              have HL := Lib.hid (HL.out.on (HS.out))
              have BG := Lib.hid (BG.out.on (HS.out))
              have HBW := Lib.hid (HBW.out.trans ((HS.out).mono HBW.out.size))
              generalize World.drew W = v0 at *
              try simp only [Act.put, List.setIfInBounds_toArray, List.set_cons_succ, List.set_cons_zero]
              refine wpAnyH_take (i := 0) (oi := ⟨some 34, .move (.tmp 0), 22, _, _, none⟩) (v := .slice a n c) rfl (by kernel_rfl) (by kernel_rfl) (by kernel_rfl) (fun _ _ _ h => h) (Or.inl ⟨by rfl, fun _ _ => by go_simp⟩) HS.out ?_
              try simp only [Act.put, List.setIfInBounds_toArray, List.set_cons_succ, List.set_cons_zero]
              refine wpAnyH_take (i := 1) (oi := ⟨some 35, .move (.tmp 2), 23, _, _, none⟩) (v := .int .u64 (i : Nat)) rfl (by kernel_rfl) (by kernel_rfl) (by kernel_rfl) (fun _ _ _ h => h) (Or.inl ⟨by rfl, fun _ _ => by go_simp⟩) HS.out ?_
              try simp only [Act.put, List.setIfInBounds_toArray, List.set_cons_succ, List.set_cons_zero]
              refine wpAnyH_take (i := 3) (oi := ⟨some 37, .move (.tmp 2), 23, _, _, none⟩) (v := .int .u64 (i : Nat)) rfl (by kernel_rfl) (by kernel_rfl) (by kernel_rfl) (fun _ _ _ h => h) (Or.inl ⟨by rfl, fun _ _ => by go_simp⟩) HS.out ?_
              try simp only [Act.put, List.setIfInBounds_toArray, List.set_cons_succ, List.set_cons_zero]
              refine wpAnyH_take (i := 4) (oi := ⟨some 38, .fieldAddr 25 (.tmp 4) 0, _, _, _, none⟩) (v := .pointer (some ⟨w.heap.size, 0, none⟩)) rfl (by kernel_rfl) (by kernel_rfl) (by kernel_rfl) (fun _ _ _ h => h) (Or.inl ⟨by rfl, fun _ _ => by go_simp⟩) HS.out ?_
              try simp only [Act.put, List.setIfInBounds_toArray, List.set_cons_succ, List.set_cons_zero]
              refine wpAnyH_take (i := 5) (oi := ⟨some 39, .load 23 (.tmp 38), 23, _, _, none⟩) (v := .int .u64 (r.lo : Nat)) rfl (by kernel_rfl) (by kernel_rfl) (by kernel_rfl) (fun _ _ _ h => h) (Or.inl ⟨by rfl, fun vv hvv => yields_u64 (.tmp 38) rfl ⟨w.heap.size, 0, none⟩ rfl ((BG0.out.below hvv BG0.out.lt).cell 0 rfl)⟩) HS.out ?_
              try simp only [Act.put, List.setIfInBounds_toArray, List.set_cons_succ, List.set_cons_zero]
              refine wpAnyH_take (i := 6) (oi := ⟨some 40, .binOp .geq 23 (.tmp 37) (.tmp 39) 23, 4, _, _, none⟩) (v := .bool true) rfl (by kernel_rfl) (by kernel_rfl) (by kernel_rfl) (fun _ _ _ h => h) (Or.inl ⟨by rfl, fun _ _ => by go_simp⟩) HS.out ?_
              try simp only [Act.put, List.setIfInBounds_toArray, List.set_cons_succ, List.set_cons_zero]
              refine wpAnyH_ready (rs := [2]) (by kernel_rfl) (by simp) ?_
              refine AllReadyH.cons (o := ⟨some 36, .call { callee := .value (.func 72), args := #[.tmp 34, .tmp 35], argTypes := #[22, 23] }, 4, _, _, none⟩) rfl (fun K hK => ?_) AllReadyH.nil
              go_simp
              refine (has_x l i a n c v0 HL.out false HP.out).mono ?_
              rintro e v1 ⟨rfl, hb⟩
              have HL := Lib.hid (HL.out.on hb)
              have BG := Lib.hid (BG.out.on hb)
              have HBW := Lib.hid (HBW.out.trans (hb.mono HBW.out.size))
              have HS := Lib.hid (HS.out.trans (hb.mono HS.out.size))
              clear hb
              refine hK _ _ HS.out (fun _ => ?_)
              clear hK K
              try simp only [Act.put, List.setIfInBounds_toArray, List.set_cons_succ, List.set_cons_zero]
              refine wpAnyH_take (i := 7) (oi := ⟨some 41, .move (.tmp 40), 4, _, _, none⟩) (v := .bool true) rfl (by kernel_rfl) (by kernel_rfl) (by kernel_rfl) (fun _ _ _ h => h) (Or.inl ⟨by rfl, fun _ _ => by go_simp⟩) HS.out ?_
              try simp only [Act.put, List.setIfInBounds_toArray, List.set_cons_succ, List.set_cons_zero]
              refine wpAnyH_take (i := 8) (oi := ⟨some 42, .move (.tmp 2), 23, _, _, some (7, true)⟩) (v := .int .u64 (i : Nat)) rfl (by kernel_rfl) (by kernel_rfl) (by kernel_rfl) (fun _ _ _ h => h) (Or.inl ⟨by rfl, fun _ _ => by go_simp⟩) HS.out ?_
              try simp only [Act.put, List.setIfInBounds_toArray, List.set_cons_succ, List.set_cons_zero]
              refine wpAnyH_take (i := 9) (oi := ⟨some 43, .fieldAddr 25 (.tmp 4) 1, _, _, _, some (7, true)⟩) (v := .pointer (some ⟨w.heap.size, 1, none⟩)) rfl (by kernel_rfl) (by kernel_rfl) (by kernel_rfl) (fun _ _ _ h => h) (Or.inl ⟨by rfl, fun _ _ => by go_simp⟩) HS.out ?_
              try simp only [Act.put, List.setIfInBounds_toArray, List.set_cons_succ, List.set_cons_zero]
              refine wpAnyH_take (i := 10) (oi := ⟨some 44, .load 23 (.tmp 43), 23, _, _, some (7, true)⟩) (v := .int .u64 (r.hi : Nat)) rfl (by kernel_rfl) (by kernel_rfl) (by kernel_rfl) (fun _ _ _ h => h) (Or.inl ⟨by rfl, fun vv hvv => yields_u64 (.tmp 43) rfl ⟨w.heap.size, 1, none⟩ rfl ((BG0.out.below hvv BG0.out.lt).cell 1 rfl)⟩) HS.out ?_
              try simp only [Act.put, List.setIfInBounds_toArray, List.set_cons_succ, List.set_cons_zero]
              refine wpAnyH_take (i := 11) (oi := ⟨some 45, .binOp .lss 23 (.tmp 42) (.tmp 44) 23, 4, _, _, some (7, true)⟩) (v := .bool true) rfl (by kernel_rfl) (by kernel_rfl) (by kernel_rfl) (fun _ _ _ h => h) (Or.inl ⟨by rfl, fun _ _ => by go_simp⟩) HS.out ?_
              try simp only [Act.put, List.setIfInBounds_toArray, List.set_cons_succ, List.set_cons_zero]
              refine wpAnyH_take (i := 12) (oi := ⟨some 46, .pick (.tmp 41) (.tmp 45) (.const (.bool false)), 4, _, _, none⟩) (v := .bool true) rfl (by kernel_rfl) (by kernel_rfl) (by kernel_rfl) (fun _ _ _ h => h) (Or.inl ⟨by rfl, fun _ _ => by go_simp⟩) HS.out ?_
              try simp only [Act.put, List.setIfInBounds_toArray, List.set_cons_succ, List.set_cons_zero]
              refine wpAnyH_take (i := 13) (oi := ⟨some 7, .assign (.tmp 36), 4, _, _, none⟩) (v := .bool false) rfl (by kernel_rfl) (by kernel_rfl) (by kernel_rfl) (fun _ _ _ h => h) (Or.inl ⟨by rfl, fun _ _ => by go_simp⟩) HS.out ?_
              try simp only [Act.put, List.setIfInBounds_toArray, List.set_cons_succ, List.set_cons_zero]
              refine wpAnyH_take (i := 14) (oi := ⟨some 8, .assign (.tmp 46), 4, _, _, none⟩) (v := .bool true) rfl (by kernel_rfl) (by kernel_rfl) (by kernel_rfl) (fun _ _ _ h => h) (Or.inl ⟨by rfl, fun _ _ => by go_simp⟩) HS.out ?_
              try simp only [Act.put, List.setIfInBounds_toArray, List.set_cons_succ, List.set_cons_zero]
              refine wpAnyH_done (by kernel_rfl) ?_ _
              have b0 := BG.out.cell 0 rfl
              have b1 := BG.out.cell 1 rfl
              have HB := Lib.hid HBW.out
              clear HS HBW
              go_wp2_with fail
              refine (add_walk l r a n c _ HL.out).mono ?_
              rintro e w4 ⟨v4, z4, rfl, hO4, hz4, hb4⟩
              have HB4 := Lib.hid (HB.out.trans (hb4.mono HB.out.size))
              have HL4 := Lib.hid (HL.out.on hb4)
              have BG4 := Lib.hid (BG.out.on hb4)
              have HO4 := Lib.hid hO4
              obtain ⟨pa4, ca4, rfl, _⟩ := hO4.form
              clear hO4 hb4 b0 b1
              have b0 := BG4.out.cell 0 rfl
              have b1 := BG4.out.cell 1 rfl
              by_cases hz : (addR l r).2 = 0
              · have HKM := Lib.hid (addR_may l r)
                have HQ := Lib.hid (HADD.out hz)
                have HNS := Lib.hid (HEX.out hz)
                rw [hz] at hz4
                subst hz4
                have HK := Lib.hid (HO4.out.set HKM.out)
                clear hz
                go_wp2_with fail
                refine (has_x _ i _ _ _ _ HK.out (false || true) HQ.out).mono ?_
                rintro e w5 ⟨rfl, hb5⟩
                have HB5 := Lib.hid (HB4.out.trans (hb5.mono HB4.out.size))
                have HL5 := Lib.hid (HL4.out.on hb5)
                have BG5 := Lib.hid (BG4.out.on hb5)
                clear hb5 b0 b1 HK HO4 HL4 HB4 BG4
                have b0 := BG5.out.cell 0 rfl
                have b1 := BG5.out.cell 1 rfl
                go_wp2_with fail
                refine (sub_walk l r a n c _ HL5.out).mono ?_
                rintro e w6 ⟨v6, z6, rfl, hO6, hz6, hb6⟩
                have HB6 := Lib.hid (HB5.out.trans (hb6.mono HB5.out.size))
                have HL6 := Lib.hid (HL5.out.on hb6)
                have BG6 := Lib.hid (BG5.out.on hb6)
                have HO6 := Lib.hid hO6
                obtain ⟨pa6, ca6, rfl, _⟩ := hO6.form
                clear hO6 hb6 b0 b1 HL5 HB5 BG5
                have b0 := BG6.out.cell 0 rfl
                have b1 := BG6.out.cell 1 rfl
                have g1 : ¬ z6 = 0 := by rw [hz6]; exact HNS.out
                clear hz6 HO6
                have hbx := below_one1 w6 (.cells (rcb r) 25)
                have HBx := Lib.hid (HB6.out.trans (hbx.mono HB6.out.size))
                have HLx := Lib.hid (HL6.out.on hbx)
                have BGx := Lib.hid (BG6.out.on hbx)
                have HLr := Lib.hid (RgsIn.blk (l := [r]) (Blk.new w6 (rcb r) 25) (by simp [rcs, rcl]) 1 rfl (by simp [maxLen]) HONE.out.may.b64)
                clear hbx HL6 HB6 BG6
                go_wp2_with fail
                refine (meet_walk l [r] a n c _ 1 1 _ HLx.out HLr.out).mono ?_
                rintro e w8 ⟨v8, z8, rfl, hO, hz, hb8⟩
                rw [HMEQ.out] at hO hz
                obtain ⟨pm, cm, rfl, _⟩ := hO.form
                obtain rfl : z8 = 0 := hz
                have HB8 := Lib.hid (HBx.out.trans (hb8.mono HBx.out.size))
                have HL8 := Lib.hid (HLx.out.on hb8)
                have BG8 := Lib.hid (BGx.out.on hb8)
                have HK := Lib.hid (hO.set HMM.out)
                clear hO hb8 HLx HBx BGx HLr b0 b1
                have b0 := BG8.out.cell 0 rfl
                have b1 := BG8.out.cell 1 rfl
                go_wp2_with fail
                refine (has_x _ i _ _ _ _ HK.out (false && true) HMEET.out).mono ?_
                rintro e w9 ⟨rfl, hb9⟩
                have HB9 := Lib.hid (HB8.out.trans (hb9.mono HB8.out.size))
                have HL9 := Lib.hid (HL8.out.on hb9)
                have BG9 := Lib.hid (BG8.out.on hb9)
                clear hb9 HK HL8 HB8 BG8 b0 b1
                have b0 := BG9.out.cell 0 rfl
                have b1 := BG9.out.cell 1 rfl
                go_wp2_with fail
                refine (cut_walk l r.lo a n c _ HL9.out).mono ?_
                rintro e w10 ⟨v10, u10, rfl, hV, hU, hb10⟩
                have HB10 := Lib.hid (HB9.out.trans (hb10.mono HB9.out.size))
                have BG10 := Lib.hid (BG9.out.on hb10)
                rw [HCEQ.out] at hV hU
                obtain ⟨pv, cv, rfl, _⟩ := hV.form
                obtain ⟨pu, cu, rfl, _⟩ := hU.form
                have HV := Lib.hid (hV.set HVM.out)
                have HU := Lib.hid (hU.set HUM.out)
                clear hV hU hb10 HL9 HB9 BG9 b0 b1
                go_wp2_with fail
                refine (may_walkS _ _ _ _ _ HV.out true ⟨fun _ => HVM.out, fun _ => rfl⟩).mono ?_
                rintro e w11 ⟨rfl, hb11⟩
                have HB11 := Lib.hid (HB10.out.trans (hb11.mono HB10.out.size))
                have BG11 := Lib.hid (BG10.out.on hb11)
                have HV11 := Lib.hid (HV.out.on hb11)
                have HU11 := Lib.hid (HU.out.on hb11)
                clear hb11 HV HU HB10 BG10
                go_wp2_with fail
                refine (may_walkS _ _ _ _ _ HU11.out true ⟨fun _ => HUM.out, fun _ => rfl⟩).mono ?_
                rintro e w12 ⟨rfl, hb12⟩
                have HB12 := Lib.hid (HB11.out.trans (hb12.mono HB11.out.size))
                have BG12 := Lib.hid (BG11.out.on hb12)
                have HV12 := Lib.hid (HV11.out.on hb12)
                have HU12 := Lib.hid (HU11.out.on hb12)
                clear hb12 HV11 HU11 HB11 BG11
                have b0 := BG12.out.cell 0 rfl
                have b1 := BG12.out.cell 1 rfl
                go_wp2_with fail
                refine (has_x _ i _ _ _ _ HV12.out (false && false) HHV.out).mono ?_
                rintro e w13 ⟨rfl, hb13⟩
                have HB13 := Lib.hid (HB12.out.trans (hb13.mono HB12.out.size))
                have BG13 := Lib.hid (BG12.out.on hb13)
                have HU13 := Lib.hid (HU12.out.on hb13)
                clear hb13 HV12 HU12 HB12 BG12 b0 b1
                have b0 := BG13.out.cell 0 rfl
                have b1 := BG13.out.cell 1 rfl
                go_wp2_with fail
                refine (has_x _ i _ _ _ _ HU13.out (false && !false) HHU.out).mono ?_
                rintro e w14 ⟨rfl, hb14⟩
                have HB14 := Lib.hid (HB13.out.trans (hb14.mono HB13.out.size))
                have BG14 := Lib.hid (BG13.out.on hb14)
                clear hb14 HU13 HB13 BG13 b0 b1
                have b0 := BG14.out.cell 0 rfl
                have b1 := BG14.out.cell 1 rfl
                go_wp2
                go_ret
                exact ⟨by first | rfl | (simp; omega) | (simp; done), HB14.out⟩
              · have g0 : ¬ z4 = 0 := by rw [hz4]; exact hz
                clear hz hz4 HO4
                go_wp2_with fail
                refine (sub_walk l r a n c _ HL4.out).mono ?_
                rintro e w6 ⟨v6, z6, rfl, hO6, hz6, hb6⟩
                have HB6 := Lib.hid (HB4.out.trans (hb6.mono HB4.out.size))
                have HL6 := Lib.hid (HL4.out.on hb6)
                have BG6 := Lib.hid (BG4.out.on hb6)
                have HO6 := Lib.hid hO6
                obtain ⟨pa6, ca6, rfl, _⟩ := hO6.form
                clear hO6 hb6 b0 b1 HL4 HB4 BG4
                have b0 := BG6.out.cell 0 rfl
                have b1 := BG6.out.cell 1 rfl
                by_cases hz : (subR l r).2 = 0
                · have HKM := Lib.hid (subR_may l r)
                  have HQ := Lib.hid (HSUB.out hz)
                  rw [hz] at hz6
                  subst hz6
                  have HK := Lib.hid (HO6.out.set HKM.out)
                  clear hz
                  go_wp2_with fail
                  refine (has_x _ i _ _ _ _ HK.out (false && !true) HQ.out).mono ?_
                  rintro e w7 ⟨rfl, hb7⟩
                  have HB7 := Lib.hid (HB6.out.trans (hb7.mono HB6.out.size))
                  have HL7 := Lib.hid (HL6.out.on hb7)
                  have BG7 := Lib.hid (BG6.out.on hb7)
                  clear hb7 b0 b1 HK HO6 HL6 HB6 BG6
                  have b0 := BG7.out.cell 0 rfl
                  have b1 := BG7.out.cell 1 rfl
                  have hbx := below_one1 w7 (.cells (rcb r) 25)
                  have HBx := Lib.hid (HB7.out.trans (hbx.mono HB7.out.size))
                  have HLx := Lib.hid (HL7.out.on hbx)
                  have BGx := Lib.hid (BG7.out.on hbx)
                  have HLr := Lib.hid (RgsIn.blk (l := [r]) (Blk.new w7 (rcb r) 25) (by simp [rcs, rcl]) 1 rfl (by simp [maxLen]) HONE.out.may.b64)
                  clear hbx HL7 HB7 BG7
                  go_wp2_with fail
                  refine (meet_walk l [r] a n c _ 1 1 _ HLx.out HLr.out).mono ?_
                  rintro e w8 ⟨v8, z8, rfl, hO, hz, hb8⟩
                  rw [HMEQ.out] at hO hz
                  obtain ⟨pm, cm, rfl, _⟩ := hO.form
                  obtain rfl : z8 = 0 := hz
                  have HB8 := Lib.hid (HBx.out.trans (hb8.mono HBx.out.size))
                  have HL8 := Lib.hid (HLx.out.on hb8)
                  have BG8 := Lib.hid (BGx.out.on hb8)
                  have HK := Lib.hid (hO.set HMM.out)
                  clear hO hb8 HLx HBx BGx HLr b0 b1
                  have b0 := BG8.out.cell 0 rfl
                  have b1 := BG8.out.cell 1 rfl
                  go_wp2_with fail
                  refine (has_x _ i _ _ _ _ HK.out (false && true) HMEET.out).mono ?_
                  rintro e w9 ⟨rfl, hb9⟩
                  have HB9 := Lib.hid (HB8.out.trans (hb9.mono HB8.out.size))
                  have HL9 := Lib.hid (HL8.out.on hb9)
                  have BG9 := Lib.hid (BG8.out.on hb9)
                  clear hb9 HK HL8 HB8 BG8 b0 b1
                  have b0 := BG9.out.cell 0 rfl
                  have b1 := BG9.out.cell 1 rfl
                  go_wp2_with fail
                  refine (cut_walk l r.lo a n c _ HL9.out).mono ?_
                  rintro e w10 ⟨v10, u10, rfl, hV, hU, hb10⟩
                  have HB10 := Lib.hid (HB9.out.trans (hb10.mono HB9.out.size))
                  have BG10 := Lib.hid (BG9.out.on hb10)
                  rw [HCEQ.out] at hV hU
                  obtain ⟨pv, cv, rfl, _⟩ := hV.form
                  obtain ⟨pu, cu, rfl, _⟩ := hU.form
                  have HV := Lib.hid (hV.set HVM.out)
                  have HU := Lib.hid (hU.set HUM.out)
                  clear hV hU hb10 HL9 HB9 BG9 b0 b1
                  go_wp2_with fail
                  refine (may_walkS _ _ _ _ _ HV.out true ⟨fun _ => HVM.out, fun _ => rfl⟩).mono ?_
                  rintro e w11 ⟨rfl, hb11⟩
                  have HB11 := Lib.hid (HB10.out.trans (hb11.mono HB10.out.size))
                  have BG11 := Lib.hid (BG10.out.on hb11)
                  have HV11 := Lib.hid (HV.out.on hb11)
                  have HU11 := Lib.hid (HU.out.on hb11)
                  clear hb11 HV HU HB10 BG10
                  go_wp2_with fail
                  refine (may_walkS _ _ _ _ _ HU11.out true ⟨fun _ => HUM.out, fun _ => rfl⟩).mono ?_
                  rintro e w12 ⟨rfl, hb12⟩
                  have HB12 := Lib.hid (HB11.out.trans (hb12.mono HB11.out.size))
                  have BG12 := Lib.hid (BG11.out.on hb12)
                  have HV12 := Lib.hid (HV11.out.on hb12)
                  have HU12 := Lib.hid (HU11.out.on hb12)
                  clear hb12 HV11 HU11 HB11 BG11
                  have b0 := BG12.out.cell 0 rfl
                  have b1 := BG12.out.cell 1 rfl
                  go_wp2_with fail
                  refine (has_x _ i _ _ _ _ HV12.out (false && false) HHV.out).mono ?_
                  rintro e w13 ⟨rfl, hb13⟩
                  have HB13 := Lib.hid (HB12.out.trans (hb13.mono HB12.out.size))
                  have BG13 := Lib.hid (BG12.out.on hb13)
                  have HU13 := Lib.hid (HU12.out.on hb13)
                  clear hb13 HV12 HU12 HB12 BG12 b0 b1
                  have b0 := BG13.out.cell 0 rfl
                  have b1 := BG13.out.cell 1 rfl
                  go_wp2_with fail
                  refine (has_x _ i _ _ _ _ HU13.out (false && !false) HHU.out).mono ?_
                  rintro e w14 ⟨rfl, hb14⟩
                  have HB14 := Lib.hid (HB13.out.trans (hb14.mono HB13.out.size))
                  have BG14 := Lib.hid (BG13.out.on hb14)
                  clear hb14 HU13 HB13 BG13 b0 b1
                  have b0 := BG14.out.cell 0 rfl
                  have b1 := BG14.out.cell 1 rfl
                  go_wp2
                  go_ret
                  exact ⟨by first | rfl | (simp; omega) | (simp; done), HB14.out⟩
                · have g1 : ¬ z6 = 0 := by rw [hz6]; exact hz
                  clear hz hz6 HO6
                  have hbx := below_one1 w6 (.cells (rcb r) 25)
                  have HBx := Lib.hid (HB6.out.trans (hbx.mono HB6.out.size))
                  have HLx := Lib.hid (HL6.out.on hbx)
                  have BGx := Lib.hid (BG6.out.on hbx)
                  have HLr := Lib.hid (RgsIn.blk (l := [r]) (Blk.new w6 (rcb r) 25) (by simp [rcs, rcl]) 1 rfl (by simp [maxLen]) HONE.out.may.b64)
                  clear hbx HL6 HB6 BG6
                  go_wp2_with fail
                  refine (meet_walk l [r] a n c _ 1 1 _ HLx.out HLr.out).mono ?_
                  rintro e w8 ⟨v8, z8, rfl, hO, hz, hb8⟩
                  rw [HMEQ.out] at hO hz
                  obtain ⟨pm, cm, rfl, _⟩ := hO.form
                  obtain rfl : z8 = 0 := hz
                  have HB8 := Lib.hid (HBx.out.trans (hb8.mono HBx.out.size))
                  have HL8 := Lib.hid (HLx.out.on hb8)
                  have BG8 := Lib.hid (BGx.out.on hb8)
                  have HK := Lib.hid (hO.set HMM.out)
                  clear hO hb8 HLx HBx BGx HLr b0 b1
                  have b0 := BG8.out.cell 0 rfl
                  have b1 := BG8.out.cell 1 rfl
                  go_wp2_with fail
                  refine (has_x _ i _ _ _ _ HK.out (false && true) HMEET.out).mono ?_
                  rintro e w9 ⟨rfl, hb9⟩
                  have HB9 := Lib.hid (HB8.out.trans (hb9.mono HB8.out.size))
                  have HL9 := Lib.hid (HL8.out.on hb9)
                  have BG9 := Lib.hid (BG8.out.on hb9)
                  clear hb9 HK HL8 HB8 BG8 b0 b1
                  have b0 := BG9.out.cell 0 rfl
                  have b1 := BG9.out.cell 1 rfl
                  go_wp2_with fail
                  refine (cut_walk l r.lo a n c _ HL9.out).mono ?_
                  rintro e w10 ⟨v10, u10, rfl, hV, hU, hb10⟩
                  have HB10 := Lib.hid (HB9.out.trans (hb10.mono HB9.out.size))
                  have BG10 := Lib.hid (BG9.out.on hb10)
                  rw [HCEQ.out] at hV hU
                  obtain ⟨pv, cv, rfl, _⟩ := hV.form
                  obtain ⟨pu, cu, rfl, _⟩ := hU.form
                  have HV := Lib.hid (hV.set HVM.out)
                  have HU := Lib.hid (hU.set HUM.out)
                  clear hV hU hb10 HL9 HB9 BG9 b0 b1
                  go_wp2_with fail
                  refine (may_walkS _ _ _ _ _ HV.out true ⟨fun _ => HVM.out, fun _ => rfl⟩).mono ?_
                  rintro e w11 ⟨rfl, hb11⟩
                  have HB11 := Lib.hid (HB10.out.trans (hb11.mono HB10.out.size))
                  have BG11 := Lib.hid (BG10.out.on hb11)
                  have HV11 := Lib.hid (HV.out.on hb11)
                  have HU11 := Lib.hid (HU.out.on hb11)
                  clear hb11 HV HU HB10 BG10
                  go_wp2_with fail
                  refine (may_walkS _ _ _ _ _ HU11.out true ⟨fun _ => HUM.out, fun _ => rfl⟩).mono ?_
                  rintro e w12 ⟨rfl, hb12⟩
                  have HB12 := Lib.hid (HB11.out.trans (hb12.mono HB11.out.size))
                  have BG12 := Lib.hid (BG11.out.on hb12)
                  have HV12 := Lib.hid (HV11.out.on hb12)
                  have HU12 := Lib.hid (HU11.out.on hb12)
                  clear hb12 HV11 HU11 HB11 BG11
                  have b0 := BG12.out.cell 0 rfl
                  have b1 := BG12.out.cell 1 rfl
                  go_wp2_with fail
                  refine (has_x _ i _ _ _ _ HV12.out (false && false) HHV.out).mono ?_
                  rintro e w13 ⟨rfl, hb13⟩
                  have HB13 := Lib.hid (HB12.out.trans (hb13.mono HB12.out.size))
                  have BG13 := Lib.hid (BG12.out.on hb13)
                  have HU13 := Lib.hid (HU12.out.on hb13)
                  clear hb13 HV12 HU12 HB12 BG12 b0 b1
                  have b0 := BG13.out.cell 0 rfl
                  have b1 := BG13.out.cell 1 rfl
                  go_wp2_with fail
                  refine (has_x _ i _ _ _ _ HU13.out (false && !false) HHU.out).mono ?_
                  rintro e w14 ⟨rfl, hb14⟩
                  have HB14 := Lib.hid (HB13.out.trans (hb14.mono HB13.out.size))
                  have BG14 := Lib.hid (BG13.out.on hb14)
                  clear hb14 HU13 HB13 BG13 b0 b1
                  have b0 := BG14.out.cell 0 rfl
                  have b1 := BG14.out.cell 1 rfl
                  go_wp2
                  go_ret
                  exact ⟨by first | rfl | (simp; omega) | (simp; done), HB14.out⟩
            · have g3 : ¬ (i : Int) < (r.hi : Int) := by omega
              have HX := members_of (p := false) (o := false) (lt := false) HMAY.out HONE.out ⟨fun h => (by cases h), fun h => absurd h hm⟩ ⟨fun h => (by cases h), fun h => absurd h.2 (by omega)⟩ ⟨fun h => (by cases h), fun h => absurd h (by omega)⟩
              have HP := Lib.hid HX.has
              have HADD := Lib.hid HX.add
              have HEX := Lib.hid HX.ex
              have HSUB := Lib.hid HX.sub
              have HMEET := Lib.hid HX.meet
              have HMM := Lib.hid HX.mm
              have HHV := Lib.hid HX.below
              have HHU := Lib.hid HX.above
              clear HX hm
              refine wp_region_held_drew (S := fun w' => Below W.heap.size W w') (by kernel_rfl) (Below.refl _ _).drew (fun _ => ?_)
              have HS := Lib.hid ((Below.refl W.heap.size W).drew)
              have HL := Lib.hid (HL.out.on (HS.out))
              have BG := Lib.hid (BG.out.on (HS.out))
              have HBW := Lib.hid (HBW.out.trans ((HS.out).mono HBW.out.size))
              generalize World.drew W = v0 at *
              try simp only [Act.put, List.setIfInBounds_toArray, List.set_cons_succ, List.set_cons_zero]
              refine wpAnyH_take (i := 0) (oi := ⟨some 34, .move (.tmp 0), 22, _, _, none⟩) (v := .slice a n c) rfl (by kernel_rfl) (by kernel_rfl) (by kernel_rfl) (fun _ _ _ h => h) (Or.inl ⟨by rfl, fun _ _ => by go_simp⟩) HS.out ?_
              try simp only [Act.put, List.setIfInBounds_toArray, List.set_cons_succ, List.set_cons_zero]
              refine wpAnyH_take (i := 1) (oi := ⟨some 35, .move (.tmp 2), 23, _, _, none⟩) (v := .int .u64 (i : Nat)) rfl (by kernel_rfl) (by kernel_rfl) (by kernel_rfl) (fun _ _ _ h => h) (Or.inl ⟨by rfl, fun _ _ => by go_simp⟩) HS.out ?_
              try simp only [Act.put, List.setIfInBounds_toArray, List.set_cons_succ, List.set_cons_zero]
              refine wpAnyH_take (i := 3) (oi := ⟨some 37, .move (.tmp 2), 23, _, _, none⟩) (v := .int .u64 (i : Nat)) rfl (by kernel_rfl) (by kernel_rfl) (by kernel_rfl) (fun _ _ _ h => h) (Or.inl ⟨by rfl, fun _ _ => by go_simp⟩) HS.out ?_
              try simp only [Act.put, List.setIfInBounds_toArray, List.set_cons_succ, List.set_cons_zero]
              refine wpAnyH_take (i := 4) (oi := ⟨some 38, .fieldAddr 25 (.tmp 4) 0, _, _, _, none⟩) (v := .pointer (some ⟨w.heap.size, 0, none⟩)) rfl (by kernel_rfl) (by kernel_rfl) (by kernel_rfl) (fun _ _ _ h => h) (Or.inl ⟨by rfl, fun _ _ => by go_simp⟩) HS.out ?_
              try simp only [Act.put, List.setIfInBounds_toArray, List.set_cons_succ, List.set_cons_zero]
              refine wpAnyH_take (i := 5) (oi := ⟨some 39, .load 23 (.tmp 38), 23, _, _, none⟩) (v := .int .u64 (r.lo : Nat)) rfl (by kernel_rfl) (by kernel_rfl) (by kernel_rfl) (fun _ _ _ h => h) (Or.inl ⟨by rfl, fun vv hvv => yields_u64 (.tmp 38) rfl ⟨w.heap.size, 0, none⟩ rfl ((BG0.out.below hvv BG0.out.lt).cell 0 rfl)⟩) HS.out ?_
              try simp only [Act.put, List.setIfInBounds_toArray, List.set_cons_succ, List.set_cons_zero]
              refine wpAnyH_take (i := 6) (oi := ⟨some 40, .binOp .geq 23 (.tmp 37) (.tmp 39) 23, 4, _, _, none⟩) (v := .bool true) rfl (by kernel_rfl) (by kernel_rfl) (by kernel_rfl) (fun _ _ _ h => h) (Or.inl ⟨by rfl, fun _ _ => by go_simp⟩) HS.out ?_
              try simp only [Act.put, List.setIfInBounds_toArray, List.set_cons_succ, List.set_cons_zero]
              refine wpAnyH_ready (rs := [2]) (by kernel_rfl) (by simp) ?_
              refine AllReadyH.cons (o := ⟨some 36, .call { callee := .value (.func 72), args := #[.tmp 34, .tmp 35], argTypes := #[22, 23] }, 4, _, _, none⟩) rfl (fun K hK => ?_) AllReadyH.nil
              go_simp
              refine (has_x l i a n c v0 HL.out false HP.out).mono ?_
              rintro e v1 ⟨rfl, hb⟩
              have HL := Lib.hid (HL.out.on hb)
              have BG := Lib.hid (BG.out.on hb)
              have HBW := Lib.hid (HBW.out.trans (hb.mono HBW.out.size))
              have HS := Lib.hid (HS.out.trans (hb.mono HS.out.size))
              clear hb
              refine hK _ _ HS.out (fun _ => ?_)
              clear hK K
              try simp only [Act.put, List.setIfInBounds_toArray, List.set_cons_succ, List.set_cons_zero]
              refine wpAnyH_take (i := 7) (oi := ⟨some 41, .move (.tmp 40), 4, _, _, none⟩) (v := .bool true) rfl (by kernel_rfl) (by kernel_rfl) (by kernel_rfl) (fun _ _ _ h => h) (Or.inl ⟨by rfl, fun _ _ => by go_simp⟩) HS.out ?_
              try simp only [Act.put, List.setIfInBounds_toArray, List.set_cons_succ, List.set_cons_zero]
              refine wpAnyH_take (i := 8) (oi := ⟨some 42, .move (.tmp 2), 23, _, _, some (7, true)⟩) (v := .int .u64 (i : Nat)) rfl (by kernel_rfl) (by kernel_rfl) (by kernel_rfl) (fun _ _ _ h => h) (Or.inl ⟨by rfl, fun _ _ => by go_simp⟩) HS.out ?_
              try simp only [Act.put, List.setIfInBounds_toArray, List.set_cons_succ, List.set_cons_zero]
              refine wpAnyH_take (i := 9) (oi := ⟨some 43, .fieldAddr 25 (.tmp 4) 1, _, _, _, some (7, true)⟩) (v := .pointer (some ⟨w.heap.size, 1, none⟩)) rfl (by kernel_rfl) (by kernel_rfl) (by kernel_rfl) (fun _ _ _ h => h) (Or.inl ⟨by rfl, fun _ _ => by go_simp⟩) HS.out ?_
              try simp only [Act.put, List.setIfInBounds_toArray, List.set_cons_succ, List.set_cons_zero]
              refine wpAnyH_take (i := 10) (oi := ⟨some 44, .load 23 (.tmp 43), 23, _, _, some (7, true)⟩) (v := .int .u64 (r.hi : Nat)) rfl (by kernel_rfl) (by kernel_rfl) (by kernel_rfl) (fun _ _ _ h => h) (Or.inl ⟨by rfl, fun vv hvv => yields_u64 (.tmp 43) rfl ⟨w.heap.size, 1, none⟩ rfl ((BG0.out.below hvv BG0.out.lt).cell 1 rfl)⟩) HS.out ?_
              try simp only [Act.put, List.setIfInBounds_toArray, List.set_cons_succ, List.set_cons_zero]
              refine wpAnyH_take (i := 11) (oi := ⟨some 45, .binOp .lss 23 (.tmp 42) (.tmp 44) 23, 4, _, _, some (7, true)⟩) (v := .bool false) rfl (by kernel_rfl) (by kernel_rfl) (by kernel_rfl) (fun _ _ _ h => h) (Or.inl ⟨by rfl, fun _ _ => by go_simp⟩) HS.out ?_
              try simp only [Act.put, List.setIfInBounds_toArray, List.set_cons_succ, List.set_cons_zero]
              refine wpAnyH_take (i := 12) (oi := ⟨some 46, .pick (.tmp 41) (.tmp 45) (.const (.bool false)), 4, _, _, none⟩) (v := .bool false) rfl (by kernel_rfl) (by kernel_rfl) (by kernel_rfl) (fun _ _ _ h => h) (Or.inl ⟨by rfl, fun _ _ => by go_simp⟩) HS.out ?_
              try simp only [Act.put, List.setIfInBounds_toArray, List.set_cons_succ, List.set_cons_zero]
              refine wpAnyH_take (i := 13) (oi := ⟨some 7, .assign (.tmp 36), 4, _, _, none⟩) (v := .bool false) rfl (by kernel_rfl) (by kernel_rfl) (by kernel_rfl) (fun _ _ _ h => h) (Or.inl ⟨by rfl, fun _ _ => by go_simp⟩) HS.out ?_
              try simp only [Act.put, List.setIfInBounds_toArray, List.set_cons_succ, List.set_cons_zero]
              refine wpAnyH_take (i := 14) (oi := ⟨some 8, .assign (.tmp 46), 4, _, _, none⟩) (v := .bool false) rfl (by kernel_rfl) (by kernel_rfl) (by kernel_rfl) (fun _ _ _ h => h) (Or.inl ⟨by rfl, fun _ _ => by go_simp⟩) HS.out ?_
              try simp only [Act.put, List.setIfInBounds_toArray, List.set_cons_succ, List.set_cons_zero]
              refine wpAnyH_done (by kernel_rfl) ?_ _
              have b0 := BG.out.cell 0 rfl
              have b1 := BG.out.cell 1 rfl
              have HB := Lib.hid HBW.out
              clear HS HBW
              go_wp2_with fail
              refine (add_walk l r a n c _ HL.out).mono ?_
              rintro e w4 ⟨v4, z4, rfl, hO4, hz4, hb4⟩
              have HB4 := Lib.hid (HB.out.trans (hb4.mono HB.out.size))
              have HL4 := Lib.hid (HL.out.on hb4)
              have BG4 := Lib.hid (BG.out.on hb4)
              have HO4 := Lib.hid hO4
              obtain ⟨pa4, ca4, rfl, _⟩ := hO4.form
              clear hO4 hb4 b0 b1
              have b0 := BG4.out.cell 0 rfl
              have b1 := BG4.out.cell 1 rfl
              by_cases hz : (addR l r).2 = 0
              · have HKM := Lib.hid (addR_may l r)
                have HQ := Lib.hid (HADD.out hz)
                have HNS := Lib.hid (HEX.out hz)
                rw [hz] at hz4
                subst hz4
                have HK := Lib.hid (HO4.out.set HKM.out)
                clear hz
                go_wp2_with fail
                refine (has_x _ i _ _ _ _ HK.out (false || false) HQ.out).mono ?_
                rintro e w5 ⟨rfl, hb5⟩
                have HB5 := Lib.hid (HB4.out.trans (hb5.mono HB4.out.size))
                have HL5 := Lib.hid (HL4.out.on hb5)
                have BG5 := Lib.hid (BG4.out.on hb5)
                clear hb5 b0 b1 HK HO4 HL4 HB4 BG4
                have b0 := BG5.out.cell 0 rfl
                have b1 := BG5.out.cell 1 rfl
                go_wp2_with fail
                refine (sub_walk l r a n c _ HL5.out).mono ?_
                rintro e w6 ⟨v6, z6, rfl, hO6, hz6, hb6⟩
                have HB6 := Lib.hid (HB5.out.trans (hb6.mono HB5.out.size))
                have HL6 := Lib.hid (HL5.out.on hb6)
                have BG6 := Lib.hid (BG5.out.on hb6)
                have HO6 := Lib.hid hO6
                obtain ⟨pa6, ca6, rfl, _⟩ := hO6.form
                clear hO6 hb6 b0 b1 HL5 HB5 BG5
                have b0 := BG6.out.cell 0 rfl
                have b1 := BG6.out.cell 1 rfl
                have g1 : ¬ z6 = 0 := by rw [hz6]; exact HNS.out
                clear hz6 HO6
                have hbx := below_one1 w6 (.cells (rcb r) 25)
                have HBx := Lib.hid (HB6.out.trans (hbx.mono HB6.out.size))
                have HLx := Lib.hid (HL6.out.on hbx)
                have BGx := Lib.hid (BG6.out.on hbx)
                have HLr := Lib.hid (RgsIn.blk (l := [r]) (Blk.new w6 (rcb r) 25) (by simp [rcs, rcl]) 1 rfl (by simp [maxLen]) HONE.out.may.b64)
                clear hbx HL6 HB6 BG6
                go_wp2_with fail
                refine (meet_walk l [r] a n c _ 1 1 _ HLx.out HLr.out).mono ?_
                rintro e w8 ⟨v8, z8, rfl, hO, hz, hb8⟩
                rw [HMEQ.out] at hO hz
                obtain ⟨pm, cm, rfl, _⟩ := hO.form
                obtain rfl : z8 = 0 := hz
                have HB8 := Lib.hid (HBx.out.trans (hb8.mono HBx.out.size))
                have HL8 := Lib.hid (HLx.out.on hb8)
                have BG8 := Lib.hid (BGx.out.on hb8)
                have HK := Lib.hid (hO.set HMM.out)
                clear hO hb8 HLx HBx BGx HLr b0 b1
                have b0 := BG8.out.cell 0 rfl
                have b1 := BG8.out.cell 1 rfl
                go_wp2_with fail
                refine (has_x _ i _ _ _ _ HK.out (false && false) HMEET.out).mono ?_
                rintro e w9 ⟨rfl, hb9⟩
                have HB9 := Lib.hid (HB8.out.trans (hb9.mono HB8.out.size))
                have HL9 := Lib.hid (HL8.out.on hb9)
                have BG9 := Lib.hid (BG8.out.on hb9)
                clear hb9 HK HL8 HB8 BG8 b0 b1
                have b0 := BG9.out.cell 0 rfl
                have b1 := BG9.out.cell 1 rfl
                go_wp2_with fail
                refine (cut_walk l r.lo a n c _ HL9.out).mono ?_
                rintro e w10 ⟨v10, u10, rfl, hV, hU, hb10⟩
                have HB10 := Lib.hid (HB9.out.trans (hb10.mono HB9.out.size))
                have BG10 := Lib.hid (BG9.out.on hb10)
                rw [HCEQ.out] at hV hU
                obtain ⟨pv, cv, rfl, _⟩ := hV.form
                obtain ⟨pu, cu, rfl, _⟩ := hU.form
                have HV := Lib.hid (hV.set HVM.out)
                have HU := Lib.hid (hU.set HUM.out)
                clear hV hU hb10 HL9 HB9 BG9 b0 b1
                go_wp2_with fail
                refine (may_walkS _ _ _ _ _ HV.out true ⟨fun _ => HVM.out, fun _ => rfl⟩).mono ?_
                rintro e w11 ⟨rfl, hb11⟩
                have HB11 := Lib.hid (HB10.out.trans (hb11.mono HB10.out.size))
                have BG11 := Lib.hid (BG10.out.on hb11)
                have HV11 := Lib.hid (HV.out.on hb11)
                have HU11 := Lib.hid (HU.out.on hb11)
                clear hb11 HV HU HB10 BG10
                go_wp2_with fail
                refine (may_walkS _ _ _ _ _ HU11.out true ⟨fun _ => HUM.out, fun _ => rfl⟩).mono ?_
                rintro e w12 ⟨rfl, hb12⟩
                have HB12 := Lib.hid (HB11.out.trans (hb12.mono HB11.out.size))
                have BG12 := Lib.hid (BG11.out.on hb12)
                have HV12 := Lib.hid (HV11.out.on hb12)
                have HU12 := Lib.hid (HU11.out.on hb12)
                clear hb12 HV11 HU11 HB11 BG11
                have b0 := BG12.out.cell 0 rfl
                have b1 := BG12.out.cell 1 rfl
                go_wp2_with fail
                refine (has_x _ i _ _ _ _ HV12.out (false && false) HHV.out).mono ?_
                rintro e w13 ⟨rfl, hb13⟩
                have HB13 := Lib.hid (HB12.out.trans (hb13.mono HB12.out.size))
                have BG13 := Lib.hid (BG12.out.on hb13)
                have HU13 := Lib.hid (HU12.out.on hb13)
                clear hb13 HV12 HU12 HB12 BG12 b0 b1
                have b0 := BG13.out.cell 0 rfl
                have b1 := BG13.out.cell 1 rfl
                go_wp2_with fail
                refine (has_x _ i _ _ _ _ HU13.out (false && !false) HHU.out).mono ?_
                rintro e w14 ⟨rfl, hb14⟩
                have HB14 := Lib.hid (HB13.out.trans (hb14.mono HB13.out.size))
                have BG14 := Lib.hid (BG13.out.on hb14)
                clear hb14 HU13 HB13 BG13 b0 b1
                have b0 := BG14.out.cell 0 rfl
                have b1 := BG14.out.cell 1 rfl
                go_wp2
                go_ret
                exact ⟨by first | rfl | (simp; omega) | (simp; done), HB14.out⟩
              · have g0 : ¬ z4 = 0 := by rw [hz4]; exact hz
                clear hz hz4 HO4
                go_wp2_with fail
                refine (sub_walk l r a n c _ HL4.out).mono ?_
                rintro e w6 ⟨v6, z6, rfl, hO6, hz6, hb6⟩
                have HB6 := Lib.hid (HB4.out.trans (hb6.mono HB4.out.size))
                have HL6 := Lib.hid (HL4.out.on hb6)
                have BG6 := Lib.hid (BG4.out.on hb6)
                have HO6 := Lib.hid hO6
                obtain ⟨pa6, ca6, rfl, _⟩ := hO6.form
                clear hO6 hb6 b0 b1 HL4 HB4 BG4
                have b0 := BG6.out.cell 0 rfl
                have b1 := BG6.out.cell 1 rfl
                by_cases hz : (subR l r).2 = 0
                · have HKM := Lib.hid (subR_may l r)
                  have HQ := Lib.hid (HSUB.out hz)
                  rw [hz] at hz6
                  subst hz6
                  have HK := Lib.hid (HO6.out.set HKM.out)
                  clear hz
                  go_wp2_with fail
                  refine (has_x _ i _ _ _ _ HK.out (false && !false) HQ.out).mono ?_
                  rintro e w7 ⟨rfl, hb7⟩
                  have HB7 := Lib.hid (HB6.out.trans (hb7.mono HB6.out.size))
                  have HL7 := Lib.hid (HL6.out.on hb7)
                  have BG7 := Lib.hid (BG6.out.on hb7)
                  clear hb7 b0 b1 HK HO6 HL6 HB6 BG6
                  have b0 := BG7.out.cell 0 rfl
                  have b1 := BG7.out.cell 1 rfl
                  have hbx := below_one1 w7 (.cells (rcb r) 25)
                  have HBx := Lib.hid (HB7.out.trans (hbx.mono HB7.out.size))
                  have HLx := Lib.hid (HL7.out.on hbx)
                  have BGx := Lib.hid (BG7.out.on hbx)
                  have HLr := Lib.hid (RgsIn.blk (l := [r]) (Blk.new w7 (rcb r) 25) (by simp [rcs, rcl]) 1 rfl (by simp [maxLen]) HONE.out.may.b64)
                  clear hbx HL7 HB7 BG7
                  go_wp2_with fail
                  refine (meet_walk l [r] a n c _ 1 1 _ HLx.out HLr.out).mono ?_
                  rintro e w8 ⟨v8, z8, rfl, hO, hz, hb8⟩
                  rw [HMEQ.out] at hO hz
                  obtain ⟨pm, cm, rfl, _⟩ := hO.form
                  obtain rfl : z8 = 0 := hz
                  have HB8 := Lib.hid (HBx.out.trans (hb8.mono HBx.out.size))
                  have HL8 := Lib.hid (HLx.out.on hb8)
                  have BG8 := Lib.hid (BGx.out.on hb8)
                  have HK := Lib.hid (hO.set HMM.out)
                  clear hO hb8 HLx HBx BGx HLr b0 b1
                  have b0 := BG8.out.cell 0 rfl
                  have b1 := BG8.out.cell 1 rfl
                  go_wp2_with fail
                  refine (has_x _ i _ _ _ _ HK.out (false && false) HMEET.out).mono ?_
                  rintro e w9 ⟨rfl, hb9⟩
                  have HB9 := Lib.hid (HB8.out.trans (hb9.mono HB8.out.size))
                  have HL9 := Lib.hid (HL8.out.on hb9)
                  have BG9 := Lib.hid (BG8.out.on hb9)
                  clear hb9 HK HL8 HB8 BG8 b0 b1
                  have b0 := BG9.out.cell 0 rfl
                  have b1 := BG9.out.cell 1 rfl
                  go_wp2_with fail
                  refine (cut_walk l r.lo a n c _ HL9.out).mono ?_
                  rintro e w10 ⟨v10, u10, rfl, hV, hU, hb10⟩
                  have HB10 := Lib.hid (HB9.out.trans (hb10.mono HB9.out.size))
                  have BG10 := Lib.hid (BG9.out.on hb10)
                  rw [HCEQ.out] at hV hU
                  obtain ⟨pv, cv, rfl, _⟩ := hV.form
                  obtain ⟨pu, cu, rfl, _⟩ := hU.form
                  have HV := Lib.hid (hV.set HVM.out)
                  have HU := Lib.hid (hU.set HUM.out)
                  clear hV hU hb10 HL9 HB9 BG9 b0 b1
                  go_wp2_with fail
                  refine (may_walkS _ _ _ _ _ HV.out true ⟨fun _ => HVM.out, fun _ => rfl⟩).mono ?_
                  rintro e w11 ⟨rfl, hb11⟩
                  have HB11 := Lib.hid (HB10.out.trans (hb11.mono HB10.out.size))
                  have BG11 := Lib.hid (BG10.out.on hb11)
                  have HV11 := Lib.hid (HV.out.on hb11)
                  have HU11 := Lib.hid (HU.out.on hb11)
                  clear hb11 HV HU HB10 BG10
                  go_wp2_with fail
                  refine (may_walkS _ _ _ _ _ HU11.out true ⟨fun _ => HUM.out, fun _ => rfl⟩).mono ?_
                  rintro e w12 ⟨rfl, hb12⟩
                  have HB12 := Lib.hid (HB11.out.trans (hb12.mono HB11.out.size))
                  have BG12 := Lib.hid (BG11.out.on hb12)
                  have HV12 := Lib.hid (HV11.out.on hb12)
                  have HU12 := Lib.hid (HU11.out.on hb12)
                  clear hb12 HV11 HU11 HB11 BG11
                  have b0 := BG12.out.cell 0 rfl
                  have b1 := BG12.out.cell 1 rfl
                  go_wp2_with fail
                  refine (has_x _ i _ _ _ _ HV12.out (false && false) HHV.out).mono ?_
                  rintro e w13 ⟨rfl, hb13⟩
                  have HB13 := Lib.hid (HB12.out.trans (hb13.mono HB12.out.size))
                  have BG13 := Lib.hid (BG12.out.on hb13)
                  have HU13 := Lib.hid (HU12.out.on hb13)
                  clear hb13 HV12 HU12 HB12 BG12 b0 b1
                  have b0 := BG13.out.cell 0 rfl
                  have b1 := BG13.out.cell 1 rfl
                  go_wp2_with fail
                  refine (has_x _ i _ _ _ _ HU13.out (false && !false) HHU.out).mono ?_
                  rintro e w14 ⟨rfl, hb14⟩
                  have HB14 := Lib.hid (HB13.out.trans (hb14.mono HB13.out.size))
                  have BG14 := Lib.hid (BG13.out.on hb14)
                  clear hb14 HU13 HB13 BG13 b0 b1
                  have b0 := BG14.out.cell 0 rfl
                  have b1 := BG14.out.cell 1 rfl
                  go_wp2
                  go_ret
                  exact ⟨by first | rfl | (simp; omega) | (simp; done), HB14.out⟩
                · have g1 : ¬ z6 = 0 := by rw [hz6]; exact hz
                  clear hz hz6 HO6
                  have hbx := below_one1 w6 (.cells (rcb r) 25)
                  have HBx := Lib.hid (HB6.out.trans (hbx.mono HB6.out.size))
                  have HLx := Lib.hid (HL6.out.on hbx)
                  have BGx := Lib.hid (BG6.out.on hbx)
                  have HLr := Lib.hid (RgsIn.blk (l := [r]) (Blk.new w6 (rcb r) 25) (by simp [rcs, rcl]) 1 rfl (by simp [maxLen]) HONE.out.may.b64)
                  clear hbx HL6 HB6 BG6
                  go_wp2_with fail
                  refine (meet_walk l [r] a n c _ 1 1 _ HLx.out HLr.out).mono ?_
                  rintro e w8 ⟨v8, z8, rfl, hO, hz, hb8⟩
                  rw [HMEQ.out] at hO hz
                  obtain ⟨pm, cm, rfl, _⟩ := hO.form
                  obtain rfl : z8 = 0 := hz
                  have HB8 := Lib.hid (HBx.out.trans (hb8.mono HBx.out.size))
                  have HL8 := Lib.hid (HLx.out.on hb8)
                  have BG8 := Lib.hid (BGx.out.on hb8)
                  have HK := Lib.hid (hO.set HMM.out)
                  clear hO hb8 HLx HBx BGx HLr b0 b1
                  have b0 := BG8.out.cell 0 rfl
                  have b1 := BG8.out.cell 1 rfl
                  go_wp2_with fail
                  refine (has_x _ i _ _ _ _ HK.out (false && false) HMEET.out).mono ?_
                  rintro e w9 ⟨rfl, hb9⟩
                  have HB9 := Lib.hid (HB8.out.trans (hb9.mono HB8.out.size))
                  have HL9 := Lib.hid (HL8.out.on hb9)
                  have BG9 := Lib.hid (BG8.out.on hb9)
                  clear hb9 HK HL8 HB8 BG8 b0 b1
                  have b0 := BG9.out.cell 0 rfl
                  have b1 := BG9.out.cell 1 rfl
                  go_wp2_with fail
                  refine (cut_walk l r.lo a n c _ HL9.out).mono ?_
                  rintro e w10 ⟨v10, u10, rfl, hV, hU, hb10⟩
                  have HB10 := Lib.hid (HB9.out.trans (hb10.mono HB9.out.size))
                  have BG10 := Lib.hid (BG9.out.on hb10)
                  rw [HCEQ.out] at hV hU
                  obtain ⟨pv, cv, rfl, _⟩ := hV.form
                  obtain ⟨pu, cu, rfl, _⟩ := hU.form
                  have HV := Lib.hid (hV.set HVM.out)
                  have HU := Lib.hid (hU.set HUM.out)
                  clear hV hU hb10 HL9 HB9 BG9 b0 b1
                  go_wp2_with fail
                  refine (may_walkS _ _ _ _ _ HV.out true ⟨fun _ => HVM.out, fun _ => rfl⟩).mono ?_
                  rintro e w11 ⟨rfl, hb11⟩
                  have HB11 := Lib.hid (HB10.out.trans (hb11.mono HB10.out.size))
                  have BG11 := Lib.hid (BG10.out.on hb11)
                  have HV11 := Lib.hid (HV.out.on hb11)
                  have HU11 := Lib.hid (HU.out.on hb11)
                  clear hb11 HV HU HB10 BG10
                  go_wp2_with fail
                  refine (may_walkS _ _ _ _ _ HU11.out true ⟨fun _ => HUM.out, fun _ => rfl⟩).mono ?_
                  rintro e w12 ⟨rfl, hb12⟩
                  have HB12 := Lib.hid (HB11.out.trans (hb12.mono HB11.out.size))
                  have BG12 := Lib.hid (BG11.out.on hb12)
                  have HV12 := Lib.hid (HV11.out.on hb12)
                  have HU12 := Lib.hid (HU11.out.on hb12)
                  clear hb12 HV11 HU11 HB11 BG11
                  have b0 := BG12.out.cell 0 rfl
                  have b1 := BG12.out.cell 1 rfl
                  go_wp2_with fail
                  refine (has_x _ i _ _ _ _ HV12.out (false && false) HHV.out).mono ?_
                  rintro e w13 ⟨rfl, hb13⟩
                  have HB13 := Lib.hid (HB12.out.trans (hb13.mono HB12.out.size))
                  have BG13 := Lib.hid (BG12.out.on hb13)
                  have HU13 := Lib.hid (HU12.out.on hb13)
                  clear hb13 HV12 HU12 HB12 BG12 b0 b1
                  have b0 := BG13.out.cell 0 rfl
                  have b1 := BG13.out.cell 1 rfl
                  go_wp2_with fail
                  refine (has_x _ i _ _ _ _ HU13.out (false && !false) HHU.out).mono ?_
                  rintro e w14 ⟨rfl, hb14⟩
                  have HB14 := Lib.hid (HB13.out.trans (hb14.mono HB13.out.size))
                  have BG14 := Lib.hid (BG13.out.on hb14)
                  clear hb14 HU13 HB13 BG13 b0 b1
                  have b0 := BG14.out.cell 0 rfl
                  have b1 := BG14.out.cell 1 rfl
                  go_wp2
                  go_ret
                  exact ⟨by first | rfl | (simp; omega) | (simp; done), HB14.out⟩
    · rw [decide_eq_false ho] at he
      subst he
      have HBx := Lib.hid HBW.out
      go_wp2_with fail
      refine (live19_walk _).mono ?_
      rintro e w9 ⟨rfl, hb9⟩
      have HB9 := Lib.hid (HBx.out.trans (hb9.mono HBx.out.size))
      clear hb9
      go_wp2
      go_ret
      exact ⟨rfl, HB9.out⟩
end Go.Proofs.Ytajjbffppkpjpaa
