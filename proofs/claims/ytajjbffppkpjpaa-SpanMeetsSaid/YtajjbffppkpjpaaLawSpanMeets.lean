import Derived.Test.YtajjbffppkpjpaaSpanD2
/-
  The walk of liverylaw19.SpanMeets.
-/
namespace Go.Proofs.Ytajjbffppkpjpaa
open Go.RowKit
set_option maxRecDepth 100000 in
set_option maxHeartbeats 4000000 in
theorem spanmeets_walk (a b : List Rg) (r : Rg) (pa : Option Addr) (na ca : Nat) (pb : Option Addr) (nb cb : Nat) (w : World) (hLa : RgsIn w pa na ca a) (hLb : RgsIn w pb nb cb b) :
    Calls Try.prog 14 #[.slice pa na ca, .slice pb nb cb, rag r] w fun e w' => e = .returned (.bool true) ∧ Below w.heap.size w w' := by
  have hb := below_one1 w (.cells (rcb r) 25)
  have HL := Lib.hid (hLa.on hb)
  have HK := Lib.hid (hLb.on hb)
  have BG := Lib.hid (Blk.new w (rcb r) 25)
  have HB := Lib.hid hb
  obtain ⟨ct, hct⟩ : ∃ t, t = countR a := ⟨_, rfl⟩
  have HCT := Lib.hid hct.symm
  have HCM := Lib.hid (show MayP a → count a = ct from fun h => by rw [hct]; exact (if_pos h).symm)
  have HCZ := Lib.hid (show ¬ MayP a → ct = 0 from fun h => by rw [hct]; exact if_neg h)
  obtain ⟨Q, hQ⟩ := bool_of (MayP a ∧ oneP r ∧ covP a r)
  obtain ⟨Q2, hQ2⟩ := bool_of (MayP a ∧ mem a r.lo)
  obtain ⟨Q3, hQ3⟩ := bool_of (MayP a ∧ mem a r.hi)
  have HQ := Lib.hid hQ
  have HQ2 := Lib.hid hQ2
  have HQ3 := Lib.hid hQ3
  obtain ⟨z, hz⟩ : ∃ z, z = (meetR a b).2 := ⟨_, rfl⟩
  have HZ := Lib.hid hz
  clear hLa hLb hb hct hQ hQ2 hQ3 hz
  go_enter Try.func14, Try.ntmps14
  go_wp2_with fail
  refine (live19_walk _).mono ?_
  rintro e w1 ⟨rfl, hb2⟩
  have HB2 := Lib.hid (HB.out.trans (hb2.mono HB.out.size))
  have HL2 := Lib.hid (HL.out.on hb2)
  have HK2 := Lib.hid (HK.out.on hb2)
  have BG2 := Lib.hid (BG.out.on hb2)
  clear hb2 HL BG HB HK
  go_wp2_with fail
  refine (few19_walk pa na ca _).mono ?_
  rintro e w2a ⟨he, rfl⟩
  by_cases hf : na ≤ 300
  · rw [decide_eq_true hf] at he
    subst he
    clear hf
    go_wp2_with fail
    refine (few19_walk pb nb cb _).mono ?_
    rintro e w2 ⟨he, rfl⟩
    by_cases hf : nb ≤ 300
    · rw [decide_eq_true hf] at he
      subst he
      clear hf
      go_wp2_with fail
      refine (meet_walk a b pa na ca pb nb cb _ HL2.out HK2.out).mono ?_
      rintro e w3 ⟨v3, z3, rfl, hO, hz3, hb3⟩
      obtain ⟨px, cx, rfl, _⟩ := hO.form
      have HB3 := Lib.hid (HB2.out.trans (hb3.mono HB2.out.size))
      have HL3 := Lib.hid (HL2.out.on hb3)
      have HK3 := Lib.hid (HK2.out.on hb3)
      have BG3 := Lib.hid (BG2.out.on hb3)
      have HX3 := Lib.hid (hO.set (meetR_may a b))
      obtain rfl : z3 = z := by rw [hz3, HZ.out]
      clear hO hb3 hz3
      go_wp2_with fail
      refine (rmeet_walk a b pa na ca pb nb cb _ HL3.out HK3.out).mono ?_
      rintro e w4 ⟨v4, z4, rfl, hO, hz4, hb4⟩
      obtain ⟨py, cy, rfl, _⟩ := hO.form
      have HB4 := Lib.hid (HB3.out.trans (hb4.mono HB3.out.size))
      have HL4 := Lib.hid (HL3.out.on hb4)
      have HX4 := Lib.hid (HX3.out.on hb4)
      have BG4 := Lib.hid (BG3.out.on hb4)
      have HY4 := Lib.hid (hO.set (meetR_may a b))
      obtain rfl : z4 = z3 := by rw [hz4, HZ.out]
      obtain ⟨z, rfl⟩ : ∃ t : Int, t = z4 := ⟨_, rfl⟩
      have HNX := Lib.hid (show (meetR a b).1.length ≤ 9223372036854775807 by have := (meetR_may a b).2.2; omega)
      obtain ⟨nx, hnx⟩ : ∃ n, n = (meetR a b).1.length := ⟨_, rfl⟩
      rw [← hnx] at HX4 HY4 HNX ⊢
      clear hO hb4 hz4 HX3 HL3 HK3 BG3 HB3 hnx
      obtain ⟨M, hM⟩ := bool_of (MayP a)
      have HM := Lib.hid hM
      clear hM
      go_wp2_with fail
      refine (may_walkR a pa na ca _ HL4.out M HM.out).mono ?_
      rintro e w5 ⟨rfl, hb5⟩
      have HB5 := Lib.hid (HB4.out.trans (hb5.mono HB4.out.size))
      have HL5 := Lib.hid (HL4.out.on hb5)
      have HX5 := Lib.hid (HX4.out.on hb5)
      have HY5 := Lib.hid (HY4.out.on hb5)
      have BG5 := Lib.hid (BG4.out.on hb5)
      have b0 := BG5.out.cell 0 rfl
      have b1 := BG5.out.cell 1 rfl
      clear hb5 HL4 HX4 HY4 BG4 HB4
      cases M with
      | false =>
        have HMA := Lib.hid (show ¬ MayP a from fun h => by have := HM.out.2 h; cases this)
        obtain rfl : Q = false := Bool.eq_false_iff.2 fun q => HMA.out (HQ.out.1 q).1
        go_wp2_with fail
        refine (may_walkR a pa na ca _ HL5.out false ⟨fun h => (by cases h), fun h => absurd h HMA.out⟩).mono ?_
        rintro e w7 ⟨rfl, hb7⟩
        have HB7 := Lib.hid (HB5.out.trans (hb7.mono HB5.out.size))
        have HL7 := Lib.hid (HL5.out.on hb7)
        have HX7 := Lib.hid (HX5.out.on hb7)
        have HY7 := Lib.hid (HY5.out.on hb7)
        have BG7 := Lib.hid (BG5.out.on hb7)
        clear hb7 b0 b1
        obtain rfl : ct = 0 := HCZ.out HMA.out
        have HBW := Lib.hid HB7.out
        have HL := Lib.hid HL7.out
        have HX := Lib.hid HX7.out
        have HY := Lib.hid HY7.out
        have BG0 := Lib.hid BG7.out
        obtain ⟨W, rfl⟩ : ∃ x : World, x = w7 := ⟨_, rfl⟩
        clear HL7 HX7 HY7 BG7 HB7
        go_wp2_with fail
        refine wp_region_held_drew (S := fun w' => Below W.heap.size W w') (by kernel_rfl) (Below.refl _ _).drew (fun _ => ?_)
        have HS := Lib.hid ((Below.refl W.heap.size W).drew)
        have HL := Lib.hid (HL.out.on (HS.out))
        have HX := Lib.hid (HX.out.on (HS.out))
        have HY := Lib.hid (HY.out.on (HS.out))
        have HBW := Lib.hid (HBW.out.trans ((HS.out).mono HBW.out.size))
        generalize World.drew W = v0 at *
        try simp only [Act.put, List.setIfInBounds_toArray, List.set_cons_succ, List.set_cons_zero]
        refine wpAnyH_take (i := 0) (oi := ⟨some 53, .move (.tmp 7), 22, _, _, none⟩) (v := .slice px nx cx) rfl (by kernel_rfl) (by kernel_rfl) (by kernel_rfl) (fun _ _ _ h => h) (Or.inl ⟨by rfl, fun _ _ => by go_simp⟩) HS.out ?_
        try simp only [Act.put, List.setIfInBounds_toArray, List.set_cons_succ, List.set_cons_zero]
        refine wpAnyH_take (i := 1) (oi := ⟨some 54, .move (.tmp 9), 22, _, _, none⟩) (v := .slice py nx cy) rfl (by kernel_rfl) (by kernel_rfl) (by kernel_rfl) (fun _ _ _ h => h) (Or.inl ⟨by rfl, fun _ _ => by go_simp⟩) HS.out ?_
        try simp only [Act.put, List.setIfInBounds_toArray, List.set_cons_succ, List.set_cons_zero]
        refine wpAnyH_ready (rs := [2]) (by kernel_rfl) (by simp) ?_
        refine AllReadyH.cons (o := ⟨some 55, .call { callee := .value (.func 57), args := #[.tmp 53, .tmp 54], argTypes := #[22, 22] }, 4, _, _, none⟩) rfl (fun K hK => ?_) AllReadyH.nil
        go_simp
        refine (same_walk (meetR a b).1 (meetR a b).1 _ _ _ _ _ _ v0 HX.out.len HY.out.len HNX.out HX.out.rd HY.out.rd).mono ?_
        rintro e v1 ⟨he, hb⟩
        rw [decide_eq_true rfl] at he
        subst he
        have HL := Lib.hid (HL.out.on hb)
        have HX := Lib.hid (HX.out.on hb)
        have HY := Lib.hid (HY.out.on hb)
        have HBW := Lib.hid (HBW.out.trans (hb.mono HBW.out.size))
        have HS := Lib.hid (HS.out.trans (hb.mono HS.out.size))
        clear hb
        refine hK _ _ HS.out (fun _ => ?_)
        clear hK K
        try simp only [Act.put, List.setIfInBounds_toArray, List.set_cons_succ, List.set_cons_zero]
        refine wpAnyH_take (i := 3) (oi := ⟨some 56, .move (.tmp 55), 4, _, _, none⟩) (v := .bool true) rfl (by kernel_rfl) (by kernel_rfl) (by kernel_rfl) (fun _ _ _ h => h) (Or.inl ⟨by rfl, fun _ _ => by go_simp⟩) HS.out ?_
        try simp only [Act.put, List.setIfInBounds_toArray, List.set_cons_succ, List.set_cons_zero]
        refine wpAnyH_take (i := 4) (oi := ⟨some 57, .move (.tmp 8), 30, _, _, some (3, true)⟩) (v := .int .i64 z) rfl (by kernel_rfl) (by kernel_rfl) (by kernel_rfl) (fun _ _ _ h => h) (Or.inl ⟨by rfl, fun _ _ => by go_simp⟩) HS.out ?_
        try simp only [Act.put, List.setIfInBounds_toArray, List.set_cons_succ, List.set_cons_zero]
        refine wpAnyH_take (i := 5) (oi := ⟨some 58, .move (.tmp 10), 30, _, _, some (3, true)⟩) (v := .int .i64 z) rfl (by kernel_rfl) (by kernel_rfl) (by kernel_rfl) (fun _ _ _ h => h) (Or.inl ⟨by rfl, fun _ _ => by go_simp⟩) HS.out ?_
        try simp only [Act.put, List.setIfInBounds_toArray, List.set_cons_succ, List.set_cons_zero]
        refine wpAnyH_take (i := 6) (oi := ⟨some 59, .binOp .eql 30 (.tmp 57) (.tmp 58) 30, 4, _, _, some (3, true)⟩) (v := .bool true) rfl (by kernel_rfl) (by kernel_rfl) (by kernel_rfl) (fun _ _ _ h => h) (Or.inl ⟨by rfl, fun _ _ => by go_simp⟩) HS.out ?_
        try simp only [Act.put, List.setIfInBounds_toArray, List.set_cons_succ, List.set_cons_zero]
        refine wpAnyH_take (i := 7) (oi := ⟨some 60, .pick (.tmp 56) (.tmp 59) (.const (.bool false)), 4, _, _, none⟩) (v := .bool true) rfl (by kernel_rfl) (by kernel_rfl) (by kernel_rfl) (fun _ _ _ h => h) (Or.inl ⟨by rfl, fun _ _ => by go_simp⟩) HS.out ?_
        try simp only [Act.put, List.setIfInBounds_toArray, List.set_cons_succ, List.set_cons_zero]
        refine wpAnyH_take (i := 8) (oi := ⟨some 61, .move (.tmp 60), 4, _, _, none⟩) (v := .bool true) rfl (by kernel_rfl) (by kernel_rfl) (by kernel_rfl) (fun _ _ _ h => h) (Or.inl ⟨by rfl, fun _ _ => by go_simp⟩) HS.out ?_
        try simp only [Act.put, List.setIfInBounds_toArray, List.set_cons_succ, List.set_cons_zero]
        refine wpAnyH_take (i := 9) (oi := ⟨some 62, .move (.tmp 0), 22, _, _, some (8, true)⟩) (v := .slice pa na ca) rfl (by kernel_rfl) (by kernel_rfl) (by kernel_rfl) (fun _ _ _ h => h) (Or.inl ⟨by rfl, fun _ _ => by go_simp⟩) HS.out ?_
        try simp only [Act.put, List.setIfInBounds_toArray, List.set_cons_succ, List.set_cons_zero]
        refine wpAnyH_take (i := 10) (oi := ⟨some 63, .load 25 (.tmp 5), 25, _, _, some (8, true)⟩) (v := .agg #[.int .u64 (r.lo : Nat), .int .u64 (r.hi : Nat)]) rfl (by kernel_rfl) (by kernel_rfl) (by kernel_rfl) (fun _ _ _ h => h) (Or.inl ⟨by rfl, fun vv hvv => yields_agg 25 (.tmp 5) rfl w.heap.size rfl (BG0.out.below hvv BG0.out.lt) _ Try.underlying25 rfl size_rg⟩) HS.out ?_
        try simp only [Act.put, List.setIfInBounds_toArray, List.set_cons_succ, List.set_cons_zero]
        refine wpAnyH_take (i := 12) (oi := ⟨some 65, .move (.tmp 11), 4, _, _, some (8, true)⟩) (v := .bool false) rfl (by kernel_rfl) (by kernel_rfl) (by kernel_rfl) (fun _ _ _ h => h) (Or.inl ⟨by rfl, fun _ _ => by go_simp⟩) HS.out ?_
        try simp only [Act.put, List.setIfInBounds_toArray, List.set_cons_succ, List.set_cons_zero]
        refine wpAnyH_ready (rs := [11]) (by kernel_rfl) (by simp) ?_
        refine AllReadyH.cons (o := ⟨some 64, .call { callee := .value (.func 23), args := #[.tmp 62, .tmp 63], argTypes := #[22, 25] }, 4, _, _, some (8, true)⟩) rfl (fun K hK => ?_) AllReadyH.nil
        go_simp
        refine (covers_x a r pa na ca v1 HL.out false HQ.out).mono ?_
        rintro e v2 ⟨rfl, hb⟩
        have HL := Lib.hid (HL.out.on hb)
        have HX := Lib.hid (HX.out.on hb)
        have HY := Lib.hid (HY.out.on hb)
        have HBW := Lib.hid (HBW.out.trans (hb.mono HBW.out.size))
        have HS := Lib.hid (HS.out.trans (hb.mono HS.out.size))
        clear hb
        refine hK _ _ HS.out (fun _ => ?_)
        clear hK K
        try simp only [Act.put, List.setIfInBounds_toArray, List.set_cons_succ, List.set_cons_zero]
        refine wpAnyH_take (i := 13) (oi := ⟨some 66, .binOp .eql 4 (.tmp 64) (.tmp 65) 4, 4, _, _, some (8, true)⟩) (v := .bool true) rfl (by kernel_rfl) (by kernel_rfl) (by kernel_rfl) (fun _ _ _ h => h) (Or.inl ⟨by rfl, fun _ _ => by go_simp⟩) HS.out ?_
        try simp only [Act.put, List.setIfInBounds_toArray, List.set_cons_succ, List.set_cons_zero]
        refine wpAnyH_take (i := 14) (oi := ⟨some 67, .pick (.tmp 61) (.tmp 66) (.const (.bool false)), 4, _, _, none⟩) (v := .bool true) rfl (by kernel_rfl) (by kernel_rfl) (by kernel_rfl) (fun _ _ _ h => h) (Or.inl ⟨by rfl, fun _ _ => by go_simp⟩) HS.out ?_
        try simp only [Act.put, List.setIfInBounds_toArray, List.set_cons_succ, List.set_cons_zero]
        refine wpAnyH_take (i := 15) (oi := ⟨some 68, .move (.tmp 67), 4, _, _, none⟩) (v := .bool true) rfl (by kernel_rfl) (by kernel_rfl) (by kernel_rfl) (fun _ _ _ h => h) (Or.inl ⟨by rfl, fun _ _ => by go_simp⟩) HS.out ?_
        try simp only [Act.put, List.setIfInBounds_toArray, List.set_cons_succ, List.set_cons_zero]
        refine wpAnyH_take (i := 16) (oi := ⟨some 69, .move (.tmp 0), 22, _, _, some (15, true)⟩) (v := .slice pa na ca) rfl (by kernel_rfl) (by kernel_rfl) (by kernel_rfl) (fun _ _ _ h => h) (Or.inl ⟨by rfl, fun _ _ => by go_simp⟩) HS.out ?_
        try simp only [Act.put, List.setIfInBounds_toArray, List.set_cons_succ, List.set_cons_zero]
        refine wpAnyH_take (i := 18) (oi := ⟨some 71, .move (.tmp 12), 23, _, _, some (15, true)⟩) (v := .int .u64 (0 : Nat)) rfl (by kernel_rfl) (by kernel_rfl) (by kernel_rfl) (fun _ _ _ h => h) (Or.inl ⟨by rfl, fun _ _ => by go_simp⟩) HS.out ?_
        try simp only [Act.put, List.setIfInBounds_toArray, List.set_cons_succ, List.set_cons_zero]
        refine wpAnyH_ready (rs := [17]) (by kernel_rfl) (by simp) ?_
        refine AllReadyH.cons (o := ⟨some 70, .call { callee := .value (.func 19), args := #[.tmp 69], argTypes := #[22] }, 23, _, _, some (15, true)⟩) rfl (fun K hK => ?_) AllReadyH.nil
        go_simp
        refine (count_walk a pa na ca v2 HL.out).mono ?_
        rintro e v3 ⟨rfl, hb⟩
        rw [HCT.out]
        have HL := Lib.hid (HL.out.on hb)
        have HX := Lib.hid (HX.out.on hb)
        have HY := Lib.hid (HY.out.on hb)
        have HBW := Lib.hid (HBW.out.trans (hb.mono HBW.out.size))
        have HS := Lib.hid (HS.out.trans (hb.mono HS.out.size))
        clear hb
        refine hK _ _ HS.out (fun _ => ?_)
        clear hK K
        try simp only [Act.put, List.setIfInBounds_toArray, List.set_cons_succ, List.set_cons_zero]
        refine wpAnyH_take (i := 19) (oi := ⟨some 72, .binOp .eql 23 (.tmp 70) (.tmp 71) 23, 4, _, _, some (15, true)⟩) (v := .bool true) rfl (by kernel_rfl) (by kernel_rfl) (by kernel_rfl) (fun _ _ _ h => h) (Or.inl ⟨by rfl, fun _ _ => by go_simp⟩) HS.out ?_
        try simp only [Act.put, List.setIfInBounds_toArray, List.set_cons_succ, List.set_cons_zero]
        refine wpAnyH_take (i := 20) (oi := ⟨some 73, .pick (.tmp 68) (.tmp 72) (.const (.bool false)), 4, _, _, none⟩) (v := .bool true) rfl (by kernel_rfl) (by kernel_rfl) (by kernel_rfl) (fun _ _ _ h => h) (Or.inl ⟨by rfl, fun _ _ => by go_simp⟩) HS.out ?_
        try simp only [Act.put, List.setIfInBounds_toArray, List.set_cons_succ, List.set_cons_zero]
        refine wpAnyH_take (i := 21) (oi := ⟨some 74, .move (.tmp 73), 4, _, _, none⟩) (v := .bool true) rfl (by kernel_rfl) (by kernel_rfl) (by kernel_rfl) (fun _ _ _ h => h) (Or.inl ⟨by rfl, fun _ _ => by go_simp⟩) HS.out ?_
        try simp only [Act.put, List.setIfInBounds_toArray, List.set_cons_succ, List.set_cons_zero]
        refine wpAnyH_take (i := 22) (oi := ⟨some 75, .move (.tmp 0), 22, _, _, some (21, true)⟩) (v := .slice pa na ca) rfl (by kernel_rfl) (by kernel_rfl) (by kernel_rfl) (fun _ _ _ h => h) (Or.inl ⟨by rfl, fun _ _ => by go_simp⟩) HS.out ?_
        try simp only [Act.put, List.setIfInBounds_toArray, List.set_cons_succ, List.set_cons_zero]
        refine wpAnyH_take (i := 23) (oi := ⟨some 76, .fieldAddr 25 (.tmp 5) 0, _, _, _, some (21, true)⟩) (v := .pointer (some ⟨w.heap.size, 0, none⟩)) rfl (by kernel_rfl) (by kernel_rfl) (by kernel_rfl) (fun _ _ _ h => h) (Or.inl ⟨by rfl, fun _ _ => by go_simp⟩) HS.out ?_
        try simp only [Act.put, List.setIfInBounds_toArray, List.set_cons_succ, List.set_cons_zero]
        refine wpAnyH_take (i := 24) (oi := ⟨some 77, .load 23 (.tmp 76), 23, _, _, some (21, true)⟩) (v := .int .u64 (r.lo : Nat)) rfl (by kernel_rfl) (by kernel_rfl) (by kernel_rfl) (fun _ _ _ h => h) (Or.inl ⟨by rfl, fun vv hvv => yields_u64 (.tmp 76) rfl ⟨w.heap.size, 0, none⟩ rfl ((BG0.out.below hvv BG0.out.lt).cell 0 rfl)⟩) HS.out ?_
        try simp only [Act.put, List.setIfInBounds_toArray, List.set_cons_succ, List.set_cons_zero]
        refine wpAnyH_take (i := 26) (oi := ⟨some 79, .move (.tmp 0), 22, _, _, some (21, true)⟩) (v := .slice pa na ca) rfl (by kernel_rfl) (by kernel_rfl) (by kernel_rfl) (fun _ _ _ h => h) (Or.inl ⟨by rfl, fun _ _ => by go_simp⟩) HS.out ?_
        try simp only [Act.put, List.setIfInBounds_toArray, List.set_cons_succ, List.set_cons_zero]
        refine wpAnyH_take (i := 27) (oi := ⟨some 80, .fieldAddr 25 (.tmp 5) 0, _, _, _, some (21, true)⟩) (v := .pointer (some ⟨w.heap.size, 0, none⟩)) rfl (by kernel_rfl) (by kernel_rfl) (by kernel_rfl) (fun _ _ _ h => h) (Or.inl ⟨by rfl, fun _ _ => by go_simp⟩) HS.out ?_
        try simp only [Act.put, List.setIfInBounds_toArray, List.set_cons_succ, List.set_cons_zero]
        refine wpAnyH_take (i := 28) (oi := ⟨some 81, .load 23 (.tmp 80), 23, _, _, some (21, true)⟩) (v := .int .u64 (r.lo : Nat)) rfl (by kernel_rfl) (by kernel_rfl) (by kernel_rfl) (fun _ _ _ h => h) (Or.inl ⟨by rfl, fun vv hvv => yields_u64 (.tmp 80) rfl ⟨w.heap.size, 0, none⟩ rfl ((BG0.out.below hvv BG0.out.lt).cell 0 rfl)⟩) HS.out ?_
        try simp only [Act.put, List.setIfInBounds_toArray, List.set_cons_succ, List.set_cons_zero]
        refine wpAnyH_ready (rs := [25]) (by kernel_rfl) (by simp) ?_
        refine AllReadyH.cons (o := ⟨some 78, .call { callee := .value (.func 72), args := #[.tmp 75, .tmp 77], argTypes := #[22, 23] }, 4, _, _, some (21, true)⟩) rfl (fun K hK => ?_) AllReadyH.nil
        go_simp
        refine (has_x a r.lo pa na ca v3 HL.out Q2 HQ2.out).mono ?_
        rintro e v4 ⟨rfl, hb⟩
        have HL := Lib.hid (HL.out.on hb)
        have HX := Lib.hid (HX.out.on hb)
        have HY := Lib.hid (HY.out.on hb)
        have HBW := Lib.hid (HBW.out.trans (hb.mono HBW.out.size))
        have HS := Lib.hid (HS.out.trans (hb.mono HS.out.size))
        clear hb
        refine hK _ _ HS.out (fun _ => ?_)
        clear hK K
        try simp only [Act.put, List.setIfInBounds_toArray, List.set_cons_succ, List.set_cons_zero]
        refine wpAnyH_ready (rs := [29]) (by kernel_rfl) (by simp) ?_
        refine AllReadyH.cons (o := ⟨some 82, .call { callee := .value (.func 73), args := #[.tmp 79, .tmp 81], argTypes := #[22, 23] }, 4, _, _, some (21, true)⟩) rfl (fun K hK => ?_) AllReadyH.nil
        go_simp
        refine (rhas_walk a r.lo pa na ca v4 HL.out Q2 HQ2.out).mono ?_
        rintro e v5 ⟨rfl, hb⟩
        have HL := Lib.hid (HL.out.on hb)
        have HX := Lib.hid (HX.out.on hb)
        have HY := Lib.hid (HY.out.on hb)
        have HBW := Lib.hid (HBW.out.trans (hb.mono HBW.out.size))
        have HS := Lib.hid (HS.out.trans (hb.mono HS.out.size))
        clear hb
        refine hK _ _ HS.out (fun _ => ?_)
        clear hK K
        try simp only [Act.put, List.setIfInBounds_toArray, List.set_cons_succ, List.set_cons_zero]
        refine wpAnyH_take (i := 30) (oi := ⟨some 83, .binOp .eql 4 (.tmp 78) (.tmp 82) 4, 4, _, _, some (21, true)⟩) (v := .bool true) rfl (by kernel_rfl) (by kernel_rfl) (by kernel_rfl) (fun _ _ _ h => h) (Or.inl ⟨by rfl, fun _ _ => by go_simp⟩) HS.out ?_
        try simp only [Act.put, List.setIfInBounds_toArray, List.set_cons_succ, List.set_cons_zero]
        refine wpAnyH_take (i := 31) (oi := ⟨some 84, .pick (.tmp 74) (.tmp 83) (.const (.bool false)), 4, _, _, none⟩) (v := .bool true) rfl (by kernel_rfl) (by kernel_rfl) (by kernel_rfl) (fun _ _ _ h => h) (Or.inl ⟨by rfl, fun _ _ => by go_simp⟩) HS.out ?_
        try simp only [Act.put, List.setIfInBounds_toArray, List.set_cons_succ, List.set_cons_zero]
        refine wpAnyH_take (i := 32) (oi := ⟨some 85, .move (.tmp 84), 4, _, _, none⟩) (v := .bool true) rfl (by kernel_rfl) (by kernel_rfl) (by kernel_rfl) (fun _ _ _ h => h) (Or.inl ⟨by rfl, fun _ _ => by go_simp⟩) HS.out ?_
        try simp only [Act.put, List.setIfInBounds_toArray, List.set_cons_succ, List.set_cons_zero]
        refine wpAnyH_take (i := 33) (oi := ⟨some 86, .move (.tmp 0), 22, _, _, some (32, true)⟩) (v := .slice pa na ca) rfl (by kernel_rfl) (by kernel_rfl) (by kernel_rfl) (fun _ _ _ h => h) (Or.inl ⟨by rfl, fun _ _ => by go_simp⟩) HS.out ?_
        try simp only [Act.put, List.setIfInBounds_toArray, List.set_cons_succ, List.set_cons_zero]
        refine wpAnyH_take (i := 34) (oi := ⟨some 87, .fieldAddr 25 (.tmp 5) 1, _, _, _, some (32, true)⟩) (v := .pointer (some ⟨w.heap.size, 1, none⟩)) rfl (by kernel_rfl) (by kernel_rfl) (by kernel_rfl) (fun _ _ _ h => h) (Or.inl ⟨by rfl, fun _ _ => by go_simp⟩) HS.out ?_
        try simp only [Act.put, List.setIfInBounds_toArray, List.set_cons_succ, List.set_cons_zero]
        refine wpAnyH_take (i := 35) (oi := ⟨some 88, .load 23 (.tmp 87), 23, _, _, some (32, true)⟩) (v := .int .u64 (r.hi : Nat)) rfl (by kernel_rfl) (by kernel_rfl) (by kernel_rfl) (fun _ _ _ h => h) (Or.inl ⟨by rfl, fun vv hvv => yields_u64 (.tmp 87) rfl ⟨w.heap.size, 1, none⟩ rfl ((BG0.out.below hvv BG0.out.lt).cell 1 rfl)⟩) HS.out ?_
        try simp only [Act.put, List.setIfInBounds_toArray, List.set_cons_succ, List.set_cons_zero]
        refine wpAnyH_take (i := 37) (oi := ⟨some 90, .move (.tmp 0), 22, _, _, some (32, true)⟩) (v := .slice pa na ca) rfl (by kernel_rfl) (by kernel_rfl) (by kernel_rfl) (fun _ _ _ h => h) (Or.inl ⟨by rfl, fun _ _ => by go_simp⟩) HS.out ?_
        try simp only [Act.put, List.setIfInBounds_toArray, List.set_cons_succ, List.set_cons_zero]
        refine wpAnyH_take (i := 38) (oi := ⟨some 91, .fieldAddr 25 (.tmp 5) 1, _, _, _, some (32, true)⟩) (v := .pointer (some ⟨w.heap.size, 1, none⟩)) rfl (by kernel_rfl) (by kernel_rfl) (by kernel_rfl) (fun _ _ _ h => h) (Or.inl ⟨by rfl, fun _ _ => by go_simp⟩) HS.out ?_
        try simp only [Act.put, List.setIfInBounds_toArray, List.set_cons_succ, List.set_cons_zero]
        refine wpAnyH_take (i := 39) (oi := ⟨some 92, .load 23 (.tmp 91), 23, _, _, some (32, true)⟩) (v := .int .u64 (r.hi : Nat)) rfl (by kernel_rfl) (by kernel_rfl) (by kernel_rfl) (fun _ _ _ h => h) (Or.inl ⟨by rfl, fun vv hvv => yields_u64 (.tmp 91) rfl ⟨w.heap.size, 1, none⟩ rfl ((BG0.out.below hvv BG0.out.lt).cell 1 rfl)⟩) HS.out ?_
        try simp only [Act.put, List.setIfInBounds_toArray, List.set_cons_succ, List.set_cons_zero]
        refine wpAnyH_ready (rs := [36]) (by kernel_rfl) (by simp) ?_
        refine AllReadyH.cons (o := ⟨some 89, .call { callee := .value (.func 72), args := #[.tmp 86, .tmp 88], argTypes := #[22, 23] }, 4, _, _, some (32, true)⟩) rfl (fun K hK => ?_) AllReadyH.nil
        go_simp
        refine (has_x a r.hi pa na ca v5 HL.out Q3 HQ3.out).mono ?_
        rintro e v6 ⟨rfl, hb⟩
        have HL := Lib.hid (HL.out.on hb)
        have HX := Lib.hid (HX.out.on hb)
        have HY := Lib.hid (HY.out.on hb)
        have HBW := Lib.hid (HBW.out.trans (hb.mono HBW.out.size))
        have HS := Lib.hid (HS.out.trans (hb.mono HS.out.size))
        clear hb
        refine hK _ _ HS.out (fun _ => ?_)
        clear hK K
        try simp only [Act.put, List.setIfInBounds_toArray, List.set_cons_succ, List.set_cons_zero]
        refine wpAnyH_ready (rs := [40]) (by kernel_rfl) (by simp) ?_
        refine AllReadyH.cons (o := ⟨some 93, .call { callee := .value (.func 73), args := #[.tmp 90, .tmp 92], argTypes := #[22, 23] }, 4, _, _, some (32, true)⟩) rfl (fun K hK => ?_) AllReadyH.nil
        go_simp
        refine (rhas_walk a r.hi pa na ca v6 HL.out Q3 HQ3.out).mono ?_
        rintro e v7 ⟨rfl, hb⟩
        have HL := Lib.hid (HL.out.on hb)
        have HX := Lib.hid (HX.out.on hb)
        have HY := Lib.hid (HY.out.on hb)
        have HBW := Lib.hid (HBW.out.trans (hb.mono HBW.out.size))
        have HS := Lib.hid (HS.out.trans (hb.mono HS.out.size))
        clear hb
        refine hK _ _ HS.out (fun _ => ?_)
        clear hK K
        try simp only [Act.put, List.setIfInBounds_toArray, List.set_cons_succ, List.set_cons_zero]
        refine wpAnyH_take (i := 41) (oi := ⟨some 94, .binOp .eql 4 (.tmp 89) (.tmp 93) 4, 4, _, _, some (32, true)⟩) (v := .bool true) rfl (by kernel_rfl) (by kernel_rfl) (by kernel_rfl) (fun _ _ _ h => h) (Or.inl ⟨by rfl, fun _ _ => by go_simp⟩) HS.out ?_
        try simp only [Act.put, List.setIfInBounds_toArray, List.set_cons_succ, List.set_cons_zero]
        refine wpAnyH_take (i := 42) (oi := ⟨some 95, .pick (.tmp 85) (.tmp 94) (.const (.bool false)), 4, _, _, none⟩) (v := .bool true) rfl (by kernel_rfl) (by kernel_rfl) (by kernel_rfl) (fun _ _ _ h => h) (Or.inl ⟨by rfl, fun _ _ => by go_simp⟩) HS.out ?_
        try simp only [Act.put, List.setIfInBounds_toArray, List.set_cons_succ, List.set_cons_zero]
        refine wpAnyH_take (i := 43) (oi := ⟨some 6, .assign (.tmp 95), 4, _, _, none⟩) (v := .bool true) rfl (by kernel_rfl) (by kernel_rfl) (by kernel_rfl) (fun _ _ _ h => h) (Or.inl ⟨by rfl, fun _ _ => by go_simp⟩) HS.out ?_
        try simp only [Act.put, List.setIfInBounds_toArray, List.set_cons_succ, List.set_cons_zero]
        refine wpAnyH_done (by kernel_rfl) ?_ _
        go_wp2
        go_ret
        exact ⟨rfl, HBW.out⟩
      | true =>
        have HMA := Lib.hid (HM.out.1 rfl)
        by_cases ho : oneP r
        · have HO := Lib.hid ho
          clear ho
          go_wp2_with fail
          refine (rone_walk r _).mono ?_
          rintro e w6 ⟨he, hb6⟩
          rw [decide_eq_true HO.out] at he
          subst he
          have HB6a := Lib.hid (HB5.out.trans (hb6.mono HB5.out.size))
          have HL6a := Lib.hid (HL5.out.on hb6)
          have HX6a := Lib.hid (HX5.out.on hb6)
          have HY6a := Lib.hid (HY5.out.on hb6)
          have BG6a := Lib.hid (BG5.out.on hb6)
          clear hb6 b0 b1 HL5 HX5 HY5 BG5 HB5
          have b0 := BG6a.out.cell 0 rfl
          have b1 := BG6a.out.cell 1 rfl
          go_wp2_with fail
          refine (rcovers_walk a r pa na ca _ HL6a.out Q (HQ.out.trans ⟨fun h => h.2.2, fun h => ⟨HMA.out, HO.out, h⟩⟩)).mono ?_
          rintro e w6b ⟨rfl, hb6⟩
          have HB6 := Lib.hid (HB6a.out.trans (hb6.mono HB6a.out.size))
          have HL6 := Lib.hid (HL6a.out.on hb6)
          have HX6 := Lib.hid (HX6a.out.on hb6)
          have HY6 := Lib.hid (HY6a.out.on hb6)
          have BG6 := Lib.hid (BG6a.out.on hb6)
          clear hb6 b0 b1 HL6a HX6a HY6a BG6a HB6a
          have b0 := BG6.out.cell 0 rfl
          have b1 := BG6.out.cell 1 rfl
          go_wp2_with fail
          refine (may_walkR a pa na ca _ HL6.out true ⟨fun _ => HMA.out, fun _ => rfl⟩).mono ?_
          rintro e w7 ⟨rfl, hb7⟩
          have HB7 := Lib.hid (HB6.out.trans (hb7.mono HB6.out.size))
          have HL7 := Lib.hid (HL6.out.on hb7)
          have HX7 := Lib.hid (HX6.out.on hb7)
          have HY7 := Lib.hid (HY6.out.on hb7)
          have BG7 := Lib.hid (BG6.out.on hb7)
          clear hb7 b0 b1
          go_wp2_with fail
          refine (rcount_walk a pa na ca _ HL7.out HMA.out).mono ?_
          rintro e W ⟨rfl, hb8⟩
          rw [show count a = ct from HCM.out HMA.out]
          have HBW := Lib.hid (HB7.out.trans (hb8.mono HB7.out.size))
          have HL := Lib.hid (HL7.out.on hb8)
          have HX := Lib.hid (HX7.out.on hb8)
          have HY := Lib.hid (HY7.out.on hb8)
          have BG0 := Lib.hid (BG7.out.on hb8)
          clear hb8 HL7 HX7 HY7 BG7 HB7
          go_wp2_with fail
          refine wp_region_held_drew (S := fun w' => Below W.heap.size W w') (by kernel_rfl) (Below.refl _ _).drew (fun _ => ?_)
          have HS := Lib.hid ((Below.refl W.heap.size W).drew)
          have HL := Lib.hid (HL.out.on (HS.out))
          have HX := Lib.hid (HX.out.on (HS.out))
          have HY := Lib.hid (HY.out.on (HS.out))
          have HBW := Lib.hid (HBW.out.trans ((HS.out).mono HBW.out.size))
          generalize World.drew W = v0 at *
          try simp only [Act.put, List.setIfInBounds_toArray, List.set_cons_succ, List.set_cons_zero]
          refine wpAnyH_take (i := 0) (oi := ⟨some 53, .move (.tmp 7), 22, _, _, none⟩) (v := .slice px nx cx) rfl (by kernel_rfl) (by kernel_rfl) (by kernel_rfl) (fun _ _ _ h => h) (Or.inl ⟨by rfl, fun _ _ => by go_simp⟩) HS.out ?_
          try simp only [Act.put, List.setIfInBounds_toArray, List.set_cons_succ, List.set_cons_zero]
          refine wpAnyH_take (i := 1) (oi := ⟨some 54, .move (.tmp 9), 22, _, _, none⟩) (v := .slice py nx cy) rfl (by kernel_rfl) (by kernel_rfl) (by kernel_rfl) (fun _ _ _ h => h) (Or.inl ⟨by rfl, fun _ _ => by go_simp⟩) HS.out ?_
          try simp only [Act.put, List.setIfInBounds_toArray, List.set_cons_succ, List.set_cons_zero]
          refine wpAnyH_ready (rs := [2]) (by kernel_rfl) (by simp) ?_
          refine AllReadyH.cons (o := ⟨some 55, .call { callee := .value (.func 57), args := #[.tmp 53, .tmp 54], argTypes := #[22, 22] }, 4, _, _, none⟩) rfl (fun K hK => ?_) AllReadyH.nil
          go_simp
          refine (same_walk (meetR a b).1 (meetR a b).1 _ _ _ _ _ _ v0 HX.out.len HY.out.len HNX.out HX.out.rd HY.out.rd).mono ?_
          rintro e v1 ⟨he, hb⟩
          rw [decide_eq_true rfl] at he
          subst he
          have HL := Lib.hid (HL.out.on hb)
          have HX := Lib.hid (HX.out.on hb)
          have HY := Lib.hid (HY.out.on hb)
          have HBW := Lib.hid (HBW.out.trans (hb.mono HBW.out.size))
          have HS := Lib.hid (HS.out.trans (hb.mono HS.out.size))
          clear hb
          refine hK _ _ HS.out (fun _ => ?_)
          clear hK K
          try simp only [Act.put, List.setIfInBounds_toArray, List.set_cons_succ, List.set_cons_zero]
          refine wpAnyH_take (i := 3) (oi := ⟨some 56, .move (.tmp 55), 4, _, _, none⟩) (v := .bool true) rfl (by kernel_rfl) (by kernel_rfl) (by kernel_rfl) (fun _ _ _ h => h) (Or.inl ⟨by rfl, fun _ _ => by go_simp⟩) HS.out ?_
          try simp only [Act.put, List.setIfInBounds_toArray, List.set_cons_succ, List.set_cons_zero]
          refine wpAnyH_take (i := 4) (oi := ⟨some 57, .move (.tmp 8), 30, _, _, some (3, true)⟩) (v := .int .i64 z) rfl (by kernel_rfl) (by kernel_rfl) (by kernel_rfl) (fun _ _ _ h => h) (Or.inl ⟨by rfl, fun _ _ => by go_simp⟩) HS.out ?_
          try simp only [Act.put, List.setIfInBounds_toArray, List.set_cons_succ, List.set_cons_zero]
          refine wpAnyH_take (i := 5) (oi := ⟨some 58, .move (.tmp 10), 30, _, _, some (3, true)⟩) (v := .int .i64 z) rfl (by kernel_rfl) (by kernel_rfl) (by kernel_rfl) (fun _ _ _ h => h) (Or.inl ⟨by rfl, fun _ _ => by go_simp⟩) HS.out ?_
          try simp only [Act.put, List.setIfInBounds_toArray, List.set_cons_succ, List.set_cons_zero]
          refine wpAnyH_take (i := 6) (oi := ⟨some 59, .binOp .eql 30 (.tmp 57) (.tmp 58) 30, 4, _, _, some (3, true)⟩) (v := .bool true) rfl (by kernel_rfl) (by kernel_rfl) (by kernel_rfl) (fun _ _ _ h => h) (Or.inl ⟨by rfl, fun _ _ => by go_simp⟩) HS.out ?_
          try simp only [Act.put, List.setIfInBounds_toArray, List.set_cons_succ, List.set_cons_zero]
          refine wpAnyH_take (i := 7) (oi := ⟨some 60, .pick (.tmp 56) (.tmp 59) (.const (.bool false)), 4, _, _, none⟩) (v := .bool true) rfl (by kernel_rfl) (by kernel_rfl) (by kernel_rfl) (fun _ _ _ h => h) (Or.inl ⟨by rfl, fun _ _ => by go_simp⟩) HS.out ?_
          try simp only [Act.put, List.setIfInBounds_toArray, List.set_cons_succ, List.set_cons_zero]
          refine wpAnyH_take (i := 8) (oi := ⟨some 61, .move (.tmp 60), 4, _, _, none⟩) (v := .bool true) rfl (by kernel_rfl) (by kernel_rfl) (by kernel_rfl) (fun _ _ _ h => h) (Or.inl ⟨by rfl, fun _ _ => by go_simp⟩) HS.out ?_
          try simp only [Act.put, List.setIfInBounds_toArray, List.set_cons_succ, List.set_cons_zero]
          refine wpAnyH_take (i := 9) (oi := ⟨some 62, .move (.tmp 0), 22, _, _, some (8, true)⟩) (v := .slice pa na ca) rfl (by kernel_rfl) (by kernel_rfl) (by kernel_rfl) (fun _ _ _ h => h) (Or.inl ⟨by rfl, fun _ _ => by go_simp⟩) HS.out ?_
          try simp only [Act.put, List.setIfInBounds_toArray, List.set_cons_succ, List.set_cons_zero]
          refine wpAnyH_take (i := 10) (oi := ⟨some 63, .load 25 (.tmp 5), 25, _, _, some (8, true)⟩) (v := .agg #[.int .u64 (r.lo : Nat), .int .u64 (r.hi : Nat)]) rfl (by kernel_rfl) (by kernel_rfl) (by kernel_rfl) (fun _ _ _ h => h) (Or.inl ⟨by rfl, fun vv hvv => yields_agg 25 (.tmp 5) rfl w.heap.size rfl (BG0.out.below hvv BG0.out.lt) _ Try.underlying25 rfl size_rg⟩) HS.out ?_
          try simp only [Act.put, List.setIfInBounds_toArray, List.set_cons_succ, List.set_cons_zero]
          refine wpAnyH_take (i := 12) (oi := ⟨some 65, .move (.tmp 11), 4, _, _, some (8, true)⟩) (v := .bool Q) rfl (by kernel_rfl) (by kernel_rfl) (by kernel_rfl) (fun _ _ _ h => h) (Or.inl ⟨by rfl, fun _ _ => by go_simp⟩) HS.out ?_
          try simp only [Act.put, List.setIfInBounds_toArray, List.set_cons_succ, List.set_cons_zero]
          refine wpAnyH_ready (rs := [11]) (by kernel_rfl) (by simp) ?_
          refine AllReadyH.cons (o := ⟨some 64, .call { callee := .value (.func 23), args := #[.tmp 62, .tmp 63], argTypes := #[22, 25] }, 4, _, _, some (8, true)⟩) rfl (fun K hK => ?_) AllReadyH.nil
          go_simp
          refine (covers_x a r pa na ca v1 HL.out Q HQ.out).mono ?_
          rintro e v2 ⟨rfl, hb⟩
          have HL := Lib.hid (HL.out.on hb)
          have HX := Lib.hid (HX.out.on hb)
          have HY := Lib.hid (HY.out.on hb)
          have HBW := Lib.hid (HBW.out.trans (hb.mono HBW.out.size))
          have HS := Lib.hid (HS.out.trans (hb.mono HS.out.size))
          clear hb
          refine hK _ _ HS.out (fun _ => ?_)
          clear hK K
          try simp only [Act.put, List.setIfInBounds_toArray, List.set_cons_succ, List.set_cons_zero]
          refine wpAnyH_take (i := 13) (oi := ⟨some 66, .binOp .eql 4 (.tmp 64) (.tmp 65) 4, 4, _, _, some (8, true)⟩) (v := .bool true) rfl (by kernel_rfl) (by kernel_rfl) (by kernel_rfl) (fun _ _ _ h => h) (Or.inl ⟨by rfl, fun _ _ => by go_simp⟩) HS.out ?_
          try simp only [Act.put, List.setIfInBounds_toArray, List.set_cons_succ, List.set_cons_zero]
          refine wpAnyH_take (i := 14) (oi := ⟨some 67, .pick (.tmp 61) (.tmp 66) (.const (.bool false)), 4, _, _, none⟩) (v := .bool true) rfl (by kernel_rfl) (by kernel_rfl) (by kernel_rfl) (fun _ _ _ h => h) (Or.inl ⟨by rfl, fun _ _ => by go_simp⟩) HS.out ?_
          try simp only [Act.put, List.setIfInBounds_toArray, List.set_cons_succ, List.set_cons_zero]
          refine wpAnyH_take (i := 15) (oi := ⟨some 68, .move (.tmp 67), 4, _, _, none⟩) (v := .bool true) rfl (by kernel_rfl) (by kernel_rfl) (by kernel_rfl) (fun _ _ _ h => h) (Or.inl ⟨by rfl, fun _ _ => by go_simp⟩) HS.out ?_
          try simp only [Act.put, List.setIfInBounds_toArray, List.set_cons_succ, List.set_cons_zero]
          refine wpAnyH_take (i := 16) (oi := ⟨some 69, .move (.tmp 0), 22, _, _, some (15, true)⟩) (v := .slice pa na ca) rfl (by kernel_rfl) (by kernel_rfl) (by kernel_rfl) (fun _ _ _ h => h) (Or.inl ⟨by rfl, fun _ _ => by go_simp⟩) HS.out ?_
          try simp only [Act.put, List.setIfInBounds_toArray, List.set_cons_succ, List.set_cons_zero]
          refine wpAnyH_take (i := 18) (oi := ⟨some 71, .move (.tmp 12), 23, _, _, some (15, true)⟩) (v := .int .u64 (ct : Nat)) rfl (by kernel_rfl) (by kernel_rfl) (by kernel_rfl) (fun _ _ _ h => h) (Or.inl ⟨by rfl, fun _ _ => by go_simp⟩) HS.out ?_
          try simp only [Act.put, List.setIfInBounds_toArray, List.set_cons_succ, List.set_cons_zero]
          refine wpAnyH_ready (rs := [17]) (by kernel_rfl) (by simp) ?_
          refine AllReadyH.cons (o := ⟨some 70, .call { callee := .value (.func 19), args := #[.tmp 69], argTypes := #[22] }, 23, _, _, some (15, true)⟩) rfl (fun K hK => ?_) AllReadyH.nil
          go_simp
          refine (count_walk a pa na ca v2 HL.out).mono ?_
          rintro e v3 ⟨rfl, hb⟩
          rw [HCT.out]
          have HL := Lib.hid (HL.out.on hb)
          have HX := Lib.hid (HX.out.on hb)
          have HY := Lib.hid (HY.out.on hb)
          have HBW := Lib.hid (HBW.out.trans (hb.mono HBW.out.size))
          have HS := Lib.hid (HS.out.trans (hb.mono HS.out.size))
          clear hb
          refine hK _ _ HS.out (fun _ => ?_)
          clear hK K
          try simp only [Act.put, List.setIfInBounds_toArray, List.set_cons_succ, List.set_cons_zero]
          refine wpAnyH_take (i := 19) (oi := ⟨some 72, .binOp .eql 23 (.tmp 70) (.tmp 71) 23, 4, _, _, some (15, true)⟩) (v := .bool true) rfl (by kernel_rfl) (by kernel_rfl) (by kernel_rfl) (fun _ _ _ h => h) (Or.inl ⟨by rfl, fun _ _ => by go_simp⟩) HS.out ?_
          try simp only [Act.put, List.setIfInBounds_toArray, List.set_cons_succ, List.set_cons_zero]
          refine wpAnyH_take (i := 20) (oi := ⟨some 73, .pick (.tmp 68) (.tmp 72) (.const (.bool false)), 4, _, _, none⟩) (v := .bool true) rfl (by kernel_rfl) (by kernel_rfl) (by kernel_rfl) (fun _ _ _ h => h) (Or.inl ⟨by rfl, fun _ _ => by go_simp⟩) HS.out ?_
          try simp only [Act.put, List.setIfInBounds_toArray, List.set_cons_succ, List.set_cons_zero]
          refine wpAnyH_take (i := 21) (oi := ⟨some 74, .move (.tmp 73), 4, _, _, none⟩) (v := .bool true) rfl (by kernel_rfl) (by kernel_rfl) (by kernel_rfl) (fun _ _ _ h => h) (Or.inl ⟨by rfl, fun _ _ => by go_simp⟩) HS.out ?_
          try simp only [Act.put, List.setIfInBounds_toArray, List.set_cons_succ, List.set_cons_zero]
          refine wpAnyH_take (i := 22) (oi := ⟨some 75, .move (.tmp 0), 22, _, _, some (21, true)⟩) (v := .slice pa na ca) rfl (by kernel_rfl) (by kernel_rfl) (by kernel_rfl) (fun _ _ _ h => h) (Or.inl ⟨by rfl, fun _ _ => by go_simp⟩) HS.out ?_
          try simp only [Act.put, List.setIfInBounds_toArray, List.set_cons_succ, List.set_cons_zero]
          refine wpAnyH_take (i := 23) (oi := ⟨some 76, .fieldAddr 25 (.tmp 5) 0, _, _, _, some (21, true)⟩) (v := .pointer (some ⟨w.heap.size, 0, none⟩)) rfl (by kernel_rfl) (by kernel_rfl) (by kernel_rfl) (fun _ _ _ h => h) (Or.inl ⟨by rfl, fun _ _ => by go_simp⟩) HS.out ?_
          try simp only [Act.put, List.setIfInBounds_toArray, List.set_cons_succ, List.set_cons_zero]
          refine wpAnyH_take (i := 24) (oi := ⟨some 77, .load 23 (.tmp 76), 23, _, _, some (21, true)⟩) (v := .int .u64 (r.lo : Nat)) rfl (by kernel_rfl) (by kernel_rfl) (by kernel_rfl) (fun _ _ _ h => h) (Or.inl ⟨by rfl, fun vv hvv => yields_u64 (.tmp 76) rfl ⟨w.heap.size, 0, none⟩ rfl ((BG0.out.below hvv BG0.out.lt).cell 0 rfl)⟩) HS.out ?_
          try simp only [Act.put, List.setIfInBounds_toArray, List.set_cons_succ, List.set_cons_zero]
          refine wpAnyH_take (i := 26) (oi := ⟨some 79, .move (.tmp 0), 22, _, _, some (21, true)⟩) (v := .slice pa na ca) rfl (by kernel_rfl) (by kernel_rfl) (by kernel_rfl) (fun _ _ _ h => h) (Or.inl ⟨by rfl, fun _ _ => by go_simp⟩) HS.out ?_
          try simp only [Act.put, List.setIfInBounds_toArray, List.set_cons_succ, List.set_cons_zero]
          refine wpAnyH_take (i := 27) (oi := ⟨some 80, .fieldAddr 25 (.tmp 5) 0, _, _, _, some (21, true)⟩) (v := .pointer (some ⟨w.heap.size, 0, none⟩)) rfl (by kernel_rfl) (by kernel_rfl) (by kernel_rfl) (fun _ _ _ h => h) (Or.inl ⟨by rfl, fun _ _ => by go_simp⟩) HS.out ?_
          try simp only [Act.put, List.setIfInBounds_toArray, List.set_cons_succ, List.set_cons_zero]
          refine wpAnyH_take (i := 28) (oi := ⟨some 81, .load 23 (.tmp 80), 23, _, _, some (21, true)⟩) (v := .int .u64 (r.lo : Nat)) rfl (by kernel_rfl) (by kernel_rfl) (by kernel_rfl) (fun _ _ _ h => h) (Or.inl ⟨by rfl, fun vv hvv => yields_u64 (.tmp 80) rfl ⟨w.heap.size, 0, none⟩ rfl ((BG0.out.below hvv BG0.out.lt).cell 0 rfl)⟩) HS.out ?_
          try simp only [Act.put, List.setIfInBounds_toArray, List.set_cons_succ, List.set_cons_zero]
          refine wpAnyH_ready (rs := [25]) (by kernel_rfl) (by simp) ?_
          refine AllReadyH.cons (o := ⟨some 78, .call { callee := .value (.func 72), args := #[.tmp 75, .tmp 77], argTypes := #[22, 23] }, 4, _, _, some (21, true)⟩) rfl (fun K hK => ?_) AllReadyH.nil
          go_simp
          refine (has_x a r.lo pa na ca v3 HL.out Q2 HQ2.out).mono ?_
          rintro e v4 ⟨rfl, hb⟩
          have HL := Lib.hid (HL.out.on hb)
          have HX := Lib.hid (HX.out.on hb)
          have HY := Lib.hid (HY.out.on hb)
          have HBW := Lib.hid (HBW.out.trans (hb.mono HBW.out.size))
          have HS := Lib.hid (HS.out.trans (hb.mono HS.out.size))
          clear hb
          refine hK _ _ HS.out (fun _ => ?_)
          clear hK K
          try simp only [Act.put, List.setIfInBounds_toArray, List.set_cons_succ, List.set_cons_zero]
          refine wpAnyH_ready (rs := [29]) (by kernel_rfl) (by simp) ?_
          refine AllReadyH.cons (o := ⟨some 82, .call { callee := .value (.func 73), args := #[.tmp 79, .tmp 81], argTypes := #[22, 23] }, 4, _, _, some (21, true)⟩) rfl (fun K hK => ?_) AllReadyH.nil
          go_simp
          refine (rhas_walk a r.lo pa na ca v4 HL.out Q2 HQ2.out).mono ?_
          rintro e v5 ⟨rfl, hb⟩
          have HL := Lib.hid (HL.out.on hb)
          have HX := Lib.hid (HX.out.on hb)
          have HY := Lib.hid (HY.out.on hb)
          have HBW := Lib.hid (HBW.out.trans (hb.mono HBW.out.size))
          have HS := Lib.hid (HS.out.trans (hb.mono HS.out.size))
          clear hb
          refine hK _ _ HS.out (fun _ => ?_)
          clear hK K
          try simp only [Act.put, List.setIfInBounds_toArray, List.set_cons_succ, List.set_cons_zero]
          refine wpAnyH_take (i := 30) (oi := ⟨some 83, .binOp .eql 4 (.tmp 78) (.tmp 82) 4, 4, _, _, some (21, true)⟩) (v := .bool true) rfl (by kernel_rfl) (by kernel_rfl) (by kernel_rfl) (fun _ _ _ h => h) (Or.inl ⟨by rfl, fun _ _ => by go_simp⟩) HS.out ?_
          try simp only [Act.put, List.setIfInBounds_toArray, List.set_cons_succ, List.set_cons_zero]
          refine wpAnyH_take (i := 31) (oi := ⟨some 84, .pick (.tmp 74) (.tmp 83) (.const (.bool false)), 4, _, _, none⟩) (v := .bool true) rfl (by kernel_rfl) (by kernel_rfl) (by kernel_rfl) (fun _ _ _ h => h) (Or.inl ⟨by rfl, fun _ _ => by go_simp⟩) HS.out ?_
          try simp only [Act.put, List.setIfInBounds_toArray, List.set_cons_succ, List.set_cons_zero]
          refine wpAnyH_take (i := 32) (oi := ⟨some 85, .move (.tmp 84), 4, _, _, none⟩) (v := .bool true) rfl (by kernel_rfl) (by kernel_rfl) (by kernel_rfl) (fun _ _ _ h => h) (Or.inl ⟨by rfl, fun _ _ => by go_simp⟩) HS.out ?_
          try simp only [Act.put, List.setIfInBounds_toArray, List.set_cons_succ, List.set_cons_zero]
          refine wpAnyH_take (i := 33) (oi := ⟨some 86, .move (.tmp 0), 22, _, _, some (32, true)⟩) (v := .slice pa na ca) rfl (by kernel_rfl) (by kernel_rfl) (by kernel_rfl) (fun _ _ _ h => h) (Or.inl ⟨by rfl, fun _ _ => by go_simp⟩) HS.out ?_
          try simp only [Act.put, List.setIfInBounds_toArray, List.set_cons_succ, List.set_cons_zero]
          refine wpAnyH_take (i := 34) (oi := ⟨some 87, .fieldAddr 25 (.tmp 5) 1, _, _, _, some (32, true)⟩) (v := .pointer (some ⟨w.heap.size, 1, none⟩)) rfl (by kernel_rfl) (by kernel_rfl) (by kernel_rfl) (fun _ _ _ h => h) (Or.inl ⟨by rfl, fun _ _ => by go_simp⟩) HS.out ?_
          try simp only [Act.put, List.setIfInBounds_toArray, List.set_cons_succ, List.set_cons_zero]
          refine wpAnyH_take (i := 35) (oi := ⟨some 88, .load 23 (.tmp 87), 23, _, _, some (32, true)⟩) (v := .int .u64 (r.hi : Nat)) rfl (by kernel_rfl) (by kernel_rfl) (by kernel_rfl) (fun _ _ _ h => h) (Or.inl ⟨by rfl, fun vv hvv => yields_u64 (.tmp 87) rfl ⟨w.heap.size, 1, none⟩ rfl ((BG0.out.below hvv BG0.out.lt).cell 1 rfl)⟩) HS.out ?_
          try simp only [Act.put, List.setIfInBounds_toArray, List.set_cons_succ, List.set_cons_zero]
          refine wpAnyH_take (i := 37) (oi := ⟨some 90, .move (.tmp 0), 22, _, _, some (32, true)⟩) (v := .slice pa na ca) rfl (by kernel_rfl) (by kernel_rfl) (by kernel_rfl) (fun _ _ _ h => h) (Or.inl ⟨by rfl, fun _ _ => by go_simp⟩) HS.out ?_
          try simp only [Act.put, List.setIfInBounds_toArray, List.set_cons_succ, List.set_cons_zero]
          refine wpAnyH_take (i := 38) (oi := ⟨some 91, .fieldAddr 25 (.tmp 5) 1, _, _, _, some (32, true)⟩) (v := .pointer (some ⟨w.heap.size, 1, none⟩)) rfl (by kernel_rfl) (by kernel_rfl) (by kernel_rfl) (fun _ _ _ h => h) (Or.inl ⟨by rfl, fun _ _ => by go_simp⟩) HS.out ?_
          try simp only [Act.put, List.setIfInBounds_toArray, List.set_cons_succ, List.set_cons_zero]
          refine wpAnyH_take (i := 39) (oi := ⟨some 92, .load 23 (.tmp 91), 23, _, _, some (32, true)⟩) (v := .int .u64 (r.hi : Nat)) rfl (by kernel_rfl) (by kernel_rfl) (by kernel_rfl) (fun _ _ _ h => h) (Or.inl ⟨by rfl, fun vv hvv => yields_u64 (.tmp 91) rfl ⟨w.heap.size, 1, none⟩ rfl ((BG0.out.below hvv BG0.out.lt).cell 1 rfl)⟩) HS.out ?_
          try simp only [Act.put, List.setIfInBounds_toArray, List.set_cons_succ, List.set_cons_zero]
          refine wpAnyH_ready (rs := [36]) (by kernel_rfl) (by simp) ?_
          refine AllReadyH.cons (o := ⟨some 89, .call { callee := .value (.func 72), args := #[.tmp 86, .tmp 88], argTypes := #[22, 23] }, 4, _, _, some (32, true)⟩) rfl (fun K hK => ?_) AllReadyH.nil
          go_simp
          refine (has_x a r.hi pa na ca v5 HL.out Q3 HQ3.out).mono ?_
          rintro e v6 ⟨rfl, hb⟩
          have HL := Lib.hid (HL.out.on hb)
          have HX := Lib.hid (HX.out.on hb)
          have HY := Lib.hid (HY.out.on hb)
          have HBW := Lib.hid (HBW.out.trans (hb.mono HBW.out.size))
          have HS := Lib.hid (HS.out.trans (hb.mono HS.out.size))
          clear hb
          refine hK _ _ HS.out (fun _ => ?_)
          clear hK K
          try simp only [Act.put, List.setIfInBounds_toArray, List.set_cons_succ, List.set_cons_zero]
          refine wpAnyH_ready (rs := [40]) (by kernel_rfl) (by simp) ?_
          refine AllReadyH.cons (o := ⟨some 93, .call { callee := .value (.func 73), args := #[.tmp 90, .tmp 92], argTypes := #[22, 23] }, 4, _, _, some (32, true)⟩) rfl (fun K hK => ?_) AllReadyH.nil
          go_simp
          refine (rhas_walk a r.hi pa na ca v6 HL.out Q3 HQ3.out).mono ?_
          rintro e v7 ⟨rfl, hb⟩
          have HL := Lib.hid (HL.out.on hb)
          have HX := Lib.hid (HX.out.on hb)
          have HY := Lib.hid (HY.out.on hb)
          have HBW := Lib.hid (HBW.out.trans (hb.mono HBW.out.size))
          have HS := Lib.hid (HS.out.trans (hb.mono HS.out.size))
          clear hb
          refine hK _ _ HS.out (fun _ => ?_)
          clear hK K
          try simp only [Act.put, List.setIfInBounds_toArray, List.set_cons_succ, List.set_cons_zero]
          refine wpAnyH_take (i := 41) (oi := ⟨some 94, .binOp .eql 4 (.tmp 89) (.tmp 93) 4, 4, _, _, some (32, true)⟩) (v := .bool true) rfl (by kernel_rfl) (by kernel_rfl) (by kernel_rfl) (fun _ _ _ h => h) (Or.inl ⟨by rfl, fun _ _ => by go_simp⟩) HS.out ?_
          try simp only [Act.put, List.setIfInBounds_toArray, List.set_cons_succ, List.set_cons_zero]
          refine wpAnyH_take (i := 42) (oi := ⟨some 95, .pick (.tmp 85) (.tmp 94) (.const (.bool false)), 4, _, _, none⟩) (v := .bool true) rfl (by kernel_rfl) (by kernel_rfl) (by kernel_rfl) (fun _ _ _ h => h) (Or.inl ⟨by rfl, fun _ _ => by go_simp⟩) HS.out ?_
          try simp only [Act.put, List.setIfInBounds_toArray, List.set_cons_succ, List.set_cons_zero]
          refine wpAnyH_take (i := 43) (oi := ⟨some 6, .assign (.tmp 95), 4, _, _, none⟩) (v := .bool true) rfl (by kernel_rfl) (by kernel_rfl) (by kernel_rfl) (fun _ _ _ h => h) (Or.inl ⟨by rfl, fun _ _ => by go_simp⟩) HS.out ?_
          try simp only [Act.put, List.setIfInBounds_toArray, List.set_cons_succ, List.set_cons_zero]
          refine wpAnyH_done (by kernel_rfl) ?_ _
          go_wp2
          go_ret
          exact ⟨rfl, HBW.out⟩
        · have HO := Lib.hid ho
          clear ho
          obtain rfl : Q = false := Bool.eq_false_iff.2 fun q => HO.out (HQ.out.1 q).2.1
          go_wp2_with fail
          refine (rone_walk r _).mono ?_
          rintro e w6 ⟨he, hb6⟩
          rw [decide_eq_false HO.out] at he
          subst he
          have HB6 := Lib.hid (HB5.out.trans (hb6.mono HB5.out.size))
          have HL6 := Lib.hid (HL5.out.on hb6)
          have HX6 := Lib.hid (HX5.out.on hb6)
          have HY6 := Lib.hid (HY5.out.on hb6)
          have BG6 := Lib.hid (BG5.out.on hb6)
          clear hb6 b0 b1 HL5 HX5 HY5 BG5 HB5
          have b0 := BG6.out.cell 0 rfl
          have b1 := BG6.out.cell 1 rfl
          go_wp2_with fail
          refine (may_walkR a pa na ca _ HL6.out true ⟨fun _ => HMA.out, fun _ => rfl⟩).mono ?_
          rintro e w7 ⟨rfl, hb7⟩
          have HB7 := Lib.hid (HB6.out.trans (hb7.mono HB6.out.size))
          have HL7 := Lib.hid (HL6.out.on hb7)
          have HX7 := Lib.hid (HX6.out.on hb7)
          have HY7 := Lib.hid (HY6.out.on hb7)
          have BG7 := Lib.hid (BG6.out.on hb7)
          clear hb7 b0 b1
          go_wp2_with fail
          refine (rcount_walk a pa na ca _ HL7.out HMA.out).mono ?_
          rintro e W ⟨rfl, hb8⟩
          rw [show count a = ct from HCM.out HMA.out]
          have HBW := Lib.hid (HB7.out.trans (hb8.mono HB7.out.size))
          have HL := Lib.hid (HL7.out.on hb8)
          have HX := Lib.hid (HX7.out.on hb8)
          have HY := Lib.hid (HY7.out.on hb8)
          have BG0 := Lib.hid (BG7.out.on hb8)
          clear hb8 HL7 HX7 HY7 BG7 HB7
          go_wp2_with fail
          refine wp_region_held_drew (S := fun w' => Below W.heap.size W w') (by kernel_rfl) (Below.refl _ _).drew (fun _ => ?_)
          have HS := Lib.hid ((Below.refl W.heap.size W).drew)
          have HL := Lib.hid (HL.out.on (HS.out))
          have HX := Lib.hid (HX.out.on (HS.out))
          have HY := Lib.hid (HY.out.on (HS.out))
          have HBW := Lib.hid (HBW.out.trans ((HS.out).mono HBW.out.size))
          generalize World.drew W = v0 at *
          try simp only [Act.put, List.setIfInBounds_toArray, List.set_cons_succ, List.set_cons_zero]
          refine wpAnyH_take (i := 0) (oi := ⟨some 53, .move (.tmp 7), 22, _, _, none⟩) (v := .slice px nx cx) rfl (by kernel_rfl) (by kernel_rfl) (by kernel_rfl) (fun _ _ _ h => h) (Or.inl ⟨by rfl, fun _ _ => by go_simp⟩) HS.out ?_
          try simp only [Act.put, List.setIfInBounds_toArray, List.set_cons_succ, List.set_cons_zero]
          refine wpAnyH_take (i := 1) (oi := ⟨some 54, .move (.tmp 9), 22, _, _, none⟩) (v := .slice py nx cy) rfl (by kernel_rfl) (by kernel_rfl) (by kernel_rfl) (fun _ _ _ h => h) (Or.inl ⟨by rfl, fun _ _ => by go_simp⟩) HS.out ?_
          try simp only [Act.put, List.setIfInBounds_toArray, List.set_cons_succ, List.set_cons_zero]
          refine wpAnyH_ready (rs := [2]) (by kernel_rfl) (by simp) ?_
          refine AllReadyH.cons (o := ⟨some 55, .call { callee := .value (.func 57), args := #[.tmp 53, .tmp 54], argTypes := #[22, 22] }, 4, _, _, none⟩) rfl (fun K hK => ?_) AllReadyH.nil
          go_simp
          refine (same_walk (meetR a b).1 (meetR a b).1 _ _ _ _ _ _ v0 HX.out.len HY.out.len HNX.out HX.out.rd HY.out.rd).mono ?_
          rintro e v1 ⟨he, hb⟩
          rw [decide_eq_true rfl] at he
          subst he
          have HL := Lib.hid (HL.out.on hb)
          have HX := Lib.hid (HX.out.on hb)
          have HY := Lib.hid (HY.out.on hb)
          have HBW := Lib.hid (HBW.out.trans (hb.mono HBW.out.size))
          have HS := Lib.hid (HS.out.trans (hb.mono HS.out.size))
          clear hb
          refine hK _ _ HS.out (fun _ => ?_)
          clear hK K
          try simp only [Act.put, List.setIfInBounds_toArray, List.set_cons_succ, List.set_cons_zero]
          refine wpAnyH_take (i := 3) (oi := ⟨some 56, .move (.tmp 55), 4, _, _, none⟩) (v := .bool true) rfl (by kernel_rfl) (by kernel_rfl) (by kernel_rfl) (fun _ _ _ h => h) (Or.inl ⟨by rfl, fun _ _ => by go_simp⟩) HS.out ?_
          try simp only [Act.put, List.setIfInBounds_toArray, List.set_cons_succ, List.set_cons_zero]
          refine wpAnyH_take (i := 4) (oi := ⟨some 57, .move (.tmp 8), 30, _, _, some (3, true)⟩) (v := .int .i64 z) rfl (by kernel_rfl) (by kernel_rfl) (by kernel_rfl) (fun _ _ _ h => h) (Or.inl ⟨by rfl, fun _ _ => by go_simp⟩) HS.out ?_
          try simp only [Act.put, List.setIfInBounds_toArray, List.set_cons_succ, List.set_cons_zero]
          refine wpAnyH_take (i := 5) (oi := ⟨some 58, .move (.tmp 10), 30, _, _, some (3, true)⟩) (v := .int .i64 z) rfl (by kernel_rfl) (by kernel_rfl) (by kernel_rfl) (fun _ _ _ h => h) (Or.inl ⟨by rfl, fun _ _ => by go_simp⟩) HS.out ?_
          try simp only [Act.put, List.setIfInBounds_toArray, List.set_cons_succ, List.set_cons_zero]
          refine wpAnyH_take (i := 6) (oi := ⟨some 59, .binOp .eql 30 (.tmp 57) (.tmp 58) 30, 4, _, _, some (3, true)⟩) (v := .bool true) rfl (by kernel_rfl) (by kernel_rfl) (by kernel_rfl) (fun _ _ _ h => h) (Or.inl ⟨by rfl, fun _ _ => by go_simp⟩) HS.out ?_
          try simp only [Act.put, List.setIfInBounds_toArray, List.set_cons_succ, List.set_cons_zero]
          refine wpAnyH_take (i := 7) (oi := ⟨some 60, .pick (.tmp 56) (.tmp 59) (.const (.bool false)), 4, _, _, none⟩) (v := .bool true) rfl (by kernel_rfl) (by kernel_rfl) (by kernel_rfl) (fun _ _ _ h => h) (Or.inl ⟨by rfl, fun _ _ => by go_simp⟩) HS.out ?_
          try simp only [Act.put, List.setIfInBounds_toArray, List.set_cons_succ, List.set_cons_zero]
          refine wpAnyH_take (i := 8) (oi := ⟨some 61, .move (.tmp 60), 4, _, _, none⟩) (v := .bool true) rfl (by kernel_rfl) (by kernel_rfl) (by kernel_rfl) (fun _ _ _ h => h) (Or.inl ⟨by rfl, fun _ _ => by go_simp⟩) HS.out ?_
          try simp only [Act.put, List.setIfInBounds_toArray, List.set_cons_succ, List.set_cons_zero]
          refine wpAnyH_take (i := 9) (oi := ⟨some 62, .move (.tmp 0), 22, _, _, some (8, true)⟩) (v := .slice pa na ca) rfl (by kernel_rfl) (by kernel_rfl) (by kernel_rfl) (fun _ _ _ h => h) (Or.inl ⟨by rfl, fun _ _ => by go_simp⟩) HS.out ?_
          try simp only [Act.put, List.setIfInBounds_toArray, List.set_cons_succ, List.set_cons_zero]
          refine wpAnyH_take (i := 10) (oi := ⟨some 63, .load 25 (.tmp 5), 25, _, _, some (8, true)⟩) (v := .agg #[.int .u64 (r.lo : Nat), .int .u64 (r.hi : Nat)]) rfl (by kernel_rfl) (by kernel_rfl) (by kernel_rfl) (fun _ _ _ h => h) (Or.inl ⟨by rfl, fun vv hvv => yields_agg 25 (.tmp 5) rfl w.heap.size rfl (BG0.out.below hvv BG0.out.lt) _ Try.underlying25 rfl size_rg⟩) HS.out ?_
          try simp only [Act.put, List.setIfInBounds_toArray, List.set_cons_succ, List.set_cons_zero]
          refine wpAnyH_take (i := 12) (oi := ⟨some 65, .move (.tmp 11), 4, _, _, some (8, true)⟩) (v := .bool false) rfl (by kernel_rfl) (by kernel_rfl) (by kernel_rfl) (fun _ _ _ h => h) (Or.inl ⟨by rfl, fun _ _ => by go_simp⟩) HS.out ?_
          try simp only [Act.put, List.setIfInBounds_toArray, List.set_cons_succ, List.set_cons_zero]
          refine wpAnyH_ready (rs := [11]) (by kernel_rfl) (by simp) ?_
          refine AllReadyH.cons (o := ⟨some 64, .call { callee := .value (.func 23), args := #[.tmp 62, .tmp 63], argTypes := #[22, 25] }, 4, _, _, some (8, true)⟩) rfl (fun K hK => ?_) AllReadyH.nil
          go_simp
          refine (covers_x a r pa na ca v1 HL.out false HQ.out).mono ?_
          rintro e v2 ⟨rfl, hb⟩
          have HL := Lib.hid (HL.out.on hb)
          have HX := Lib.hid (HX.out.on hb)
          have HY := Lib.hid (HY.out.on hb)
          have HBW := Lib.hid (HBW.out.trans (hb.mono HBW.out.size))
          have HS := Lib.hid (HS.out.trans (hb.mono HS.out.size))
          clear hb
          refine hK _ _ HS.out (fun _ => ?_)
          clear hK K
          try simp only [Act.put, List.setIfInBounds_toArray, List.set_cons_succ, List.set_cons_zero]
          refine wpAnyH_take (i := 13) (oi := ⟨some 66, .binOp .eql 4 (.tmp 64) (.tmp 65) 4, 4, _, _, some (8, true)⟩) (v := .bool true) rfl (by kernel_rfl) (by kernel_rfl) (by kernel_rfl) (fun _ _ _ h => h) (Or.inl ⟨by rfl, fun _ _ => by go_simp⟩) HS.out ?_
          try simp only [Act.put, List.setIfInBounds_toArray, List.set_cons_succ, List.set_cons_zero]
          refine wpAnyH_take (i := 14) (oi := ⟨some 67, .pick (.tmp 61) (.tmp 66) (.const (.bool false)), 4, _, _, none⟩) (v := .bool true) rfl (by kernel_rfl) (by kernel_rfl) (by kernel_rfl) (fun _ _ _ h => h) (Or.inl ⟨by rfl, fun _ _ => by go_simp⟩) HS.out ?_
          try simp only [Act.put, List.setIfInBounds_toArray, List.set_cons_succ, List.set_cons_zero]
          refine wpAnyH_take (i := 15) (oi := ⟨some 68, .move (.tmp 67), 4, _, _, none⟩) (v := .bool true) rfl (by kernel_rfl) (by kernel_rfl) (by kernel_rfl) (fun _ _ _ h => h) (Or.inl ⟨by rfl, fun _ _ => by go_simp⟩) HS.out ?_
          try simp only [Act.put, List.setIfInBounds_toArray, List.set_cons_succ, List.set_cons_zero]
          refine wpAnyH_take (i := 16) (oi := ⟨some 69, .move (.tmp 0), 22, _, _, some (15, true)⟩) (v := .slice pa na ca) rfl (by kernel_rfl) (by kernel_rfl) (by kernel_rfl) (fun _ _ _ h => h) (Or.inl ⟨by rfl, fun _ _ => by go_simp⟩) HS.out ?_
          try simp only [Act.put, List.setIfInBounds_toArray, List.set_cons_succ, List.set_cons_zero]
          refine wpAnyH_take (i := 18) (oi := ⟨some 71, .move (.tmp 12), 23, _, _, some (15, true)⟩) (v := .int .u64 (ct : Nat)) rfl (by kernel_rfl) (by kernel_rfl) (by kernel_rfl) (fun _ _ _ h => h) (Or.inl ⟨by rfl, fun _ _ => by go_simp⟩) HS.out ?_
          try simp only [Act.put, List.setIfInBounds_toArray, List.set_cons_succ, List.set_cons_zero]
          refine wpAnyH_ready (rs := [17]) (by kernel_rfl) (by simp) ?_
          refine AllReadyH.cons (o := ⟨some 70, .call { callee := .value (.func 19), args := #[.tmp 69], argTypes := #[22] }, 23, _, _, some (15, true)⟩) rfl (fun K hK => ?_) AllReadyH.nil
          go_simp
          refine (count_walk a pa na ca v2 HL.out).mono ?_
          rintro e v3 ⟨rfl, hb⟩
          rw [HCT.out]
          have HL := Lib.hid (HL.out.on hb)
          have HX := Lib.hid (HX.out.on hb)
          have HY := Lib.hid (HY.out.on hb)
          have HBW := Lib.hid (HBW.out.trans (hb.mono HBW.out.size))
          have HS := Lib.hid (HS.out.trans (hb.mono HS.out.size))
          clear hb
          refine hK _ _ HS.out (fun _ => ?_)
          clear hK K
          try simp only [Act.put, List.setIfInBounds_toArray, List.set_cons_succ, List.set_cons_zero]
          refine wpAnyH_take (i := 19) (oi := ⟨some 72, .binOp .eql 23 (.tmp 70) (.tmp 71) 23, 4, _, _, some (15, true)⟩) (v := .bool true) rfl (by kernel_rfl) (by kernel_rfl) (by kernel_rfl) (fun _ _ _ h => h) (Or.inl ⟨by rfl, fun _ _ => by go_simp⟩) HS.out ?_
          try simp only [Act.put, List.setIfInBounds_toArray, List.set_cons_succ, List.set_cons_zero]
          refine wpAnyH_take (i := 20) (oi := ⟨some 73, .pick (.tmp 68) (.tmp 72) (.const (.bool false)), 4, _, _, none⟩) (v := .bool true) rfl (by kernel_rfl) (by kernel_rfl) (by kernel_rfl) (fun _ _ _ h => h) (Or.inl ⟨by rfl, fun _ _ => by go_simp⟩) HS.out ?_
          try simp only [Act.put, List.setIfInBounds_toArray, List.set_cons_succ, List.set_cons_zero]
          refine wpAnyH_take (i := 21) (oi := ⟨some 74, .move (.tmp 73), 4, _, _, none⟩) (v := .bool true) rfl (by kernel_rfl) (by kernel_rfl) (by kernel_rfl) (fun _ _ _ h => h) (Or.inl ⟨by rfl, fun _ _ => by go_simp⟩) HS.out ?_
          try simp only [Act.put, List.setIfInBounds_toArray, List.set_cons_succ, List.set_cons_zero]
          refine wpAnyH_take (i := 22) (oi := ⟨some 75, .move (.tmp 0), 22, _, _, some (21, true)⟩) (v := .slice pa na ca) rfl (by kernel_rfl) (by kernel_rfl) (by kernel_rfl) (fun _ _ _ h => h) (Or.inl ⟨by rfl, fun _ _ => by go_simp⟩) HS.out ?_
          try simp only [Act.put, List.setIfInBounds_toArray, List.set_cons_succ, List.set_cons_zero]
          refine wpAnyH_take (i := 23) (oi := ⟨some 76, .fieldAddr 25 (.tmp 5) 0, _, _, _, some (21, true)⟩) (v := .pointer (some ⟨w.heap.size, 0, none⟩)) rfl (by kernel_rfl) (by kernel_rfl) (by kernel_rfl) (fun _ _ _ h => h) (Or.inl ⟨by rfl, fun _ _ => by go_simp⟩) HS.out ?_
          try simp only [Act.put, List.setIfInBounds_toArray, List.set_cons_succ, List.set_cons_zero]
          refine wpAnyH_take (i := 24) (oi := ⟨some 77, .load 23 (.tmp 76), 23, _, _, some (21, true)⟩) (v := .int .u64 (r.lo : Nat)) rfl (by kernel_rfl) (by kernel_rfl) (by kernel_rfl) (fun _ _ _ h => h) (Or.inl ⟨by rfl, fun vv hvv => yields_u64 (.tmp 76) rfl ⟨w.heap.size, 0, none⟩ rfl ((BG0.out.below hvv BG0.out.lt).cell 0 rfl)⟩) HS.out ?_
          try simp only [Act.put, List.setIfInBounds_toArray, List.set_cons_succ, List.set_cons_zero]
          refine wpAnyH_take (i := 26) (oi := ⟨some 79, .move (.tmp 0), 22, _, _, some (21, true)⟩) (v := .slice pa na ca) rfl (by kernel_rfl) (by kernel_rfl) (by kernel_rfl) (fun _ _ _ h => h) (Or.inl ⟨by rfl, fun _ _ => by go_simp⟩) HS.out ?_
          try simp only [Act.put, List.setIfInBounds_toArray, List.set_cons_succ, List.set_cons_zero]
          refine wpAnyH_take (i := 27) (oi := ⟨some 80, .fieldAddr 25 (.tmp 5) 0, _, _, _, some (21, true)⟩) (v := .pointer (some ⟨w.heap.size, 0, none⟩)) rfl (by kernel_rfl) (by kernel_rfl) (by kernel_rfl) (fun _ _ _ h => h) (Or.inl ⟨by rfl, fun _ _ => by go_simp⟩) HS.out ?_
          try simp only [Act.put, List.setIfInBounds_toArray, List.set_cons_succ, List.set_cons_zero]
          refine wpAnyH_take (i := 28) (oi := ⟨some 81, .load 23 (.tmp 80), 23, _, _, some (21, true)⟩) (v := .int .u64 (r.lo : Nat)) rfl (by kernel_rfl) (by kernel_rfl) (by kernel_rfl) (fun _ _ _ h => h) (Or.inl ⟨by rfl, fun vv hvv => yields_u64 (.tmp 80) rfl ⟨w.heap.size, 0, none⟩ rfl ((BG0.out.below hvv BG0.out.lt).cell 0 rfl)⟩) HS.out ?_
          try simp only [Act.put, List.setIfInBounds_toArray, List.set_cons_succ, List.set_cons_zero]
          refine wpAnyH_ready (rs := [25]) (by kernel_rfl) (by simp) ?_
          refine AllReadyH.cons (o := ⟨some 78, .call { callee := .value (.func 72), args := #[.tmp 75, .tmp 77], argTypes := #[22, 23] }, 4, _, _, some (21, true)⟩) rfl (fun K hK => ?_) AllReadyH.nil
          go_simp
          refine (has_x a r.lo pa na ca v3 HL.out Q2 HQ2.out).mono ?_
          rintro e v4 ⟨rfl, hb⟩
          have HL := Lib.hid (HL.out.on hb)
          have HX := Lib.hid (HX.out.on hb)
          have HY := Lib.hid (HY.out.on hb)
          have HBW := Lib.hid (HBW.out.trans (hb.mono HBW.out.size))
          have HS := Lib.hid (HS.out.trans (hb.mono HS.out.size))
          clear hb
          refine hK _ _ HS.out (fun _ => ?_)
          clear hK K
          try simp only [Act.put, List.setIfInBounds_toArray, List.set_cons_succ, List.set_cons_zero]
          refine wpAnyH_ready (rs := [29]) (by kernel_rfl) (by simp) ?_
          refine AllReadyH.cons (o := ⟨some 82, .call { callee := .value (.func 73), args := #[.tmp 79, .tmp 81], argTypes := #[22, 23] }, 4, _, _, some (21, true)⟩) rfl (fun K hK => ?_) AllReadyH.nil
          go_simp
          refine (rhas_walk a r.lo pa na ca v4 HL.out Q2 HQ2.out).mono ?_
          rintro e v5 ⟨rfl, hb⟩
          have HL := Lib.hid (HL.out.on hb)
          have HX := Lib.hid (HX.out.on hb)
          have HY := Lib.hid (HY.out.on hb)
          have HBW := Lib.hid (HBW.out.trans (hb.mono HBW.out.size))
          have HS := Lib.hid (HS.out.trans (hb.mono HS.out.size))
          clear hb
          refine hK _ _ HS.out (fun _ => ?_)
          clear hK K
          try simp only [Act.put, List.setIfInBounds_toArray, List.set_cons_succ, List.set_cons_zero]
          refine wpAnyH_take (i := 30) (oi := ⟨some 83, .binOp .eql 4 (.tmp 78) (.tmp 82) 4, 4, _, _, some (21, true)⟩) (v := .bool true) rfl (by kernel_rfl) (by kernel_rfl) (by kernel_rfl) (fun _ _ _ h => h) (Or.inl ⟨by rfl, fun _ _ => by go_simp⟩) HS.out ?_
          try simp only [Act.put, List.setIfInBounds_toArray, List.set_cons_succ, List.set_cons_zero]
          refine wpAnyH_take (i := 31) (oi := ⟨some 84, .pick (.tmp 74) (.tmp 83) (.const (.bool false)), 4, _, _, none⟩) (v := .bool true) rfl (by kernel_rfl) (by kernel_rfl) (by kernel_rfl) (fun _ _ _ h => h) (Or.inl ⟨by rfl, fun _ _ => by go_simp⟩) HS.out ?_
          try simp only [Act.put, List.setIfInBounds_toArray, List.set_cons_succ, List.set_cons_zero]
          refine wpAnyH_take (i := 32) (oi := ⟨some 85, .move (.tmp 84), 4, _, _, none⟩) (v := .bool true) rfl (by kernel_rfl) (by kernel_rfl) (by kernel_rfl) (fun _ _ _ h => h) (Or.inl ⟨by rfl, fun _ _ => by go_simp⟩) HS.out ?_
          try simp only [Act.put, List.setIfInBounds_toArray, List.set_cons_succ, List.set_cons_zero]
          refine wpAnyH_take (i := 33) (oi := ⟨some 86, .move (.tmp 0), 22, _, _, some (32, true)⟩) (v := .slice pa na ca) rfl (by kernel_rfl) (by kernel_rfl) (by kernel_rfl) (fun _ _ _ h => h) (Or.inl ⟨by rfl, fun _ _ => by go_simp⟩) HS.out ?_
          try simp only [Act.put, List.setIfInBounds_toArray, List.set_cons_succ, List.set_cons_zero]
          refine wpAnyH_take (i := 34) (oi := ⟨some 87, .fieldAddr 25 (.tmp 5) 1, _, _, _, some (32, true)⟩) (v := .pointer (some ⟨w.heap.size, 1, none⟩)) rfl (by kernel_rfl) (by kernel_rfl) (by kernel_rfl) (fun _ _ _ h => h) (Or.inl ⟨by rfl, fun _ _ => by go_simp⟩) HS.out ?_
          try simp only [Act.put, List.setIfInBounds_toArray, List.set_cons_succ, List.set_cons_zero]
          refine wpAnyH_take (i := 35) (oi := ⟨some 88, .load 23 (.tmp 87), 23, _, _, some (32, true)⟩) (v := .int .u64 (r.hi : Nat)) rfl (by kernel_rfl) (by kernel_rfl) (by kernel_rfl) (fun _ _ _ h => h) (Or.inl ⟨by rfl, fun vv hvv => yields_u64 (.tmp 87) rfl ⟨w.heap.size, 1, none⟩ rfl ((BG0.out.below hvv BG0.out.lt).cell 1 rfl)⟩) HS.out ?_
          try simp only [Act.put, List.setIfInBounds_toArray, List.set_cons_succ, List.set_cons_zero]
          refine wpAnyH_take (i := 37) (oi := ⟨some 90, .move (.tmp 0), 22, _, _, some (32, true)⟩) (v := .slice pa na ca) rfl (by kernel_rfl) (by kernel_rfl) (by kernel_rfl) (fun _ _ _ h => h) (Or.inl ⟨by rfl, fun _ _ => by go_simp⟩) HS.out ?_
          try simp only [Act.put, List.setIfInBounds_toArray, List.set_cons_succ, List.set_cons_zero]
          refine wpAnyH_take (i := 38) (oi := ⟨some 91, .fieldAddr 25 (.tmp 5) 1, _, _, _, some (32, true)⟩) (v := .pointer (some ⟨w.heap.size, 1, none⟩)) rfl (by kernel_rfl) (by kernel_rfl) (by kernel_rfl) (fun _ _ _ h => h) (Or.inl ⟨by rfl, fun _ _ => by go_simp⟩) HS.out ?_
          try simp only [Act.put, List.setIfInBounds_toArray, List.set_cons_succ, List.set_cons_zero]
          refine wpAnyH_take (i := 39) (oi := ⟨some 92, .load 23 (.tmp 91), 23, _, _, some (32, true)⟩) (v := .int .u64 (r.hi : Nat)) rfl (by kernel_rfl) (by kernel_rfl) (by kernel_rfl) (fun _ _ _ h => h) (Or.inl ⟨by rfl, fun vv hvv => yields_u64 (.tmp 91) rfl ⟨w.heap.size, 1, none⟩ rfl ((BG0.out.below hvv BG0.out.lt).cell 1 rfl)⟩) HS.out ?_
          try simp only [Act.put, List.setIfInBounds_toArray, List.set_cons_succ, List.set_cons_zero]
          refine wpAnyH_ready (rs := [36]) (by kernel_rfl) (by simp) ?_
          refine AllReadyH.cons (o := ⟨some 89, .call { callee := .value (.func 72), args := #[.tmp 86, .tmp 88], argTypes := #[22, 23] }, 4, _, _, some (32, true)⟩) rfl (fun K hK => ?_) AllReadyH.nil
          go_simp
          refine (has_x a r.hi pa na ca v5 HL.out Q3 HQ3.out).mono ?_
          rintro e v6 ⟨rfl, hb⟩
          have HL := Lib.hid (HL.out.on hb)
          have HX := Lib.hid (HX.out.on hb)
          have HY := Lib.hid (HY.out.on hb)
          have HBW := Lib.hid (HBW.out.trans (hb.mono HBW.out.size))
          have HS := Lib.hid (HS.out.trans (hb.mono HS.out.size))
          clear hb
          refine hK _ _ HS.out (fun _ => ?_)
          clear hK K
          try simp only [Act.put, List.setIfInBounds_toArray, List.set_cons_succ, List.set_cons_zero]
          refine wpAnyH_ready (rs := [40]) (by kernel_rfl) (by simp) ?_
          refine AllReadyH.cons (o := ⟨some 93, .call { callee := .value (.func 73), args := #[.tmp 90, .tmp 92], argTypes := #[22, 23] }, 4, _, _, some (32, true)⟩) rfl (fun K hK => ?_) AllReadyH.nil
          go_simp
          refine (rhas_walk a r.hi pa na ca v6 HL.out Q3 HQ3.out).mono ?_
          rintro e v7 ⟨rfl, hb⟩
          have HL := Lib.hid (HL.out.on hb)
          have HX := Lib.hid (HX.out.on hb)
          have HY := Lib.hid (HY.out.on hb)
          have HBW := Lib.hid (HBW.out.trans (hb.mono HBW.out.size))
          have HS := Lib.hid (HS.out.trans (hb.mono HS.out.size))
          clear hb
          refine hK _ _ HS.out (fun _ => ?_)
          clear hK K
          try simp only [Act.put, List.setIfInBounds_toArray, List.set_cons_succ, List.set_cons_zero]
          refine wpAnyH_take (i := 41) (oi := ⟨some 94, .binOp .eql 4 (.tmp 89) (.tmp 93) 4, 4, _, _, some (32, true)⟩) (v := .bool true) rfl (by kernel_rfl) (by kernel_rfl) (by kernel_rfl) (fun _ _ _ h => h) (Or.inl ⟨by rfl, fun _ _ => by go_simp⟩) HS.out ?_
          try simp only [Act.put, List.setIfInBounds_toArray, List.set_cons_succ, List.set_cons_zero]
          refine wpAnyH_take (i := 42) (oi := ⟨some 95, .pick (.tmp 85) (.tmp 94) (.const (.bool false)), 4, _, _, none⟩) (v := .bool true) rfl (by kernel_rfl) (by kernel_rfl) (by kernel_rfl) (fun _ _ _ h => h) (Or.inl ⟨by rfl, fun _ _ => by go_simp⟩) HS.out ?_
          try simp only [Act.put, List.setIfInBounds_toArray, List.set_cons_succ, List.set_cons_zero]
          refine wpAnyH_take (i := 43) (oi := ⟨some 6, .assign (.tmp 95), 4, _, _, none⟩) (v := .bool true) rfl (by kernel_rfl) (by kernel_rfl) (by kernel_rfl) (fun _ _ _ h => h) (Or.inl ⟨by rfl, fun _ _ => by go_simp⟩) HS.out ?_
          try simp only [Act.put, List.setIfInBounds_toArray, List.set_cons_succ, List.set_cons_zero]
          refine wpAnyH_done (by kernel_rfl) ?_ _
          go_wp2
          go_ret
          exact ⟨rfl, HBW.out⟩
    · rw [decide_eq_false hf] at he
      subst he
      go_wp2_with fail
      refine (live19_walk _).mono ?_
      rintro e w9 ⟨rfl, hb9⟩
      have HB9 := Lib.hid (HB2.out.trans (hb9.mono HB2.out.size))
      clear hb9
      go_wp2
      go_ret
      exact ⟨rfl, HB9.out⟩
  · rw [decide_eq_false hf] at he
    subst he
    go_wp2_with fail
    refine (live19_walk _).mono ?_
    rintro e w9 ⟨rfl, hb9⟩
    have HB9 := Lib.hid (HB2.out.trans (hb9.mono HB2.out.size))
    clear hb9
    go_wp2
    go_ret
    exact ⟨rfl, HB9.out⟩
end Go.Proofs.Ytajjbffppkpjpaa
