import Derived.Test.YtgbahfggnbpnmaaDoorLawDrbgFull
/-
  The walk of liverylaw05.DrbgParts.
-/
namespace Go.Proofs.YtgbahfggnbpnmaaDoor
open Go.RowKit
theorem slice_h' {w : World} {a : Option Addr} {n c k : Nat} {l : List UInt8} (h : Txt w a n c l) (h1 : k ≤ n) (W : World) :
    (Instr.sliceAt 28 (.slice a n c) none (some (.int .i64 k)) none).run Tryd.prog W = .ok (.slice a k c) W := by
  have hf := h.fit
  rw [run_sliceAt_slice (h := under_u8s), run_slice_h (ht := under_u8s) (h0 := by omega) (h2 := by omega), elem_u8s, size_one]
  cases a with
  | none => simp [Result.andThen, sliced]
  | some a => simp [Result.andThen, sliced, Addr.add]
set_option maxRecDepth 100000 in
set_option maxHeartbeats 2000000 in
theorem drbgparts_walk (ent l : List UInt8) (a b : Option Addr) (n c m d : Nat) (z y : Int) (w : World) (hE : Txt w a n c ent) (hL : Txt w b m d l) (hT : Two w) :
    Calls Tryd.prog 19 #[.slice a n c, .slice b m d, .int .i64 z, .int .i64 y] w fun e w' => e = .returned (.bool true) ∧ Below w.heap.size w w' := by
  have HE := Lib.hid hE
  have HL := Lib.hid hL
  have HT := Lib.hid hT
  have HNL := Lib.hid hE.len
  have HML := Lib.hid hL.len
  clear hE hL hT
  by_cases q1 : (n : Int) < 32
  · go_enter Tryd.func19, Tryd.ntmps19
    go_wp2_with fail
    refine (live5_walk w HT.out).mono ?_
    rintro e w1 ⟨rfl, hb1⟩
    have HB1 := Lib.hid hb1
    clear hb1
    go_wp2_with fail
    refine (live5_walk w1 (HT.out.on HB1.out)).mono ?_
    rintro e w2 ⟨rfl, hb2⟩
    have HB2 := Lib.hid (HB1.out.trans (hb2.mono HB1.out.size))
    clear hb2
    go_wp2
    go_ret
    exact ⟨rfl, HB2.out⟩
  by_cases q2 : (500 : Int) < (n : Int)
  · go_enter Tryd.func19, Tryd.ntmps19
    go_wp2_with fail
    refine (live5_walk w HT.out).mono ?_
    rintro e w1 ⟨rfl, hb1⟩
    have HB1 := Lib.hid hb1
    clear hb1
    go_wp2_with fail
    refine (live5_walk w1 (HT.out.on HB1.out)).mono ?_
    rintro e w2 ⟨rfl, hb2⟩
    have HB2 := Lib.hid (HB1.out.trans (hb2.mono HB1.out.size))
    clear hb2
    go_wp2
    go_ret
    exact ⟨rfl, HB2.out⟩
  by_cases q3 : (500 : Int) < (m : Int)
  · go_enter Tryd.func19, Tryd.ntmps19
    go_wp2_with fail
    refine (live5_walk w HT.out).mono ?_
    rintro e w1 ⟨rfl, hb1⟩
    have HB1 := Lib.hid hb1
    clear hb1
    go_wp2_with fail
    refine (live5_walk w1 (HT.out.on HB1.out)).mono ?_
    rintro e w2 ⟨rfl, hb2⟩
    have HB2 := Lib.hid (HB1.out.trans (hb2.mono HB1.out.size))
    clear hb2
    go_wp2
    go_ret
    exact ⟨rfl, HB2.out⟩
  by_cases q4 : z < 0
  · go_enter Tryd.func19, Tryd.ntmps19
    go_wp2_with fail
    refine (live5_walk w HT.out).mono ?_
    rintro e w1 ⟨rfl, hb1⟩
    have HB1 := Lib.hid hb1
    clear hb1
    go_wp2_with fail
    refine (live5_walk w1 (HT.out.on HB1.out)).mono ?_
    rintro e w2 ⟨rfl, hb2⟩
    have HB2 := Lib.hid (HB1.out.trans (hb2.mono HB1.out.size))
    clear hb2
    go_wp2
    go_ret
    exact ⟨rfl, HB2.out⟩
  by_cases q5 : (m : Int) < z
  · go_enter Tryd.func19, Tryd.ntmps19
    go_wp2_with fail
    refine (live5_walk w HT.out).mono ?_
    rintro e w1 ⟨rfl, hb1⟩
    have HB1 := Lib.hid hb1
    clear hb1
    go_wp2_with fail
    refine (live5_walk w1 (HT.out.on HB1.out)).mono ?_
    rintro e w2 ⟨rfl, hb2⟩
    have HB2 := Lib.hid (HB1.out.trans (hb2.mono HB1.out.size))
    clear hb2
    go_wp2
    go_ret
    exact ⟨rfl, HB2.out⟩
  by_cases q6 : y < 0
  · go_enter Tryd.func19, Tryd.ntmps19
    go_wp2_with fail
    refine (live5_walk w HT.out).mono ?_
    rintro e w1 ⟨rfl, hb1⟩
    have HB1 := Lib.hid hb1
    clear hb1
    go_wp2_with fail
    refine (live5_walk w1 (HT.out.on HB1.out)).mono ?_
    rintro e w2 ⟨rfl, hb2⟩
    have HB2 := Lib.hid (HB1.out.trans (hb2.mono HB1.out.size))
    clear hb2
    go_wp2
    go_ret
    exact ⟨rfl, HB2.out⟩
  by_cases q7 : 600 < y
  · go_enter Tryd.func19, Tryd.ntmps19
    go_wp2_with fail
    refine (live5_walk w HT.out).mono ?_
    rintro e w1 ⟨rfl, hb1⟩
    have HB1 := Lib.hid hb1
    clear hb1
    go_wp2_with fail
    refine (live5_walk w1 (HT.out.on HB1.out)).mono ?_
    rintro e w2 ⟨rfl, hb2⟩
    have HB2 := Lib.hid (HB1.out.trans (hb2.mono HB1.out.size))
    clear hb2
    go_wp2
    go_ret
    exact ⟨rfl, HB2.out⟩
  obtain ⟨p, rfl⟩ : ∃ p : Nat, z = p := ⟨z.toNat, by omega⟩
  obtain ⟨N, rfl⟩ : ∃ p : Nat, y = p := ⟨y.toNat, by omega⟩
  have hok : 32 ≤ ent.length ∧ ent.length ≤ 500 ∧ l.length ≤ 500 ∧ p ≤ l.length ∧ N ≤ 600 := by have := HNL.out; have := HML.out; omega
  clear q1 q2 q3 q4 q5 q6 q7
  obtain ⟨e1, e2, e3, e4, e5⟩ := hok
  have HEL := Lib.hid (show ent.length ≤ 500 from e2)
  have HLL := Lib.hid (show l.length ≤ 500 from e3)
  have HTk := Lib.hid (HL.out.cut (show p ≤ m by have := HML.out; omega))
  obtain ⟨AD, CD, sdp, hDp⟩ := slice_l HL.out (show p ≤ m by have := HML.out; omega)
  have HDp := Lib.hid hDp
  have stk := slice_h' HL.out (show p ≤ m by have := HML.out; omega)
  obtain ⟨KA, hKA⟩ : ∃ z, z = updK z32 (ones 32) (ent ++ l) := ⟨_, rfl⟩
  obtain ⟨VA, hVA⟩ : ∃ z, z = updV z32 (ones 32) (ent ++ l) := ⟨_, rfl⟩
  obtain ⟨KB, hKB⟩ : ∃ z, z = updK KA VA (ent ++ l) := ⟨_, rfl⟩
  obtain ⟨VB, hVB⟩ : ∃ z, z = updV KA VA (ent ++ l) := ⟨_, rfl⟩
  have HK := Lib.hid hKA
  have HV := Lib.hid hVA
  have HK2 := Lib.hid hKB
  have HV2 := Lib.hid hVB
  have HM1 := Lib.hid (show mayE ent [l.take p, l.drop p] = 0 from mayE_ok e1 (by omega) (by simp; omega))
  have HM2 := Lib.hid (show mayE (ent ++ l.take p) [[], l.drop p] = 0 from mayE_ok (by simp; omega) (by simp; omega) (by simp; omega))
  have HM3 := Lib.hid (show mayE ent [l] = 0 from mayE_ok e1 (by omega) (by simp; omega))
  have HM4 := Lib.hid (show mayE (ent ++ l.take p) [l.drop p] = 0 from mayE_ok (by simp; omega) (by simp; omega) (by simp; omega))
  have HM5 := Lib.hid (show drawE (N : Int) l.length 1 = 0 by unfold drawE; rw [if_neg (by omega), if_neg (by omega), if_neg (by omega)])
  have g1 : ¬ (n : Int) < 32 := by have := HNL.out; omega
  have g2 : ¬ (500 : Int) < (n : Int) := by have := HNL.out; omega
  have g3 : ¬ (500 : Int) < (m : Int) := by have := HML.out; omega
  have g4 : ¬ (m : Int) < (p : Int) := by have := HML.out; omega
  have g5 : ¬ (600 : Int) < (N : Int) := by omega
  have g6 : (p : Int) ≤ (m : Int) := by have := HML.out; omega
  clear hKA hVA hKB hVB hDp
  go_enter Tryd.func19, Tryd.ntmps19
  go_wp2_with fail
  refine (live5_walk w HT.out).mono ?_
  rintro e w1 ⟨rfl, hb1⟩
  have HBw := Lib.hid hb1
  clear hb1
  go_wp2
  refine wp_region_held_drew (S := fun _ => True) (by kernel_rfl) trivial (fun _ => ?_)
  have HTR := Lib.hid trivial
  have hb : Below w1.heap.size w1 (World.drew w1) := (Below.refl _ _).drew
  have HBw := Lib.hid (HBw.out.trans (hb.mono HBw.out.size))
  clear hb
  generalize World.drew w1 = v0 at *
  try simp only [Act.put, List.setIfInBounds_toArray, List.set_cons_succ, List.set_cons_zero]
  refine wpAnyH_take (i := 0) (oi := ⟨some 54, .move (.tmp 0), 28, _, _, none⟩) (v := .slice a n c) rfl (by kernel_rfl) (by kernel_rfl) (by kernel_rfl) (fun _ _ _ h => h) (Or.inl ⟨by rfl, fun _ _ => by go_simp⟩) HTR.out ?_
  try simp only [Act.put, List.setIfInBounds_toArray, List.set_cons_succ, List.set_cons_zero]
  refine wpAnyH_take (i := 1) (oi := ⟨some 55, .move (.tmp 1), 28, _, _, none⟩) (v := .slice b m d) rfl (by kernel_rfl) (by kernel_rfl) (by kernel_rfl) (fun _ _ _ h => h) (Or.inl ⟨by rfl, fun _ _ => by go_simp⟩) HTR.out ?_
  try simp only [Act.put, List.setIfInBounds_toArray, List.set_cons_succ, List.set_cons_zero]
  refine wpAnyH_take (i := 2) (oi := ⟨some 56, .move (.tmp 2), 3, _, _, none⟩) (v := .int .i64 (p : Nat)) rfl (by kernel_rfl) (by kernel_rfl) (by kernel_rfl) (fun _ _ _ h => h) (Or.inl ⟨by rfl, fun _ _ => by go_simp⟩) HTR.out ?_
  try simp only [Act.put, List.setIfInBounds_toArray, List.set_cons_succ, List.set_cons_zero]
  refine wpAnyH_take (i := 3) (oi := ⟨some 57, .slice 28 (.tmp 55) none (some (.tmp 56)) none, 28, _, _, none⟩) (v := .slice b p d) rfl (by kernel_rfl) (by kernel_rfl) (by kernel_rfl) (fun _ _ _ h => h) (Or.inl ⟨by rfl, fun _ _ => by go_simp⟩) HTR.out ?_
  try simp only [Act.put, List.setIfInBounds_toArray, List.set_cons_succ, List.set_cons_zero]
  refine wpAnyH_take (i := 4) (oi := ⟨some 58, .move (.tmp 1), 28, _, _, none⟩) (v := .slice b m d) rfl (by kernel_rfl) (by kernel_rfl) (by kernel_rfl) (fun _ _ _ h => h) (Or.inl ⟨by rfl, fun _ _ => by go_simp⟩) HTR.out ?_
  try simp only [Act.put, List.setIfInBounds_toArray, List.set_cons_succ, List.set_cons_zero]
  refine wpAnyH_take (i := 5) (oi := ⟨some 59, .move (.tmp 2), 3, _, _, none⟩) (v := .int .i64 (p : Nat)) rfl (by kernel_rfl) (by kernel_rfl) (by kernel_rfl) (fun _ _ _ h => h) (Or.inl ⟨by rfl, fun _ _ => by go_simp⟩) HTR.out ?_
  try simp only [Act.put, List.setIfInBounds_toArray, List.set_cons_succ, List.set_cons_zero]
  refine wpAnyH_take (i := 6) (oi := ⟨some 60, .slice 28 (.tmp 58) (some (.tmp 59)) none none, 28, _, _, none⟩) (v := .slice AD (m - p) CD) rfl (by kernel_rfl) (by kernel_rfl) (by kernel_rfl) (fun _ _ _ h => h) (Or.inl ⟨by rfl, fun _ _ => by go_simp⟩) HTR.out ?_
  try simp only [Act.put, List.setIfInBounds_toArray, List.set_cons_succ, List.set_cons_zero]
  refine wpAnyH_ready (rs := [7]) (by kernel_rfl) (by simp) ?_
  refine AllReadyH.cons (o := ⟨some 61, .call { callee := .value (.func 58), args := #[.tmp 54, .tmp 57, .tmp 60], argTypes := #[28, 28, 28] }, _, _, _, none⟩) rfl (fun K hK => ?_) AllReadyH.nil
  go_simp
  refine (dnew_walk ent (l.take p) (l.drop p) a b AD n c p d (m - p) CD v0 (HE.out.on HBw.out) (HTk.out.on HBw.out) (HDp.out.on HBw.out) (HT.out.on HBw.out) HM1.out).mono ?_
  rintro e v1 ⟨Ga, rfl, hG, hD, hb⟩
  rw [List.take_append_drop, ← HK.out, ← HV.out] at hD
  have HGa := Lib.hid (Nat.le_trans HBw.out.size hG)
  have HBw := Lib.hid (HBw.out.trans (hb.mono HBw.out.size))
  have HDa := Lib.hid (hD)
  clear hb hD hG
  refine hK _ _ HTR.out (fun _ => ?_)
  clear hK K
  try simp only [Act.put, List.setIfInBounds_toArray, List.set_cons_succ, List.set_cons_zero]
  refine wpAnyH_take (i := 8) (oi := ⟨some 53, .move (.tmp 61), _, _, _, none⟩) (v := .tuple #[.pointer (some ⟨Ga, 0, none⟩), .int .i64 0]) rfl (by kernel_rfl) (by kernel_rfl) (by kernel_rfl) (fun _ _ _ h => h) (Or.inl ⟨by rfl, fun _ _ => by go_simp⟩) HTR.out ?_
  try simp only [Act.put, List.setIfInBounds_toArray, List.set_cons_succ, List.set_cons_zero]
  refine wpAnyH_take (i := 9) (oi := ⟨some 62, .extract (.tmp 53) 0, 75, _, _, none⟩) (v := .pointer (some ⟨Ga, 0, none⟩)) rfl (by kernel_rfl) (by kernel_rfl) (by kernel_rfl) (fun _ _ _ h => h) (Or.inl ⟨by rfl, fun _ _ => by go_simp⟩) HTR.out ?_
  try simp only [Act.put, List.setIfInBounds_toArray, List.set_cons_succ, List.set_cons_zero]
  refine wpAnyH_take (i := 10) (oi := ⟨some 63, .extract (.tmp 53) 1, 37, _, _, none⟩) (v := .int .i64 0) rfl (by kernel_rfl) (by kernel_rfl) (by kernel_rfl) (fun _ _ _ h => h) (Or.inl ⟨by rfl, fun _ _ => by go_simp⟩) HTR.out ?_
  try simp only [Act.put, List.setIfInBounds_toArray, List.set_cons_succ, List.set_cons_zero]
  refine wpAnyH_take (i := 11) (oi := ⟨some 9, .assign (.tmp 62), 75, _, _, none⟩) (v := .pointer (some ⟨Ga, 0, none⟩)) rfl (by kernel_rfl) (by kernel_rfl) (by kernel_rfl) (fun _ _ _ h => h) (Or.inl ⟨by rfl, fun _ _ => by go_simp⟩) HTR.out ?_
  try simp only [Act.put, List.setIfInBounds_toArray, List.set_cons_succ, List.set_cons_zero]
  refine wpAnyH_take (i := 12) (oi := ⟨some 10, .assign (.tmp 63), 37, _, _, none⟩) (v := .int .i64 0) rfl (by kernel_rfl) (by kernel_rfl) (by kernel_rfl) (fun _ _ _ h => h) (Or.inl ⟨by rfl, fun _ _ => by go_simp⟩) HTR.out ?_
  try simp only [Act.put, List.setIfInBounds_toArray, List.set_cons_succ, List.set_cons_zero]
  refine wpAnyH_done (by kernel_rfl) ?_ _
  clear HTR
  go_wp2
  refine wp_region_held_drew (S := fun _ => True) (by kernel_rfl) trivial (fun _ => ?_)
  have HTR := Lib.hid trivial
  have hb : Below v1.heap.size v1 (World.drew v1) := (Below.refl _ _).drew
  have HBw := Lib.hid (HBw.out.trans (hb.mono HBw.out.size))
  have HDa := Lib.hid (HDa.out.on hb)
  clear hb
  generalize World.drew v1 = p0 at *
  try simp only [Act.put, List.setIfInBounds_toArray, List.set_cons_succ, List.set_cons_zero]
  refine wpAnyH_take (i := 0) (oi := ⟨some 65, .move (.tmp 0), 28, _, _, none⟩) (v := .slice a n c) rfl (by kernel_rfl) (by kernel_rfl) (by kernel_rfl) (fun _ _ _ h => h) (Or.inl ⟨by rfl, fun _ _ => by go_simp⟩) HTR.out ?_
  try simp only [Act.put, List.setIfInBounds_toArray, List.set_cons_succ, List.set_cons_zero]
  refine wpAnyH_take (i := 1) (oi := ⟨some 66, .move (.tmp 1), 28, _, _, none⟩) (v := .slice b m d) rfl (by kernel_rfl) (by kernel_rfl) (by kernel_rfl) (fun _ _ _ h => h) (Or.inl ⟨by rfl, fun _ _ => by go_simp⟩) HTR.out ?_
  try simp only [Act.put, List.setIfInBounds_toArray, List.set_cons_succ, List.set_cons_zero]
  refine wpAnyH_take (i := 2) (oi := ⟨some 67, .move (.tmp 2), 3, _, _, none⟩) (v := .int .i64 (p : Nat)) rfl (by kernel_rfl) (by kernel_rfl) (by kernel_rfl) (fun _ _ _ h => h) (Or.inl ⟨by rfl, fun _ _ => by go_simp⟩) HTR.out ?_
  try simp only [Act.put, List.setIfInBounds_toArray, List.set_cons_succ, List.set_cons_zero]
  refine wpAnyH_take (i := 3) (oi := ⟨some 68, .slice 28 (.tmp 66) none (some (.tmp 67)) none, 28, _, _, none⟩) (v := .slice b p d) rfl (by kernel_rfl) (by kernel_rfl) (by kernel_rfl) (fun _ _ _ h => h) (Or.inl ⟨by rfl, fun _ _ => by go_simp⟩) HTR.out ?_
  try simp only [Act.put, List.setIfInBounds_toArray, List.set_cons_succ, List.set_cons_zero]
  refine wpAnyH_take (i := 6) (oi := ⟨some 71, .move (.tmp 1), 28, _, _, none⟩) (v := .slice b m d) rfl (by kernel_rfl) (by kernel_rfl) (by kernel_rfl) (fun _ _ _ h => h) (Or.inl ⟨by rfl, fun _ _ => by go_simp⟩) HTR.out ?_
  try simp only [Act.put, List.setIfInBounds_toArray, List.set_cons_succ, List.set_cons_zero]
  refine wpAnyH_take (i := 7) (oi := ⟨some 72, .move (.tmp 2), 3, _, _, none⟩) (v := .int .i64 (p : Nat)) rfl (by kernel_rfl) (by kernel_rfl) (by kernel_rfl) (fun _ _ _ h => h) (Or.inl ⟨by rfl, fun _ _ => by go_simp⟩) HTR.out ?_
  try simp only [Act.put, List.setIfInBounds_toArray, List.set_cons_succ, List.set_cons_zero]
  refine wpAnyH_take (i := 8) (oi := ⟨some 73, .slice 28 (.tmp 71) (some (.tmp 72)) none none, 28, _, _, none⟩) (v := .slice AD (m - p) CD) rfl (by kernel_rfl) (by kernel_rfl) (by kernel_rfl) (fun _ _ _ h => h) (Or.inl ⟨by rfl, fun _ _ => by go_simp⟩) HTR.out ?_
  try simp only [Act.put, List.setIfInBounds_toArray, List.set_cons_succ, List.set_cons_zero]
  refine wpAnyH_ready (rs := [4]) (by kernel_rfl) (by simp) ?_
  refine AllReadyH.cons (o := ⟨some 69, .buildSlice 35 2 #[(0, .tmp 65), (1, .tmp 68)], 35, _, _, none⟩) rfl (fun K hK => ?_) AllReadyH.nil
  go_simp
  have BJ := Blk.new p0 #[.slice a n c, .slice b p d] 28
  have hb := below_one' p0 (.cells #[.slice a n c, .slice b p d] 28)
  generalize World.alloc p0 _ = v101 at *
  have HBw := Lib.hid (HBw.out.trans (hb.mono HBw.out.size))
  have HDa := Lib.hid (HDa.out.on hb)
  replace BJ := Lib.hid BJ
  clear hb
  refine hK _ _ HTR.out (fun _ => ?_)
  clear hK K
  try simp only [Act.put, List.setIfInBounds_toArray, List.set_cons_succ, List.set_cons_zero]
  refine wpAnyH_ready (rs := [5]) (by kernel_rfl) (by simp) ?_
  refine AllReadyH.cons (o := ⟨some 70, .call { callee := .value (.func 36), args := #[.tmp 69], argTypes := #[35] }, 28, _, _, none⟩) rfl (fun K hK => ?_) AllReadyH.nil
  go_simp
  refine (join_blk2 v101 _ _ BJ.out (HE.out.on HBw.out) (HTk.out.on HBw.out) (by have := HEL.out; have := HLL.out; rw [List.length_take]; omega)).mono ?_
  rintro e v102 ⟨aj, nj, cj, rfl, hO, hb⟩
  have HBw := Lib.hid (HBw.out.trans (hb.mono HBw.out.size))
  have HDa := Lib.hid (HDa.out.on hb)
  have BJ := Lib.hid (BJ.out.on hb)
  have HJ := Lib.hid (hO.txt)
  clear hb hO
  refine hK _ _ HTR.out (fun _ => ?_)
  clear hK K
  try simp only [Act.put, List.setIfInBounds_toArray, List.set_cons_succ, List.set_cons_zero]
  refine wpAnyH_ready (rs := [9]) (by kernel_rfl) (by simp) ?_
  refine AllReadyH.cons (o := ⟨some 74, .call { callee := .value (.func 58), args := #[.tmp 70, .const (.slice none 0 0), .tmp 73], argTypes := #[28, 28, 28] }, _, _, _, none⟩) rfl (fun K hK => ?_) AllReadyH.nil
  go_simp
  refine (dnew_walk (ent ++ l.take p) [] (l.drop p) aj none AD nj cj 0 0 (m - p) CD v102 HJ.out (Txt.nil _ 0) (HDp.out.on HBw.out) (HT.out.on HBw.out) HM2.out).mono ?_
  rintro e v103 ⟨Gb, rfl, hG, hD, hb⟩
  rw [List.nil_append, List.append_assoc, List.take_append_drop, ← HK.out, ← HV.out] at hD
  have HGb := Lib.hid (Nat.le_trans HBw.out.size hG)
  have HGn := Lib.hid (show Gb ≠ Ga by have := HDa.out.blk.lt; omega)
  have HBw := Lib.hid (HBw.out.trans (hb.mono HBw.out.size))
  have HDa := Lib.hid (HDa.out.on hb)
  have BJ := Lib.hid (BJ.out.on hb)
  have HJ := Lib.hid (HJ.out.on hb)
  have HDb := Lib.hid (hD)
  clear hb hD hG
  refine hK _ _ HTR.out (fun _ => ?_)
  clear hK K
  try simp only [Act.put, List.setIfInBounds_toArray, List.set_cons_succ, List.set_cons_zero]
  refine wpAnyH_take (i := 10) (oi := ⟨some 64, .move (.tmp 74), _, _, _, none⟩) (v := .tuple #[.pointer (some ⟨Gb, 0, none⟩), .int .i64 0]) rfl (by kernel_rfl) (by kernel_rfl) (by kernel_rfl) (fun _ _ _ h => h) (Or.inl ⟨by rfl, fun _ _ => by go_simp⟩) HTR.out ?_
  try simp only [Act.put, List.setIfInBounds_toArray, List.set_cons_succ, List.set_cons_zero]
  refine wpAnyH_take (i := 11) (oi := ⟨some 75, .extract (.tmp 64) 0, 75, _, _, none⟩) (v := .pointer (some ⟨Gb, 0, none⟩)) rfl (by kernel_rfl) (by kernel_rfl) (by kernel_rfl) (fun _ _ _ h => h) (Or.inl ⟨by rfl, fun _ _ => by go_simp⟩) HTR.out ?_
  try simp only [Act.put, List.setIfInBounds_toArray, List.set_cons_succ, List.set_cons_zero]
  refine wpAnyH_take (i := 12) (oi := ⟨some 76, .extract (.tmp 64) 1, 37, _, _, none⟩) (v := .int .i64 0) rfl (by kernel_rfl) (by kernel_rfl) (by kernel_rfl) (fun _ _ _ h => h) (Or.inl ⟨by rfl, fun _ _ => by go_simp⟩) HTR.out ?_
  try simp only [Act.put, List.setIfInBounds_toArray, List.set_cons_succ, List.set_cons_zero]
  refine wpAnyH_take (i := 13) (oi := ⟨some 11, .assign (.tmp 75), 75, _, _, none⟩) (v := .pointer (some ⟨Gb, 0, none⟩)) rfl (by kernel_rfl) (by kernel_rfl) (by kernel_rfl) (fun _ _ _ h => h) (Or.inl ⟨by rfl, fun _ _ => by go_simp⟩) HTR.out ?_
  try simp only [Act.put, List.setIfInBounds_toArray, List.set_cons_succ, List.set_cons_zero]
  refine wpAnyH_take (i := 14) (oi := ⟨some 12, .assign (.tmp 76), 37, _, _, none⟩) (v := .int .i64 0) rfl (by kernel_rfl) (by kernel_rfl) (by kernel_rfl) (fun _ _ _ h => h) (Or.inl ⟨by rfl, fun _ _ => by go_simp⟩) HTR.out ?_
  try simp only [Act.put, List.setIfInBounds_toArray, List.set_cons_succ, List.set_cons_zero]
  refine wpAnyH_done (by kernel_rfl) ?_ _
  clear HTR HJ BJ
  go_wp2
  refine wp_region_held_drew (S := fun _ => True) (by kernel_rfl) trivial (fun _ => ?_)
  have HTR := Lib.hid trivial
  have hb : Below v103.heap.size v103 (World.drew v103) := (Below.refl _ _).drew
  have HBw := Lib.hid (HBw.out.trans (hb.mono HBw.out.size))
  have HDa := Lib.hid (HDa.out.on hb)
  have HDb := Lib.hid (HDb.out.on hb)
  clear hb
  generalize World.drew v103 = q0 at *
  try simp only [Act.put, List.setIfInBounds_toArray, List.set_cons_succ, List.set_cons_zero]
  refine wpAnyH_take (i := 0) (oi := ⟨some 91, .move (.tmp 9), 75, _, _, none⟩) (v := .pointer (some ⟨Ga, 0, none⟩)) rfl (by kernel_rfl) (by kernel_rfl) (by kernel_rfl) (fun _ _ _ h => h) (Or.inl ⟨by rfl, fun _ _ => by go_simp⟩) HTR.out ?_
  try simp only [Act.put, List.setIfInBounds_toArray, List.set_cons_succ, List.set_cons_zero]
  refine wpAnyH_take (i := 1) (oi := ⟨some 92, .move (.tmp 0), 28, _, _, none⟩) (v := .slice a n c) rfl (by kernel_rfl) (by kernel_rfl) (by kernel_rfl) (fun _ _ _ h => h) (Or.inl ⟨by rfl, fun _ _ => by go_simp⟩) HTR.out ?_
  try simp only [Act.put, List.setIfInBounds_toArray, List.set_cons_succ, List.set_cons_zero]
  refine wpAnyH_take (i := 2) (oi := ⟨some 93, .move (.tmp 1), 28, _, _, none⟩) (v := .slice b m d) rfl (by kernel_rfl) (by kernel_rfl) (by kernel_rfl) (fun _ _ _ h => h) (Or.inl ⟨by rfl, fun _ _ => by go_simp⟩) HTR.out ?_
  try simp only [Act.put, List.setIfInBounds_toArray, List.set_cons_succ, List.set_cons_zero]
  refine wpAnyH_ready (rs := [3]) (by kernel_rfl) (by simp) ?_
  refine AllReadyH.cons (o := ⟨some 94, .call { callee := .value (.func 61), args := #[.tmp 91, .tmp 92, .tmp 93], argTypes := #[75, 28, 28] }, 37, _, _, none⟩) rfl (fun K hK => ?_) AllReadyH.nil
  go_simp
  refine (reseed_walk KA VA 1 Ga ent l _ _ _ _ _ _ q0 HDa.out (HE.out.on HBw.out) (HL.out.on HBw.out) (HE.out.offG HGa.out) (HL.out.offG HGa.out) (HT.out.on HBw.out) (dtab HT.out HGa.out).1 (dtab HT.out HGa.out).2 HM3.out).mono ?_
  rintro e v201 ⟨rfl, hg, hD⟩
  rw [← HK2.out, ← HV2.out] at hD
  have HBw := Lib.hid (HBw.out.trans (below_of_grownBy hg HGa.out HBw.out.size))
  have HDb := Lib.hid (HDb.out.grown hg (by have := HGn.out; simpa using this))
  have HDa := Lib.hid hD
  clear hg hD
  refine hK _ _ HTR.out (fun _ => ?_)
  clear hK K
  try simp only [Act.put, List.setIfInBounds_toArray, List.set_cons_succ, List.set_cons_zero]
  refine wpAnyH_take (i := 4) (oi := ⟨some 95, .binOp .neq 37 (.tmp 94) (.const (.int .i64 0)) 37, 4, _, _, none⟩) (v := .bool false) rfl (by kernel_rfl) (by kernel_rfl) (by kernel_rfl) (fun _ _ _ h => h) (Or.inl ⟨by rfl, fun _ _ => by go_simp⟩) HTR.out ?_
  try simp only [Act.put, List.setIfInBounds_toArray, List.set_cons_succ, List.set_cons_zero]
  refine wpAnyH_take (i := 5) (oi := ⟨some 96, .move (.tmp 95), 4, _, _, none⟩) (v := .bool false) rfl (by kernel_rfl) (by kernel_rfl) (by kernel_rfl) (fun _ _ _ h => h) (Or.inl ⟨by rfl, fun _ _ => by go_simp⟩) HTR.out ?_
  try simp only [Act.put, List.setIfInBounds_toArray, List.set_cons_succ, List.set_cons_zero]
  refine wpAnyH_take (i := 6) (oi := ⟨some 97, .move (.tmp 11), 75, _, _, some (5, false)⟩) (v := .pointer (some ⟨Gb, 0, none⟩)) rfl (by kernel_rfl) (by kernel_rfl) (by kernel_rfl) (fun _ _ _ h => h) (Or.inl ⟨by rfl, fun _ _ => by go_simp⟩) HTR.out ?_
  try simp only [Act.put, List.setIfInBounds_toArray, List.set_cons_succ, List.set_cons_zero]
  refine wpAnyH_take (i := 7) (oi := ⟨some 98, .move (.tmp 0), 28, _, _, some (5, false)⟩) (v := .slice a n c) rfl (by kernel_rfl) (by kernel_rfl) (by kernel_rfl) (fun _ _ _ h => h) (Or.inl ⟨by rfl, fun _ _ => by go_simp⟩) HTR.out ?_
  try simp only [Act.put, List.setIfInBounds_toArray, List.set_cons_succ, List.set_cons_zero]
  refine wpAnyH_take (i := 8) (oi := ⟨some 99, .move (.tmp 1), 28, _, _, some (5, false)⟩) (v := .slice b m d) rfl (by kernel_rfl) (by kernel_rfl) (by kernel_rfl) (fun _ _ _ h => h) (Or.inl ⟨by rfl, fun _ _ => by go_simp⟩) HTR.out ?_
  try simp only [Act.put, List.setIfInBounds_toArray, List.set_cons_succ, List.set_cons_zero]
  refine wpAnyH_take (i := 9) (oi := ⟨some 100, .move (.tmp 2), 3, _, _, some (5, false)⟩) (v := .int .i64 (p : Nat)) rfl (by kernel_rfl) (by kernel_rfl) (by kernel_rfl) (fun _ _ _ h => h) (Or.inl ⟨by rfl, fun _ _ => by go_simp⟩) HTR.out ?_
  try simp only [Act.put, List.setIfInBounds_toArray, List.set_cons_succ, List.set_cons_zero]
  refine wpAnyH_take (i := 10) (oi := ⟨some 101, .slice 28 (.tmp 99) none (some (.tmp 100)) none, 28, _, _, some (5, false)⟩) (v := .slice b p d) rfl (by kernel_rfl) (by kernel_rfl) (by kernel_rfl) (fun _ _ _ h => h) (Or.inl ⟨by rfl, fun _ _ => by go_simp⟩) HTR.out ?_
  try simp only [Act.put, List.setIfInBounds_toArray, List.set_cons_succ, List.set_cons_zero]
  refine wpAnyH_take (i := 13) (oi := ⟨some 104, .move (.tmp 1), 28, _, _, some (5, false)⟩) (v := .slice b m d) rfl (by kernel_rfl) (by kernel_rfl) (by kernel_rfl) (fun _ _ _ h => h) (Or.inl ⟨by rfl, fun _ _ => by go_simp⟩) HTR.out ?_
  try simp only [Act.put, List.setIfInBounds_toArray, List.set_cons_succ, List.set_cons_zero]
  refine wpAnyH_take (i := 14) (oi := ⟨some 105, .move (.tmp 2), 3, _, _, some (5, false)⟩) (v := .int .i64 (p : Nat)) rfl (by kernel_rfl) (by kernel_rfl) (by kernel_rfl) (fun _ _ _ h => h) (Or.inl ⟨by rfl, fun _ _ => by go_simp⟩) HTR.out ?_
  try simp only [Act.put, List.setIfInBounds_toArray, List.set_cons_succ, List.set_cons_zero]
  refine wpAnyH_take (i := 15) (oi := ⟨some 106, .slice 28 (.tmp 104) (some (.tmp 105)) none none, 28, _, _, some (5, false)⟩) (v := .slice AD (m - p) CD) rfl (by kernel_rfl) (by kernel_rfl) (by kernel_rfl) (fun _ _ _ h => h) (Or.inl ⟨by rfl, fun _ _ => by go_simp⟩) HTR.out ?_
  try simp only [Act.put, List.setIfInBounds_toArray, List.set_cons_succ, List.set_cons_zero]
  refine wpAnyH_ready (rs := [11]) (by kernel_rfl) (by simp) ?_
  refine AllReadyH.cons (o := ⟨some 102, .buildSlice 35 2 #[(0, .tmp 98), (1, .tmp 101)], 35, _, _, some (5, false)⟩) rfl (fun K hK => ?_) AllReadyH.nil
  go_simp
  have BJ2 := Blk.new v201 #[.slice a n c, .slice b p d] 28
  have hb := below_one' v201 (.cells #[.slice a n c, .slice b p d] 28)
  generalize World.alloc v201 _ = v202 at *
  have HBw := Lib.hid (HBw.out.trans (hb.mono HBw.out.size))
  have HDa := Lib.hid (HDa.out.on hb)
  have HDb := Lib.hid (HDb.out.on hb)
  replace BJ2 := Lib.hid BJ2
  clear hb
  refine hK _ _ HTR.out (fun _ => ?_)
  clear hK K
  try simp only [Act.put, List.setIfInBounds_toArray, List.set_cons_succ, List.set_cons_zero]
  refine wpAnyH_ready (rs := [12]) (by kernel_rfl) (by simp) ?_
  refine AllReadyH.cons (o := ⟨some 103, .call { callee := .value (.func 36), args := #[.tmp 102], argTypes := #[35] }, 28, _, _, some (5, false)⟩) rfl (fun K hK => ?_) AllReadyH.nil
  go_simp
  refine (join_blk2 v202 _ _ BJ2.out (HE.out.on HBw.out) (HTk.out.on HBw.out) (by have := HEL.out; have := HLL.out; rw [List.length_take]; omega)).mono ?_
  rintro e v203 ⟨ak, nk, ck, rfl, hO, hb⟩
  have HJf := Lib.hid (show ∀ q o, ak = some ⟨q, o, none⟩ → v202.heap.size ≤ q from fun q o eq => by obtain ⟨a9, c9, e9, _, _, _, h9, _⟩ := hO.form; simp only [Value.slice.injEq] at e9; exact (h9 q o (e9.1.symm.trans eq)).1)
  have HLt := Lib.hid HDb.out.blk.lt
  have HBw := Lib.hid (HBw.out.trans (hb.mono HBw.out.size))
  have HDa := Lib.hid (HDa.out.on hb)
  have HDb := Lib.hid (HDb.out.on hb)
  have BJ2 := Lib.hid (BJ2.out.on hb)
  have HJ2 := Lib.hid (hO.txt)
  clear hb hO
  refine hK _ _ HTR.out (fun _ => ?_)
  clear hK K
  try simp only [Act.put, List.setIfInBounds_toArray, List.set_cons_succ, List.set_cons_zero]
  refine wpAnyH_ready (rs := [16]) (by kernel_rfl) (by simp) ?_
  refine AllReadyH.cons (o := ⟨some 107, .call { callee := .value (.func 61), args := #[.tmp 97, .tmp 103, .tmp 106], argTypes := #[75, 28, 28] }, 37, _, _, some (5, false)⟩) rfl (fun K hK => ?_) AllReadyH.nil
  go_simp
  refine (reseed_walk KA VA 1 Gb (ent ++ l.take p) (l.drop p) _ _ _ _ _ _ v203 HDb.out HJ2.out (HDp.out.on HBw.out) (fun q o eq _ => by have := HJf.out q o eq; have := HLt.out; omega) (HDp.out.offG HGb.out) (HT.out.on HBw.out) (dtab HT.out HGb.out).1 (dtab HT.out HGb.out).2 HM4.out).mono ?_
  rintro e v204 ⟨rfl, hg, hD⟩
  rw [List.append_assoc, List.take_append_drop, ← HK2.out, ← HV2.out] at hD
  have HBw := Lib.hid (HBw.out.trans (below_of_grownBy hg HGb.out HBw.out.size))
  have HDa := Lib.hid (HDa.out.grown hg (by have := HGn.out; simpa using Ne.symm this))
  have HDb := Lib.hid hD
  clear hg hD
  refine hK _ _ HTR.out (fun _ => ?_)
  clear hK K
  try simp only [Act.put, List.setIfInBounds_toArray, List.set_cons_succ, List.set_cons_zero]
  refine wpAnyH_take (i := 17) (oi := ⟨some 108, .binOp .neq 37 (.tmp 107) (.const (.int .i64 0)) 37, 4, _, _, some (5, false)⟩) (v := .bool false) rfl (by kernel_rfl) (by kernel_rfl) (by kernel_rfl) (fun _ _ _ h => h) (Or.inl ⟨by rfl, fun _ _ => by go_simp⟩) HTR.out ?_
  try simp only [Act.put, List.setIfInBounds_toArray, List.set_cons_succ, List.set_cons_zero]
  refine wpAnyH_take (i := 18) (oi := ⟨some 109, .pick (.tmp 96) (.const (.bool true)) (.tmp 108), 4, _, _, none⟩) (v := .bool false) rfl (by kernel_rfl) (by kernel_rfl) (by kernel_rfl) (fun _ _ _ h => h) (Or.inl ⟨by rfl, fun _ _ => by go_simp⟩) HTR.out ?_
  try simp only [Act.put, List.setIfInBounds_toArray, List.set_cons_succ, List.set_cons_zero]
  refine wpAnyH_done (by kernel_rfl) ?_ _
  go_wp2_with fail
  refine (draw_walk KB VB 1 Ga l b N m d v204 HDa.out (HL.out.on HBw.out) (HL.out.offG HGa.out) (HT.out.on HBw.out) (dtab HT.out HGa.out).1 (dtab HT.out HGa.out).2 (by omega) HM5.out).mono ?_
  rintro e w7 ⟨ax, cx, rfl, hX, hXf, hg, hD⟩
  have HBw7 := Lib.hid (HBw.out.trans (below_of_grownBy hg HGa.out HBw.out.size))
  have HDb7 := Lib.hid (HDb.out.grown hg (by have := HGn.out; simpa using this))
  have HXo := Lib.hid (show Off ax (drawO KB VB l N) Gb from fun q o eq _ => by have := hXf q o eq; have := HDb.out.blk.lt; omega)
  have HX7 := Lib.hid hX
  clear hg hD hX hXf HBw HDa HDb
  go_wp2_with fail
  refine (draw_walk KB VB 1 Gb l b N m d w7 HDb7.out (HL.out.on HBw7.out) (HL.out.offG HGb.out) (HT.out.on HBw7.out) (dtab HT.out HGb.out).1 (dtab HT.out HGb.out).2 (by omega) HM5.out).mono ?_
  rintro e w8 ⟨ay, cy, rfl, hY, _, hg, _⟩
  have HB8 := Lib.hid (HBw7.out.trans (below_of_grownBy hg HGb.out HBw7.out.size))
  have HX8 := Lib.hid (HX7.out.off hg HXo.out)
  have HY8 := Lib.hid hY
  clear hg hY HX7 HXo HBw7 HDb7
  go_wp2_with fail
  refine (equal_same _ _ _ _ _ _ (drawO KB VB l N) w8 HX8.out HY8.out).mono ?_
  rintro e w9 ⟨rfl, rfl⟩
  go_wp2
  go_ret
  exact ⟨rfl, HB8.out⟩
end Go.Proofs.YtgbahfggnbpnmaaDoor
