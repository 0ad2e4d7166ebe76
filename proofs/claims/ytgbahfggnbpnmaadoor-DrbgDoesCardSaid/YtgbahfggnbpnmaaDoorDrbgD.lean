import Derived.Test.YtgbahfggnbpnmaaDoorDrbgN
import Derived.Maps.Range
/-
  (*Drbg).Draw.
-/
namespace Go.Proofs.YtgbahfggnbpnmaaDoor
open Go.RowKit
theorem OwnB.notG {w : World} {lo G : Nat} {v : Value} {l : List UInt8} (h : OwnB w lo v l) (hG : G < lo) : v.ownBlock = none ∨ v.ownBlock ≠ some G := by
  cases hv : v.ownBlock with
  | none => exact .inl rfl
  | some k => exact .inr (fun e => by have := (h.lt k hv).1; simp only [Option.some.injEq] at e; omega)
theorem DAt.grown {w w' : World} {G : Nat} {r : Option Nat} {k v : List UInt8} {cnt : Int} (h : DAt w G k v cnt) (hg : w.grownBy w' r) (hr : some G ≠ r) : DAt w' G k v cnt := ⟨h.kl, h.vl, h.blk.grown hg hr⟩
/-- The error of a draw. -/
def drawE (n : Int) (l : Nat) (cnt : Int) : Int := if n < 0 then 1 else if 65536 < n ∨ 4096 < l then 3 else if 1024 < cnt then 51 else 0
set_option maxRecDepth 100000 in
theorem draw_nil (n : Int) (x : Value) (w : World) : Calls Tryd.prog 63 #[.pointer none, .int .i64 n, x] w fun e w' => e = .returned (.tuple #[.slice none 0 0, .int .i64 2]) ∧ w = w' := by
  go_enter Tryd.func63, Tryd.ntmps63
  go_wp2_with (go_at_call 115; refine (dnone_nil _).mono ?_; rintro e w' ⟨rfl, rfl⟩)
  go_ret2
  exact ⟨rfl, rfl⟩
set_option maxRecDepth 100000 in
theorem draw_err (k v : List UInt8) (cnt : Int) (G : Nat) (b : Option Addr) (n : Int) (m d : Nat) (w : World) (hD : DAt w G k v cnt) (he : drawE n m cnt ≠ 0) :
    Calls Tryd.prog 63 #[.pointer (some ⟨G, 0, none⟩), .int .i64 n, .slice b m d] w fun e w' => e = .returned (.tuple #[.slice none 0 0, .int .i64 (drawE n m cnt)]) ∧ w = w' := by
  have h0 := hD.blk.cell 65 (dcells_cnt hD.kl hD.vl)
  have HD := Lib.hid hD
  clear hD
  by_cases h1 : n < 0
  · rw [show drawE n m cnt = 1 by unfold drawE; rw [if_pos h1]]
    clear he
    go_enter Tryd.func63, Tryd.ntmps63
    go_wp2_with (go_at_call 115; refine (dnone_at HD.out).mono ?_; rintro e w' ⟨rfl, rfl⟩)
    go_ret2
    exact ⟨rfl, rfl⟩
  · by_cases h2 : 65536 < n
    · rw [show drawE n m cnt = 3 by unfold drawE; rw [if_neg h1, if_pos (.inl h2)]]
      clear he
      go_enter Tryd.func63, Tryd.ntmps63
      go_wp2_with (go_at_call 115; refine (dnone_at HD.out).mono ?_; rintro e w' ⟨rfl, rfl⟩)
      go_ret2
      exact ⟨rfl, rfl⟩
    · by_cases h3 : 4096 < m
      · rw [show drawE n m cnt = 3 by unfold drawE; rw [if_neg h1, if_pos (.inr h3)]]
        clear he
        have h3' : (4096 : Int) < (m : Int) := by omega
        go_enter Tryd.func63, Tryd.ntmps63
        go_wp2_with (go_at_call 115; refine (dnone_at HD.out).mono ?_; rintro e w' ⟨rfl, rfl⟩)
        go_ret2
        exact ⟨rfl, rfl⟩
      · by_cases h4 : 1024 < cnt
        · rw [show drawE n m cnt = 51 by unfold drawE; rw [if_neg h1, if_neg (by omega), if_pos h4]]
          clear he
          have h3' : ¬ (4096 : Int) < (m : Int) := by omega
          go_enter Tryd.func63, Tryd.ntmps63
          go_wp2_with (go_at_call 115; refine (dnone_at HD.out).mono ?_; rintro e w' ⟨rfl, rfl⟩)
          go_ret2
          exact ⟨rfl, rfl⟩
        · exact absurd (by unfold drawE; rw [if_neg h1, if_neg (by omega), if_neg h4]) he
set_option maxRecDepth 100000 in
set_option maxHeartbeats 2000000 in
theorem draw_walk (k v : List UInt8) (cnt : Int) (G : Nat) (add : List UInt8) (b : Option Addr) (N m d : Nat) (w : World) (hD : DAt w G k v cnt) (hA : Txt w b m d add) (fA : Off b add G) (hT : Two w) (h1 : G ≠ 0) (h2 : G ≠ 1) (hc : 0 ≤ cnt) (he : drawE N add.length cnt = 0) :
    Calls Tryd.prog 63 #[.pointer (some ⟨G, 0, none⟩), .int .i64 N, .slice b m d] w fun e w' => ∃ a' c', e = .returned (.tuple #[.slice a' N c', .int .i64 0]) ∧ Txt w' a' N c' (drawO k v add N) ∧ (∀ b o, a' = some ⟨b, o, none⟩ → w.heap.size ≤ b) ∧ w.grownBy w' (some G) ∧ DAt w' G (nextK k v add N) (nextV k v add N) (cnt + 1) := by
  have hN : N ≤ 65536 ∧ add.length ≤ 4096 ∧ cnt ≤ 1024 := by
    unfold drawE at he
    by_cases q1 : (N : Int) < 0
    · omega
    · rw [if_neg q1] at he
      by_cases q2 : 65536 < (N : Int) ∨ 4096 < add.length
      · rw [if_pos q2] at he; omega
      · rw [if_neg q2] at he
        by_cases q3 : 1024 < cnt
        · rw [if_pos q3] at he; omega
        · omega
  have HC0 := Lib.hid hc
  have HC1 := Lib.hid hN.2.2
  have HGN := Lib.hid hN.1
  have HAL := Lib.hid hN.2.1
  have h0 := hD.blk.cell 65 (dcells_cnt hD.kl hD.vl)
  have g0 : ¬ (N : Int) < 0 := by omega
  have g1 : ¬ (65536 : Int) < (N : Int) := by have := hN.1; omega
  have g2 : ¬ (4096 : Int) < (m : Int) := by have := hN.2.1; have := hA.len; omega
  have g3 : ¬ (1024 : Int) < cnt := by have := hN.2.2; omega
  have g4 : IntKind.i64.wrap ((N : Int) + 32) = ((N + 32 : Nat) : Int) := by rw [IntWalk.i64_in _ (by have := hN.1; omega)]; omega
  have HML := Lib.hid hA.len
  have HD0 := Lib.hid hD
  have HA := Lib.hid hA
  have HFA := Lib.hid fA
  have HTw := Lib.hid hT
  have HGt := Lib.hid h1
  have HGs := Lib.hid h2
  clear hD hA fA hT h1 h2 hc he hN
  by_cases hz : 0 < m
  · have hz' : (0 : Int) < (m : Int) := by omega
    have HAN := Lib.hid (show add ≠ [] by intro e; have := HML.out; rw [e] at this; simp at this; omega)
    have hbp := below_one' w (.cells #[.slice b m d] 28)
    have HP1 := Lib.hid (parts_far1 (G := G) HA.out HFA.out hbp (by have := HD0.out.blk.lt; omega) (Blk.new w #[.slice b m d] 28))
    have HD1 := Lib.hid (HD0.out.on hbp)
    have HT1 := Lib.hid (HTw.out.on hbp)
    have HBp := Lib.hid hbp
    clear hbp
    go_enter Tryd.func63, Tryd.ntmps63
    go_wp2_with (go_at_call 115; refine (dnone_at HD0.out).mono ?_; rintro e w' ⟨rfl, rfl⟩)
    refine (update_walk k v cnt G [add] _ 1 1 rfl _ HD1.out HP1.out HT1.out HGt.out HGs.out (by simp) (by have h1 := HAL.out; simp; omega)).mono ?_
    rintro e w2 ⟨rfl, hg2, hD2⟩
    rw [show [add].flatten = add by simp] at hD2
    obtain ⟨kk, hkk⟩ : ∃ z, z = updK k v add := ⟨_, rfl⟩
    obtain ⟨vv, hvv⟩ : ∃ z, z = updV k v add := ⟨_, rfl⟩
    have HKE := Lib.hid (show kk = preK k v add by rw [hkk]; unfold preK; rw [if_neg HAN.out])
    have HVE := Lib.hid (show vv = preV k v add by rw [hvv]; unfold preV; rw [if_neg HAN.out])
    rw [← hkk, ← hvv] at hD2
    have HD2 := Lib.hid hD2
    have HG2 := Lib.hid (grownBy_trans (grownBy_of_below HBp.out) hg2)
    clear hD2 hg2 hkk hvv HD1 HT1 HP1 HBp HAN h0
    obtain ⟨LO, hLOe⟩ : ∃ z, z = w2.heap.size := ⟨_, rfl⟩
    have HGlo := Lib.hid (show G < LO by have := HD2.out.blk.lt; omega)
    have HLO2 := Lib.hid hLOe
    clear hLOe
    go_wp2_with (refine wpList_make_abs rfl 28 (.const (.int .i64 0)) (.tmp 37) rfl 5 (.int .u8 0) 1 Tryd.underlying28 info_u8 rfl .i64 .i64 0 (N + 32) rfl (by first | rfl | go_simp) (Nat.zero_le _) (by omega) (by omega) ?_)
    have hb3 := below_one' w2 (.cells (Array.replicate (N + 32) (.int .u8 0)) 5)
    have HO3 := Lib.hid (OwnB.room w2 (lo := LO) (C := N + 32) (by rw [HLO2.out]; exact Nat.le_refl _) (by unfold maxLen; omega) (.int .u8 0))
    have HD3 := Lib.hid (HD2.out.on hb3)
    have HG3 := Lib.hid (grownBy_trans HG2.out (grownBy_of_below hb3))
    have HLO := Lib.hid (show w.heap.size ≤ LO by have := HG2.out.size; have := HLO2.out; omega)
    have HLs := Lib.hid (show LO ≤ (w2.alloc (.cells (Array.replicate (N + 32) (.int .u8 0)) 5)).heap.size by have := HLO2.out; simp; omega)
    clear hb3 HG2 HD2 HLO2
    generalize w2.alloc (.cells (Array.replicate (N + 32) (.int .u8 0)) 5) = w3 at *
    go_loopw [8] (fun x wr => ∃ (j : Nat) (ao : Option Addr) (no co : Nat), j ≤ expN N ∧ x = .slice ao no co ∧ Hid (no = 32 * j) ∧ OwnB wr LO (.slice ao no co) (genO kk vv j) ∧ DAt wr G kk (genV kk vv j) cnt ∧ w.grownBy wr (some G) ∧ LO ≤ wr.heap.size) (fun x _ => N - slen x)
    case atStart => exact ⟨0, _, 0, _, Nat.zero_le _, rfl, rfl, HO3.out, HD3.out, HG3.out, HLs.out⟩
    case round =>
      obtain ⟨j, ao, no, co, hj, rfl, HN, hO, hD, hg, hLr⟩ := hrel
      have HO := Lib.hid hO
      have HD := Lib.hid hD
      have HGr := Lib.hid hg
      have HT := Lib.hid (Two.kept HTw.out hg HGt.out HGs.out)
      have HLr := Lib.hid hLr
      clear hO hD hg hLr
      by_cases hlt : no < N
      · have HJl := Lib.hid (show j + 1 ≤ expN N from expN_lt hj (by rw [← HN.out]; exact hlt))
        have HJN := Lib.hid (show 32 * j < 65536 by have := HN.out; have := HGN.out; omega)
        obtain ⟨VV, hVV⟩ : ∃ VV, VV = macL kk (genV kk vv j) := ⟨_, rfl⟩
        have HVV := Lib.hid hVV
        have HVL := Lib.hid (show VV.length = 32 by rw [hVV]; exact macL_len _ _)
        clear hVV hj
        have HLw := HLO
        go_wp2
        refine wp_region_held_drew (S := fun _ => True) (by kernel_rfl) trivial (fun _ => ?_)
        have HTR := Lib.hid trivial
        have hb : Below wr.heap.size wr (World.drew wr) := (Below.refl _ _).drew
        have HBv := Lib.hid hb
        have HD := Lib.hid (HD.out.on hb)
        have HO := Lib.hid (HO.out.on hb)
        have HT := Lib.hid (HT.out.on hb)
        clear hb
        generalize World.drew wr = v0 at *
        try simp only [Act.put, List.setIfInBounds_toArray, List.set_cons_succ, List.set_cons_zero]
        refine wpAnyH_take (i := 0) (oi := ⟨some 43, .move (.tmp 0), 75, _, _, none⟩) (v := .pointer (some ⟨G, 0, none⟩)) rfl (by kernel_rfl) (by kernel_rfl) (by kernel_rfl) (fun _ _ _ h => h) (Or.inl ⟨by rfl, fun _ _ => by go_simp⟩) HTR.out ?_
        try simp only [Act.put, List.setIfInBounds_toArray, List.set_cons_succ, List.set_cons_zero]
        refine wpAnyH_take (i := 1) (oi := ⟨some 44, .move (.tmp 0), 75, _, _, none⟩) (v := .pointer (some ⟨G, 0, none⟩)) rfl (by kernel_rfl) (by kernel_rfl) (by kernel_rfl) (fun _ _ _ h => h) (Or.inl ⟨by rfl, fun _ _ => by go_simp⟩) HTR.out ?_
        try simp only [Act.put, List.setIfInBounds_toArray, List.set_cons_succ, List.set_cons_zero]
        refine wpAnyH_take (i := 2) (oi := ⟨some 45, .nilCheck (.tmp 44), _, _, _, none⟩) (v := .pointer (some ⟨G, 0, none⟩)) rfl (by kernel_rfl) (by kernel_rfl) (by kernel_rfl) (fun _ _ _ h => h) (Or.inl ⟨by rfl, fun _ _ => by go_simp⟩) HTR.out ?_
        try simp only [Act.put, List.setIfInBounds_toArray, List.set_cons_succ, List.set_cons_zero]
        refine wpAnyH_take (i := 3) (oi := ⟨some 46, .fieldAddr 155 (.tmp 45) 1, _, _, _, none⟩) (v := .pointer (some ⟨G, 1, none⟩)) rfl (by kernel_rfl) (by kernel_rfl) (by kernel_rfl) (fun _ _ _ h => h) (Or.inl ⟨by rfl, fun _ _ => by go_simp⟩) HTR.out ?_
        try simp only [Act.put, List.setIfInBounds_toArray, List.set_cons_succ, List.set_cons_zero]
        refine wpAnyH_take (i := 4) (oi := ⟨some 47, .slice 31 (.tmp 46) none none none, 28, _, _, none⟩) (v := .slice (some ⟨G, 1, none⟩) 32 32) rfl (by kernel_rfl) (by kernel_rfl) (by kernel_rfl) (fun _ _ _ h => h) (Or.inl ⟨by rfl, fun _ _ => by go_simp⟩) HTR.out ?_
        try simp only [Act.put, List.setIfInBounds_toArray, List.set_cons_succ, List.set_cons_zero]
        refine wpAnyH_take (i := 5) (oi := ⟨some 48, .move (.tmp 0), 75, _, _, none⟩) (v := .pointer (some ⟨G, 0, none⟩)) rfl (by kernel_rfl) (by kernel_rfl) (by kernel_rfl) (fun _ _ _ h => h) (Or.inl ⟨by rfl, fun _ _ => by go_simp⟩) HTR.out ?_
        try simp only [Act.put, List.setIfInBounds_toArray, List.set_cons_succ, List.set_cons_zero]
        refine wpAnyH_take (i := 6) (oi := ⟨some 49, .nilCheck (.tmp 48), _, _, _, none⟩) (v := .pointer (some ⟨G, 0, none⟩)) rfl (by kernel_rfl) (by kernel_rfl) (by kernel_rfl) (fun _ _ _ h => h) (Or.inl ⟨by rfl, fun _ _ => by go_simp⟩) HTR.out ?_
        try simp only [Act.put, List.setIfInBounds_toArray, List.set_cons_succ, List.set_cons_zero]
        refine wpAnyH_take (i := 7) (oi := ⟨some 50, .fieldAddr 155 (.tmp 49) 2, _, _, _, none⟩) (v := .pointer (some ⟨G, 33, none⟩)) rfl (by kernel_rfl) (by kernel_rfl) (by kernel_rfl) (fun _ _ _ h => h) (Or.inl ⟨by rfl, fun _ _ => by go_simp⟩) HTR.out ?_
        try simp only [Act.put, List.setIfInBounds_toArray, List.set_cons_succ, List.set_cons_zero]
        refine wpAnyH_take (i := 8) (oi := ⟨some 51, .slice 31 (.tmp 50) none none none, 28, _, _, none⟩) (v := .slice (some ⟨G, 33, none⟩) 32 32) rfl (by kernel_rfl) (by kernel_rfl) (by kernel_rfl) (fun _ _ _ h => h) (Or.inl ⟨by rfl, fun _ _ => by go_simp⟩) HTR.out ?_
        try simp only [Act.put, List.setIfInBounds_toArray, List.set_cons_succ, List.set_cons_zero]
        refine wpAnyH_ready (rs := [9]) (by kernel_rfl) (by simp) ?_
        refine AllReadyH.cons (o := ⟨some 52, .buildSlice 35 1 #[(0, .tmp 51)], 35, _, _, none⟩) rfl (fun K hK => ?_) AllReadyH.nil
        go_simp
        have BJ := Blk.new v0 #[.slice (some ⟨G, 33, none⟩) 32 32] 28
        have hb := below_one' v0 (.cells #[.slice (some ⟨G, 33, none⟩) 32 32] 28)
        generalize World.alloc v0 _ = v1 at *
        have HD := Lib.hid (HD.out.on hb)
        have HO := Lib.hid (HO.out.on hb)
        have HT := Lib.hid (HT.out.on hb)
        have HBv := Lib.hid (HBv.out.trans (hb.mono HBv.out.size))
        replace BJ := Lib.hid BJ
        clear hb
        refine hK _ _ HTR.out (fun _ => ?_)
        clear hK K
        try simp only [Act.put, List.setIfInBounds_toArray, List.set_cons_succ, List.set_cons_zero]
        refine wpAnyH_ready (rs := [10]) (by kernel_rfl) (by simp) ?_
        refine AllReadyH.cons (o := ⟨some 53, .call { callee := .value (.func 40), args := #[.tmp 47, .tmp 52], argTypes := #[28, 35] }, 31, _, _, none⟩) rfl (fun K hK => ?_) AllReadyH.nil
        go_simp
        refine (mac_blk1 v1 _ 28 BJ.out HD.out.txtK HD.out.txtV HT.out (by rw [HD.out.kl]; omega) (by rw [HD.out.vl]; omega)).mono ?_
        rintro e v2 ⟨he, hb⟩
        rw [← HVV.out] at he
        subst he
        have HD := Lib.hid (HD.out.on hb)
        have HO := Lib.hid (HO.out.on hb)
        have HT := Lib.hid (HT.out.on hb)
        have HBv := Lib.hid (HBv.out.trans (hb.mono HBv.out.size))
        have BJ := Lib.hid (BJ.out.on hb)
        clear hb
        refine hK _ _ HTR.out (fun _ => ?_)
        clear hK K
        try simp only [Act.put, List.setIfInBounds_toArray, List.set_cons_succ, List.set_cons_zero]
        refine wpAnyH_take (i := 11) (oi := ⟨some 54, .nilCheck (.tmp 43), _, _, _, none⟩) (v := .pointer (some ⟨G, 0, none⟩)) rfl (by kernel_rfl) (by kernel_rfl) (by kernel_rfl) (fun _ _ _ h => h) (Or.inl ⟨by rfl, fun _ _ => by go_simp⟩) HTR.out ?_
        try simp only [Act.put, List.setIfInBounds_toArray, List.set_cons_succ, List.set_cons_zero]
        refine wpAnyH_take (i := 12) (oi := ⟨some 55, .fieldAddr 155 (.tmp 54) 2, _, _, _, none⟩) (v := .pointer (some ⟨G, 33, none⟩)) rfl (by kernel_rfl) (by kernel_rfl) (by kernel_rfl) (fun _ _ _ h => h) (Or.inl ⟨by rfl, fun _ _ => by go_simp⟩) HTR.out ?_
        try simp only [Act.put, List.setIfInBounds_toArray, List.set_cons_succ, List.set_cons_zero]
        refine wpAnyH_ready (rs := [13]) (by kernel_rfl) (by simp) ?_
        refine AllReadyH.cons (o := ⟨none, .store 31 (.tmp 55) (.tmp 53), 0, _, _, none⟩) rfl (fun K hK => ?_) AllReadyH.nil
        rw [if_pos (by rfl)]
        refine wp_store_sub 31 (.tmp 55) (.tmp 53) (by rfl) G 33 (barr VV) (by rfl) (by rfl) HD.out.blk (by rw [dcells_size HD.out.kl HD.out.vl, barr_size, HVL.out]; omega) (by rw [barr_size, HVL.out]; exact size_u8x32) (barr_one_all _) ?_
        intro W10 hW10 p10
        refine hK _ _ trivial (fun _ => ?_)
        clear hK K
        rw [dcells_splice_v HD.out.kl HD.out.vl VV HVL.out] at p10
        have HD10 := Lib.hid (DAt.mk HD.out.kl HVL.out p10)
        have HO10 := Lib.hid (HO.out.grown (row_of_wrote hW10) (HO.out.notG HGlo.out))
        have HL10 := Lib.hid (Nat.le_trans HLr.out (Nat.le_trans HBv.out.size (row_of_wrote hW10).size))
        have hg10 := Lib.hid (grownBy_trans HGr.out (grownBy_trans (grownBy_of_below HBv.out) (row_of_wrote hW10)))
        clear p10 hW10 HD HT HBv HO
        refine wpAnyH_done (by kernel_rfl) ?_ _
        go_wp2_with (refine wpList_append_txt rfl (.tmp 56) (.tmp 60) rfl LO _ (genO kk vv j) (by rfl) HO10.out _ _ _ VV (by rfl) HD10.out.txtV.len HD10.out.txtV.rd (by have := HGN.out; have := HVL.out; have := HJN.out; rw [genO_len]; omega) (Nat.le_trans HL10.out (Nat.le_refl _)) ?_; intro a4 n4 c4 w4 hO4 hg4; have HO4 := Lib.hid hO4; have HG4 := Lib.hid (hg10.out.andThen hg4 (fun k hk => Or.inl (Nat.le_trans HLO.out (HO10.out.lt k hk).1))); have HD4 := Lib.hid (HD10.out.grown hg4 (by rcases HO10.out.notG HGlo.out with h | h; rw [h]; simp; exact Ne.symm h)); have HL4 := Lib.hid (Nat.le_trans HL10.out hg4.size); clear hg4 hO4)
        have e9 : (genO kk vv j ++ VV) = genO kk vv (j + 1) := by rw [HVV.out]; rfl
        rw [e9] at HO4
        have HN4 := Lib.hid (show n4 = 32 * (j + 1) by have h := HO4.out.len; rw [genO_len] at h; exact h)
        clear e9
        go_roundw
        case rel =>
          refine ⟨j + 1, _, n4, _, HJl.out, rfl, HN4.out, HO4.out, ?_, HG4.out, HL4.out⟩
          have h := HD4.out
          rw [HVV.out] at h
          exact h
        case measure =>
          have h1 := HN4.out
          have h2 := HN.out
          simp only [slen]; omega
      · obtain rfl : j = expN N := expN_eq hj (by rw [← HN.out]; exact hlt)
        have hNn : N ≤ no := by omega
        have hco : N ≤ co := by have := HO.out.txt.fit; omega
        have HN2 := Lib.hid (show N ≤ no from hNn)
        have hbp := below_one' wr (.cells #[.slice b m d] 28)
        have HAr := Lib.hid (HA.out.off HGr.out HFA.out)
        have HP5 := Lib.hid (parts_far1 (G := G) HAr.out HFA.out hbp (by have := HD.out.blk.lt; omega) (Blk.new wr #[.slice b m d] 28))
        have HD5 := Lib.hid (HD.out.on hbp)
        have HT5 := Lib.hid (HT.out.on hbp)
        have HO5 := Lib.hid (HO.out.on hbp)
        have HG5 := Lib.hid (grownBy_trans HGr.out (grownBy_of_below hbp))
        clear hbp HO HD HGr HT hj HD3 HG3 HO3
        go_wp2_with fail
        refine (update_walk kk (genV kk vv (expN N)) cnt G [add] _ 1 1 rfl _ HD5.out HP5.out HT5.out HGt.out HGs.out (by simp) (by have h1 := HAL.out; simp; omega)).mono ?_
        rintro e w6 ⟨rfl, hg6, hD6⟩
        rw [show [add].flatten = add by simp] at hD6
        have HO6 := Lib.hid (HO5.out.grown hg6 (HO5.out.notG HGlo.out))
        have HG6 := Lib.hid (grownBy_trans HG5.out hg6)
        have HD6 := Lib.hid hD6
        have c0 := hD6.blk.cell 65 (dcells_cnt hD6.kl hD6.vl)
        have c1 := hD6.blk.free 65
        have f1 : IntKind.i64.wrap (cnt + 1) = cnt + 1 := IntWalk.i64_in _ (by have := HC0.out; have := HC1.out; omega)
        clear hg6 hD6 HO5 HG5 HD5 HP5 HAr HT5
        have HTx := Lib.hid (show Txt (w6.setCell ⟨G, 65, none⟩ (.int .i64 (cnt + 1))) ao no co (genO kk vv (expN N)) from (HO6.out.grown (grownBy_set (World.grownBy.refl w6 (some G)) 65 (.int .i64 (cnt + 1))) (HO6.out.notG HGlo.out)).txt)
        obtain ⟨CS, hs, hT7⟩ := slice_nn HTx.out HN2.out
        have HT7 := Lib.hid hT7
        clear hT7
        go_wp2
        go_ret2
        refine ⟨ao, CS, rfl, ?_, ?_, grownBy_set HG6.out _ _, ?_⟩
        · have h := HT7.out
          rw [HKE.out, HVE.out] at h
          exact h
        · intro b' o' e'
          obtain ⟨a'', c'', e'', _, _, _, h4, _⟩ := HO6.out.form
          simp only [Value.slice.injEq] at e''
          exact Nat.le_trans HLO.out (h4 b' o' (e''.1.symm.trans e')).1
        · have h := HD6.out.blk.set 65 (.int .i64 (cnt + 1))
          rw [dcells_set_cnt HD6.out.kl HD6.out.vl, HKE.out, HVE.out] at h
          exact ⟨updK_len _ _ _, updV_len _ _ _, h⟩
  · have hz' : ¬ (0 : Int) < (m : Int) := by omega
    have HAN := Lib.hid (show add = [] by have := HML.out; exact List.eq_nil_of_length_eq_zero (by omega))
    obtain ⟨kk, hkk⟩ : ∃ z, z = k := ⟨_, rfl⟩
    obtain ⟨vv, hvv⟩ : ∃ z, z = v := ⟨_, rfl⟩
    have HKE := Lib.hid (show kk = preK k v add by rw [hkk]; unfold preK; rw [if_pos HAN.out])
    have HVE := Lib.hid (show vv = preV k v add by rw [hvv]; unfold preV; rw [if_pos HAN.out])
    have HD2 := Lib.hid (show DAt w G kk vv cnt by rw [hkk, hvv]; exact HD0.out)
    have HG2 := Lib.hid (World.grownBy.refl w (some G))
    clear hkk hvv HAN
    obtain ⟨LO, hLOe⟩ : ∃ z, z = w.heap.size := ⟨_, rfl⟩
    have HGlo := Lib.hid (show G < LO by have := HD2.out.blk.lt; omega)
    have HLO2 := Lib.hid hLOe
    clear hLOe
    go_enter Tryd.func63, Tryd.ntmps63
    go_wp2_with (first | (go_at_call 115; refine (dnone_at HD0.out).mono ?_; rintro e w' ⟨rfl, rfl⟩) | (refine wpList_make_abs rfl 28 (.const (.int .i64 0)) (.tmp 37) rfl 5 (.int .u8 0) 1 Tryd.underlying28 info_u8 rfl .i64 .i64 0 (N + 32) rfl (by first | rfl | go_simp) (Nat.zero_le _) (by omega) (by omega) ?_))
    have hb3 := below_one' w (.cells (Array.replicate (N + 32) (.int .u8 0)) 5)
    have HO3 := Lib.hid (OwnB.room w (lo := LO) (C := N + 32) (by rw [HLO2.out]; exact Nat.le_refl _) (by unfold maxLen; omega) (.int .u8 0))
    have HD3 := Lib.hid (HD2.out.on hb3)
    have HG3 := Lib.hid (grownBy_trans HG2.out (grownBy_of_below hb3))
    have HLO := Lib.hid (show w.heap.size ≤ LO by have := HG2.out.size; have := HLO2.out; omega)
    have HLs := Lib.hid (show LO ≤ (w.alloc (.cells (Array.replicate (N + 32) (.int .u8 0)) 5)).heap.size by have := HLO2.out; simp; omega)
    clear hb3 HG2 HD2 HLO2
    generalize w.alloc (.cells (Array.replicate (N + 32) (.int .u8 0)) 5) = w3 at *
    go_loopw [8] (fun x wr => ∃ (j : Nat) (ao : Option Addr) (no co : Nat), j ≤ expN N ∧ x = .slice ao no co ∧ Hid (no = 32 * j) ∧ OwnB wr LO (.slice ao no co) (genO kk vv j) ∧ DAt wr G kk (genV kk vv j) cnt ∧ w.grownBy wr (some G) ∧ LO ≤ wr.heap.size) (fun x _ => N - slen x)
    case atStart => exact ⟨0, _, 0, _, Nat.zero_le _, rfl, rfl, HO3.out, HD3.out, HG3.out, HLs.out⟩
    case round =>
      obtain ⟨j, ao, no, co, hj, rfl, HN, hO, hD, hg, hLr⟩ := hrel
      have HO := Lib.hid hO
      have HD := Lib.hid hD
      have HGr := Lib.hid hg
      have HT := Lib.hid (Two.kept HTw.out hg HGt.out HGs.out)
      have HLr := Lib.hid hLr
      clear hO hD hg hLr
      by_cases hlt : no < N
      · have HJl := Lib.hid (show j + 1 ≤ expN N from expN_lt hj (by rw [← HN.out]; exact hlt))
        have HJN := Lib.hid (show 32 * j < 65536 by have := HN.out; have := HGN.out; omega)
        obtain ⟨VV, hVV⟩ : ∃ VV, VV = macL kk (genV kk vv j) := ⟨_, rfl⟩
        have HVV := Lib.hid hVV
        have HVL := Lib.hid (show VV.length = 32 by rw [hVV]; exact macL_len _ _)
        clear hVV hj
        have HLw := HLO
        go_wp2
        refine wp_region_held_drew (S := fun _ => True) (by kernel_rfl) trivial (fun _ => ?_)
        have HTR := Lib.hid trivial
        have hb : Below wr.heap.size wr (World.drew wr) := (Below.refl _ _).drew
        have HBv := Lib.hid hb
        have HD := Lib.hid (HD.out.on hb)
        have HO := Lib.hid (HO.out.on hb)
        have HT := Lib.hid (HT.out.on hb)
        clear hb
        generalize World.drew wr = v0 at *
        try simp only [Act.put, List.setIfInBounds_toArray, List.set_cons_succ, List.set_cons_zero]
        refine wpAnyH_take (i := 0) (oi := ⟨some 43, .move (.tmp 0), 75, _, _, none⟩) (v := .pointer (some ⟨G, 0, none⟩)) rfl (by kernel_rfl) (by kernel_rfl) (by kernel_rfl) (fun _ _ _ h => h) (Or.inl ⟨by rfl, fun _ _ => by go_simp⟩) HTR.out ?_
        try simp only [Act.put, List.setIfInBounds_toArray, List.set_cons_succ, List.set_cons_zero]
        refine wpAnyH_take (i := 1) (oi := ⟨some 44, .move (.tmp 0), 75, _, _, none⟩) (v := .pointer (some ⟨G, 0, none⟩)) rfl (by kernel_rfl) (by kernel_rfl) (by kernel_rfl) (fun _ _ _ h => h) (Or.inl ⟨by rfl, fun _ _ => by go_simp⟩) HTR.out ?_
        try simp only [Act.put, List.setIfInBounds_toArray, List.set_cons_succ, List.set_cons_zero]
        refine wpAnyH_take (i := 2) (oi := ⟨some 45, .nilCheck (.tmp 44), _, _, _, none⟩) (v := .pointer (some ⟨G, 0, none⟩)) rfl (by kernel_rfl) (by kernel_rfl) (by kernel_rfl) (fun _ _ _ h => h) (Or.inl ⟨by rfl, fun _ _ => by go_simp⟩) HTR.out ?_
        try simp only [Act.put, List.setIfInBounds_toArray, List.set_cons_succ, List.set_cons_zero]
        refine wpAnyH_take (i := 3) (oi := ⟨some 46, .fieldAddr 155 (.tmp 45) 1, _, _, _, none⟩) (v := .pointer (some ⟨G, 1, none⟩)) rfl (by kernel_rfl) (by kernel_rfl) (by kernel_rfl) (fun _ _ _ h => h) (Or.inl ⟨by rfl, fun _ _ => by go_simp⟩) HTR.out ?_
        try simp only [Act.put, List.setIfInBounds_toArray, List.set_cons_succ, List.set_cons_zero]
        refine wpAnyH_take (i := 4) (oi := ⟨some 47, .slice 31 (.tmp 46) none none none, 28, _, _, none⟩) (v := .slice (some ⟨G, 1, none⟩) 32 32) rfl (by kernel_rfl) (by kernel_rfl) (by kernel_rfl) (fun _ _ _ h => h) (Or.inl ⟨by rfl, fun _ _ => by go_simp⟩) HTR.out ?_
        try simp only [Act.put, List.setIfInBounds_toArray, List.set_cons_succ, List.set_cons_zero]
        refine wpAnyH_take (i := 5) (oi := ⟨some 48, .move (.tmp 0), 75, _, _, none⟩) (v := .pointer (some ⟨G, 0, none⟩)) rfl (by kernel_rfl) (by kernel_rfl) (by kernel_rfl) (fun _ _ _ h => h) (Or.inl ⟨by rfl, fun _ _ => by go_simp⟩) HTR.out ?_
        try simp only [Act.put, List.setIfInBounds_toArray, List.set_cons_succ, List.set_cons_zero]
        refine wpAnyH_take (i := 6) (oi := ⟨some 49, .nilCheck (.tmp 48), _, _, _, none⟩) (v := .pointer (some ⟨G, 0, none⟩)) rfl (by kernel_rfl) (by kernel_rfl) (by kernel_rfl) (fun _ _ _ h => h) (Or.inl ⟨by rfl, fun _ _ => by go_simp⟩) HTR.out ?_
        try simp only [Act.put, List.setIfInBounds_toArray, List.set_cons_succ, List.set_cons_zero]
        refine wpAnyH_take (i := 7) (oi := ⟨some 50, .fieldAddr 155 (.tmp 49) 2, _, _, _, none⟩) (v := .pointer (some ⟨G, 33, none⟩)) rfl (by kernel_rfl) (by kernel_rfl) (by kernel_rfl) (fun _ _ _ h => h) (Or.inl ⟨by rfl, fun _ _ => by go_simp⟩) HTR.out ?_
        try simp only [Act.put, List.setIfInBounds_toArray, List.set_cons_succ, List.set_cons_zero]
        refine wpAnyH_take (i := 8) (oi := ⟨some 51, .slice 31 (.tmp 50) none none none, 28, _, _, none⟩) (v := .slice (some ⟨G, 33, none⟩) 32 32) rfl (by kernel_rfl) (by kernel_rfl) (by kernel_rfl) (fun _ _ _ h => h) (Or.inl ⟨by rfl, fun _ _ => by go_simp⟩) HTR.out ?_
        try simp only [Act.put, List.setIfInBounds_toArray, List.set_cons_succ, List.set_cons_zero]
        refine wpAnyH_ready (rs := [9]) (by kernel_rfl) (by simp) ?_
        refine AllReadyH.cons (o := ⟨some 52, .buildSlice 35 1 #[(0, .tmp 51)], 35, _, _, none⟩) rfl (fun K hK => ?_) AllReadyH.nil
        go_simp
        have BJ := Blk.new v0 #[.slice (some ⟨G, 33, none⟩) 32 32] 28
        have hb := below_one' v0 (.cells #[.slice (some ⟨G, 33, none⟩) 32 32] 28)
        generalize World.alloc v0 _ = v1 at *
        have HD := Lib.hid (HD.out.on hb)
        have HO := Lib.hid (HO.out.on hb)
        have HT := Lib.hid (HT.out.on hb)
        have HBv := Lib.hid (HBv.out.trans (hb.mono HBv.out.size))
        replace BJ := Lib.hid BJ
        clear hb
        refine hK _ _ HTR.out (fun _ => ?_)
        clear hK K
        try simp only [Act.put, List.setIfInBounds_toArray, List.set_cons_succ, List.set_cons_zero]
        refine wpAnyH_ready (rs := [10]) (by kernel_rfl) (by simp) ?_
        refine AllReadyH.cons (o := ⟨some 53, .call { callee := .value (.func 40), args := #[.tmp 47, .tmp 52], argTypes := #[28, 35] }, 31, _, _, none⟩) rfl (fun K hK => ?_) AllReadyH.nil
        go_simp
        refine (mac_blk1 v1 _ 28 BJ.out HD.out.txtK HD.out.txtV HT.out (by rw [HD.out.kl]; omega) (by rw [HD.out.vl]; omega)).mono ?_
        rintro e v2 ⟨he, hb⟩
        rw [← HVV.out] at he
        subst he
        have HD := Lib.hid (HD.out.on hb)
        have HO := Lib.hid (HO.out.on hb)
        have HT := Lib.hid (HT.out.on hb)
        have HBv := Lib.hid (HBv.out.trans (hb.mono HBv.out.size))
        have BJ := Lib.hid (BJ.out.on hb)
        clear hb
        refine hK _ _ HTR.out (fun _ => ?_)
        clear hK K
        try simp only [Act.put, List.setIfInBounds_toArray, List.set_cons_succ, List.set_cons_zero]
        refine wpAnyH_take (i := 11) (oi := ⟨some 54, .nilCheck (.tmp 43), _, _, _, none⟩) (v := .pointer (some ⟨G, 0, none⟩)) rfl (by kernel_rfl) (by kernel_rfl) (by kernel_rfl) (fun _ _ _ h => h) (Or.inl ⟨by rfl, fun _ _ => by go_simp⟩) HTR.out ?_
        try simp only [Act.put, List.setIfInBounds_toArray, List.set_cons_succ, List.set_cons_zero]
        refine wpAnyH_take (i := 12) (oi := ⟨some 55, .fieldAddr 155 (.tmp 54) 2, _, _, _, none⟩) (v := .pointer (some ⟨G, 33, none⟩)) rfl (by kernel_rfl) (by kernel_rfl) (by kernel_rfl) (fun _ _ _ h => h) (Or.inl ⟨by rfl, fun _ _ => by go_simp⟩) HTR.out ?_
        try simp only [Act.put, List.setIfInBounds_toArray, List.set_cons_succ, List.set_cons_zero]
        refine wpAnyH_ready (rs := [13]) (by kernel_rfl) (by simp) ?_
        refine AllReadyH.cons (o := ⟨none, .store 31 (.tmp 55) (.tmp 53), 0, _, _, none⟩) rfl (fun K hK => ?_) AllReadyH.nil
        rw [if_pos (by rfl)]
        refine wp_store_sub 31 (.tmp 55) (.tmp 53) (by rfl) G 33 (barr VV) (by rfl) (by rfl) HD.out.blk (by rw [dcells_size HD.out.kl HD.out.vl, barr_size, HVL.out]; omega) (by rw [barr_size, HVL.out]; exact size_u8x32) (barr_one_all _) ?_
        intro W10 hW10 p10
        refine hK _ _ trivial (fun _ => ?_)
        clear hK K
        rw [dcells_splice_v HD.out.kl HD.out.vl VV HVL.out] at p10
        have HD10 := Lib.hid (DAt.mk HD.out.kl HVL.out p10)
        have HO10 := Lib.hid (HO.out.grown (row_of_wrote hW10) (HO.out.notG HGlo.out))
        have HL10 := Lib.hid (Nat.le_trans HLr.out (Nat.le_trans HBv.out.size (row_of_wrote hW10).size))
        have hg10 := Lib.hid (grownBy_trans HGr.out (grownBy_trans (grownBy_of_below HBv.out) (row_of_wrote hW10)))
        clear p10 hW10 HD HT HBv HO
        refine wpAnyH_done (by kernel_rfl) ?_ _
        go_wp2_with (refine wpList_append_txt rfl (.tmp 56) (.tmp 60) rfl LO _ (genO kk vv j) (by rfl) HO10.out _ _ _ VV (by rfl) HD10.out.txtV.len HD10.out.txtV.rd (by have := HGN.out; have := HVL.out; have := HJN.out; rw [genO_len]; omega) (Nat.le_trans HL10.out (Nat.le_refl _)) ?_; intro a4 n4 c4 w4 hO4 hg4; have HO4 := Lib.hid hO4; have HG4 := Lib.hid (hg10.out.andThen hg4 (fun k hk => Or.inl (Nat.le_trans HLO.out (HO10.out.lt k hk).1))); have HD4 := Lib.hid (HD10.out.grown hg4 (by rcases HO10.out.notG HGlo.out with h | h; rw [h]; simp; exact Ne.symm h)); have HL4 := Lib.hid (Nat.le_trans HL10.out hg4.size); clear hg4 hO4)
        have e9 : (genO kk vv j ++ VV) = genO kk vv (j + 1) := by rw [HVV.out]; rfl
        rw [e9] at HO4
        have HN4 := Lib.hid (show n4 = 32 * (j + 1) by have h := HO4.out.len; rw [genO_len] at h; exact h)
        clear e9
        go_roundw
        case rel =>
          refine ⟨j + 1, _, n4, _, HJl.out, rfl, HN4.out, HO4.out, ?_, HG4.out, HL4.out⟩
          have h := HD4.out
          rw [HVV.out] at h
          exact h
        case measure =>
          have h1 := HN4.out
          have h2 := HN.out
          simp only [slen]; omega
      · obtain rfl : j = expN N := expN_eq hj (by rw [← HN.out]; exact hlt)
        have hNn : N ≤ no := by omega
        have hco : N ≤ co := by have := HO.out.txt.fit; omega
        have HN2 := Lib.hid (show N ≤ no from hNn)
        have hbp := below_one' wr (.cells #[.slice b m d] 28)
        have HAr := Lib.hid (HA.out.off HGr.out HFA.out)
        have HP5 := Lib.hid (parts_far1 (G := G) HAr.out HFA.out hbp (by have := HD.out.blk.lt; omega) (Blk.new wr #[.slice b m d] 28))
        have HD5 := Lib.hid (HD.out.on hbp)
        have HT5 := Lib.hid (HT.out.on hbp)
        have HO5 := Lib.hid (HO.out.on hbp)
        have HG5 := Lib.hid (grownBy_trans HGr.out (grownBy_of_below hbp))
        clear hbp HO HD HGr HT hj HD3 HG3 HO3
        go_wp2_with fail
        refine (update_walk kk (genV kk vv (expN N)) cnt G [add] _ 1 1 rfl _ HD5.out HP5.out HT5.out HGt.out HGs.out (by simp) (by have h1 := HAL.out; simp; omega)).mono ?_
        rintro e w6 ⟨rfl, hg6, hD6⟩
        rw [show [add].flatten = add by simp] at hD6
        have HO6 := Lib.hid (HO5.out.grown hg6 (HO5.out.notG HGlo.out))
        have HG6 := Lib.hid (grownBy_trans HG5.out hg6)
        have HD6 := Lib.hid hD6
        have c0 := hD6.blk.cell 65 (dcells_cnt hD6.kl hD6.vl)
        have c1 := hD6.blk.free 65
        have f1 : IntKind.i64.wrap (cnt + 1) = cnt + 1 := IntWalk.i64_in _ (by have := HC0.out; have := HC1.out; omega)
        clear hg6 hD6 HO5 HG5 HD5 HP5 HAr HT5
        have HTx := Lib.hid (show Txt (w6.setCell ⟨G, 65, none⟩ (.int .i64 (cnt + 1))) ao no co (genO kk vv (expN N)) from (HO6.out.grown (grownBy_set (World.grownBy.refl w6 (some G)) 65 (.int .i64 (cnt + 1))) (HO6.out.notG HGlo.out)).txt)
        obtain ⟨CS, hs, hT7⟩ := slice_nn HTx.out HN2.out
        have HT7 := Lib.hid hT7
        clear hT7
        go_wp2
        go_ret2
        refine ⟨ao, CS, rfl, ?_, ?_, grownBy_set HG6.out _ _, ?_⟩
        · have h := HT7.out
          rw [HKE.out, HVE.out] at h
          exact h
        · intro b' o' e'
          obtain ⟨a'', c'', e'', _, _, _, h4, _⟩ := HO6.out.form
          simp only [Value.slice.injEq] at e''
          exact Nat.le_trans HLO.out (h4 b' o' (e''.1.symm.trans e')).1
        · have h := HD6.out.blk.set 65 (.int .i64 (cnt + 1))
          rw [dcells_set_cnt HD6.out.kl HD6.out.vl, HKE.out, HVE.out] at h
          exact ⟨updK_len _ _ _, updV_len _ _ _, h⟩
end Go.Proofs.YtgbahfggnbpnmaaDoor
