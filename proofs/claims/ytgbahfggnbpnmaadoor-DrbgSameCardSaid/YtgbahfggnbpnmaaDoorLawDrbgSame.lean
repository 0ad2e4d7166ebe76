import Derived.Test.YtgbahfggnbpnmaaDoorDrbgE
import Derived.Test.YtgbahfggnbpnmaaDoorLawDrbgParts
/-
  The walk of liverylaw05.DrbgSame.
-/
namespace Go.Proofs.YtgbahfggnbpnmaaDoor
open Go.RowKit
theorem range_on {w w' : World} {g k : Nat} {cs : List Value} (h : w.rangeAt g k cs) (hb : Below w.heap.size w w') : w'.rangeAt g k cs := fun j v hv => by
  have h := h j v hv
  exact (hb.cell (p := ⟨g, k + j, none⟩) (block_lt_of_cell h)).trans h
theorem yields_slc {o : Oper} {a : Act} {w : World} (x : Operand) (ho : o.op = .load 28 x) (p : Addr) (hx : a.eval x = .pointer (some p)) {A : Option Addr} {n c : Nat} (hc : w.cell? p = some (.slice A n c)) : (execOp a.eval o).run Tryd.prog w = .ok (.value (.slice A n c)) w := by
  unfold execOp
  simp only [ho, hx]
  go_simp
set_option maxRecDepth 100000 in
set_option maxHeartbeats 2000000 in
theorem drbgsame_walk (ent : List UInt8) (a : Option Addr) (n c : Nat) (os : List DOp) (b : Option Addr) (m d : Nat) (z y : Int) (w : World) (hE : Txt w a n c ent) (hO : OpsIn w b m d os) (hT : Two w) :
    Calls Tryd.prog 18 #[.slice a n c, .slice b m d, .int .i64 z, .int .i64 y] w fun e w' => e = .returned (.bool true) ∧ Below w.heap.size w w' := by
  have HE := Lib.hid hE
  have HO := Lib.hid hO
  have HT := Lib.hid hT
  have HNL := Lib.hid hE.len
  have HOL := Lib.hid hO.1
  clear hE hO hT
  by_cases k1 : longP ent
  · go_enter Tryd.func18, Tryd.ntmps18
    go_wp2_with fail
    refine (live5_walk w HT.out).mono ?_
    rintro e w1 ⟨rfl, hb1⟩
    have HB1 := Lib.hid hb1
    clear hb1
    go_wp2_with fail
    refine (long_yes k1 a n c HNL.out w1).mono ?_
    rintro e w' ⟨rfl, rfl⟩
    have HB2 := HB1
    go_wp2_with fail
    refine (live5_walk w' (HT.out.on HB2.out)).mono ?_
    rintro e w3 ⟨rfl, hb3⟩
    have HB3 := Lib.hid (HB2.out.trans (hb3.mono HB2.out.size))
    clear hb3
    go_wp2
    go_ret
    exact ⟨rfl, HB3.out⟩
  by_cases k2 : muchP os
  · go_enter Tryd.func18, Tryd.ntmps18
    go_wp2_with fail
    refine (live5_walk w HT.out).mono ?_
    rintro e w1 ⟨rfl, hb1⟩
    have HB1 := Lib.hid hb1
    clear hb1
    go_wp2_with fail
    refine (long_no k1 a n c HNL.out w1).mono ?_
    rintro e w' ⟨rfl, rfl⟩
    go_wp2_with fail
    refine (much_walk os b m d _ (HO.out.on HB1.out) true (by simp [k2])).mono ?_
    rintro e w2 ⟨rfl, hb2⟩
    have HB2 := Lib.hid (HB1.out.trans (hb2.mono HB1.out.size))
    clear hb2
    go_wp2_with fail
    refine (live5_walk w2 (HT.out.on HB2.out)).mono ?_
    rintro e w3 ⟨rfl, hb3⟩
    have HB3 := Lib.hid (HB2.out.trans (hb3.mono HB2.out.size))
    clear hb3
    go_wp2
    go_ret
    exact ⟨rfl, HB3.out⟩
  by_cases q3 : y < 0
  · go_enter Tryd.func18, Tryd.ntmps18
    go_wp2_with fail
    refine (live5_walk w HT.out).mono ?_
    rintro e w1 ⟨rfl, hb1⟩
    have HB1 := Lib.hid hb1
    clear hb1
    go_wp2_with fail
    refine (long_no k1 a n c HNL.out w1).mono ?_
    rintro e w' ⟨rfl, rfl⟩
    go_wp2_with fail
    refine (much_walk os b m d _ (HO.out.on HB1.out) false (by simp [k2])).mono ?_
    rintro e w2 ⟨rfl, hb2⟩
    have HB2 := Lib.hid (HB1.out.trans (hb2.mono HB1.out.size))
    clear hb2
    go_wp2_with fail
    refine (live5_walk w2 (HT.out.on HB2.out)).mono ?_
    rintro e w3 ⟨rfl, hb3⟩
    have HB3 := Lib.hid (HB2.out.trans (hb3.mono HB2.out.size))
    clear hb3
    go_wp2
    go_ret
    exact ⟨rfl, HB3.out⟩
  by_cases q4 : 600 < y
  · go_enter Tryd.func18, Tryd.ntmps18
    go_wp2_with fail
    refine (live5_walk w HT.out).mono ?_
    rintro e w1 ⟨rfl, hb1⟩
    have HB1 := Lib.hid hb1
    clear hb1
    go_wp2_with fail
    refine (long_no k1 a n c HNL.out w1).mono ?_
    rintro e w' ⟨rfl, rfl⟩
    go_wp2_with fail
    refine (much_walk os b m d _ (HO.out.on HB1.out) false (by simp [k2])).mono ?_
    rintro e w2 ⟨rfl, hb2⟩
    have HB2 := Lib.hid (HB1.out.trans (hb2.mono HB1.out.size))
    clear hb2
    go_wp2_with fail
    refine (live5_walk w2 (HT.out.on HB2.out)).mono ?_
    rintro e w3 ⟨rfl, hb3⟩
    have HB3 := Lib.hid (HB2.out.trans (hb3.mono HB2.out.size))
    clear hb3
    go_wp2
    go_ret
    exact ⟨rfl, HB3.out⟩
  by_cases q5 : z < 0
  · go_enter Tryd.func18, Tryd.ntmps18
    go_wp2_with fail
    refine (live5_walk w HT.out).mono ?_
    rintro e w1 ⟨rfl, hb1⟩
    have HB1 := Lib.hid hb1
    clear hb1
    go_wp2_with fail
    refine (long_no k1 a n c HNL.out w1).mono ?_
    rintro e w' ⟨rfl, rfl⟩
    go_wp2_with fail
    refine (much_walk os b m d _ (HO.out.on HB1.out) false (by simp [k2])).mono ?_
    rintro e w2 ⟨rfl, hb2⟩
    have HB2 := Lib.hid (HB1.out.trans (hb2.mono HB1.out.size))
    clear hb2
    go_wp2_with fail
    refine (live5_walk w2 (HT.out.on HB2.out)).mono ?_
    rintro e w3 ⟨rfl, hb3⟩
    have HB3 := Lib.hid (HB2.out.trans (hb3.mono HB2.out.size))
    clear hb3
    go_wp2
    go_ret
    exact ⟨rfl, HB3.out⟩
  by_cases q6 : y < z
  · go_enter Tryd.func18, Tryd.ntmps18
    go_wp2_with fail
    refine (live5_walk w HT.out).mono ?_
    rintro e w1 ⟨rfl, hb1⟩
    have HB1 := Lib.hid hb1
    clear hb1
    go_wp2_with fail
    refine (long_no k1 a n c HNL.out w1).mono ?_
    rintro e w' ⟨rfl, rfl⟩
    go_wp2_with fail
    refine (much_walk os b m d _ (HO.out.on HB1.out) false (by simp [k2])).mono ?_
    rintro e w2 ⟨rfl, hb2⟩
    have HB2 := Lib.hid (HB1.out.trans (hb2.mono HB1.out.size))
    clear hb2
    go_wp2_with fail
    refine (live5_walk w2 (HT.out.on HB2.out)).mono ?_
    rintro e w3 ⟨rfl, hb3⟩
    have HB3 := Lib.hid (HB2.out.trans (hb3.mono HB2.out.size))
    clear hb3
    go_wp2
    go_ret
    exact ⟨rfl, HB3.out⟩
  have HEL := Lib.hid (show ent.length ≤ 9000 by unfold longP at k1; omega)
  obtain ⟨er, her⟩ : ∃ e, e = mayE ent [[], []] := ⟨_, rfl⟩
  have HER := Lib.hid her
  by_cases he : mayE ent [[], []] = 0
  · have HNE := Lib.hid he
    have hmo : m ≤ 40 := by unfold muchP at k2; have := HOL.out; omega
    clear he her
    go_enter Tryd.func18, Tryd.ntmps18
    go_wp2_with fail
    refine (live5_walk w HT.out).mono ?_
    rintro e w1 ⟨rfl, hb1⟩
    have HB1 := Lib.hid hb1
    clear hb1
    go_wp2_with fail
    refine (long_no k1 a n c HNL.out w1).mono ?_
    rintro e w' ⟨rfl, rfl⟩
    go_wp2_with fail
    refine (much_walk os b m d _ (HO.out.on HB1.out) false (by simp [k2])).mono ?_
    rintro e w2 ⟨rfl, hb2⟩
    have HB2 := Lib.hid (HB1.out.trans (hb2.mono HB1.out.size))
    clear hb2
    go_wp2_with fail
    refine (dnew_any ent [] [] a none none n c 0 0 0 0 w2 (HE.out.on HB2.out) (Txt.nil _ 0) (Txt.nil _ 0) (HT.out.on HB2.out) HNE.out).mono ?_
    rintro e w3 ⟨Ga, rfl, hG, hD, hb3⟩
    obtain ⟨s0, hs0⟩ : ∃ s, s = DS.mk (updK z32 (ones 32) (ent ++ ([] ++ []))) (updV z32 (ones 32) (ent ++ ([] ++ []))) 1 := ⟨_, rfl⟩
    rw [← hs0] at hD
    have HS0 := Lib.hid hs0
    have HGa := Lib.hid (Nat.le_trans HB2.out.size hG)
    have HDa3 := Lib.hid hD
    have HB3 := Lib.hid (HB2.out.trans (hb3.mono HB2.out.size))
    clear hb3 hG hD hs0
    go_wp2_with fail
    refine (join1 w3 28 _ rfl (HE.out.on HB3.out) (by have := HEL.out; omega)).mono ?_
    rintro e w4 ⟨aj, nj, cj, rfl, hO4, hb4⟩
    have HB4 := Lib.hid (HB3.out.trans (hb4.mono HB3.out.size))
    have HJ := Lib.hid hO4.txt
    have HDa4 := Lib.hid (HDa3.out.on hb4)
    clear hO4 hb4 HDa3
    go_wp2_with fail
    refine (dnew_any ent [] [] aj none none nj cj 0 0 0 0 w4 HJ.out (Txt.nil _ 0) (Txt.nil _ 0) (HT.out.on HB4.out) HNE.out).mono ?_
    rintro e w5 ⟨Gb, rfl, hG, hD, hb5⟩
    rw [← HS0.out] at hD
    have HGb := Lib.hid (Nat.le_trans HB4.out.size hG)
    have HGn := Lib.hid (show Gb ≠ Ga by have := HDa4.out.1.blk.lt; omega)
    have HB5 := Lib.hid (HB4.out.trans (hb5.mono HB4.out.size))
    have HDa5 := Lib.hid (HDa4.out.on hb5)
    have HDb5 := Lib.hid hD
    clear hb5 hG hD HDa4 HJ
    go_wp2
    go_loopw [84] (fun x wr => ∃ (i : Nat) (s : DS), i ≤ m ∧ x = .int .i64 (i : Nat) ∧ s.At wr Ga ∧ s.At wr Gb ∧ Below w.heap.size w wr) (fun x _ => m - (intOf x).toNat)
    case atStart => exact ⟨0, s0, Nat.zero_le _, rfl, HDa5.out, HDb5.out, HB5.out⟩
    case round =>
      obtain ⟨i, s, hi, rfl, hDa, hDb, hb⟩ := hrel
      have HDa := Lib.hid hDa
      have HDb := Lib.hid hDb
      have HBr := Lib.hid hb
      clear hDa hDb hb HDa5 HDb5 HB5 HB4 HB3 HB2 HB1
      by_cases hlt : i < m
      · obtain ⟨g, o, rfl, _, ab, aa, nb, cb, na, ca, hr, htb, hta⟩ := HO.out.2.2.2 i (by have := HOL.out; omega)
        obtain ⟨op, hop⟩ : ∃ op, op = os.getD i dop0 := ⟨_, rfl⟩
        rw [← hop] at hr htb hta
        have HR := Lib.hid (range_on hr HBr.out)
        have HTB := Lib.hid htb
        have HTA := Lib.hid hta
        clear hr htb hta hop
        have HZ := Lib.hid (show (Tryd.prog.info? 84).map (·.size) = some (ocells op ab aa nb cb na ca).toArray.size from size_dop)
        have HXa := Lib.hid (show wr.heap.size ≠ Ga by have := HDa.out.1.blk.lt; omega)
        have HXb := Lib.hid (show wr.heap.size ≠ Gb by have := HDb.out.1.blk.lt; omega)
        cases hres : op.res with
        | true =>
          go_wp2_with (first | (refine wpList_load_mid rfl 84 (.tmp 86) rfl g (o + i * 5) rfl (ocells op ab aa nb cb na ca) _ HR.out Tryd.underlying84 rfl size_dop ?_) | (refine wpList_store_abs rfl 84 (.tmp 14) (.tmp 87) rfl wr.heap.size (ocells op ab aa nb cb na ca).toArray (by rfl) (by rfl) 84 _ (Blk.new wr _ _) HZ.out (by rfl) (ocells_one _ _ _ _ _ _ _) ?_; intro W hW p5; have hbW := hW.below ((Below.refl _ wr).alloc (Nat.le_refl _) _) (Nat.le_refl _); have HBw := Lib.hid (HBr.out.trans (hbW.mono HBr.out.size)); have HDa := Lib.hid (HDa.out.on hbW); have HDb := Lib.hid (HDb.out.on hbW); have BX := Lib.hid p5; have b0 := p5.cell 0 (ocell0 _ _ _ _ _ _ _); rw [hres] at b0; have b1 := p5.cell 1 (ocell1 _ _ _ _ _ _ _); have b3 := p5.cell 3 (ocell3 _ _ _ _ _ _ _); clear hW p5 hbW))
          obtain ⟨er, her⟩ : ∃ z, z = mayE op.b [op.add] := ⟨_, rfl⟩
          have HER := Lib.hid her
          clear her
          generalize hgx : wr.heap.size = gx at *
          clear hgx
          go_wp2
          refine wp_region_held_drew (S := fun w' => Blk w' gx (ocells op ab aa nb cb na ca).toArray 84) (by kernel_rfl) BX.out.drew (fun _ => ?_)
          have hb : Below W.heap.size W (World.drew W) := (Below.refl _ _).drew
          have BX := Lib.hid (BX.out.on hb)
          have HDa := Lib.hid (HDa.out.on hb)
          have HDb := Lib.hid (HDb.out.on hb)
          have HBw := Lib.hid (HBw.out.trans (hb.mono HBw.out.size))
          clear hb
          generalize World.drew W = v0 at *
          try simp only [Act.put, List.setIfInBounds_toArray, List.set_cons_succ, List.set_cons_zero]
          refine wpAnyH_take (i := 0) (oi := ⟨some 90, .move (.tmp 9), 75, _, _, none⟩) (v := .pointer (some ⟨Ga, 0, none⟩)) rfl (by kernel_rfl) (by kernel_rfl) (by kernel_rfl) (fun _ _ _ h => h) (Or.inl ⟨by rfl, fun _ _ => by go_simp⟩) BX.out ?_
          try simp only [Act.put, List.setIfInBounds_toArray, List.set_cons_succ, List.set_cons_zero]
          refine wpAnyH_take (i := 1) (oi := ⟨some 91, .fieldAddr 84 (.tmp 14) 2, _, _, _, none⟩) (v := .pointer (some ⟨gx, 2, none⟩)) rfl (by kernel_rfl) (by kernel_rfl) (by kernel_rfl) (fun _ _ _ h => h) (Or.inl ⟨by rfl, fun _ _ => by go_simp⟩) BX.out ?_
          try simp only [Act.put, List.setIfInBounds_toArray, List.set_cons_succ, List.set_cons_zero]
          refine wpAnyH_take (i := 2) (oi := ⟨some 92, .load 28 (.tmp 91), 28, _, _, none⟩) (v := .slice ab nb cb) rfl (by kernel_rfl) (by kernel_rfl) (by kernel_rfl) (fun _ _ _ h => h) (Or.inl ⟨by rfl, fun vv hvv => yields_slc (.tmp 91) rfl ⟨gx, 2, none⟩ rfl (hvv.cell 2 (ocell2 _ _ _ _ _ _ _))⟩) BX.out ?_
          try simp only [Act.put, List.setIfInBounds_toArray, List.set_cons_succ, List.set_cons_zero]
          refine wpAnyH_take (i := 3) (oi := ⟨some 93, .fieldAddr 84 (.tmp 14) 3, _, _, _, none⟩) (v := .pointer (some ⟨gx, 3, none⟩)) rfl (by kernel_rfl) (by kernel_rfl) (by kernel_rfl) (fun _ _ _ h => h) (Or.inl ⟨by rfl, fun _ _ => by go_simp⟩) BX.out ?_
          try simp only [Act.put, List.setIfInBounds_toArray, List.set_cons_succ, List.set_cons_zero]
          refine wpAnyH_take (i := 4) (oi := ⟨some 94, .load 28 (.tmp 93), 28, _, _, none⟩) (v := .slice aa na ca) rfl (by kernel_rfl) (by kernel_rfl) (by kernel_rfl) (fun _ _ _ h => h) (Or.inl ⟨by rfl, fun vv hvv => yields_slc (.tmp 93) rfl ⟨gx, 3, none⟩ rfl (hvv.cell 3 (ocell3 _ _ _ _ _ _ _))⟩) BX.out ?_
          try simp only [Act.put, List.setIfInBounds_toArray, List.set_cons_succ, List.set_cons_zero]
          refine wpAnyH_take (i := 6) (oi := ⟨some 96, .move (.tmp 11), 75, _, _, none⟩) (v := .pointer (some ⟨Gb, 0, none⟩)) rfl (by kernel_rfl) (by kernel_rfl) (by kernel_rfl) (fun _ _ _ h => h) (Or.inl ⟨by rfl, fun _ _ => by go_simp⟩) BX.out ?_
          try simp only [Act.put, List.setIfInBounds_toArray, List.set_cons_succ, List.set_cons_zero]
          refine wpAnyH_take (i := 7) (oi := ⟨some 97, .fieldAddr 84 (.tmp 14) 2, _, _, _, none⟩) (v := .pointer (some ⟨gx, 2, none⟩)) rfl (by kernel_rfl) (by kernel_rfl) (by kernel_rfl) (fun _ _ _ h => h) (Or.inl ⟨by rfl, fun _ _ => by go_simp⟩) BX.out ?_
          try simp only [Act.put, List.setIfInBounds_toArray, List.set_cons_succ, List.set_cons_zero]
          refine wpAnyH_take (i := 8) (oi := ⟨some 98, .load 28 (.tmp 97), 28, _, _, none⟩) (v := .slice ab nb cb) rfl (by kernel_rfl) (by kernel_rfl) (by kernel_rfl) (fun _ _ _ h => h) (Or.inl ⟨by rfl, fun vv hvv => yields_slc (.tmp 97) rfl ⟨gx, 2, none⟩ rfl (hvv.cell 2 (ocell2 _ _ _ _ _ _ _))⟩) BX.out ?_
          try simp only [Act.put, List.setIfInBounds_toArray, List.set_cons_succ, List.set_cons_zero]
          refine wpAnyH_take (i := 9) (oi := ⟨some 99, .fieldAddr 84 (.tmp 14) 3, _, _, _, none⟩) (v := .pointer (some ⟨gx, 3, none⟩)) rfl (by kernel_rfl) (by kernel_rfl) (by kernel_rfl) (fun _ _ _ h => h) (Or.inl ⟨by rfl, fun _ _ => by go_simp⟩) BX.out ?_
          try simp only [Act.put, List.setIfInBounds_toArray, List.set_cons_succ, List.set_cons_zero]
          refine wpAnyH_take (i := 10) (oi := ⟨some 100, .load 28 (.tmp 99), 28, _, _, none⟩) (v := .slice aa na ca) rfl (by kernel_rfl) (by kernel_rfl) (by kernel_rfl) (fun _ _ _ h => h) (Or.inl ⟨by rfl, fun vv hvv => yields_slc (.tmp 99) rfl ⟨gx, 3, none⟩ rfl (hvv.cell 3 (ocell3 _ _ _ _ _ _ _))⟩) BX.out ?_
          try simp only [Act.put, List.setIfInBounds_toArray, List.set_cons_succ, List.set_cons_zero]
          refine wpAnyH_ready (rs := [5]) (by kernel_rfl) (by simp) ?_
          refine AllReadyH.cons (o := ⟨some 95, .call { callee := .value (.func 61), args := #[.tmp 90, .tmp 92, .tmp 94], argTypes := #[75, 28, 28] }, 37, _, _, none⟩) rfl (fun K hK => ?_) AllReadyH.nil
          go_simp
          refine (reseed_any s Ga op.b op.add _ _ _ _ _ _ v0 HDa.out (HTB.out.on HBw.out) (HTA.out.on HBw.out) (HTB.out.offG HGa.out) (HTA.out.offG HGa.out) (HT.out.on HBw.out) (dtab HT.out HGa.out)).mono ?_
          rintro e v1 ⟨he, hg, hD⟩
          rw [← HER.out] at he
          subst he
          have HBw := Lib.hid (HBw.out.trans (below_of_grownBy hg HGa.out HBw.out.size))
          have BX := Lib.hid (BX.out.grown hg (by have := HXa.out; simpa using this))
          have HDb := Lib.hid (HDb.out.grown hg (by have := HGn.out; simpa using this))
          have HDa := Lib.hid hD
          clear hg hD
          refine hK _ _ BX.out (fun _ => ?_)
          clear hK K
          try simp only [Act.put, List.setIfInBounds_toArray, List.set_cons_succ, List.set_cons_zero]
          refine wpAnyH_ready (rs := [11]) (by kernel_rfl) (by simp) ?_
          refine AllReadyH.cons (o := ⟨some 101, .call { callee := .value (.func 61), args := #[.tmp 96, .tmp 98, .tmp 100], argTypes := #[75, 28, 28] }, 37, _, _, none⟩) rfl (fun K hK => ?_) AllReadyH.nil
          go_simp
          refine (reseed_any s Gb op.b op.add _ _ _ _ _ _ v1 HDb.out (HTB.out.on HBw.out) (HTA.out.on HBw.out) (HTB.out.offG HGb.out) (HTA.out.offG HGb.out) (HT.out.on HBw.out) (dtab HT.out HGb.out)).mono ?_
          rintro e v2 ⟨he, hg, hD⟩
          rw [← HER.out] at he
          subst he
          have HBw := Lib.hid (HBw.out.trans (below_of_grownBy hg HGb.out HBw.out.size))
          have BX := Lib.hid (BX.out.grown hg (by have := HXb.out; simpa using this))
          have HDa := Lib.hid (HDa.out.grown hg (by have := HGn.out; simpa using Ne.symm this))
          have HDb := Lib.hid hD
          clear hg hD
          refine hK _ _ BX.out (fun _ => ?_)
          clear hK K
          try simp only [Act.put, List.setIfInBounds_toArray, List.set_cons_succ, List.set_cons_zero]
          refine wpAnyH_take (i := 12) (oi := ⟨some 102, .binOp .neq 37 (.tmp 95) (.tmp 101) 37, 4, _, _, none⟩) (v := .bool false) rfl (by kernel_rfl) (by kernel_rfl) (by kernel_rfl) (fun _ _ _ h => h) (Or.inl ⟨by rfl, fun _ _ => by go_simp⟩) BX.out ?_
          try simp only [Act.put, List.setIfInBounds_toArray, List.set_cons_succ, List.set_cons_zero]
          refine wpAnyH_done (by kernel_rfl) ?_ _
          go_wp2
          go_roundw
          case rel => exact ⟨i + 1, s.reseed op.b op.add, by omega, by go_num, HDa.out, HDb.out, HBw.out⟩
          case measure => simp [intOf]; omega
        | false =>
          go_wp2_with (first | (refine wpList_load_mid rfl 84 (.tmp 86) rfl g (o + i * 5) rfl (ocells op ab aa nb cb na ca) _ HR.out Tryd.underlying84 rfl size_dop ?_) | (refine wpList_store_abs rfl 84 (.tmp 14) (.tmp 87) rfl wr.heap.size (ocells op ab aa nb cb na ca).toArray (by rfl) (by rfl) 84 _ (Blk.new wr _ _) HZ.out (by rfl) (ocells_one _ _ _ _ _ _ _) ?_; intro W hW p5; have hbW := hW.below ((Below.refl _ wr).alloc (Nat.le_refl _) _) (Nat.le_refl _); have HBw := Lib.hid (HBr.out.trans (hbW.mono HBr.out.size)); have HDa := Lib.hid (HDa.out.on hbW); have HDb := Lib.hid (HDb.out.on hbW); have BX := Lib.hid p5; have b0 := p5.cell 0 (ocell0 _ _ _ _ _ _ _); rw [hres] at b0; have b1 := p5.cell 1 (ocell1 _ _ _ _ _ _ _); have b3 := p5.cell 3 (ocell3 _ _ _ _ _ _ _); clear hW p5 hbW))
          go_wp2_with fail
          refine (draw_any s Ga op.add aa op.n na ca W HDa.out (HTA.out.on HBw.out) (HTA.out.offG HGa.out) (HT.out.on HBw.out) (dtab HT.out HGa.out)).mono ?_
          rintro e w6 ⟨ax, nx, cx, he6, hX, hXf, hg, hD⟩
          obtain ⟨e0, he0⟩ : ∃ e0, e0 = drawE op.n op.add.length s.c := ⟨_, rfl⟩
          rw [← he0] at he6
          subst he6
          have HE0 := Lib.hid he0
          have HB6 := Lib.hid (HBw.out.trans (below_of_grownBy hg HGa.out HBw.out.size))
          have HDb6 := Lib.hid (HDb.out.grown hg (by have := HGn.out; simpa using this))
          have HDa6 := Lib.hid hD
          have HXo := Lib.hid (show Off ax (s.outs op.n op.add) Gb from fun q o eq _ => by have := hXf q o eq; have := HDb.out.1.blk.lt; omega)
          have HX6 := Lib.hid hX
          have BX6 := Lib.hid (BX.out.grown hg (by have := HXa.out; simpa using this))
          have b1 := BX6.out.cell 1 (ocell1 _ _ _ _ _ _ _)
          have b3 := BX6.out.cell 3 (ocell3 _ _ _ _ _ _ _)
          clear hg hD hX hXf he0 BX HBw HDa HDb b0
          go_wp2_with fail
          refine (draw_any s Gb op.add aa op.n na ca w6 HDb6.out (HTA.out.on HB6.out) (HTA.out.offG HGb.out) (HT.out.on HB6.out) (dtab HT.out HGb.out)).mono ?_
          rintro e w7 ⟨ay, ny, cy, he7, hY, _, hg, hD⟩
          rw [← HE0.out] at he7
          subst he7
          have HB7 := Lib.hid (HB6.out.trans (below_of_grownBy hg HGb.out HB6.out.size))
          have HDa7 := Lib.hid (HDa6.out.grown hg (by have := HGn.out; simpa using Ne.symm this))
          have HDb7 := Lib.hid hD
          have HX7 := Lib.hid (HX6.out.off hg HXo.out)
          have HY7 := Lib.hid hY
          clear hg hD hY HX6 HXo HB6 HDa6 HDb6 BX6 b1 b3
          go_wp2_with fail
          refine (equal_q _ _ _ _ _ _ (s.outs op.n op.add) w7 HX7.out HY7.out).mono ?_
          rintro e w8 ⟨rfl, hw⟩
          obtain ⟨w9, rfl⟩ : ∃ w9, w9 = w8 := ⟨_, rfl⟩
          subst hw
          go_wp2
          go_roundw
          case rel => exact ⟨i + 1, s.next op.n op.add, by omega, by go_num, HDa7.out, HDb7.out, HB7.out⟩
          case measure => simp [intOf]; omega
      · have HIM := Lib.hid (show i = m by omega)
        have HZY := Lib.hid (show 0 ≤ z ∧ z ≤ y ∧ y ≤ 600 by omega)
        obtain ⟨L, rfl⟩ : ∃ p : Nat, z = p := ⟨z.toNat, by omega⟩
        obtain ⟨N, rfl⟩ : ∃ p : Nat, y = p := ⟨y.toNat, by omega⟩
        have HLN := Lib.hid (show L ≤ N ∧ N ≤ 600 by omega)
        have gLN : (L : Int) ≤ (N : Int) := by omega
        by_cases hc : 1024 < s.c
        · have HE1 := Lib.hid (show drawE (N : Int) 0 s.c = 51 by unfold drawE; rw [if_neg (by omega), if_neg (by have := HLN.out; omega), if_pos hc])
          have HE2 := Lib.hid (show drawE (L : Int) 0 s.c = 51 by unfold drawE; rw [if_neg (by omega), if_neg (by have := HLN.out; omega), if_pos hc])
          go_wp2_with fail
          refine (draw_err s.k s.v s.c Ga none (N : Int) 0 0 wr HDa.out.1 (by rw [HE1.out]; omega)).mono ?_
          rintro e w' ⟨he9, rfl⟩
          rw [HE1.out] at he9
          subst he9
          go_wp2_with fail
          refine (draw_err s.k s.v s.c Gb none (L : Int) 0 0 _ HDb.out.1 (by rw [HE2.out]; omega)).mono ?_
          rintro e w' ⟨he9, rfl⟩
          rw [HE2.out] at he9
          subst he9
          go_wp2
          go_ret
          exact ⟨rfl, HBr.out⟩
        · have HE1 := Lib.hid (show drawE (N : Int) ([] : List UInt8).length s.c = 0 by unfold drawE; rw [if_neg (by omega), if_neg (by have := HLN.out; simp; omega), if_neg hc])
          have HE2 := Lib.hid (show drawE (L : Int) ([] : List UInt8).length s.c = 0 by unfold drawE; rw [if_neg (by omega), if_neg (by have := HLN.out; simp; omega), if_neg hc])
          clear hc
          go_wp2_with fail
          refine (draw_walk s.k s.v s.c Ga [] none N 0 0 wr HDa.out.1 (Txt.nil _ 0) (fun _ _ e => by cases e) (HT.out.on HBr.out) (dtab HT.out HGa.out).1 (dtab HT.out HGa.out).2 HDa.out.2.1 HE1.out).mono ?_
          rintro e w6 ⟨ax, cx, rfl, hX, hXf, hg, hD⟩
          have HB6 := Lib.hid (HBr.out.trans (below_of_grownBy hg HGa.out HBr.out.size))
          have HDb6 := Lib.hid (HDb.out.grown hg (by have := HGn.out; simpa using this))
          have HXo := Lib.hid (show Off ax (drawO s.k s.v [] N) Gb from fun q o eq _ => by have := hXf q o eq; have := HDb.out.1.blk.lt; omega)
          have HX6 := Lib.hid hX
          clear hg hD hX hXf HDa HDb HBr
          go_wp2_with fail
          refine (draw_walk s.k s.v s.c Gb [] none L 0 0 w6 HDb6.out.1 (Txt.nil _ 0) (fun _ _ e => by cases e) (HT.out.on HB6.out) (dtab HT.out HGb.out).1 (dtab HT.out HGb.out).2 HDb6.out.2.1 HE2.out).mono ?_
          rintro e w7 ⟨ay, cy, rfl, hY, _, hg, hD⟩
          have HB7 := Lib.hid (HB6.out.trans (below_of_grownBy hg HGb.out HB6.out.size))
          have HX7 := Lib.hid (HX6.out.off hg HXo.out)
          have HY7 := Lib.hid hY
          have HXL := Lib.hid (show Txt w7 ax L cx (drawO s.k s.v [] L) by have h := HX7.out.cut HLN.out.1; rw [drawO_pre _ _ _ HLN.out.1] at h; exact h)
          have stk := slice_h' HX7.out HLN.out.1
          clear hg hD hY HX6 HXo HB6 HDb6
          go_wp2_with fail
          refine (equal_q _ _ _ _ _ _ (drawO s.k s.v [] L) w7 HXL.out HY7.out).mono ?_
          rintro e w8 ⟨rfl, hw⟩
          obtain ⟨w9, rfl⟩ : ∃ w9, w9 = w8 := ⟨_, rfl⟩
          subst hw
          go_wp2
          go_ret
          exact ⟨rfl, HB7.out⟩
  · have HNE := Lib.hid he
    have hne : ¬ er = 0 := by rw [her]; exact he
    have hd1 : (er != 0) = true := by simpa using hne
    have hd2 : (er == 0) = false := by simpa using hne
    clear he her
    go_enter Tryd.func18, Tryd.ntmps18
    go_wp2_with fail
    refine (live5_walk w HT.out).mono ?_
    rintro e w1 ⟨rfl, hb1⟩
    have HB1 := Lib.hid hb1
    clear hb1
    go_wp2_with fail
    refine (long_no k1 a n c HNL.out w1).mono ?_
    rintro e w' ⟨rfl, rfl⟩
    go_wp2_with fail
    refine (much_walk os b m d _ (HO.out.on HB1.out) false (by simp [k2])).mono ?_
    rintro e w2 ⟨rfl, hb2⟩
    have HB2 := Lib.hid (HB1.out.trans (hb2.mono HB1.out.size))
    clear hb2
    go_wp2_with fail
    refine (dnew_err ent [] [] a none none n c 0 0 0 0 w2 (HE.out.on HB2.out) (Txt.nil _ 0) (Txt.nil _ 0) HNE.out).mono ?_
    rintro e w3 ⟨he3, hb3⟩
    rw [← HER.out] at he3
    subst he3
    have HB3 := Lib.hid (HB2.out.trans (hb3.mono HB2.out.size))
    clear hb3
    go_wp2_with fail
    refine (join1 w3 28 _ rfl (HE.out.on HB3.out) (by have := HEL.out; omega)).mono ?_
    rintro e w4 ⟨aj, nj, cj, rfl, hO4, hb4⟩
    have HB4 := Lib.hid (HB3.out.trans (hb4.mono HB3.out.size))
    have HJ := Lib.hid hO4.txt
    clear hO4 hb4
    go_wp2_with fail
    refine (dnew_err ent [] [] aj none none nj cj 0 0 0 0 w4 HJ.out (Txt.nil _ 0) (Txt.nil _ 0) HNE.out).mono ?_
    rintro e w5 ⟨he5, hb5⟩
    rw [← HER.out] at he5
    subst he5
    have HB5 := Lib.hid (HB4.out.trans (hb5.mono HB4.out.size))
    clear hb5
    go_wp2
    go_ret
    exact ⟨rfl, HB5.out⟩
end Go.Proofs.YtgbahfggnbpnmaaDoor
