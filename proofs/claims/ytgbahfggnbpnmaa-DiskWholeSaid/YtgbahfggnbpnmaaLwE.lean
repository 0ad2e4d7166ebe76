import Derived.Test.YtgbahfggnbpnmaaLwD
/-
  liverylaw17.does, further.
-/
namespace Go.Proofs.Ytgbahfggnbpnmaa
open Go.RowKit
set_option maxRecDepth 100000 in
set_option maxHeartbeats 1000000 in
theorem does17_raw (i nn : Int) (x : UInt8) (bl : List UInt8) (pk : List Bool)  {av : Nat → Prop} {b g n b' n' : Nat} {v u xv : Value} {S R : DS} (ab ap : Option Addr) (nb cb np cp : Nat) (w0 w : World) (h : Two17 w0 w av b g n v S b' n' u xv R) (hlS : S.Lim 1000) (hlR : R.Lim 1000) (hlb : bl.length ≤ 1000) (hnn : nn ≤ 9223372036854775807) (hB : Txt w0 ab nb cb bl) (hP : BTx w0 ap np cp pk) :
    Calls Try.prog 24 #[.pointer (some ⟨b, 0, none⟩), .pointer (some ⟨b', 0, none⟩), .agg #[.int .i64 7, .int .i64 i, .int .i64 nn, .int .u8 x.toNat, .slice ab nb cb, .slice ap np cp]] w fun e w' => ∃ t, e = .returned (.bool t) ∧ (S = R → n = n' → t = true) ∧ ∃ v' x', Two17 w0 w' (fun k => av k ∨ w.heap.size ≤ k) b g n v' (stepO S ⟨7, i, nn, x, bl, pk⟩) b' n' u x' (stepO R ⟨7, i, nn, x, bl, pk⟩) ∧ Only (fun k => Foot b g v k ∨ RFoot b' u xv k) w w' ∧ (∀ k, v'.ownBlock = some k → v.ownBlock = some k ∨ w.heap.size ≤ k) ∧ (∀ k, x'.ownBlock = some k → xv.ownBlock = some k ∨ w.heap.size ≤ k) := by
  obtain ⟨bx, hbx⟩ : ∃ bx, bx = w.heap.size := ⟨_, rfl⟩
  have hb1 := below_one' w (.cells #[.int .i64 7, .int .i64 i, .int .i64 nn, .int .u8 x.toNat, .slice ab nb cb, .slice ap np cp] 33)
  have e0 := (Blk.new w #[.int .i64 7, .int .i64 i, .int .i64 nn, .int .u8 x.toNat, .slice ab nb cb, .slice ap np cp] 33).cell 0 rfl
  have HS := Lib.hid (show Blk (w.alloc (.cells #[.int .i64 7, .int .i64 i, .int .i64 nn, .int .u8 x.toNat, .slice ab nb cb, .slice ap np cp] 33)) bx #[.int .i64 7, .int .i64 i, .int .i64 nn, .int .u8 x.toNat, .slice ab nb cb, .slice ap np cp] 33 by rw [hbx]; exact Blk.new w #[.int .i64 7, .int .i64 i, .int .i64 nn, .int .u8 x.toNat, .slice ab nb cb, .slice ap np cp] 33)
  have HT2 := Lib.hid ((h.mono (av' := fun k => av k ∧ k < w.heap.size) (fun k e hk => ⟨e, hk⟩)).on hb1)
  have HO := Lib.hid (Only.of_below (S := fun k => Foot b g v k ∨ RFoot b' u xv k) hb1)
  have HAV := Lib.hid (show ∀ k, (av k ∨ w.heap.size ≤ k) → av k ∨ w.heap.size ≤ k from fun k e => e)
  have HZ := Lib.hid (show w0.heap.size ≤ w.heap.size from h.bl.size)
  have HLS := Lib.hid hlS
  have HLR := Lib.hid hlR
  have HNN := Lib.hid hnn
  have HTX := Lib.hid hB
  have HPX := Lib.hid hP
  have HLB := Lib.hid hlb
  have HBX := Lib.hid hbx
  have HS1 := Lib.hid (show bx + 1 = (w.alloc (.cells #[.int .i64 7, .int .i64 i, .int .i64 nn, .int .u8 x.toNat, .slice ab nb cb, .slice ap np cp] 33)).heap.size by rw [hbx]; simp)
  clear hbx h hlS hlR hnn hB hP hlb hb1
  go_enter Try.func24, Try.ntmps24
  have e4 := (Blk.new w #[.int .i64 7, .int .i64 i, .int .i64 nn, .int .u8 x.toNat, .slice ab nb cb, .slice ap np cp] 33).cell 4 rfl
  have HTB := Lib.hid (HTX.out.below HT2.out.bl)
  go_wp2_with fail
  clear e0 e4
  rw [← HBX.out]
  generalize World.alloc w _ = w1 at *
  refine (join1 w1 30 (bx + 1) HS1.out HTB.out (by have := HLB.out; omega)).mono ?_
  rintro e w2 ⟨ao, no, co, rfl, hOw, hb⟩
  have HSW := Lib.hid HO.out.size
  have HS := Lib.hid (HS.out.on hb)
  have HT2 := Lib.hid (HT2.out.on hb)
  have HO := Lib.hid (HO.out.trans (Only.of_below hb))
  have HTB := Lib.hid (HTB.out.below hb)
  have HOW := Lib.hid (hOw.mono HSW.out)
  have HTO := Lib.hid (show ∀ g0 o0, ab = some ⟨g0, o0, none⟩ → 0 < bl.length → g0 < w0.heap.size from fun g0 o0 e h0 => HTX.out.old g0 o0 e h0)
  clear hOw hb
  go_wp2
  refine wp_region_held_drew (S := fun W => Blk W bx #[.int .i64 7, .int .i64 i, .int .i64 nn, .int .u8 x.toNat, .slice ab nb cb, .slice ap np cp] 33) (by kernel_rfl) HS.out (fun _ => ?_)
  have hb : Below w2.heap.size w2 (World.drew w2) := (Below.refl _ _).drew
  have HS := Lib.hid (HS.out.on hb)
  have HT2 := Lib.hid (HT2.out.on hb)
  have HO := Lib.hid (HO.out.trans (Only.of_below hb))
  have HOW := Lib.hid (HOW.out.below hb)
  have HTB := Lib.hid (HTB.out.below hb)
  clear hb
  generalize World.drew w2 = v0 at *
  try simp only [Act.put, List.setIfInBounds_toArray, List.set_cons_succ, List.set_cons_zero]
  refine wpAnyH_take (i := 0) (oi := ⟨some 98, .move (.tmp 0), _, _, _, none⟩) (v := .pointer (some ⟨b, 0, none⟩)) rfl (by kernel_rfl) (by kernel_rfl) (by kernel_rfl) (fun _ _ _ h => h) (Or.inl ⟨by rfl, fun _ _ => by go_simp⟩) HS.out ?_
  try simp only [Act.put, List.setIfInBounds_toArray, List.set_cons_succ, List.set_cons_zero]
  refine wpAnyH_take (i := 1) (oi := ⟨some 99, .fieldAddr 33 (.tmp 5) 1, _, _, _, none⟩) (v := .pointer (some ⟨bx, 1, none⟩)) rfl (by kernel_rfl) (by kernel_rfl) (by kernel_rfl) (fun _ _ _ h => h) (Or.inl ⟨by rfl, fun _ _ => by go_simp⟩) HS.out ?_
  try simp only [Act.put, List.setIfInBounds_toArray, List.set_cons_succ, List.set_cons_zero]
  refine wpAnyH_take (i := 2) (oi := ⟨some 100, .load 3 (.tmp 99), 3, _, _, none⟩) (v := .int .i64 i) rfl (by kernel_rfl) (by kernel_rfl) (by kernel_rfl) (fun _ _ _ h => h) (Or.inl ⟨by rfl, fun vv hvv => by have q := hvv.cell 1 rfl; clear hvv; unfold execOp; go_simp⟩) HS.out ?_
  try simp only [Act.put, List.setIfInBounds_toArray, List.set_cons_succ, List.set_cons_zero]
  refine wpAnyH_take (i := 3) (oi := ⟨some 101, .move (.tmp 11), _, _, _, none⟩) (v := .slice ao no co) rfl (by kernel_rfl) (by kernel_rfl) (by kernel_rfl) (fun _ _ _ h => h) (Or.inl ⟨by rfl, fun _ _ => by go_simp⟩) HS.out ?_
  try simp only [Act.put, List.setIfInBounds_toArray, List.set_cons_succ, List.set_cons_zero]
  refine wpAnyH_take (i := 5) (oi := ⟨some 103, .move (.tmp 1), _, _, _, none⟩) (v := .pointer (some ⟨b', 0, none⟩)) rfl (by kernel_rfl) (by kernel_rfl) (by kernel_rfl) (fun _ _ _ h => h) (Or.inl ⟨by rfl, fun _ _ => by go_simp⟩) HS.out ?_
  try simp only [Act.put, List.setIfInBounds_toArray, List.set_cons_succ, List.set_cons_zero]
  refine wpAnyH_take (i := 6) (oi := ⟨some 104, .fieldAddr 33 (.tmp 5) 1, _, _, _, none⟩) (v := .pointer (some ⟨bx, 1, none⟩)) rfl (by kernel_rfl) (by kernel_rfl) (by kernel_rfl) (fun _ _ _ h => h) (Or.inl ⟨by rfl, fun _ _ => by go_simp⟩) HS.out ?_
  try simp only [Act.put, List.setIfInBounds_toArray, List.set_cons_succ, List.set_cons_zero]
  refine wpAnyH_take (i := 7) (oi := ⟨some 105, .load 3 (.tmp 104), 3, _, _, none⟩) (v := .int .i64 i) rfl (by kernel_rfl) (by kernel_rfl) (by kernel_rfl) (fun _ _ _ h => h) (Or.inl ⟨by rfl, fun vv hvv => by have q := hvv.cell 1 rfl; clear hvv; unfold execOp; go_simp⟩) HS.out ?_
  try simp only [Act.put, List.setIfInBounds_toArray, List.set_cons_succ, List.set_cons_zero]
  refine wpAnyH_take (i := 8) (oi := ⟨some 106, .fieldAddr 33 (.tmp 5) 4, _, _, _, none⟩) (v := .pointer (some ⟨bx, 4, none⟩)) rfl (by kernel_rfl) (by kernel_rfl) (by kernel_rfl) (fun _ _ _ h => h) (Or.inl ⟨by rfl, fun _ _ => by go_simp⟩) HS.out ?_
  try simp only [Act.put, List.setIfInBounds_toArray, List.set_cons_succ, List.set_cons_zero]
  refine wpAnyH_take (i := 9) (oi := ⟨some 107, .load 30 (.tmp 106), 30, _, _, none⟩) (v := .slice ab nb cb) rfl (by kernel_rfl) (by kernel_rfl) (by kernel_rfl) (fun _ _ _ h => h) (Or.inl ⟨by rfl, fun vv hvv => by have q := hvv.cell 4 rfl; clear hvv; unfold execOp; go_simp⟩) HS.out ?_
  try simp only [Act.put, List.setIfInBounds_toArray, List.set_cons_succ, List.set_cons_zero]
  refine wpAnyH_ready (rs := [4]) (by kernel_rfl) (by simp) ?_
  refine AllReadyH.cons (o := ⟨some 102, .call { callee := .value (.func 15), args := #[.tmp 98, .tmp 100, .tmp 101], argTypes := #[24, 3, 30] }, 28, _, _, none⟩) rfl (fun K hK => ?_) AllReadyH.nil
  go_simp
  refine (dwrite_at i ao no co bl v0 HT2.out.d (by have := HLS.out.2; omega) (by have := HLS.out.1; omega) HOW.out.txt).mono ?_
  rintro e v1 ⟨rfl, vd, hD, hO, hv⟩
  have HV := Lib.hid (show ∀ k, vd.ownBlock = some k → v.ownBlock = some k ∨ w.heap.size ≤ k from fun k e => (hv k e).imp id (fun q => Nat.le_trans HO.out.size q))
  have HS := Lib.hid (hO.blk HS.out (HT2.out.d.foot_ty HS.out (by decide)))
  have HOW := Lib.hid (HOW.out.keepO hO (fun k cur hk q => HT2.out.d.foot_ne hk q))
  have HTB := Lib.hid (HTB.out.onlyT hO (fun g0 o0 e h0 q => by have := HT2.out.fd _ q; have := HTO.out g0 o0 e h0; omega))
  have HO := Lib.hid (HO.out.trans (hO.mono fun k e => .inl e))
  have HT2 := Lib.hid (HT2.out.dstep hD hO hv)
  clear hD hO hv
  refine hK _ _ HS.out (fun _ => ?_)
  clear hK K
  try simp only [Act.put, List.setIfInBounds_toArray, List.set_cons_succ, List.set_cons_zero]
  refine wpAnyH_ready (rs := [10]) (by kernel_rfl) (by simp) ?_
  refine AllReadyH.cons (o := ⟨some 108, .call { callee := .value (.func 43), args := #[.tmp 103, .tmp 105, .tmp 107], argTypes := #[43, 3, 30] }, 28, _, _, none⟩) rfl (fun K hK => ?_) AllReadyH.nil
  go_simp
  refine (rwrite_at i ab nb cb bl v1 HT2.out.r (by have := HLR.out.2; omega) (by have := HLR.out.1; omega) HTB.out).mono ?_
  rintro e v2 ⟨rfl, xd, hR, hO, hv⟩
  have HKO := Lib.hid (show ∀ k, (Value.slice ao no co).ownBlock = some k → w.heap.size ≤ k ∧ k < v1.heap.size from fun k e => ⟨(HOW.out.lt k e).1, (HOW.out.lt k e).2⟩)
  have HVX := Lib.hid (show ∀ k, xd.ownBlock = some k → xv.ownBlock = some k ∨ w.heap.size ≤ k from fun k e => (hv k e).imp id (fun q => Nat.le_trans HO.out.size q))
  have HS := Lib.hid (hO.blk HS.out (HT2.out.r.foot_ty HS.out (by decide)))
  have HOW := Lib.hid (HOW.out.keepO hO (fun k cur hk q => HT2.out.r.foot_ne hk q))
  have HSZ := Lib.hid HO.out.size
  have HO := Lib.hid (HO.out.trans (hO.mono fun k e => .inr e))
  have HT2 := Lib.hid (HT2.out.rstep hR hO hv)
  generalize v1.heap.size = sz at *
  clear hR hO hv HTB
  refine hK _ _ HS.out (fun _ => ?_)
  clear hK K
  try simp only [Act.put, List.setIfInBounds_toArray, List.set_cons_succ, List.set_cons_zero]
  refine wpAnyH_take (i := 11) (oi := ⟨some 109, .binOp .eql 28 (.tmp 102) (.tmp 108) 28, _, _, _, none⟩) (v := .bool ((S.write i bl).1 == (R.write i bl).1)) rfl (by kernel_rfl) (by kernel_rfl) (by kernel_rfl) (fun _ _ _ h => h) (Or.inl ⟨by rfl, fun _ _ => by go_simp⟩) HS.out ?_
  try simp only [Act.put, List.setIfInBounds_toArray, List.set_cons_succ, List.set_cons_zero]
  refine wpAnyH_take (i := 12) (oi := ⟨some 12, .assign (.tmp 109), _, _, _, none⟩) (v := .bool ((S.write i bl).1 == (R.write i bl).1)) rfl (by kernel_rfl) (by kernel_rfl) (by kernel_rfl) (fun _ _ _ h => h) (Or.inl ⟨by rfl, fun _ _ => by go_simp⟩) HS.out ?_
  try simp only [Act.put, List.setIfInBounds_toArray, List.set_cons_succ, List.set_cons_zero]
  refine wpAnyH_done (by kernel_rfl) ?_ _
  have hno : no ≤ 1000 := by rw [HOW.out.len]; exact HLB.out
  go_wp2
  obtain ⟨t, ht⟩ : ∃ t, t = ((S.write i bl).1 == (R.write i bl).1) := ⟨_, rfl⟩
  have HTT := Lib.hid ht
  rw [← ht]
  clear ht
  go_loopw [112] (fun y wr => ∃ (k : Nat) (l2 : List UInt8), k ≤ no ∧ y = .int .i64 (k : Nat) ∧ Hid (OwnB wr w.heap.size (.slice ao no co) l2) ∧ Hid (Two17 w0 wr (fun k => (av k ∧ k < w.heap.size) ∨ sz ≤ k) b g n vd (S.write i bl).2 b' n' u xd (R.write i bl).2) ∧ Hid (Only (fun k => Foot b g v k ∨ RFoot b' u xv k) w wr)) (fun y _ => no - (intOf y).toNat)
  case atStart => exact ⟨0, bl, Nat.zero_le _, rfl, HOW.out, HT2.out, HO.out⟩
  case round =>
    obtain ⟨k, l2, hk, rfl, HOW, HT2, HO⟩ := hrel
    by_cases hlt : k < no
    · obtain ⟨go, rfl, hgo, hc, hf, cur, hcu⟩ := HOW.out.at_ (k := k) (by rw [← HOW.out.len]; exact hlt)
      obtain ⟨y, hy⟩ : ∃ y : UInt8, y = l2.getD k 0 := ⟨_, rfl⟩
      rw [← hy] at hc
      have hc2 : _ = some (Value.int .u8 (y.toNat : Nat)) := hc
      have HCU := Lib.hid hcu
      have HGO := Lib.hid hgo
      have HLT := Lib.hid hlt
      clear hc hy hcu hgo
      go_wp2
      go_roundw
      case rel =>
        refine ⟨k + 1, l2.set k (y + 1), by have := HLT.out; omega, by go_num, ?_, ?_, ?_⟩
        · rw [plus_one y]; exact HOW.out.setp k (y + 1)
        · rw [plus_one y]
          have hOc : Only (· = go) wr (wr.setCell ⟨go, k, none⟩ (bv (y + 1))) := Only.cell wr _ rfl
          have hk2 := HKO.out go rfl
          exact ⟨HT2.out.d.keep hOc (fun j hj e => HT2.out.d.foot_ne HCU.out (e ▸ hj)), HT2.out.r.keep hOc (fun j hj e => HT2.out.r.foot_ne HCU.out (e ▸ hj)) (fun j _ hj _ e => by subst e; omega), HT2.out.fd, HT2.out.fr, HT2.out.bl.trans (hOc.below (fun j e => by subst e; have := HZ.out; omega) HT2.out.bl.size)⟩
        · rw [plus_one y]
          have hk2 := HKO.out go rfl
          exact HO.out.trans' (Only.cell (S := (· = go)) wr _ rfl) (fun j e => .inr (by subst e; omega))
      case measure => have := HLT.out; simp [intOf]; omega
    · go_wp2
      go_ret
      exact ⟨t, rfl, (fun hSR hn => by subst hSR; rw [HTT.out]; simp), vd, xd, by rw [stepO_7 rfl, stepO_7 rfl]; exact HT2.out.mono (fun k e _ => e.elim (fun q => .inl q.1) (fun q => .inr (Nat.le_trans HSZ.out q))), HO.out, HV.out, HVX.out⟩
end Go.Proofs.Ytgbahfggnbpnmaa
