import Derived.Test.YtgbahfggnbpnmaaLwD
/-
  liverylaw17.does, further.
-/
namespace Go.Proofs.Ytgbahfggnbpnmaa
open Go.RowKit
set_option maxRecDepth 100000 in
set_option maxHeartbeats 1000000 in
theorem does17_sync (i nn : Int) (x : UInt8) (bl : List UInt8) (pk : List Bool)  {av : Nat → Prop} {b g n b' n' : Nat} {v u xv : Value} {S R : DS} (ab ap : Option Addr) (nb cb np cp : Nat) (w0 w : World) (h : Two17 w0 w av b g n v S b' n' u xv R) (hlS : S.Lim 1000) (hlR : R.Lim 1000) (hlb : bl.length ≤ 1000) (hnn : nn ≤ 9223372036854775807) (hB : Txt w0 ab nb cb bl) (hP : BTx w0 ap np cp pk) :
    Calls Try.prog 24 #[.pointer (some ⟨b, 0, none⟩), .pointer (some ⟨b', 0, none⟩), .agg #[.int .i64 2, .int .i64 i, .int .i64 nn, .int .u8 x.toNat, .slice ab nb cb, .slice ap np cp]] w fun e w' => ∃ t, e = .returned (.bool t) ∧ (S = R → n = n' → t = true) ∧ ∃ v' x', Two17 w0 w' (fun k => av k ∨ w.heap.size ≤ k) b g n v' (stepO S ⟨2, i, nn, x, bl, pk⟩) b' n' u x' (stepO R ⟨2, i, nn, x, bl, pk⟩) ∧ Only (fun k => Foot b g v k ∨ RFoot b' u xv k) w w' ∧ (∀ k, v'.ownBlock = some k → v.ownBlock = some k ∨ w.heap.size ≤ k) ∧ (∀ k, x'.ownBlock = some k → xv.ownBlock = some k ∨ w.heap.size ≤ k) := by
  obtain ⟨bx, hbx⟩ : ∃ bx, bx = w.heap.size := ⟨_, rfl⟩
  have hb1 := below_one' w (.cells #[.int .i64 2, .int .i64 i, .int .i64 nn, .int .u8 x.toNat, .slice ab nb cb, .slice ap np cp] 33)
  have e0 := (Blk.new w #[.int .i64 2, .int .i64 i, .int .i64 nn, .int .u8 x.toNat, .slice ab nb cb, .slice ap np cp] 33).cell 0 rfl
  have HS := Lib.hid (show Blk (w.alloc (.cells #[.int .i64 2, .int .i64 i, .int .i64 nn, .int .u8 x.toNat, .slice ab nb cb, .slice ap np cp] 33)) bx #[.int .i64 2, .int .i64 i, .int .i64 nn, .int .u8 x.toNat, .slice ab nb cb, .slice ap np cp] 33 by rw [hbx]; exact Blk.new w #[.int .i64 2, .int .i64 i, .int .i64 nn, .int .u8 x.toNat, .slice ab nb cb, .slice ap np cp] 33)
  have HT2 := Lib.hid (h.on hb1)
  have HO := Lib.hid (Only.of_below (S := fun k => Foot b g v k ∨ RFoot b' u xv k) hb1)
  have HAV := Lib.hid (show ∀ k, (av k ∨ w.heap.size ≤ k) → av k ∨ w.heap.size ≤ k from fun k e => e)
  have HZ := Lib.hid (show w0.heap.size ≤ w.heap.size from h.bl.size)
  have HLS := Lib.hid hlS
  have HLR := Lib.hid hlR
  have HNN := Lib.hid hnn
  have HTX := Lib.hid hB
  have HPX := Lib.hid hP
  have HLB := Lib.hid hlb
  have HBX := Lib.hid hbx
  have HS1 := Lib.hid (show bx + 1 = (w.alloc (.cells #[.int .i64 2, .int .i64 i, .int .i64 nn, .int .u8 x.toNat, .slice ab nb cb, .slice ap np cp] 33)).heap.size by rw [hbx]; simp)
  clear hbx h hlS hlR hnn hB hP hlb hb1
  go_enter Try.func24, Try.ntmps24
  go_wp2_with fail
  clear e0
  rw [← HBX.out]
  generalize World.alloc w _ = w1 at *
  refine (dsync_at w1 HT2.out.d (by have := HLS.out.2; omega) (by have := HLS.out.1; omega)).mono ?_
  rintro e w2 ⟨rfl, vd, hD, hO, hv⟩
  replace hv : ∀ k, vd.ownBlock = some k → v.ownBlock = some k ∨ w1.heap.size ≤ k := fun k e => .inl (hv k e)
  have HV := Lib.hid (show ∀ k, vd.ownBlock = some k → v.ownBlock = some k ∨ w.heap.size ≤ k from fun k e => (hv k e).imp id (fun q => Nat.le_trans HO.out.size q))
  have HS := Lib.hid (hO.blk HS.out (HT2.out.d.foot_ty HS.out (by decide)))
  have HO := Lib.hid (HO.out.trans (hO.mono fun k e => .inl e))
  have HT2 := Lib.hid (HT2.out.dstep hD hO hv)
  clear hD hO hv
  go_wp2_with fail
  refine (rsync_at w2 HT2.out.r (by have := HLR.out.2; omega) (by have := HLR.out.1; omega)).mono ?_
  rintro e w3 ⟨rfl, xd, hR, hO, hv⟩
  replace hv : ∀ k, xd.ownBlock = some k → xv.ownBlock = some k ∨ w2.heap.size ≤ k := fun k e => .inl (hv k e)
  have HVX := Lib.hid (show ∀ k, xd.ownBlock = some k → xv.ownBlock = some k ∨ w.heap.size ≤ k from fun k e => (hv k e).imp id (fun q => Nat.le_trans HO.out.size q))
  have hsz := HO.out.size
  have HS := Lib.hid (hO.blk HS.out (HT2.out.r.foot_ty HS.out (by decide)))
  have HO := Lib.hid (HO.out.trans (hO.mono fun k e => .inr e))
  have HT2 := Lib.hid ((HT2.out.rstep hR hO hv).mono (av' := fun k => av k ∨ w.heap.size ≤ k) (fun k e _ => .inl e))
  clear hR hO hv hsz
  go_wp2
  go_ret
  exact ⟨_, rfl, (fun hSR hn => by subst hSR; simp), vd, xd, by rw [stepO_2 rfl, stepO_2 rfl]; exact HT2.out, HO.out, HV.out, HVX.out⟩
set_option maxRecDepth 100000 in
set_option maxHeartbeats 1000000 in
theorem does17_calm (i nn : Int) (x : UInt8) (bl : List UInt8) (pk : List Bool)  {av : Nat → Prop} {b g n b' n' : Nat} {v u xv : Value} {S R : DS} (ab ap : Option Addr) (nb cb np cp : Nat) (w0 w : World) (h : Two17 w0 w av b g n v S b' n' u xv R) (hlS : S.Lim 1000) (hlR : R.Lim 1000) (hlb : bl.length ≤ 1000) (hnn : nn ≤ 9223372036854775807) (hB : Txt w0 ab nb cb bl) (hP : BTx w0 ap np cp pk) :
    Calls Try.prog 24 #[.pointer (some ⟨b, 0, none⟩), .pointer (some ⟨b', 0, none⟩), .agg #[.int .i64 4, .int .i64 i, .int .i64 nn, .int .u8 x.toNat, .slice ab nb cb, .slice ap np cp]] w fun e w' => ∃ t, e = .returned (.bool t) ∧ (S = R → n = n' → t = true) ∧ ∃ v' x', Two17 w0 w' (fun k => av k ∨ w.heap.size ≤ k) b g n v' (stepO S ⟨4, i, nn, x, bl, pk⟩) b' n' u x' (stepO R ⟨4, i, nn, x, bl, pk⟩) ∧ Only (fun k => Foot b g v k ∨ RFoot b' u xv k) w w' ∧ (∀ k, v'.ownBlock = some k → v.ownBlock = some k ∨ w.heap.size ≤ k) ∧ (∀ k, x'.ownBlock = some k → xv.ownBlock = some k ∨ w.heap.size ≤ k) := by
  obtain ⟨bx, hbx⟩ : ∃ bx, bx = w.heap.size := ⟨_, rfl⟩
  have hb1 := below_one' w (.cells #[.int .i64 4, .int .i64 i, .int .i64 nn, .int .u8 x.toNat, .slice ab nb cb, .slice ap np cp] 33)
  have e0 := (Blk.new w #[.int .i64 4, .int .i64 i, .int .i64 nn, .int .u8 x.toNat, .slice ab nb cb, .slice ap np cp] 33).cell 0 rfl
  have HS := Lib.hid (show Blk (w.alloc (.cells #[.int .i64 4, .int .i64 i, .int .i64 nn, .int .u8 x.toNat, .slice ab nb cb, .slice ap np cp] 33)) bx #[.int .i64 4, .int .i64 i, .int .i64 nn, .int .u8 x.toNat, .slice ab nb cb, .slice ap np cp] 33 by rw [hbx]; exact Blk.new w #[.int .i64 4, .int .i64 i, .int .i64 nn, .int .u8 x.toNat, .slice ab nb cb, .slice ap np cp] 33)
  have HT2 := Lib.hid (h.on hb1)
  have HO := Lib.hid (Only.of_below (S := fun k => Foot b g v k ∨ RFoot b' u xv k) hb1)
  have HAV := Lib.hid (show ∀ k, (av k ∨ w.heap.size ≤ k) → av k ∨ w.heap.size ≤ k from fun k e => e)
  have HZ := Lib.hid (show w0.heap.size ≤ w.heap.size from h.bl.size)
  have HLS := Lib.hid hlS
  have HLR := Lib.hid hlR
  have HNN := Lib.hid hnn
  have HTX := Lib.hid hB
  have HPX := Lib.hid hP
  have HLB := Lib.hid hlb
  have HBX := Lib.hid hbx
  have HS1 := Lib.hid (show bx + 1 = (w.alloc (.cells #[.int .i64 4, .int .i64 i, .int .i64 nn, .int .u8 x.toNat, .slice ab nb cb, .slice ap np cp] 33)).heap.size by rw [hbx]; simp)
  clear hbx h hlS hlR hnn hB hP hlb hb1
  go_enter Try.func24, Try.ntmps24
  go_wp2_with fail
  clear e0
  rw [← HBX.out]
  generalize World.alloc w _ = w1 at *
  refine (dcalm_at w1 HT2.out.d).mono ?_
  rintro e w2 ⟨⟨uu, rfl⟩, hD, hO⟩
  replace hO := hO.mono (T := Foot b g v) fun k e => .inl e
  have HT2 := Lib.hid (HT2.out.dstep hD hO (fun k e => .inl e))
  have HO := Lib.hid (HO.out.trans (hO.mono fun k e => .inl e))
  clear hD hO
  have c3 := HT2.out.r.c3
  have f3 := HT2.out.r.blk.free 3
  go_wp2
  go_ret
  have hO : Only (RFoot b' u xv) w2 (w2.setCell ⟨b', 3, none⟩ (.int .i64 (-1))) := Only.cell w2 _ (.inl rfl)
  have hR := HT2.out.r.scal (T := R.calm) (Only.cell w2 _ rfl) (HT2.out.r.blk.set 3 _) (fun f e => by cases e) rfl rfl
  exact ⟨_, rfl, (fun _ _ => rfl), v, xv, by rw [stepO_4 rfl, stepO_4 rfl]; exact (HT2.out.rstep hR hO (fun k e => .inl e)).mono (fun k e _ => .inl e), HO.out.trans (hO.mono fun k e => .inr e), (fun k e => .inl e), (fun k e => .inl e)⟩
set_option maxRecDepth 100000 in
set_option maxHeartbeats 1000000 in
theorem does17_crash (i nn : Int) (x : UInt8) (bl : List UInt8) (pk : List Bool)  {av : Nat → Prop} {b g n b' n' : Nat} {v u xv : Value} {S R : DS} (ab ap : Option Addr) (nb cb np cp : Nat) (w0 w : World) (h : Two17 w0 w av b g n v S b' n' u xv R) (hlS : S.Lim 1000) (hlR : R.Lim 1000) (hlb : bl.length ≤ 1000) (hnn : nn ≤ 9223372036854775807) (hB : Txt w0 ab nb cb bl) (hP : BTx w0 ap np cp pk) :
    Calls Try.prog 24 #[.pointer (some ⟨b, 0, none⟩), .pointer (some ⟨b', 0, none⟩), .agg #[.int .i64 5, .int .i64 i, .int .i64 nn, .int .u8 x.toNat, .slice ab nb cb, .slice ap np cp]] w fun e w' => ∃ t, e = .returned (.bool t) ∧ (S = R → n = n' → t = true) ∧ ∃ v' x', Two17 w0 w' (fun k => av k ∨ w.heap.size ≤ k) b g n v' (stepO S ⟨5, i, nn, x, bl, pk⟩) b' n' u x' (stepO R ⟨5, i, nn, x, bl, pk⟩) ∧ Only (fun k => Foot b g v k ∨ RFoot b' u xv k) w w' ∧ (∀ k, v'.ownBlock = some k → v.ownBlock = some k ∨ w.heap.size ≤ k) ∧ (∀ k, x'.ownBlock = some k → xv.ownBlock = some k ∨ w.heap.size ≤ k) := by
  obtain ⟨bx, hbx⟩ : ∃ bx, bx = w.heap.size := ⟨_, rfl⟩
  have hb1 := below_one' w (.cells #[.int .i64 5, .int .i64 i, .int .i64 nn, .int .u8 x.toNat, .slice ab nb cb, .slice ap np cp] 33)
  have e0 := (Blk.new w #[.int .i64 5, .int .i64 i, .int .i64 nn, .int .u8 x.toNat, .slice ab nb cb, .slice ap np cp] 33).cell 0 rfl
  have HS := Lib.hid (show Blk (w.alloc (.cells #[.int .i64 5, .int .i64 i, .int .i64 nn, .int .u8 x.toNat, .slice ab nb cb, .slice ap np cp] 33)) bx #[.int .i64 5, .int .i64 i, .int .i64 nn, .int .u8 x.toNat, .slice ab nb cb, .slice ap np cp] 33 by rw [hbx]; exact Blk.new w #[.int .i64 5, .int .i64 i, .int .i64 nn, .int .u8 x.toNat, .slice ab nb cb, .slice ap np cp] 33)
  have HT2 := Lib.hid (h.on hb1)
  have HO := Lib.hid (Only.of_below (S := fun k => Foot b g v k ∨ RFoot b' u xv k) hb1)
  have HAV := Lib.hid (show ∀ k, (av k ∨ w.heap.size ≤ k) → av k ∨ w.heap.size ≤ k from fun k e => e)
  have HZ := Lib.hid (show w0.heap.size ≤ w.heap.size from h.bl.size)
  have HLS := Lib.hid hlS
  have HLR := Lib.hid hlR
  have HNN := Lib.hid hnn
  have HTX := Lib.hid hB
  have HPX := Lib.hid hP
  have HLB := Lib.hid hlb
  have HBX := Lib.hid hbx
  have HS1 := Lib.hid (show bx + 1 = (w.alloc (.cells #[.int .i64 5, .int .i64 i, .int .i64 nn, .int .u8 x.toNat, .slice ab nb cb, .slice ap np cp] 33)).heap.size by rw [hbx]; simp)
  clear hbx h hlS hlR hnn hB hP hlb hb1
  go_enter Try.func24, Try.ntmps24
  have e5 := (Blk.new w #[.int .i64 5, .int .i64 i, .int .i64 nn, .int .u8 x.toNat, .slice ab nb cb, .slice ap np cp] 33).cell 5 rfl
  go_wp2_with fail
  clear e0 e5
  rw [← HBX.out]
  generalize World.alloc w _ = w1 at *
  have HPQ := Lib.hid (HPX.out.on HT2.out.bl)
  have HPO := Lib.hid (show ∀ g0 o0, ap = some ⟨g0, o0, none⟩ → 0 < pk.length → g0 < w0.heap.size from fun g0 o0 e h0 => by obtain ⟨p, o, e2, hp, _⟩ := HPX.out.rd 0 h0; rw [e] at e2; cases e2; exact hp)
  refine (dcrash_at ap np cp pk HPQ.out.len w1 HT2.out.d (by have := HLS.out.1; omega) HPQ.out.rd).mono ?_
  rintro e w2 ⟨⟨uu, rfl⟩, vd, hD, hO, hv⟩
  replace hv : ∀ k, vd.ownBlock = some k → v.ownBlock = some k ∨ w1.heap.size ≤ k := fun k e => .inl (hv k e)
  have HV := Lib.hid (show ∀ k, vd.ownBlock = some k → v.ownBlock = some k ∨ w.heap.size ≤ k from fun k e => (hv k e).imp id (fun q => Nat.le_trans HO.out.size q))
  have HS := Lib.hid (hO.blk HS.out (HT2.out.d.foot_ty HS.out (by decide)))
  have HRD := Lib.hid (HPQ.out.rd.onlyF hO (fun g0 o0 e h0 q => by have := HT2.out.fd _ q; have := HPO.out g0 o0 e h0; omega))
  have HO := Lib.hid (HO.out.trans (hO.mono fun k e => .inl e))
  have HT2 := Lib.hid (HT2.out.dstep hD hO hv)
  clear hD hO hv
  have e5 := HS.out.cell 5 rfl
  go_wp2_with fail
  refine (rcrash_at ap np cp pk HPQ.out.len w2 HT2.out.r (by have := HLR.out.1; omega) HRD.out (fun g0 o0 e h0 q => by have := HT2.out.fr _ q; have := HPO.out g0 o0 e h0; omega)).mono ?_
  rintro e w3 ⟨⟨uu2, rfl⟩, xd, hR, hO, hv⟩
  replace hv : ∀ k, xd.ownBlock = some k → xv.ownBlock = some k ∨ w2.heap.size ≤ k := fun k e => .inl (hv k e)
  have HVX := Lib.hid (show ∀ k, xd.ownBlock = some k → xv.ownBlock = some k ∨ w.heap.size ≤ k from fun k e => (hv k e).imp id (fun q => Nat.le_trans HO.out.size q))
  have hsz := HO.out.size
  have HS := Lib.hid (hO.blk HS.out (HT2.out.r.foot_ty HS.out (by decide)))
  have HO := Lib.hid (HO.out.trans (hO.mono fun k e => .inr e))
  have HT2 := Lib.hid ((HT2.out.rstep hR hO hv).mono (av' := fun k => av k ∨ w.heap.size ≤ k) (fun k e _ => .inl e))
  clear hR hO hv hsz e5
  go_wp2
  go_ret
  exact ⟨_, rfl, (fun hSR hn => rfl), vd, xd, by rw [stepO_5 rfl, stepO_5 rfl]; exact HT2.out, HO.out, HV.out, HVX.out⟩
set_option maxRecDepth 100000 in
set_option maxHeartbeats 1000000 in
theorem does17_read (i nn : Int) (x : UInt8) (bl : List UInt8) (pk : List Bool)  {av : Nat → Prop} {b g n b' n' : Nat} {v u xv : Value} {S R : DS} (ab ap : Option Addr) (nb cb np cp : Nat) (w0 w : World) (h : Two17 w0 w av b g n v S b' n' u xv R) (hlS : S.Lim 1000) (hlR : R.Lim 1000) (hlb : bl.length ≤ 1000) (hnn : nn ≤ 9223372036854775807) (hB : Txt w0 ab nb cb bl) (hP : BTx w0 ap np cp pk) :
    Calls Try.prog 24 #[.pointer (some ⟨b, 0, none⟩), .pointer (some ⟨b', 0, none⟩), .agg #[.int .i64 0, .int .i64 i, .int .i64 nn, .int .u8 x.toNat, .slice ab nb cb, .slice ap np cp]] w fun e w' => ∃ t, e = .returned (.bool t) ∧ (S = R → n = n' → t = true) ∧ ∃ v' x', Two17 w0 w' (fun k => av k ∨ w.heap.size ≤ k) b g n v' (stepO S ⟨0, i, nn, x, bl, pk⟩) b' n' u x' (stepO R ⟨0, i, nn, x, bl, pk⟩) ∧ Only (fun k => Foot b g v k ∨ RFoot b' u xv k) w w' ∧ (∀ k, v'.ownBlock = some k → v.ownBlock = some k ∨ w.heap.size ≤ k) ∧ (∀ k, x'.ownBlock = some k → xv.ownBlock = some k ∨ w.heap.size ≤ k) := by
  obtain ⟨bx, hbx⟩ : ∃ bx, bx = w.heap.size := ⟨_, rfl⟩
  have hb1 := below_one' w (.cells #[.int .i64 0, .int .i64 i, .int .i64 nn, .int .u8 x.toNat, .slice ab nb cb, .slice ap np cp] 33)
  have e0 := (Blk.new w #[.int .i64 0, .int .i64 i, .int .i64 nn, .int .u8 x.toNat, .slice ab nb cb, .slice ap np cp] 33).cell 0 rfl
  have HS := Lib.hid (show Blk (w.alloc (.cells #[.int .i64 0, .int .i64 i, .int .i64 nn, .int .u8 x.toNat, .slice ab nb cb, .slice ap np cp] 33)) bx #[.int .i64 0, .int .i64 i, .int .i64 nn, .int .u8 x.toNat, .slice ab nb cb, .slice ap np cp] 33 by rw [hbx]; exact Blk.new w #[.int .i64 0, .int .i64 i, .int .i64 nn, .int .u8 x.toNat, .slice ab nb cb, .slice ap np cp] 33)
  have HT2 := Lib.hid (h.on hb1)
  have HO := Lib.hid (Only.of_below (S := fun k => Foot b g v k ∨ RFoot b' u xv k) hb1)
  have HAV := Lib.hid (show ∀ k, (av k ∨ w.heap.size ≤ k) → av k ∨ w.heap.size ≤ k from fun k e => e)
  have HZ := Lib.hid (show w0.heap.size ≤ w.heap.size from h.bl.size)
  have HLS := Lib.hid hlS
  have HLR := Lib.hid hlR
  have HNN := Lib.hid hnn
  have HTX := Lib.hid hB
  have HPX := Lib.hid hP
  have HLB := Lib.hid hlb
  have HBX := Lib.hid hbx
  have HS1 := Lib.hid (show bx + 1 = (w.alloc (.cells #[.int .i64 0, .int .i64 i, .int .i64 nn, .int .u8 x.toNat, .slice ab nb cb, .slice ap np cp] 33)).heap.size by rw [hbx]; simp)
  clear hbx h hlS hlR hnn hB hP hlb hb1
  go_enter Try.func24, Try.ntmps24
  have e1 := (Blk.new w #[.int .i64 0, .int .i64 i, .int .i64 nn, .int .u8 x.toNat, .slice ab nb cb, .slice ap np cp] 33).cell 1 rfl
  go_wp2_with fail
  clear e0 e1
  rw [← HBX.out]
  generalize World.alloc w _ = w1 at *
  refine (dread_at i w1 HT2.out.d (by have := HLS.out.1; omega)).mono ?_
  rintro e w2 ⟨ux, rfl, hOx, hb⟩
  obtain ⟨a8, c8, rfl, _⟩ := hOx.form
  have HS := Lib.hid (HS.out.on hb)
  have HT2 := Lib.hid (HT2.out.on hb)
  have HO := Lib.hid (HO.out.trans (Only.of_below hb))
  have HX2 := Lib.hid hOx.txt
  clear hOx hb
  have e1 := HS.out.cell 1 rfl
  go_wp2_with fail
  refine (rread_at i w2 HT2.out.r (by have := HLR.out.1; omega)).mono ?_
  rintro e w3 ⟨uy, rfl, hOy, hb⟩
  obtain ⟨a9, c9, rfl, _⟩ := hOy.form
  have HS := Lib.hid (HS.out.on hb)
  have HT2 := Lib.hid (HT2.out.on hb)
  have HO := Lib.hid (HO.out.trans (Only.of_below hb))
  have HX2 := Lib.hid (HX2.out.below hb)
  have HY2 := Lib.hid hOy.txt
  clear hOy hb e1
  go_wp2_with fail
  refine (equal_walk _ _ _ _ _ _ _ _ HX2.out.len HY2.out.len w3 HX2.out.rd HY2.out.rd).mono ?_
  rintro e w4 ⟨rfl, rfl⟩
  by_cases hq : (S.read i).1 = (R.read i).1
  · rw [decide_eq_true hq]
    clear hq
    go_wp2
    go_ret
    exact ⟨_, rfl, (fun hSR hn => by subst hSR; simp), v, xv, by rw [stepO_no (by simp), stepO_no (by simp)]; exact HT2.out.mono (fun k e _ => .inl e), HO.out, (fun k e => .inl e), (fun k e => .inl e)⟩
  · rw [decide_eq_false hq]
    have HQ := Lib.hid hq
    clear hq
    go_wp2
    go_ret
    exact ⟨_, rfl, (fun hSR hn => by subst hSR; exact absurd rfl HQ.out), v, xv, by rw [stepO_no (by simp), stepO_no (by simp)]; exact HT2.out.mono (fun k e _ => .inl e), HO.out, (fun k e => .inl e), (fun k e => .inl e)⟩
set_option maxRecDepth 100000 in
set_option maxHeartbeats 1000000 in
theorem does17_else (i nn : Int) (x : UInt8) (bl : List UInt8) (pk : List Bool) (ac : Int) (hac : ac ≠ 0 ∧ ac ≠ 1 ∧ ac ≠ 2 ∧ ac ≠ 3 ∧ ac ≠ 4 ∧ ac ≠ 5 ∧ ac ≠ 7) {av : Nat → Prop} {b g n b' n' : Nat} {v u xv : Value} {S R : DS} (ab ap : Option Addr) (nb cb np cp : Nat) (w0 w : World) (h : Two17 w0 w av b g n v S b' n' u xv R) (hlS : S.Lim 1000) (hlR : R.Lim 1000) (hlb : bl.length ≤ 1000) (hnn : nn ≤ 9223372036854775807) (hB : Txt w0 ab nb cb bl) (hP : BTx w0 ap np cp pk) :
    Calls Try.prog 24 #[.pointer (some ⟨b, 0, none⟩), .pointer (some ⟨b', 0, none⟩), .agg #[.int .i64 ac, .int .i64 i, .int .i64 nn, .int .u8 x.toNat, .slice ab nb cb, .slice ap np cp]] w fun e w' => ∃ t, e = .returned (.bool t) ∧ (S = R → n = n' → t = true) ∧ ∃ v' x', Two17 w0 w' (fun k => av k ∨ w.heap.size ≤ k) b g n v' (stepO S ⟨ac, i, nn, x, bl, pk⟩) b' n' u x' (stepO R ⟨ac, i, nn, x, bl, pk⟩) ∧ Only (fun k => Foot b g v k ∨ RFoot b' u xv k) w w' ∧ (∀ k, v'.ownBlock = some k → v.ownBlock = some k ∨ w.heap.size ≤ k) ∧ (∀ k, x'.ownBlock = some k → xv.ownBlock = some k ∨ w.heap.size ≤ k) := by
  obtain ⟨bx, hbx⟩ : ∃ bx, bx = w.heap.size := ⟨_, rfl⟩
  have hb1 := below_one' w (.cells #[.int .i64 ac, .int .i64 i, .int .i64 nn, .int .u8 x.toNat, .slice ab nb cb, .slice ap np cp] 33)
  have e0 := (Blk.new w #[.int .i64 ac, .int .i64 i, .int .i64 nn, .int .u8 x.toNat, .slice ab nb cb, .slice ap np cp] 33).cell 0 rfl
  have HS := Lib.hid (show Blk (w.alloc (.cells #[.int .i64 ac, .int .i64 i, .int .i64 nn, .int .u8 x.toNat, .slice ab nb cb, .slice ap np cp] 33)) bx #[.int .i64 ac, .int .i64 i, .int .i64 nn, .int .u8 x.toNat, .slice ab nb cb, .slice ap np cp] 33 by rw [hbx]; exact Blk.new w #[.int .i64 ac, .int .i64 i, .int .i64 nn, .int .u8 x.toNat, .slice ab nb cb, .slice ap np cp] 33)
  have HT2 := Lib.hid (h.on hb1)
  have HO := Lib.hid (Only.of_below (S := fun k => Foot b g v k ∨ RFoot b' u xv k) hb1)
  have HAV := Lib.hid (show ∀ k, (av k ∨ w.heap.size ≤ k) → av k ∨ w.heap.size ≤ k from fun k e => e)
  have HZ := Lib.hid (show w0.heap.size ≤ w.heap.size from h.bl.size)
  have HLS := Lib.hid hlS
  have HLR := Lib.hid hlR
  have HNN := Lib.hid hnn
  have HTX := Lib.hid hB
  have HPX := Lib.hid hP
  have HLB := Lib.hid hlb
  have HBX := Lib.hid hbx
  have HS1 := Lib.hid (show bx + 1 = (w.alloc (.cells #[.int .i64 ac, .int .i64 i, .int .i64 nn, .int .u8 x.toNat, .slice ab nb cb, .slice ap np cp] 33)).heap.size by rw [hbx]; simp)
  clear hbx h hlS hlR hnn hB hP hlb hb1
  go_enter Try.func24, Try.ntmps24
  have k0 : (ac == 0) = false := by simp; omega
  have k1 : (ac == 1) = false := by simp; omega
  have k2 : (ac == 2) = false := by simp; omega
  have k3 : (ac == 3) = false := by simp; omega
  have k4 : (ac == 4) = false := by simp; omega
  have k5 : (ac == 5) = false := by simp; omega
  have k7 : (ac == 7) = false := by simp; omega
  have HAC := Lib.hid hac
  clear hac
  go_wp2
  clear e0
  go_ret
  exact ⟨_, rfl, (fun _ _ => rfl), v, xv, by rw [stepO_no (show ac ≠ 1 ∧ ac ≠ 2 ∧ ac ≠ 3 ∧ ac ≠ 4 ∧ ac ≠ 5 ∧ ac ≠ 7 from ⟨HAC.out.2.1, HAC.out.2.2.1, HAC.out.2.2.2.1, HAC.out.2.2.2.2.1, HAC.out.2.2.2.2.2.1, HAC.out.2.2.2.2.2.2⟩), stepO_no (show ac ≠ 1 ∧ ac ≠ 2 ∧ ac ≠ 3 ∧ ac ≠ 4 ∧ ac ≠ 5 ∧ ac ≠ 7 from ⟨HAC.out.2.1, HAC.out.2.2.1, HAC.out.2.2.2.1, HAC.out.2.2.2.2.1, HAC.out.2.2.2.2.2.1, HAC.out.2.2.2.2.2.2⟩)]; exact HT2.out.mono (fun k e _ => .inl e), HO.out, (fun k e => .inl e), (fun k e => .inl e)⟩
end Go.Proofs.Ytgbahfggnbpnmaa
