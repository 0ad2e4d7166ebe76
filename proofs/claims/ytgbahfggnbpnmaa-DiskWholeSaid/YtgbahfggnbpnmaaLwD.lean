import Derived.Test.YtgbahfggnbpnmaaLwT
/-
  liverylaw17.does.
-/
namespace Go.Proofs.Ytgbahfggnbpnmaa
open Go.RowKit
theorem plus_one (y : UInt8) : Value.int .u8 (((y.toNat : Int) + 1) % 256) = bv (y + 1) := by
  refine congrArg (Value.int .u8) ?_
  simp
theorem Txt.onlyT {w w' : World} {F : Nat → Prop} {a : Option Addr} {n c : Nat} {l : List UInt8} (h : Txt w a n c l) (hO : Only F w w') (hF : ∀ g o, a = some ⟨g, o, none⟩ → 0 < l.length → ¬ F g) : Txt w' a n c l :=
  ⟨h.len, h.fit, hO.rdB h.rd (fun b o e h0 => hF b o e h0), fun b o e h0 => Nat.lt_of_lt_of_le (h.old b o e h0) hO.size⟩
set_option maxRecDepth 100000 in
set_option maxHeartbeats 1000000 in
theorem does17_write (i nn : Int) (x : UInt8) (bl : List UInt8) (pk : List Bool)  {av : Nat → Prop} {b g n b' n' : Nat} {v u xv : Value} {S R : DS} (ab ap : Option Addr) (nb cb np cp : Nat) (w0 w : World) (h : Two17 w0 w av b g n v S b' n' u xv R) (hlS : S.Lim 1000) (hlR : R.Lim 1000) (hlb : bl.length ≤ 1000) (hnn : nn ≤ 9223372036854775807) (hB : Txt w0 ab nb cb bl) (hP : BTx w0 ap np cp pk) :
    Calls Try.prog 24 #[.pointer (some ⟨b, 0, none⟩), .pointer (some ⟨b', 0, none⟩), .agg #[.int .i64 1, .int .i64 i, .int .i64 nn, .int .u8 x.toNat, .slice ab nb cb, .slice ap np cp]] w fun e w' => ∃ t, e = .returned (.bool t) ∧ (S = R → n = n' → t = true) ∧ ∃ v' x', Two17 w0 w' (fun k => av k ∨ w.heap.size ≤ k) b g n v' (stepO S ⟨1, i, nn, x, bl, pk⟩) b' n' u x' (stepO R ⟨1, i, nn, x, bl, pk⟩) ∧ Only (fun k => Foot b g v k ∨ RFoot b' u xv k) w w' ∧ (∀ k, v'.ownBlock = some k → v.ownBlock = some k ∨ w.heap.size ≤ k) ∧ (∀ k, x'.ownBlock = some k → xv.ownBlock = some k ∨ w.heap.size ≤ k) := by
  obtain ⟨bx, hbx⟩ : ∃ bx, bx = w.heap.size := ⟨_, rfl⟩
  have hb1 := below_one' w (.cells #[.int .i64 1, .int .i64 i, .int .i64 nn, .int .u8 x.toNat, .slice ab nb cb, .slice ap np cp] 33)
  have e0 := (Blk.new w #[.int .i64 1, .int .i64 i, .int .i64 nn, .int .u8 x.toNat, .slice ab nb cb, .slice ap np cp] 33).cell 0 rfl
  have HS := Lib.hid (show Blk (w.alloc (.cells #[.int .i64 1, .int .i64 i, .int .i64 nn, .int .u8 x.toNat, .slice ab nb cb, .slice ap np cp] 33)) bx #[.int .i64 1, .int .i64 i, .int .i64 nn, .int .u8 x.toNat, .slice ab nb cb, .slice ap np cp] 33 by rw [hbx]; exact Blk.new w #[.int .i64 1, .int .i64 i, .int .i64 nn, .int .u8 x.toNat, .slice ab nb cb, .slice ap np cp] 33)
  have HT2 := Lib.hid (h.on hb1)
  have HO := Lib.hid (Only.of_below (S := fun k => Foot b g v k ∨ RFoot b' u xv k) hb1)
  have HAV := Lib.hid (show ∀ k, (av k ∨ w.heap.size ≤ k) → av k ∨ w.heap.size ≤ k from fun k e => e)
  have HZ := Lib.hid (show w0.heap.size ≤ w.heap.size from h.bl.size)
  have HLS := Lib.hid hlS
  have HLR := Lib.hid hlR
  have HNN := Lib.hid hnn
  have HTX := Lib.hid hB
  have HPX := Lib.hid hP
  have HLB := Lib.hid hlb
  have HBX := Lib.hid hbx
  have HS1 := Lib.hid (show bx + 1 = (w.alloc (.cells #[.int .i64 1, .int .i64 i, .int .i64 nn, .int .u8 x.toNat, .slice ab nb cb, .slice ap np cp] 33)).heap.size by rw [hbx]; simp)
  clear hbx h hlS hlR hnn hB hP hlb hb1
  go_enter Try.func24, Try.ntmps24
  go_wp2
  clear e0
  rw [← HBX.out]
  generalize World.alloc w _ = w1 at *
  refine wp_region_held_drew (S := fun W => Blk W bx #[.int .i64 1, .int .i64 i, .int .i64 nn, .int .u8 x.toNat, .slice ab nb cb, .slice ap np cp] 33) (by kernel_rfl) HS.out (fun _ => ?_)
  have hb : Below w1.heap.size w1 (World.drew w1) := (Below.refl _ _).drew
  have HS := Lib.hid (HS.out.on hb)
  have HT2 := Lib.hid (HT2.out.on hb)
  have HO := Lib.hid (HO.out.trans (Only.of_below hb))
  clear hb
  generalize World.drew w1 = v0 at *
  try simp only [Act.put, List.setIfInBounds_toArray, List.set_cons_succ, List.set_cons_zero]
  refine wpAnyH_take (i := 0) (oi := ⟨some 42, .move (.tmp 0), _, _, _, none⟩) (v := .pointer (some ⟨b, 0, none⟩)) rfl (by kernel_rfl) (by kernel_rfl) (by kernel_rfl) (fun _ _ _ h => h) (Or.inl ⟨by rfl, fun _ _ => by go_simp⟩) HS.out ?_
  try simp only [Act.put, List.setIfInBounds_toArray, List.set_cons_succ, List.set_cons_zero]
  refine wpAnyH_take (i := 1) (oi := ⟨some 43, .fieldAddr 33 (.tmp 5) 1, _, _, _, none⟩) (v := .pointer (some ⟨bx, 1, none⟩)) rfl (by kernel_rfl) (by kernel_rfl) (by kernel_rfl) (fun _ _ _ h => h) (Or.inl ⟨by rfl, fun _ _ => by go_simp⟩) HS.out ?_
  try simp only [Act.put, List.setIfInBounds_toArray, List.set_cons_succ, List.set_cons_zero]
  refine wpAnyH_take (i := 2) (oi := ⟨some 44, .load 3 (.tmp 43), 3, _, _, none⟩) (v := .int .i64 i) rfl (by kernel_rfl) (by kernel_rfl) (by kernel_rfl) (fun _ _ _ h => h) (Or.inl ⟨by rfl, fun vv hvv => by have q := hvv.cell 1 rfl; clear hvv; unfold execOp; go_simp⟩) HS.out ?_
  try simp only [Act.put, List.setIfInBounds_toArray, List.set_cons_succ, List.set_cons_zero]
  refine wpAnyH_take (i := 3) (oi := ⟨some 45, .fieldAddr 33 (.tmp 5) 3, _, _, _, none⟩) (v := .pointer (some ⟨bx, 3, none⟩)) rfl (by kernel_rfl) (by kernel_rfl) (by kernel_rfl) (fun _ _ _ h => h) (Or.inl ⟨by rfl, fun _ _ => by go_simp⟩) HS.out ?_
  try simp only [Act.put, List.setIfInBounds_toArray, List.set_cons_succ, List.set_cons_zero]
  refine wpAnyH_take (i := 4) (oi := ⟨some 46, .load 5 (.tmp 45), 5, _, _, none⟩) (v := .int .u8 x.toNat) rfl (by kernel_rfl) (by kernel_rfl) (by kernel_rfl) (fun _ _ _ h => h) (Or.inl ⟨by rfl, fun vv hvv => by have q := hvv.cell 3 rfl; clear hvv; unfold execOp; go_simp⟩) HS.out ?_
  try simp only [Act.put, List.setIfInBounds_toArray, List.set_cons_succ, List.set_cons_zero]
  refine wpAnyH_take (i := 7) (oi := ⟨some 49, .move (.tmp 1), _, _, _, none⟩) (v := .pointer (some ⟨b', 0, none⟩)) rfl (by kernel_rfl) (by kernel_rfl) (by kernel_rfl) (fun _ _ _ h => h) (Or.inl ⟨by rfl, fun _ _ => by go_simp⟩) HS.out ?_
  try simp only [Act.put, List.setIfInBounds_toArray, List.set_cons_succ, List.set_cons_zero]
  refine wpAnyH_take (i := 8) (oi := ⟨some 50, .fieldAddr 33 (.tmp 5) 1, _, _, _, none⟩) (v := .pointer (some ⟨bx, 1, none⟩)) rfl (by kernel_rfl) (by kernel_rfl) (by kernel_rfl) (fun _ _ _ h => h) (Or.inl ⟨by rfl, fun _ _ => by go_simp⟩) HS.out ?_
  try simp only [Act.put, List.setIfInBounds_toArray, List.set_cons_succ, List.set_cons_zero]
  refine wpAnyH_take (i := 9) (oi := ⟨some 51, .load 3 (.tmp 50), 3, _, _, none⟩) (v := .int .i64 i) rfl (by kernel_rfl) (by kernel_rfl) (by kernel_rfl) (fun _ _ _ h => h) (Or.inl ⟨by rfl, fun vv hvv => by have q := hvv.cell 1 rfl; clear hvv; unfold execOp; go_simp⟩) HS.out ?_
  try simp only [Act.put, List.setIfInBounds_toArray, List.set_cons_succ, List.set_cons_zero]
  refine wpAnyH_take (i := 10) (oi := ⟨some 52, .fieldAddr 33 (.tmp 5) 3, _, _, _, none⟩) (v := .pointer (some ⟨bx, 3, none⟩)) rfl (by kernel_rfl) (by kernel_rfl) (by kernel_rfl) (fun _ _ _ h => h) (Or.inl ⟨by rfl, fun _ _ => by go_simp⟩) HS.out ?_
  try simp only [Act.put, List.setIfInBounds_toArray, List.set_cons_succ, List.set_cons_zero]
  refine wpAnyH_take (i := 11) (oi := ⟨some 53, .load 5 (.tmp 52), 5, _, _, none⟩) (v := .int .u8 x.toNat) rfl (by kernel_rfl) (by kernel_rfl) (by kernel_rfl) (fun _ _ _ h => h) (Or.inl ⟨by rfl, fun vv hvv => by have q := hvv.cell 3 rfl; clear hvv; unfold execOp; go_simp⟩) HS.out ?_
  try simp only [Act.put, List.setIfInBounds_toArray, List.set_cons_succ, List.set_cons_zero]
  refine wpAnyH_ready (rs := [5]) (by kernel_rfl) (by simp) ?_
  refine AllReadyH.cons (o := ⟨some 47, .call { callee := .value (.func 16), args := #[.tmp 46], argTypes := #[5] }, 30, _, _, none⟩) rfl (fun K hK => ?_) AllReadyH.nil
  go_simp
  refine (block_walk x v0).mono ?_
  rintro e v1 ⟨g1, rfl, hB, hge, hb⟩
  have HS := Lib.hid (HS.out.on hb)
  have HT2 := Lib.hid (HT2.out.on hb)
  have HO := Lib.hid (HO.out.trans (Only.of_below hb))
  have HB1 := Lib.hid (hB)
  clear hb hB hge
  refine hK _ _ HS.out (fun _ => ?_)
  clear hK K
  try simp only [Act.put, List.setIfInBounds_toArray, List.set_cons_succ, List.set_cons_zero]
  refine wpAnyH_ready (rs := [6]) (by kernel_rfl) (by simp) ?_
  refine AllReadyH.cons (o := ⟨some 48, .call { callee := .value (.func 15), args := #[.tmp 42, .tmp 44, .tmp 47], argTypes := #[24, 3, 30] }, 28, _, _, none⟩) rfl (fun K hK => ?_) AllReadyH.nil
  go_simp
  refine (dwrite_at i _ 256 256 (blockL x) v1 HT2.out.d (by have := HLS.out.2; omega) (by have := HLS.out.1; omega) (blk_txt HB1.out)).mono ?_
  rintro e v2 ⟨rfl, vd, hD, hO, hv⟩
  have HV := Lib.hid (show ∀ k, vd.ownBlock = some k → v.ownBlock = some k ∨ w.heap.size ≤ k from fun k e => (hv k e).imp id (fun q => Nat.le_trans HO.out.size q))
  have HS := Lib.hid (hO.blk HS.out (HT2.out.d.foot_ty HS.out (by decide)))
  have HO := Lib.hid (HO.out.trans (hO.mono fun k e => .inl e))
  have HT2 := Lib.hid (HT2.out.dstep hD hO hv)
  clear hD hO hv HB1
  refine hK _ _ HS.out (fun _ => ?_)
  clear hK K
  try simp only [Act.put, List.setIfInBounds_toArray, List.set_cons_succ, List.set_cons_zero]
  refine wpAnyH_ready (rs := [12]) (by kernel_rfl) (by simp) ?_
  refine AllReadyH.cons (o := ⟨some 54, .call { callee := .value (.func 16), args := #[.tmp 53], argTypes := #[5] }, 30, _, _, none⟩) rfl (fun K hK => ?_) AllReadyH.nil
  go_simp
  refine (block_walk x v2).mono ?_
  rintro e v3 ⟨g2, rfl, hB, hge, hb⟩
  have HS := Lib.hid (HS.out.on hb)
  have HT2 := Lib.hid (HT2.out.on hb)
  have HO := Lib.hid (HO.out.trans (Only.of_below hb))
  have HB2 := Lib.hid (hB)
  clear hb hB hge
  refine hK _ _ HS.out (fun _ => ?_)
  clear hK K
  try simp only [Act.put, List.setIfInBounds_toArray, List.set_cons_succ, List.set_cons_zero]
  refine wpAnyH_ready (rs := [13]) (by kernel_rfl) (by simp) ?_
  refine AllReadyH.cons (o := ⟨some 55, .call { callee := .value (.func 43), args := #[.tmp 49, .tmp 51, .tmp 54], argTypes := #[43, 3, 30] }, 28, _, _, none⟩) rfl (fun K hK => ?_) AllReadyH.nil
  go_simp
  refine (rwrite_at i _ 256 256 (blockL x) v3 HT2.out.r (by have := HLR.out.2; omega) (by have := HLR.out.1; omega) (blk_txt HB2.out)).mono ?_
  rintro e v4 ⟨rfl, xd, hR, hO, hv⟩
  have HVX := Lib.hid (show ∀ k, xd.ownBlock = some k → xv.ownBlock = some k ∨ w.heap.size ≤ k from fun k e => (hv k e).imp id (fun q => Nat.le_trans HO.out.size q))
  have hsz := HO.out.size
  have HS := Lib.hid (hO.blk HS.out (HT2.out.r.foot_ty HS.out (by decide)))
  have HO := Lib.hid (HO.out.trans (hO.mono fun k e => .inr e))
  have HT2 := Lib.hid ((HT2.out.rstep hR hO hv).mono (av' := fun k => av k ∨ w.heap.size ≤ k) (fun k e _ => e.elim .inl (fun q => .inr (Nat.le_trans hsz q))))
  clear hR hO hv HB2 hsz
  refine hK _ _ HS.out (fun _ => ?_)
  clear hK K
  try simp only [Act.put, List.setIfInBounds_toArray, List.set_cons_succ, List.set_cons_zero]
  refine wpAnyH_take (i := 14) (oi := ⟨some 56, .binOp .eql 28 (.tmp 48) (.tmp 55) 28, _, _, _, none⟩) (v := .bool ((S.write i (blockL x)).1 == (R.write i (blockL x)).1)) rfl (by kernel_rfl) (by kernel_rfl) (by kernel_rfl) (fun _ _ _ h => h) (Or.inl ⟨by rfl, fun _ _ => by go_simp⟩) HS.out ?_
  try simp only [Act.put, List.setIfInBounds_toArray, List.set_cons_succ, List.set_cons_zero]
  refine wpAnyH_take (i := 15) (oi := ⟨some 6, .assign (.tmp 56), _, _, _, none⟩) (v := .bool ((S.write i (blockL x)).1 == (R.write i (blockL x)).1)) rfl (by kernel_rfl) (by kernel_rfl) (by kernel_rfl) (fun _ _ _ h => h) (Or.inl ⟨by rfl, fun _ _ => by go_simp⟩) HS.out ?_
  try simp only [Act.put, List.setIfInBounds_toArray, List.set_cons_succ, List.set_cons_zero]
  refine wpAnyH_done (by kernel_rfl) ?_ _
  go_wp2
  go_ret
  exact ⟨_, rfl, (fun hSR hn => by subst hSR; simp), vd, xd, by rw [stepO_1 rfl, stepO_1 rfl]; exact HT2.out, HO.out, HV.out, HVX.out⟩
set_option maxRecDepth 100000 in
set_option maxHeartbeats 1000000 in
theorem does17_arm (i nn : Int) (x : UInt8) (bl : List UInt8) (pk : List Bool)  {av : Nat → Prop} {b g n b' n' : Nat} {v u xv : Value} {S R : DS} (ab ap : Option Addr) (nb cb np cp : Nat) (w0 w : World) (h : Two17 w0 w av b g n v S b' n' u xv R) (hlS : S.Lim 1000) (hlR : R.Lim 1000) (hlb : bl.length ≤ 1000) (hnn : nn ≤ 9223372036854775807) (hB : Txt w0 ab nb cb bl) (hP : BTx w0 ap np cp pk) :
    Calls Try.prog 24 #[.pointer (some ⟨b, 0, none⟩), .pointer (some ⟨b', 0, none⟩), .agg #[.int .i64 3, .int .i64 i, .int .i64 nn, .int .u8 x.toNat, .slice ab nb cb, .slice ap np cp]] w fun e w' => ∃ t, e = .returned (.bool t) ∧ (S = R → n = n' → t = true) ∧ ∃ v' x', Two17 w0 w' (fun k => av k ∨ w.heap.size ≤ k) b g n v' (stepO S ⟨3, i, nn, x, bl, pk⟩) b' n' u x' (stepO R ⟨3, i, nn, x, bl, pk⟩) ∧ Only (fun k => Foot b g v k ∨ RFoot b' u xv k) w w' ∧ (∀ k, v'.ownBlock = some k → v.ownBlock = some k ∨ w.heap.size ≤ k) ∧ (∀ k, x'.ownBlock = some k → xv.ownBlock = some k ∨ w.heap.size ≤ k) := by
  obtain ⟨bx, hbx⟩ : ∃ bx, bx = w.heap.size := ⟨_, rfl⟩
  have hb1 := below_one' w (.cells #[.int .i64 3, .int .i64 i, .int .i64 nn, .int .u8 x.toNat, .slice ab nb cb, .slice ap np cp] 33)
  have e0 := (Blk.new w #[.int .i64 3, .int .i64 i, .int .i64 nn, .int .u8 x.toNat, .slice ab nb cb, .slice ap np cp] 33).cell 0 rfl
  have HS := Lib.hid (show Blk (w.alloc (.cells #[.int .i64 3, .int .i64 i, .int .i64 nn, .int .u8 x.toNat, .slice ab nb cb, .slice ap np cp] 33)) bx #[.int .i64 3, .int .i64 i, .int .i64 nn, .int .u8 x.toNat, .slice ab nb cb, .slice ap np cp] 33 by rw [hbx]; exact Blk.new w #[.int .i64 3, .int .i64 i, .int .i64 nn, .int .u8 x.toNat, .slice ab nb cb, .slice ap np cp] 33)
  have HT2 := Lib.hid (h.on hb1)
  have HO := Lib.hid (Only.of_below (S := fun k => Foot b g v k ∨ RFoot b' u xv k) hb1)
  have HAV := Lib.hid (show ∀ k, (av k ∨ w.heap.size ≤ k) → av k ∨ w.heap.size ≤ k from fun k e => e)
  have HZ := Lib.hid (show w0.heap.size ≤ w.heap.size from h.bl.size)
  have HLS := Lib.hid hlS
  have HLR := Lib.hid hlR
  have HNN := Lib.hid hnn
  have HTX := Lib.hid hB
  have HPX := Lib.hid hP
  have HLB := Lib.hid hlb
  have HBX := Lib.hid hbx
  have HS1 := Lib.hid (show bx + 1 = (w.alloc (.cells #[.int .i64 3, .int .i64 i, .int .i64 nn, .int .u8 x.toNat, .slice ab nb cb, .slice ap np cp] 33)).heap.size by rw [hbx]; simp)
  clear hbx h hlS hlR hnn hB hP hlb hb1
  go_enter Try.func24, Try.ntmps24
  go_wp2
  clear e0
  rw [← HBX.out]
  generalize World.alloc w _ = w1 at *
  refine wp_region_held_drew (S := fun W => Blk W bx #[.int .i64 3, .int .i64 i, .int .i64 nn, .int .u8 x.toNat, .slice ab nb cb, .slice ap np cp] 33) (by kernel_rfl) HS.out (fun _ => ?_)
  have hb : Below w1.heap.size w1 (World.drew w1) := (Below.refl _ _).drew
  have HS := Lib.hid (HS.out.on hb)
  have HT2 := Lib.hid (HT2.out.on hb)
  have HO := Lib.hid (HO.out.trans (Only.of_below hb))
  clear hb
  generalize World.drew w1 = v0 at *
  try simp only [Act.put, List.setIfInBounds_toArray, List.set_cons_succ, List.set_cons_zero]
  refine wpAnyH_take (i := 0) (oi := ⟨some 66, .move (.tmp 0), _, _, _, none⟩) (v := .pointer (some ⟨b, 0, none⟩)) rfl (by kernel_rfl) (by kernel_rfl) (by kernel_rfl) (fun _ _ _ h => h) (Or.inl ⟨by rfl, fun _ _ => by go_simp⟩) HS.out ?_
  try simp only [Act.put, List.setIfInBounds_toArray, List.set_cons_succ, List.set_cons_zero]
  refine wpAnyH_take (i := 1) (oi := ⟨some 67, .fieldAddr 33 (.tmp 5) 2, _, _, _, none⟩) (v := .pointer (some ⟨bx, 2, none⟩)) rfl (by kernel_rfl) (by kernel_rfl) (by kernel_rfl) (fun _ _ _ h => h) (Or.inl ⟨by rfl, fun _ _ => by go_simp⟩) HS.out ?_
  try simp only [Act.put, List.setIfInBounds_toArray, List.set_cons_succ, List.set_cons_zero]
  refine wpAnyH_take (i := 2) (oi := ⟨some 68, .load 3 (.tmp 67), 3, _, _, none⟩) (v := .int .i64 nn) rfl (by kernel_rfl) (by kernel_rfl) (by kernel_rfl) (fun _ _ _ h => h) (Or.inl ⟨by rfl, fun vv hvv => by have q := hvv.cell 2 rfl; clear hvv; unfold execOp; go_simp⟩) HS.out ?_
  try simp only [Act.put, List.setIfInBounds_toArray, List.set_cons_succ, List.set_cons_zero]
  refine wpAnyH_take (i := 4) (oi := ⟨some 70, .move (.tmp 1), _, _, _, none⟩) (v := .pointer (some ⟨b', 0, none⟩)) rfl (by kernel_rfl) (by kernel_rfl) (by kernel_rfl) (fun _ _ _ h => h) (Or.inl ⟨by rfl, fun _ _ => by go_simp⟩) HS.out ?_
  try simp only [Act.put, List.setIfInBounds_toArray, List.set_cons_succ, List.set_cons_zero]
  refine wpAnyH_take (i := 5) (oi := ⟨some 71, .fieldAddr 33 (.tmp 5) 2, _, _, _, none⟩) (v := .pointer (some ⟨bx, 2, none⟩)) rfl (by kernel_rfl) (by kernel_rfl) (by kernel_rfl) (fun _ _ _ h => h) (Or.inl ⟨by rfl, fun _ _ => by go_simp⟩) HS.out ?_
  try simp only [Act.put, List.setIfInBounds_toArray, List.set_cons_succ, List.set_cons_zero]
  refine wpAnyH_take (i := 6) (oi := ⟨some 72, .load 3 (.tmp 71), 3, _, _, none⟩) (v := .int .i64 nn) rfl (by kernel_rfl) (by kernel_rfl) (by kernel_rfl) (fun _ _ _ h => h) (Or.inl ⟨by rfl, fun vv hvv => by have q := hvv.cell 2 rfl; clear hvv; unfold execOp; go_simp⟩) HS.out ?_
  try simp only [Act.put, List.setIfInBounds_toArray, List.set_cons_succ, List.set_cons_zero]
  refine wpAnyH_ready (rs := [3]) (by kernel_rfl) (by simp) ?_
  refine AllReadyH.cons (o := ⟨some 69, .call { callee := .value (.func 35), args := #[.tmp 66, .tmp 68], argTypes := #[24, 3] }, 28, _, _, none⟩) rfl (fun K hK => ?_) AllReadyH.nil
  go_simp
  refine (darm_at nn HNN.out v0 HT2.out.d).mono ?_
  rintro e v1 ⟨rfl, hD, hO⟩
  replace hO := hO.mono (T := Foot b g v) fun k e => .inl e
  obtain ⟨vd, hv3⟩ : ∃ vd, vd = v := ⟨_, rfl⟩
  have hv : ∀ k, vd.ownBlock = some k → v.ownBlock = some k ∨ v0.heap.size ≤ k := fun k e => .inl (hv3 ▸ e)
  replace hD := hv3.symm ▸ hD
  have HV := Lib.hid (show ∀ k, vd.ownBlock = some k → v.ownBlock = some k ∨ w.heap.size ≤ k from fun k e => (hv k e).imp id (fun q => Nat.le_trans HO.out.size q))
  have HS := Lib.hid (hO.blk HS.out (HT2.out.d.foot_ty HS.out (by decide)))
  have HO := Lib.hid (HO.out.trans (hO.mono fun k e => .inl e))
  have HT2 := Lib.hid (HT2.out.dstep hD hO hv)
  clear hD hO hv hv3
  refine hK _ _ HS.out (fun _ => ?_)
  clear hK K
  try simp only [Act.put, List.setIfInBounds_toArray, List.set_cons_succ, List.set_cons_zero]
  refine wpAnyH_ready (rs := [7]) (by kernel_rfl) (by simp) ?_
  refine AllReadyH.cons (o := ⟨some 73, .call { callee := .value (.func 45), args := #[.tmp 70, .tmp 72], argTypes := #[43, 3] }, 28, _, _, none⟩) rfl (fun K hK => ?_) AllReadyH.nil
  go_simp
  refine (rarm_at nn HNN.out v1 HT2.out.r).mono ?_
  rintro e v2 ⟨rfl, hR, hO⟩
  replace hO := hO.mono (T := RFoot b' u xv) fun k e => .inl e
  obtain ⟨xd, hx3⟩ : ∃ xd, xd = xv := ⟨_, rfl⟩
  have hv : ∀ k, xd.ownBlock = some k → xv.ownBlock = some k ∨ v1.heap.size ≤ k := fun k e => .inl (hx3 ▸ e)
  replace hR := hx3.symm ▸ hR
  have HVX := Lib.hid (show ∀ k, xd.ownBlock = some k → xv.ownBlock = some k ∨ w.heap.size ≤ k from fun k e => (hv k e).imp id (fun q => Nat.le_trans HO.out.size q))
  have hsz := HO.out.size
  have HS := Lib.hid (hO.blk HS.out (HT2.out.r.foot_ty HS.out (by decide)))
  have HO := Lib.hid (HO.out.trans (hO.mono fun k e => .inr e))
  have HT2 := Lib.hid ((HT2.out.rstep hR hO hv).mono (av' := fun k => av k ∨ w.heap.size ≤ k) (fun k e _ => .inl e))
  clear hR hO hv hx3 hsz
  refine hK _ _ HS.out (fun _ => ?_)
  clear hK K
  try simp only [Act.put, List.setIfInBounds_toArray, List.set_cons_succ, List.set_cons_zero]
  refine wpAnyH_take (i := 8) (oi := ⟨some 74, .binOp .eql 28 (.tmp 69) (.tmp 73) 28, _, _, _, none⟩) (v := .bool ((S.arm nn).1 == (R.arm nn).1)) rfl (by kernel_rfl) (by kernel_rfl) (by kernel_rfl) (fun _ _ _ h => h) (Or.inl ⟨by rfl, fun _ _ => by go_simp⟩) HS.out ?_
  try simp only [Act.put, List.setIfInBounds_toArray, List.set_cons_succ, List.set_cons_zero]
  refine wpAnyH_take (i := 9) (oi := ⟨some 6, .assign (.tmp 74), _, _, _, none⟩) (v := .bool ((S.arm nn).1 == (R.arm nn).1)) rfl (by kernel_rfl) (by kernel_rfl) (by kernel_rfl) (fun _ _ _ h => h) (Or.inl ⟨by rfl, fun _ _ => by go_simp⟩) HS.out ?_
  try simp only [Act.put, List.setIfInBounds_toArray, List.set_cons_succ, List.set_cons_zero]
  refine wpAnyH_done (by kernel_rfl) ?_ _
  go_wp2
  go_ret
  exact ⟨_, rfl, (fun hSR hn => by subst hSR; simp), vd, xd, by rw [stepO_3 rfl, stepO_3 rfl]; exact HT2.out, HO.out, HV.out, HVX.out⟩
end Go.Proofs.Ytgbahfggnbpnmaa
