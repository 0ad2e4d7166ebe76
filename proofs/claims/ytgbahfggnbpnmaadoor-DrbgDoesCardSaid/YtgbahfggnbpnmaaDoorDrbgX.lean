import Derived.Test.YtgbahfggnbpnmaaDoorRDrbgX
import Derived.Test.YtgbahfggnbpnmaaDoorDrbgE
/-
  liverylaw05.does.
-/
namespace Go.Proofs.YtgbahfggnbpnmaaDoor
open Go.RowKit
structure BB (w : World) (g : Nat) (c : Array Value) (t : TypeId) (g' : Nat) (c' : Array Value) (t' : TypeId) : Prop where
  a : Blk w g c t
  b : Blk w g' c' t'
theorem BB.on {w w' : World} {g : Nat} {c : Array Value} {t : TypeId} {g' : Nat} {c' : Array Value} {t' : TypeId} (h : BB w g c t g' c' t') (hb : Below w.heap.size w w') : BB w' g c t g' c' t' := ⟨h.a.on hb, h.b.on hb⟩
theorem BB.grown {w w' : World} {g : Nat} {c : Array Value} {t : TypeId} {g' : Nat} {c' : Array Value} {t' : TypeId} {r : Option Nat} (h : BB w g c t g' c' t') (hg : w.grownBy w' r) (h1 : some g ≠ r) (h2 : some g' ≠ r) : BB w' g c t g' c' t' := ⟨h.a.grown hg h1, h.b.grown hg h2⟩
theorem yields_i64 {o : Oper} {a : Act} {w : World} (x : Operand) (ho : o.op = .load 3 x) (p : Addr) (hx : a.eval x = .pointer (some p)) {z : Int} (hc : w.cell? p = some (.int .i64 z)) : (execOp a.eval o).run Tryd.prog w = .ok (.value (.int .i64 z)) w := by
  unfold execOp
  simp only [ho, hx]
  go_simp
theorem grown_far {w0 w W : World} {g : Nat} {r : Option Nat} (h : w0.grownBy w r) (hW : Wrote w W g) (hg : w0.heap.size ≤ g) : w0.grownBy W r :=
  h.andThen (row_of_wrote hW) (fun j hj => by simp only [Option.some.injEq] at hj; omega)
set_option maxRecDepth 100000 in
set_option maxHeartbeats 2000000 in
theorem ddoes_walk (s : DS) (op : DOp) (G : Nat) (ka va ab aa : Option Addr) (kn kc vn vc nb cb na ca : Nat) (w : World) (hD : s.At w G) (hK : Txt w ka kn kc s.k) (hV : Txt w va vn vc s.v) (fK : Off ka s.k G) (fV : Off va s.v G) (hB : Txt w ab nb cb op.b) (hA : Txt w aa na ca op.add) (fB : Off ab op.b G) (fA : Off aa op.add G) (hT : Two w) (h1 : G ≠ 0 ∧ G ≠ 1) :
    Calls Tryd.prog 68 #[.pointer (some ⟨G, 0, none⟩), .agg #[.slice ka kn kc, .slice va vn vc, .int .i64 s.c], .agg #[.bool op.res, .int .i64 op.n, .slice ab nb cb, .slice aa na ca, .bool op.copy]] w fun e w' => ∃ kx kxn kxc vx vxn vxc C, e = .returned (.tuple #[.agg #[.slice kx kxn kxc, .slice vx vxn vxc, .int .i64 C], .bool true]) ∧
      C = (if op.res = true then s.reseed op.b op.add else s.next op.n op.add).c ∧ w.grownBy w' (some G) ∧ (if op.res = true then s.reseed op.b op.add else s.next op.n op.add).At w' G ∧ Txt w' kx kxn kxc (if op.res = true then s.reseed op.b op.add else s.next op.n op.add).k ∧ Txt w' vx vxn vxc (if op.res = true then s.reseed op.b op.add else s.next op.n op.add).v ∧
      (∀ g, g < w.heap.size → Off ka s.k g → Off kx (if op.res = true then s.reseed op.b op.add else s.next op.n op.add).k g) ∧ (∀ g, g < w.heap.size → Off va s.v g → Off vx (if op.res = true then s.reseed op.b op.add else s.next op.n op.add).v g) := by
  have hl1 : s.k.length = 32 := hD.1.kl
  have hl2 : s.v.length = 32 := hD.1.vl
  have hc0 : 0 ≤ s.c := hD.2.1
  have HGs := Lib.hid (show G < w.heap.size from hD.1.blk.lt)
  have HTB := Lib.hid hB
  have HTA := Lib.hid hA
  have HFB := Lib.hid fB
  have HFA := Lib.hid fA
  have HT := Lib.hid hT
  have HGd := Lib.hid h1
  have HL1 := Lib.hid hl1
  have HL2 := Lib.hid hl2
  have HC0 := Lib.hid hc0
  have hb3 := (below_two w (.cells #[.slice ka kn kc, .slice va vn vc, .int .i64 s.c] 88) (.cells #[.bool op.res, .int .i64 op.n, .slice ab nb cb, .slice aa na ca, .bool op.copy] 84)).trans ((below_one' _ (.cells #[.slice none 0 0, .slice none 0 0, .int .i64 0] 88)).mono (by simp; omega))
  have B4 := Lib.hid (((Blk.new w #[.slice ka kn kc, .slice va vn vc, .int .i64 s.c] 88).alloc (.cells #[.bool op.res, .int .i64 op.n, .slice ab nb cb, .slice aa na ca, .bool op.copy] 84)).alloc (.cells #[.slice none 0 0, .slice none 0 0, .int .i64 0] 88))
  have B5 := Lib.hid ((Blk.new' (w.alloc (.cells #[.slice ka kn kc, .slice va vn vc, .int .i64 s.c] 88)) #[.bool op.res, .int .i64 op.n, .slice ab nb cb, .slice aa na ca, .bool op.copy] 84 (g := w.heap.size + 1) (by simp)).alloc (.cells #[.slice none 0 0, .slice none 0 0, .int .i64 0] 88))
  have B6 := Lib.hid (Blk.new' ((w.alloc (.cells #[.slice ka kn kc, .slice va vn vc, .int .i64 s.c] 88)).alloc (.cells #[.bool op.res, .int .i64 op.n, .slice ab nb cb, .slice aa na ca, .bool op.copy] 84)) #[.slice none 0 0, .slice none 0 0, .int .i64 0] 88 (g := w.heap.size + 2) (by simp))
  have HB := Lib.hid hb3
  have HD := Lib.hid (hD.on hb3)
  have TK0 := Lib.hid (hK.on hb3)
  have TV0 := Lib.hid (hV.on hb3)
  have FK0 := Lib.hid (show ∀ g, (g = G ∨ w.heap.size ≤ g) → Off ka s.k g from fun g hg => by rcases hg with rfl | hg; exact fK; exact hK.offG hg)
  have FV0 := Lib.hid (show ∀ g, (g = G ∨ w.heap.size ≤ g) → Off va s.v g from fun g hg => by rcases hg with rfl | hg; exact fV; exact hV.offG hg)
  have b0 := B5.out.cell 0 rfl
  have b1 := B5.out.cell 1 rfl
  have b2 := B5.out.cell 2 rfl
  have b3 := B5.out.cell 3 rfl
  clear hD hK hV fK fV hB hA fB fA hT h1 hl1 hl2 hc0 hb3
  cases hres : op.res with
  | true =>
    rw [hres] at b0 B5
    obtain ⟨er, her⟩ : ∃ z, z = mayE op.b [op.add] := ⟨_, rfl⟩
    have HER := Lib.hid her
    obtain ⟨s1, hs1⟩ : ∃ z, z = s.reseed op.b op.add := ⟨_, rfl⟩
    have HS1 := Lib.hid hs1
    obtain ⟨C1, hC1⟩ : ∃ z, z = s1.c := ⟨_, rfl⟩
    have HC1 := Lib.hid hC1
    clear her hs1 hC1
    rw [hres] at HB HD TK0 TV0 B4 B6 b1 b2 b3
    go_enter Tryd.func68, Tryd.ntmps68
    go_wp2_with (refine wpList_load_row rfl 88 (.tmp 4) rfl w.heap.size rfl 88 _ _ _ B4.out Tryd.underlying88 rfl size_ref5 ?_)
    refine (rreseed_any s op.b op.add ka va ab aa kn kc vn vc nb cb na ca _ HL1.out HL2.out TK0.out TV0.out (HTB.out.on HB.out) (HTA.out.on HB.out)).mono ?_
    rintro e w4 ⟨kx, kxn, kxc, vx, vxn, vxc, he, hK, hV, hfk, hfv, hb⟩
    rw [← HER.out, ← HS1.out, ← HC1.out] at he
    subst he
    rw [← HS1.out] at hK hV hfk hfv
    have HFK := Lib.hid (show ∀ g, g < w.heap.size → Off ka s.k g → Off kx s1.k g from fun g hg h => hfk g (Nat.lt_of_lt_of_le hg HB.out.size) h)
    have HFV := Lib.hid (show ∀ g, g < w.heap.size → Off va s.v g → Off vx s1.v g from fun g hg h => hfv g (Nat.lt_of_lt_of_le hg HB.out.size) h)
    have FKA := Lib.hid (show ∀ g, (g = G ∨ g = w.heap.size + 2) → Off kx s1.k g from fun g hg => hfk g (by rcases hg with rfl | rfl; exact HD.out.1.blk.lt; exact B6.out.lt) (FK0.out g (by rcases hg with h | h; exact .inl h; exact .inr (by omega))))
    have FVA := Lib.hid (show ∀ g, (g = G ∨ g = w.heap.size + 2) → Off vx s1.v g from fun g hg => hfv g (by rcases hg with rfl | rfl; exact HD.out.1.blk.lt; exact B6.out.lt) (FV0.out g (by rcases hg with h | h; exact .inl h; exact .inr (by omega))))
    have FKG := Lib.hid (FKA.out G (.inl rfl))
    have FK6 := Lib.hid (FKA.out (w.heap.size + 2) (.inr rfl))
    have FVG := Lib.hid (FVA.out G (.inl rfl))
    have FV6 := Lib.hid (FVA.out (w.heap.size + 2) (.inr rfl))
    have H5lt := Lib.hid (show w.heap.size + 2 < w4.heap.size from Nat.lt_of_lt_of_le B6.out.lt hb.size)
    have B5 := Lib.hid (show Blk w4 (w.heap.size + 1) (ocells op ab aa nb cb na ca).toArray 84 by have h := B5.out.on hb; rw [← hres] at h; exact h)
    have B6 := Lib.hid (B6.out.on hb)
    have HB := Lib.hid (HB.out.trans (hb.mono HB.out.size))
    have HD := Lib.hid (HD.out.on hb)
    have TK := Lib.hid hK
    have TV := Lib.hid hV
    have hbx := below_one' w4 (.cells #[.slice none 0 0, .slice none 0 0, .int .i64 0] 88)
    have FKx := Lib.hid (show Off kx s1.k w4.heap.size from hK.offG (Nat.le_refl _))
    have FVx := Lib.hid (show Off vx s1.v w4.heap.size from hV.offG (Nat.le_refl _))
    have B8 := Lib.hid (Blk.new w4 #[.slice none 0 0, .slice none 0 0, .int .i64 0] 88)
    have B5 := Lib.hid (B5.out.on hbx)
    have B6 := Lib.hid (B6.out.on hbx)
    have HB := Lib.hid (HB.out.trans (hbx.mono HB.out.size))
    have HDl := Lib.hid (show G < w4.heap.size from HD.out.1.blk.lt)
    have HD := Lib.hid (HD.out.on hbx)
    have TK := Lib.hid (TK.out.on hbx)
    have TV := Lib.hid (TV.out.on hbx)
    clear hb hK hV hfk hfv hbx b0 b1 b2 b3 FKA FVA
    go_wp2_with (refine wpList_store_abs rfl 88 (.tmp 8) (.tmp 24) (by rfl) w4.heap.size #[.slice kx kxn kxc, .slice vx vxn vxc, .int .i64 C1] (by rfl) (by rfl) 88 _ B8.out size_ref5 (by rfl) (by simp [Value.oneCell']) ?_; intro W5 hW p; have HS := Lib.hid (show BB W5 w4.heap.size #[.slice kx kxn kxc, .slice vx vxn vxc, .int .i64 C1] 88 (w.heap.size + 1) (ocells op ab aa nb cb na ca).toArray 84 from ⟨p, hW.blk B5.out (by have := H5lt.out; omega)⟩); have B6 := Lib.hid (hW.blk B6.out (by have := H5lt.out; omega)); have HB := Lib.hid (hW.below HB.out (by have := H5lt.out; omega)); have HD := Lib.hid (HD.out.grown (row_of_wrote hW) (by have := HDl.out; simp; omega)); have TK := Lib.hid (TK.out.off (row_of_wrote hW) FKx.out); have TV := Lib.hid (TV.out.off (row_of_wrote hW) FVx.out); have b1 := HS.out.b.cell 1 (ocell1 _ _ _ _ _ _ _); have b3 := HS.out.b.cell 3 (ocell3 _ _ _ _ _ _ _); clear hW p)
    have HG := Lib.hid (show w.grownBy W5 (some G) from grownBy_of_below HB.out)
    have H86 := Lib.hid (show w4.heap.size ≠ w.heap.size + 2 by have := H5lt.out; omega)
    have H8G := Lib.hid (show w4.heap.size ≠ G by have := HDl.out; omega)
    have H85 := Lib.hid (show w.heap.size + 2 < w4.heap.size from H5lt.out)
    generalize w4.heap.size = g8 at *
    clear B8 B5 FKx FVx
    clear b1 b3
    refine wp_region_held_drew (S := fun w' => BB w' g8 #[.slice kx kxn kxc, .slice vx vxn vxc, .int .i64 C1] 88 (w.heap.size + 1) (ocells op ab aa nb cb na ca).toArray 84) (by kernel_rfl) (HS.out.on (Below.refl _ _).drew) (fun _ => ?_)
    have hb : Below W5.heap.size W5 (World.drew W5) := (Below.refl _ _).drew
    have HS := Lib.hid (HS.out.on hb)
    have HD := Lib.hid (HD.out.on hb)
    have B6 := Lib.hid (B6.out.on hb)
    have TK := Lib.hid (TK.out.on hb)
    have TV := Lib.hid (TV.out.on hb)
    have HB := Lib.hid (HB.out.trans (hb.mono HB.out.size))
    have HG := Lib.hid (grownBy_trans HG.out (grownBy_of_below hb))
    clear hb
    generalize World.drew W5 = v0 at *
    try simp only [Act.put, List.setIfInBounds_toArray, List.set_cons_succ, List.set_cons_zero]
    refine wpAnyH_take (i := 0) (oi := ⟨some 26, .load 88 (.tmp 8), 88, _, _, none⟩) (v := .agg #[.slice kx kxn kxc, .slice vx vxn vxc, .int .i64 C1]) rfl (by kernel_rfl) (by kernel_rfl) (by kernel_rfl) (fun _ _ _ h => h) (Or.inl ⟨by rfl, fun vv hvv => yields_arr 88 (.tmp 8) rfl g8 rfl hvv.a _ Tryd.underlying88 rfl size_ref5⟩) HS.out ?_
    try simp only [Act.put, List.setIfInBounds_toArray, List.set_cons_succ, List.set_cons_zero]
    refine wpAnyH_take (i := 1) (oi := ⟨some 27, .move (.tmp 0), 75, _, _, none⟩) (v := .pointer (some ⟨G, 0, none⟩)) rfl (by kernel_rfl) (by kernel_rfl) (by kernel_rfl) (fun _ _ _ h => h) (Or.inl ⟨by rfl, fun _ _ => by go_simp⟩) HS.out ?_
    try simp only [Act.put, List.setIfInBounds_toArray, List.set_cons_succ, List.set_cons_zero]
    refine wpAnyH_take (i := 2) (oi := ⟨some 28, .fieldAddr 84 (.tmp 5) 2, _, _, _, none⟩) (v := .pointer (some ⟨w.heap.size + 1, 2, none⟩)) rfl (by kernel_rfl) (by kernel_rfl) (by kernel_rfl) (fun _ _ _ h => h) (Or.inl ⟨by rfl, fun _ _ => by go_simp⟩) HS.out ?_
    try simp only [Act.put, List.setIfInBounds_toArray, List.set_cons_succ, List.set_cons_zero]
    refine wpAnyH_take (i := 3) (oi := ⟨some 29, .load 28 (.tmp 28), 28, _, _, none⟩) (v := .slice ab nb cb) rfl (by kernel_rfl) (by kernel_rfl) (by kernel_rfl) (fun _ _ _ h => h) (Or.inl ⟨by rfl, fun vv hvv => yields_sl (.tmp 28) rfl ⟨w.heap.size + 1, 2, none⟩ rfl (hvv.b.cell 2 (ocell2 _ _ _ _ _ _ _))⟩) HS.out ?_
    try simp only [Act.put, List.setIfInBounds_toArray, List.set_cons_succ, List.set_cons_zero]
    refine wpAnyH_take (i := 4) (oi := ⟨some 30, .fieldAddr 84 (.tmp 5) 3, _, _, _, none⟩) (v := .pointer (some ⟨w.heap.size + 1, 3, none⟩)) rfl (by kernel_rfl) (by kernel_rfl) (by kernel_rfl) (fun _ _ _ h => h) (Or.inl ⟨by rfl, fun _ _ => by go_simp⟩) HS.out ?_
    try simp only [Act.put, List.setIfInBounds_toArray, List.set_cons_succ, List.set_cons_zero]
    refine wpAnyH_take (i := 5) (oi := ⟨some 31, .load 28 (.tmp 30), 28, _, _, none⟩) (v := .slice aa na ca) rfl (by kernel_rfl) (by kernel_rfl) (by kernel_rfl) (fun _ _ _ h => h) (Or.inl ⟨by rfl, fun vv hvv => yields_sl (.tmp 30) rfl ⟨w.heap.size + 1, 3, none⟩ rfl (hvv.b.cell 3 (ocell3 _ _ _ _ _ _ _))⟩) HS.out ?_
    try simp only [Act.put, List.setIfInBounds_toArray, List.set_cons_succ, List.set_cons_zero]
    refine wpAnyH_take (i := 7) (oi := ⟨some 33, .move (.tmp 9), 37, _, _, none⟩) (v := .int .i64 er) rfl (by kernel_rfl) (by kernel_rfl) (by kernel_rfl) (fun _ _ _ h => h) (Or.inl ⟨by rfl, fun _ _ => by go_simp⟩) HS.out ?_
    try simp only [Act.put, List.setIfInBounds_toArray, List.set_cons_succ, List.set_cons_zero]
    refine wpAnyH_ready (rs := [6]) (by kernel_rfl) (by simp) ?_
    refine AllReadyH.cons (o := ⟨some 32, .call { callee := .value (.func 61), args := #[.tmp 27, .tmp 29, .tmp 31], argTypes := #[75, 28, 28] }, 37, _, _, none⟩) rfl (fun K hK => ?_) AllReadyH.nil
    go_simp
    refine (reseed_any s G op.b op.add _ _ _ _ _ _ v0 HD.out (HTB.out.on HB.out) (HTA.out.on HB.out) HFB.out HFA.out (HT.out.on HB.out) HGd.out).mono ?_
    rintro e v1 ⟨he, hg, hD⟩
    rw [← HER.out] at he
    subst he
    rw [← HS1.out] at hD
    have HS := Lib.hid (HS.out.grown hg (by have := HGs.out; have := H8G.out; simp; omega) (by have := HGs.out; simp; omega))
    have B6 := Lib.hid (B6.out.grown hg (by have := HGs.out; simp; omega))
    have TK := Lib.hid (TK.out.off hg FKG.out)
    have TV := Lib.hid (TV.out.off hg FVG.out)
    have HG := Lib.hid (grownBy_trans HG.out hg)
    have HD := Lib.hid hD
    clear hg hD
    refine hK _ _ HS.out (fun _ => ?_)
    clear hK K
    try simp only [Act.put, List.setIfInBounds_toArray, List.set_cons_succ, List.set_cons_zero]
    refine wpAnyH_take (i := 8) (oi := ⟨some 34, .binOp .eql 37 (.tmp 32) (.tmp 33) 37, 4, _, _, none⟩) (v := .bool true) rfl (by kernel_rfl) (by kernel_rfl) (by kernel_rfl) (fun _ _ _ h => h) (Or.inl ⟨by rfl, fun _ _ => by go_simp⟩) HS.out ?_
    try simp only [Act.put, List.setIfInBounds_toArray, List.set_cons_succ, List.set_cons_zero]
    refine wpAnyH_take (i := 9) (oi := ⟨some 35, .move (.tmp 34), 4, _, _, none⟩) (v := .bool true) rfl (by kernel_rfl) (by kernel_rfl) (by kernel_rfl) (fun _ _ _ h => h) (Or.inl ⟨by rfl, fun _ _ => by go_simp⟩) HS.out ?_
    try simp only [Act.put, List.setIfInBounds_toArray, List.set_cons_succ, List.set_cons_zero]
    refine wpAnyH_take (i := 10) (oi := ⟨some 36, .move (.tmp 0), 75, _, _, some (9, true)⟩) (v := .pointer (some ⟨G, 0, none⟩)) rfl (by kernel_rfl) (by kernel_rfl) (by kernel_rfl) (fun _ _ _ h => h) (Or.inl ⟨by rfl, fun _ _ => by go_simp⟩) HS.out ?_
    try simp only [Act.put, List.setIfInBounds_toArray, List.set_cons_succ, List.set_cons_zero]
    refine wpAnyH_take (i := 12) (oi := ⟨some 38, .fieldAddr 88 (.tmp 8) 2, _, _, _, some (9, true)⟩) (v := .pointer (some ⟨g8, 2, none⟩)) rfl (by kernel_rfl) (by kernel_rfl) (by kernel_rfl) (fun _ _ _ h => h) (Or.inl ⟨by rfl, fun _ _ => by go_simp⟩) HS.out ?_
    try simp only [Act.put, List.setIfInBounds_toArray, List.set_cons_succ, List.set_cons_zero]
    refine wpAnyH_take (i := 13) (oi := ⟨some 39, .load 3 (.tmp 38), 3, _, _, some (9, true)⟩) (v := .int .i64 C1) rfl (by kernel_rfl) (by kernel_rfl) (by kernel_rfl) (fun _ _ _ h => h) (Or.inl ⟨by rfl, fun vv hvv => yields_i64 (.tmp 38) rfl ⟨g8, 2, none⟩ rfl (hvv.a.cell 2 rfl)⟩) HS.out ?_
    try simp only [Act.put, List.setIfInBounds_toArray, List.set_cons_succ, List.set_cons_zero]
    refine wpAnyH_ready (rs := [11]) (by kernel_rfl) (by simp) ?_
    refine AllReadyH.cons (o := ⟨some 37, .call { callee := .value (.func 62), args := #[.tmp 36], argTypes := #[75] }, 3, _, _, some (9, true)⟩) rfl (fun K hK => ?_) AllReadyH.nil
    go_simp
    refine (count_at HD.out.1).mono ?_
    rintro e w' ⟨he, rfl⟩
    rw [← HC1.out] at he
    subst he
    refine hK _ _ HS.out (fun _ => ?_)
    clear hK K
    try simp only [Act.put, List.setIfInBounds_toArray, List.set_cons_succ, List.set_cons_zero]
    refine wpAnyH_take (i := 14) (oi := ⟨some 40, .binOp .eql 3 (.tmp 37) (.tmp 39) 3, 4, _, _, some (9, true)⟩) (v := .bool true) rfl (by kernel_rfl) (by kernel_rfl) (by kernel_rfl) (fun _ _ _ h => h) (Or.inl ⟨by rfl, fun _ _ => by go_simp⟩) HS.out ?_
    try simp only [Act.put, List.setIfInBounds_toArray, List.set_cons_succ, List.set_cons_zero]
    refine wpAnyH_take (i := 15) (oi := ⟨some 41, .pick (.tmp 35) (.tmp 40) (.const (.bool false)), 4, _, _, none⟩) (v := .bool true) rfl (by kernel_rfl) (by kernel_rfl) (by kernel_rfl) (fun _ _ _ h => h) (Or.inl ⟨by rfl, fun _ _ => by go_simp⟩) HS.out ?_
    try simp only [Act.put, List.setIfInBounds_toArray, List.set_cons_succ, List.set_cons_zero]
    refine wpAnyH_ready (rs := [16]) (by kernel_rfl) (by simp) ?_
    refine AllReadyH.cons (o := ⟨none, .store 88 (.tmp 6) (.tmp 26), 0, _, _, none⟩) rfl (fun K hK => ?_) AllReadyH.nil
    rw [if_pos (by rfl)]
    refine wp_store_abs 88 (.tmp 6) (.tmp 26) (by rfl) (w.heap.size + 2) #[.slice kx kxn kxc, .slice vx vxn vxc, .int .i64 C1] (by rfl) (by rfl) B6.out size_ref5 (by rfl) (by simp [Value.oneCell']) ?_
    intro W9 hW p9
    refine hK _ _ ⟨hW.blk HS.out.a (by have := H86.out; omega), hW.blk HS.out.b (by omega)⟩ (fun _ => ?_)
    clear hK K
    have HS := Lib.hid (show BB W9 g8 #[.slice kx kxn kxc, .slice vx vxn vxc, .int .i64 C1] 88 (w.heap.size + 1) (ocells op ab aa nb cb na ca).toArray 84 from ⟨hW.blk HS.out.a (by have := H86.out; omega), hW.blk HS.out.b (by omega)⟩)
    have HD9 := Lib.hid (HD.out.grown (row_of_wrote hW) (by have := HGs.out; simp; omega))
    have TK9 := Lib.hid (TK.out.off (row_of_wrote hW) (FK6.out))
    have TV9 := Lib.hid (TV.out.off (row_of_wrote hW) (FV6.out))
    have HG9 := Lib.hid (grown_far HG.out hW (by omega))
    clear hW
    try simp only [Act.put, List.setIfInBounds_toArray, List.set_cons_succ, List.set_cons_zero]
    refine wpAnyH_take (i := 17) (oi := ⟨some 7, .assign (.tmp 41), 4, _, _, none⟩) (v := .bool true) rfl (by kernel_rfl) (by kernel_rfl) (by kernel_rfl) (fun _ _ _ h => h) (Or.inl ⟨by rfl, fun _ _ => by go_simp⟩) HS.out ?_
    try simp only [Act.put, List.setIfInBounds_toArray, List.set_cons_succ, List.set_cons_zero]
    refine wpAnyH_done (by kernel_rfl) ?_ _
    go_wp2
    refine bodyPost_ret (v := .tuple #[.agg #[.slice kx kxn kxc, .slice vx vxn vxc, .int .i64 C1], .bool true]) ?_ rfl ⟨kx, kxn, kxc, vx, vxn, vxc, C1, rfl, ?_, HG9.out, ?_, ?_, ?_, ?_, ?_⟩
    · exact (results_st_tmp rfl _ p9 (by rfl) Tryd.underlying88 rfl size_ref5).trans rfl
    · have h := HC1.out; rw [HS1.out] at h; exact h
    · have h := HD9.out; rw [HS1.out] at h; exact h
    · have h := TK9.out; rw [HS1.out] at h; exact h
    · have h := TV9.out; rw [HS1.out] at h; exact h
    · have h := HFK.out; rw [HS1.out] at h; exact h
    · have h := HFV.out; rw [HS1.out] at h; exact h
  | false =>
    rw [hres] at b0 B5
    obtain ⟨er, her⟩ : ∃ z, z = drawE op.n op.add.length s.c := ⟨_, rfl⟩
    have HER := Lib.hid her
    obtain ⟨s1, hs1⟩ : ∃ z, z = s.next op.n op.add := ⟨_, rfl⟩
    have HS1 := Lib.hid hs1
    obtain ⟨C1, hC1⟩ : ∃ z, z = s1.c := ⟨_, rfl⟩
    have HC1 := Lib.hid hC1
    clear her hs1 hC1
    rw [hres] at HB HD TK0 TV0 B4 B6 b1 b2 b3
    go_enter Tryd.func68, Tryd.ntmps68
    go_wp2_with (refine wpList_load_row rfl 88 (.tmp 4) rfl w.heap.size rfl 88 _ _ _ B4.out Tryd.underlying88 rfl size_ref5 ?_)
    refine (rdraw_any s op.add op.n ka va aa kn kc vn vc na ca _ HC0.out HL1.out HL2.out TK0.out TV0.out (HTA.out.on HB.out)).mono ?_
    rintro e w4 ⟨ay, ny, cy, kx, kxn, kxc, vx, vxn, vxc, he, hY, hfy, hK, hV, hfk, hfv, hb⟩
    rw [← HER.out, ← HS1.out, ← HC1.out] at he
    subst he
    rw [← HS1.out] at hK hV hfk hfv
    have FYA := Lib.hid (show ∀ g, (g = G ∨ g = w.heap.size + 2) → Off ay (s.outs op.n op.add) g from fun g hg => hfy g (by rcases hg with rfl | rfl; exact HD.out.1.blk.lt; exact B6.out.lt))
    have HFK := Lib.hid (show ∀ g, g < w.heap.size → Off ka s.k g → Off kx s1.k g from fun g hg h => hfk g (Nat.lt_of_lt_of_le hg HB.out.size) h)
    have HFV := Lib.hid (show ∀ g, g < w.heap.size → Off va s.v g → Off vx s1.v g from fun g hg h => hfv g (Nat.lt_of_lt_of_le hg HB.out.size) h)
    have FKA := Lib.hid (show ∀ g, (g = G ∨ g = w.heap.size + 2) → Off kx s1.k g from fun g hg => hfk g (by rcases hg with rfl | rfl; exact HD.out.1.blk.lt; exact B6.out.lt) (FK0.out g (by rcases hg with h | h; exact .inl h; exact .inr (by omega))))
    have FVA := Lib.hid (show ∀ g, (g = G ∨ g = w.heap.size + 2) → Off vx s1.v g from fun g hg => hfv g (by rcases hg with rfl | rfl; exact HD.out.1.blk.lt; exact B6.out.lt) (FV0.out g (by rcases hg with h | h; exact .inl h; exact .inr (by omega))))
    have FKG := Lib.hid (FKA.out G (.inl rfl))
    have FK6 := Lib.hid (FKA.out (w.heap.size + 2) (.inr rfl))
    have FVG := Lib.hid (FVA.out G (.inl rfl))
    have FV6 := Lib.hid (FVA.out (w.heap.size + 2) (.inr rfl))
    have H5lt := Lib.hid (show w.heap.size + 2 < w4.heap.size from Nat.lt_of_lt_of_le B6.out.lt hb.size)
    have B5 := Lib.hid (show Blk w4 (w.heap.size + 1) (ocells op ab aa nb cb na ca).toArray 84 by have h := B5.out.on hb; rw [← hres] at h; exact h)
    have B6 := Lib.hid (B6.out.on hb)
    have HB := Lib.hid (HB.out.trans (hb.mono HB.out.size))
    have HD := Lib.hid (HD.out.on hb)
    have TK := Lib.hid hK
    have TV := Lib.hid hV
    have hbx := below_one' w4 (.cells #[.slice none 0 0, .slice none 0 0, .int .i64 0] 88)
    have FKx := Lib.hid (show Off kx s1.k w4.heap.size from hK.offG (Nat.le_refl _))
    have FVx := Lib.hid (show Off vx s1.v w4.heap.size from hV.offG (Nat.le_refl _))
    have B8 := Lib.hid (Blk.new w4 #[.slice none 0 0, .slice none 0 0, .int .i64 0] 88)
    have FYx := Lib.hid (show Off ay (s.outs op.n op.add) w4.heap.size from hY.offG (Nat.le_refl _))
    have TY := Lib.hid (hY.on hbx)
    clear hY hfy
    have B5 := Lib.hid (B5.out.on hbx)
    have B6 := Lib.hid (B6.out.on hbx)
    have HB := Lib.hid (HB.out.trans (hbx.mono HB.out.size))
    have HDl := Lib.hid (show G < w4.heap.size from HD.out.1.blk.lt)
    have HD := Lib.hid (HD.out.on hbx)
    have TK := Lib.hid (TK.out.on hbx)
    have TV := Lib.hid (TV.out.on hbx)
    clear hb hK hV hfk hfv hbx b0 b1 b2 b3 FKA FVA
    go_wp2_with (refine wpList_store_abs rfl 88 (.tmp 11) (.tmp 50) (by rfl) w4.heap.size #[.slice kx kxn kxc, .slice vx vxn vxc, .int .i64 C1] (by rfl) (by rfl) 88 _ B8.out size_ref5 (by rfl) (by simp [Value.oneCell']) ?_; intro W5 hW p; have HS := Lib.hid (show BB W5 w4.heap.size #[.slice kx kxn kxc, .slice vx vxn vxc, .int .i64 C1] 88 (w.heap.size + 1) (ocells op ab aa nb cb na ca).toArray 84 from ⟨p, hW.blk B5.out (by have := H5lt.out; omega)⟩); have B6 := Lib.hid (hW.blk B6.out (by have := H5lt.out; omega)); have HB := Lib.hid (hW.below HB.out (by have := H5lt.out; omega)); have HD := Lib.hid (HD.out.grown (row_of_wrote hW) (by have := HDl.out; simp; omega)); have TK := Lib.hid (TK.out.off (row_of_wrote hW) FKx.out); have TV := Lib.hid (TV.out.off (row_of_wrote hW) FVx.out); have TY := Lib.hid (TY.out.off (row_of_wrote hW) FYx.out); have b1 := HS.out.b.cell 1 (ocell1 _ _ _ _ _ _ _); have b3 := HS.out.b.cell 3 (ocell3 _ _ _ _ _ _ _); clear hW p)
    have HG := Lib.hid (show w.grownBy W5 (some G) from grownBy_of_below HB.out)
    have H86 := Lib.hid (show w4.heap.size ≠ w.heap.size + 2 by have := H5lt.out; omega)
    have H8G := Lib.hid (show w4.heap.size ≠ G by have := HDl.out; omega)
    have H85 := Lib.hid (show w.heap.size + 2 < w4.heap.size from H5lt.out)
    generalize w4.heap.size = g8 at *
    clear B8 B5 FKx FVx
    refine (draw_any s G op.add aa op.n na ca W5 HD.out (HTA.out.on HB.out) HFA.out (HT.out.on HB.out) HGd.out).mono ?_
    rintro e w6 ⟨ax, nx, cx, he, hX, _, hg, hD⟩
    rw [← HER.out] at he
    subst he
    rw [← HS1.out] at hD
    have HS := Lib.hid (HS.out.grown hg (by have := HGs.out; have := H8G.out; simp; omega) (by have := HGs.out; simp; omega))
    have B6 := Lib.hid (B6.out.grown hg (by have := HGs.out; simp; omega))
    have TK := Lib.hid (TK.out.off hg FKG.out)
    have TV := Lib.hid (TV.out.off hg FVG.out)
    have TY := Lib.hid (TY.out.off hg (FYA.out G (.inl rfl)))
    have HG := Lib.hid (grownBy_trans HG.out hg)
    have HD := Lib.hid hD
    have TX := Lib.hid hX
    have f1 : IntKind.i64.wrap (1025 - C1) = 1025 - C1 := IntWalk.i64_in _ (by have h := HC1.out; have := HD.out.2; omega)
    have f2 : 0 ≤ 1025 - C1 := by have h := HC1.out; have := HD.out.2; omega
    clear hg hD hX b1 b3 HB
    go_wp2
    refine wp_region_held_drew (S := fun w' => BB w' g8 #[.slice kx kxn kxc, .slice vx vxn vxc, .int .i64 C1] 88 (w.heap.size + 1) (ocells op ab aa nb cb na ca).toArray 84) (by kernel_rfl) (HS.out.on (Below.refl _ _).drew) (fun _ => ?_)
    have hb : Below w6.heap.size w6 (World.drew w6) := (Below.refl _ _).drew
    have HS := Lib.hid (HS.out.on hb)
    have HD := Lib.hid (HD.out.on hb)
    have B6 := Lib.hid (B6.out.on hb)
    have TK := Lib.hid (TK.out.on hb)
    have TV := Lib.hid (TV.out.on hb)
    have HG := Lib.hid (grownBy_trans HG.out (grownBy_of_below hb))
    have TX := Lib.hid (TX.out.on hb)
    have TY := Lib.hid (TY.out.on hb)
    clear hb
    generalize World.drew w6 = v0 at *
    try simp only [Act.put, List.setIfInBounds_toArray, List.set_cons_succ, List.set_cons_zero]
    refine wpAnyH_take (i := 0) (oi := ⟨some 61, .load 88 (.tmp 11), 88, _, _, none⟩) (v := .agg #[.slice kx kxn kxc, .slice vx vxn vxc, .int .i64 C1]) rfl (by kernel_rfl) (by kernel_rfl) (by kernel_rfl) (fun _ _ _ h => h) (Or.inl ⟨by rfl, fun vv hvv => yields_arr 88 (.tmp 11) rfl g8 rfl hvv.a _ Tryd.underlying88 rfl size_ref5⟩) HS.out ?_
    try simp only [Act.put, List.setIfInBounds_toArray, List.set_cons_succ, List.set_cons_zero]
    refine wpAnyH_take (i := 1) (oi := ⟨some 62, .move (.tmp 13), 28, _, _, none⟩) (v := .slice ax nx cx) rfl (by kernel_rfl) (by kernel_rfl) (by kernel_rfl) (fun _ _ _ h => h) (Or.inl ⟨by rfl, fun _ _ => by go_simp⟩) HS.out ?_
    try simp only [Act.put, List.setIfInBounds_toArray, List.set_cons_succ, List.set_cons_zero]
    refine wpAnyH_take (i := 2) (oi := ⟨some 63, .move (.tmp 10), 28, _, _, none⟩) (v := .slice ay ny cy) rfl (by kernel_rfl) (by kernel_rfl) (by kernel_rfl) (fun _ _ _ h => h) (Or.inl ⟨by rfl, fun _ _ => by go_simp⟩) HS.out ?_
    try simp only [Act.put, List.setIfInBounds_toArray, List.set_cons_succ, List.set_cons_zero]
    refine wpAnyH_ready (rs := [3]) (by kernel_rfl) (by simp) ?_
    refine AllReadyH.cons (o := ⟨some 64, .call { callee := .value (.func 38), args := #[.tmp 62, .tmp 63], argTypes := #[28, 28] }, 4, _, _, none⟩) rfl (fun K hK => ?_) AllReadyH.nil
    go_simp
    refine (equal_same _ _ _ _ _ _ _ v0 TX.out TY.out).mono ?_
    rintro e w' ⟨rfl, rfl⟩
    refine hK _ _ HS.out (fun _ => ?_)
    clear hK K
    try simp only [Act.put, List.setIfInBounds_toArray, List.set_cons_succ, List.set_cons_zero]
    refine wpAnyH_take (i := 4) (oi := ⟨some 65, .move (.tmp 64), 4, _, _, none⟩) (v := .bool true) rfl (by kernel_rfl) (by kernel_rfl) (by kernel_rfl) (fun _ _ _ h => h) (Or.inl ⟨by rfl, fun _ _ => by go_simp⟩) HS.out ?_
    try simp only [Act.put, List.setIfInBounds_toArray, List.set_cons_succ, List.set_cons_zero]
    refine wpAnyH_take (i := 5) (oi := ⟨some 66, .move (.tmp 14), 37, _, _, some (4, true)⟩) (v := .int .i64 er) rfl (by kernel_rfl) (by kernel_rfl) (by kernel_rfl) (fun _ _ _ h => h) (Or.inl ⟨by rfl, fun _ _ => by go_simp⟩) HS.out ?_
    try simp only [Act.put, List.setIfInBounds_toArray, List.set_cons_succ, List.set_cons_zero]
    refine wpAnyH_take (i := 6) (oi := ⟨some 67, .move (.tmp 12), 37, _, _, some (4, true)⟩) (v := .int .i64 er) rfl (by kernel_rfl) (by kernel_rfl) (by kernel_rfl) (fun _ _ _ h => h) (Or.inl ⟨by rfl, fun _ _ => by go_simp⟩) HS.out ?_
    try simp only [Act.put, List.setIfInBounds_toArray, List.set_cons_succ, List.set_cons_zero]
    refine wpAnyH_take (i := 7) (oi := ⟨some 68, .binOp .eql 37 (.tmp 66) (.tmp 67) 37, 4, _, _, some (4, true)⟩) (v := .bool true) rfl (by kernel_rfl) (by kernel_rfl) (by kernel_rfl) (fun _ _ _ h => h) (Or.inl ⟨by rfl, fun _ _ => by go_simp⟩) HS.out ?_
    try simp only [Act.put, List.setIfInBounds_toArray, List.set_cons_succ, List.set_cons_zero]
    refine wpAnyH_take (i := 8) (oi := ⟨some 69, .pick (.tmp 65) (.tmp 68) (.const (.bool false)), 4, _, _, none⟩) (v := .bool true) rfl (by kernel_rfl) (by kernel_rfl) (by kernel_rfl) (fun _ _ _ h => h) (Or.inl ⟨by rfl, fun _ _ => by go_simp⟩) HS.out ?_
    try simp only [Act.put, List.setIfInBounds_toArray, List.set_cons_succ, List.set_cons_zero]
    refine wpAnyH_take (i := 9) (oi := ⟨some 70, .move (.tmp 69), 4, _, _, none⟩) (v := .bool true) rfl (by kernel_rfl) (by kernel_rfl) (by kernel_rfl) (fun _ _ _ h => h) (Or.inl ⟨by rfl, fun _ _ => by go_simp⟩) HS.out ?_
    try simp only [Act.put, List.setIfInBounds_toArray, List.set_cons_succ, List.set_cons_zero]
    refine wpAnyH_take (i := 10) (oi := ⟨some 71, .move (.tmp 0), 75, _, _, some (9, true)⟩) (v := .pointer (some ⟨G, 0, none⟩)) rfl (by kernel_rfl) (by kernel_rfl) (by kernel_rfl) (fun _ _ _ h => h) (Or.inl ⟨by rfl, fun _ _ => by go_simp⟩) HS.out ?_
    try simp only [Act.put, List.setIfInBounds_toArray, List.set_cons_succ, List.set_cons_zero]
    refine wpAnyH_take (i := 12) (oi := ⟨some 73, .fieldAddr 88 (.tmp 11) 2, _, _, _, some (9, true)⟩) (v := .pointer (some ⟨g8, 2, none⟩)) rfl (by kernel_rfl) (by kernel_rfl) (by kernel_rfl) (fun _ _ _ h => h) (Or.inl ⟨by rfl, fun _ _ => by go_simp⟩) HS.out ?_
    try simp only [Act.put, List.setIfInBounds_toArray, List.set_cons_succ, List.set_cons_zero]
    refine wpAnyH_take (i := 13) (oi := ⟨some 74, .load 3 (.tmp 73), 3, _, _, some (9, true)⟩) (v := .int .i64 C1) rfl (by kernel_rfl) (by kernel_rfl) (by kernel_rfl) (fun _ _ _ h => h) (Or.inl ⟨by rfl, fun vv hvv => yields_i64 (.tmp 73) rfl ⟨g8, 2, none⟩ rfl (hvv.a.cell 2 rfl)⟩) HS.out ?_
    try simp only [Act.put, List.setIfInBounds_toArray, List.set_cons_succ, List.set_cons_zero]
    refine wpAnyH_ready (rs := [11]) (by kernel_rfl) (by simp) ?_
    refine AllReadyH.cons (o := ⟨some 72, .call { callee := .value (.func 62), args := #[.tmp 71], argTypes := #[75] }, 3, _, _, some (9, true)⟩) rfl (fun K hK => ?_) AllReadyH.nil
    go_simp
    refine (count_at HD.out.1).mono ?_
    rintro e w' ⟨he, rfl⟩
    rw [← HC1.out] at he
    subst he
    refine hK _ _ HS.out (fun _ => ?_)
    clear hK K
    try simp only [Act.put, List.setIfInBounds_toArray, List.set_cons_succ, List.set_cons_zero]
    refine wpAnyH_take (i := 14) (oi := ⟨some 75, .binOp .eql 3 (.tmp 72) (.tmp 74) 3, 4, _, _, some (9, true)⟩) (v := .bool true) rfl (by kernel_rfl) (by kernel_rfl) (by kernel_rfl) (fun _ _ _ h => h) (Or.inl ⟨by rfl, fun _ _ => by go_simp⟩) HS.out ?_
    try simp only [Act.put, List.setIfInBounds_toArray, List.set_cons_succ, List.set_cons_zero]
    refine wpAnyH_take (i := 15) (oi := ⟨some 76, .pick (.tmp 70) (.tmp 75) (.const (.bool false)), 4, _, _, none⟩) (v := .bool true) rfl (by kernel_rfl) (by kernel_rfl) (by kernel_rfl) (fun _ _ _ h => h) (Or.inl ⟨by rfl, fun _ _ => by go_simp⟩) HS.out ?_
    try simp only [Act.put, List.setIfInBounds_toArray, List.set_cons_succ, List.set_cons_zero]
    refine wpAnyH_take (i := 16) (oi := ⟨some 77, .move (.tmp 76), 4, _, _, none⟩) (v := .bool true) rfl (by kernel_rfl) (by kernel_rfl) (by kernel_rfl) (fun _ _ _ h => h) (Or.inl ⟨by rfl, fun _ _ => by go_simp⟩) HS.out ?_
    try simp only [Act.put, List.setIfInBounds_toArray, List.set_cons_succ, List.set_cons_zero]
    refine wpAnyH_take (i := 17) (oi := ⟨some 78, .move (.tmp 0), 75, _, _, some (16, true)⟩) (v := .pointer (some ⟨G, 0, none⟩)) rfl (by kernel_rfl) (by kernel_rfl) (by kernel_rfl) (fun _ _ _ h => h) (Or.inl ⟨by rfl, fun _ _ => by go_simp⟩) HS.out ?_
    try simp only [Act.put, List.setIfInBounds_toArray, List.set_cons_succ, List.set_cons_zero]
    refine wpAnyH_take (i := 19) (oi := ⟨some 80, .fieldAddr 88 (.tmp 11) 2, _, _, _, some (16, true)⟩) (v := .pointer (some ⟨g8, 2, none⟩)) rfl (by kernel_rfl) (by kernel_rfl) (by kernel_rfl) (fun _ _ _ h => h) (Or.inl ⟨by rfl, fun _ _ => by go_simp⟩) HS.out ?_
    try simp only [Act.put, List.setIfInBounds_toArray, List.set_cons_succ, List.set_cons_zero]
    refine wpAnyH_take (i := 20) (oi := ⟨some 81, .load 3 (.tmp 80), 3, _, _, some (16, true)⟩) (v := .int .i64 C1) rfl (by kernel_rfl) (by kernel_rfl) (by kernel_rfl) (fun _ _ _ h => h) (Or.inl ⟨by rfl, fun vv hvv => yields_i64 (.tmp 80) rfl ⟨g8, 2, none⟩ rfl (hvv.a.cell 2 rfl)⟩) HS.out ?_
    try simp only [Act.put, List.setIfInBounds_toArray, List.set_cons_succ, List.set_cons_zero]
    refine wpAnyH_take (i := 21) (oi := ⟨some 82, .binOp .sub 3 (.const (.int .i64 1025)) (.tmp 81) 3, 3, _, _, some (16, true)⟩) (v := .int .i64 (1025 - C1)) rfl (by kernel_rfl) (by kernel_rfl) (by kernel_rfl) (fun _ _ _ h => h) (Or.inl ⟨by rfl, fun _ _ => by go_simp⟩) HS.out ?_
    try simp only [Act.put, List.setIfInBounds_toArray, List.set_cons_succ, List.set_cons_zero]
    refine wpAnyH_take (i := 22) (oi := ⟨some 83, .call { callee := .builtin .max, args := #[.const (.int .i64 0), .tmp 82], argTypes := #[3, 3] }, 3, _, _, some (16, true)⟩) (v := .int .i64 (1025 - C1)) rfl (by kernel_rfl) (by kernel_rfl) (by kernel_rfl) (fun _ _ _ h => h) (Or.inl ⟨by rfl, fun _ _ => by (go_simp; intro h9; omega)⟩) HS.out ?_
    try simp only [Act.put, List.setIfInBounds_toArray, List.set_cons_succ, List.set_cons_zero]
    refine wpAnyH_ready (rs := [18]) (by kernel_rfl) (by simp) ?_
    refine AllReadyH.cons (o := ⟨some 79, .call { callee := .value (.func 64), args := #[.tmp 78], argTypes := #[75] }, 3, _, _, some (16, true)⟩) rfl (fun K hK => ?_) AllReadyH.nil
    go_simp
    refine (left_at HD.out.1 HD.out.2.1 (by have := HD.out.2.2; omega)).mono ?_
    rintro e w' ⟨he, rfl⟩
    rw [← HC1.out] at he
    subst he
    refine hK _ _ HS.out (fun _ => ?_)
    clear hK K
    try simp only [Act.put, List.setIfInBounds_toArray, List.set_cons_succ, List.set_cons_zero]
    refine wpAnyH_take (i := 23) (oi := ⟨some 84, .binOp .eql 3 (.tmp 79) (.tmp 83) 3, 4, _, _, some (16, true)⟩) (v := .bool true) rfl (by kernel_rfl) (by kernel_rfl) (by kernel_rfl) (fun _ _ _ h => h) (Or.inl ⟨by rfl, fun _ _ => by go_simp⟩) HS.out ?_
    try simp only [Act.put, List.setIfInBounds_toArray, List.set_cons_succ, List.set_cons_zero]
    refine wpAnyH_take (i := 24) (oi := ⟨some 85, .pick (.tmp 77) (.tmp 84) (.const (.bool false)), 4, _, _, none⟩) (v := .bool true) rfl (by kernel_rfl) (by kernel_rfl) (by kernel_rfl) (fun _ _ _ h => h) (Or.inl ⟨by rfl, fun _ _ => by go_simp⟩) HS.out ?_
    try simp only [Act.put, List.setIfInBounds_toArray, List.set_cons_succ, List.set_cons_zero]
    refine wpAnyH_ready (rs := [25]) (by kernel_rfl) (by simp) ?_
    refine AllReadyH.cons (o := ⟨none, .store 88 (.tmp 6) (.tmp 61), 0, _, _, none⟩) rfl (fun K hK => ?_) AllReadyH.nil
    rw [if_pos (by rfl)]
    refine wp_store_abs 88 (.tmp 6) (.tmp 61) (by rfl) (w.heap.size + 2) #[.slice kx kxn kxc, .slice vx vxn vxc, .int .i64 C1] (by rfl) (by rfl) B6.out size_ref5 (by rfl) (by simp [Value.oneCell']) ?_
    intro W9 hW p9
    refine hK _ _ ⟨hW.blk HS.out.a (by have := H86.out; omega), hW.blk HS.out.b (by omega)⟩ (fun _ => ?_)
    clear hK K
    have HS := Lib.hid (show BB W9 g8 #[.slice kx kxn kxc, .slice vx vxn vxc, .int .i64 C1] 88 (w.heap.size + 1) (ocells op ab aa nb cb na ca).toArray 84 from ⟨hW.blk HS.out.a (by have := H86.out; omega), hW.blk HS.out.b (by omega)⟩)
    have HD9 := Lib.hid (HD.out.grown (row_of_wrote hW) (by have := HGs.out; simp; omega))
    have TK9 := Lib.hid (TK.out.off (row_of_wrote hW) (FK6.out))
    have TV9 := Lib.hid (TV.out.off (row_of_wrote hW) (FV6.out))
    have HG9 := Lib.hid (grown_far HG.out hW (by omega))
    clear hW
    try simp only [Act.put, List.setIfInBounds_toArray, List.set_cons_succ, List.set_cons_zero]
    refine wpAnyH_take (i := 26) (oi := ⟨some 7, .assign (.tmp 85), 4, _, _, none⟩) (v := .bool true) rfl (by kernel_rfl) (by kernel_rfl) (by kernel_rfl) (fun _ _ _ h => h) (Or.inl ⟨by rfl, fun _ _ => by go_simp⟩) HS.out ?_
    try simp only [Act.put, List.setIfInBounds_toArray, List.set_cons_succ, List.set_cons_zero]
    refine wpAnyH_done (by kernel_rfl) ?_ _
    go_wp2
    refine bodyPost_ret (v := .tuple #[.agg #[.slice kx kxn kxc, .slice vx vxn vxc, .int .i64 C1], .bool true]) ?_ rfl ⟨kx, kxn, kxc, vx, vxn, vxc, C1, rfl, ?_, HG9.out, ?_, ?_, ?_, ?_, ?_⟩
    · exact (results_st_tmp rfl _ p9 (by rfl) Tryd.underlying88 rfl size_ref5).trans rfl
    · have h := HC1.out; rw [HS1.out] at h; exact h
    · have h := HD9.out; rw [HS1.out] at h; exact h
    · have h := TK9.out; rw [HS1.out] at h; exact h
    · have h := TV9.out; rw [HS1.out] at h; exact h
    · have h := HFK.out; rw [HS1.out] at h; exact h
    · have h := HFV.out; rw [HS1.out] at h; exact h
end Go.Proofs.YtgbahfggnbpnmaaDoor
