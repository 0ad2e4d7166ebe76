import Derived.Test.YtgbahfggnbpnmaaDoorStream
/-
  seal.Tag.
-/
namespace Go.Proofs.YtgbahfggnbpnmaaDoor
open Go.RowKit
theorem Txt.parts5 {w : World} {g : Nat} {t : TypeId} {a a' a2 a3 a4 : Option Addr} {n c n' c' n2 c2 n3 c3 n4 c4 : Nat} {l l' l2 l3 l4 : List UInt8} (h : Txt w a n c l) (h' : Txt w a' n' c' l') (h2 : Txt w a2 n2 c2 l2) (h3 : Txt w a3 n3 c3 l3) (h4 : Txt w a4 n4 c4 l4) (hb : Blk w g #[.slice a n c, .slice a' n' c', .slice a2 n2 c2, .slice a3 n3 c3, .slice a4 n4 c4] t) : Parts w (· < w.heap.size) (some ⟨g, 0, none⟩) [l, l', l2, l3, l4] := fun i hi => by
  have : i = 0 ∨ i = 1 ∨ i = 2 ∨ i = 3 ∨ i = 4 := by simp at hi; omega
  rcases this with rfl | rfl | rfl | rfl | rfl
  · exact ⟨g, 0, a, n, c, rfl, hb.lt, hb.cell 0 rfl, h.len, h.fit, h.rd, h.old⟩
  · exact ⟨g, 0, a', n', c', rfl, hb.lt, hb.cell 1 rfl, h'.len, h'.fit, h'.rd, h'.old⟩
  · exact ⟨g, 0, a2, n2, c2, rfl, hb.lt, hb.cell 2 rfl, h2.len, h2.fit, h2.rd, h2.old⟩
  · exact ⟨g, 0, a3, n3, c3, rfl, hb.lt, hb.cell 3 rfl, h3.len, h3.fit, h3.rd, h3.old⟩
  · exact ⟨g, 0, a4, n4, c4, rfl, hb.lt, hb.cell 4 rfl, h4.len, h4.fit, h4.rd, h4.old⟩
theorem mac_blk5 (w : World) (g : Nat) (t : TypeId) {ka a a' a2 a3 a4 : Option Addr} {kn kc n c n' c' n2 c2 n3 c3 n4 c4 : Nat} {key l l' l2 l3 l4 : List UInt8} (hB : Blk w g #[.slice a n c, .slice a' n' c', .slice a2 n2 c2, .slice a3 n3 c3, .slice a4 n4 c4] t) (hk : Txt w ka kn kc key) (h : Txt w a n c l) (h' : Txt w a' n' c' l') (h2 : Txt w a2 n2 c2 l2) (h3 : Txt w a3 n3 c3 l3) (h4 : Txt w a4 n4 c4 l4) (hT : Two w) (hlen : key.length ≤ 1152921504606) (hl : l.length + (l'.length + (l2.length + (l3.length + l4.length))) ≤ 1152921504606) :
    Calls Tryd.prog 40 #[.slice ka kn kc, .slice (some ⟨g, 0, none⟩) 5 5] w fun e w' => e = .returned (.agg (barr (macL key (l ++ (l' ++ (l2 ++ (l3 ++ l4))))))) ∧ Below w.heap.size w w' := by
  refine (mac_walk key ka kn kc [l, l', l2, l3, l4] 5 5 rfl _ _ hk (h.parts5 h' h2 h3 h4 hB) hT hlen (by simpa using hl) (by simp)).mono ?_
  rintro e w' ⟨he, hb⟩
  simp only [List.flatten_cons, List.flatten_nil, List.append_nil] at he
  exact ⟨he, hb⟩
set_option maxRecDepth 100000 in
set_option maxHeartbeats 2000000 in
theorem tag_walk (mac nonce ad text : List UInt8) (hnon : nonce.length = 12) (a a2 a3 : Option Addr) (n c n2 c2 n3 c3 : Nat) (w : World) (hK : Txt w a n c mac) (h2 : Txt w a2 n2 c2 ad) (h3 : Txt w a3 n3 c3 text) (hT : Two w) (hlen : mac.length ≤ 1152921504606) (hl2 : ad.length ≤ 115292150460) (hl3 : text.length ≤ 115292150460) :
    Calls Tryd.prog 56 #[.slice a n c, .agg (barr nonce), .slice a2 n2 c2, .slice a3 n3 c3] w fun e w' => e = .returned (.agg (barr (tagL mac nonce ad text))) ∧ Below w.heap.size w w' := by
  obtain ⟨q0, qb⟩ := new1 w (barr nonce) 62
  obtain ⟨q1, qb1⟩ := new1 (w.alloc (.cells (barr nonce) 62)) (barr (List.replicate 32 0)) 31
  have HBw := Lib.hid (qb.trans (qb1.mono qb.size))
  have HQ := Lib.hid (by have h := q1; rw [show (w.alloc (.cells (barr nonce) 62)).heap.size = w.heap.size + 1 by simp] at h; exact h)
  have HNb := Lib.hid (q0.on qb1)
  have TN := Lib.hid (by have h := Txt.of_blk HNb.out; rw [hnon] at h; exact h)
  have HK := Lib.hid (hK.on HBw.out)
  have H2 := Lib.hid (h2.on HBw.out)
  have H3 := Lib.hid (h3.on HBw.out)
  have HT := Lib.hid (hT.on HBw.out)
  have HKL := Lib.hid hlen
  have HNL := Lib.hid hnon
  have H2L := Lib.hid hl2
  have H3L := Lib.hid hl3
  have hn2 : n2 ≤ 115292150460 := by have := h2.len; omega
  have hn3 : n3 ≤ 115292150460 := by have := h3.len; omega
  have f1 : IntKind.u64.wrap (n2 : Int) = (n2 : Int) := by rw [IntKind.wrap_u64]; omega
  have f2 : IntKind.u64.wrap (n3 : Int) = (n3 : Int) := by rw [IntKind.wrap_u64]; omega
  obtain ⟨V, hV⟩ : ∃ V, V = macL mac (nonce ++ (be 8 n2 ++ (ad ++ (be 8 n3 ++ text)))) := ⟨_, rfl⟩
  have HVL := Lib.hid (show V.length = 32 by rw [hV]; exact macL_len _ _)
  have HVE := Lib.hid hV
  have HVT := Lib.hid (show V = tagL mac nonce ad text by rw [hV, h2.len, h3.len]; rfl)
  have HG8 := Lib.hid (show w.heap.size ≤ w.heap.size + 1 by omega)
  clear hV hK h2 h3 hT hlen hl2 hl3 hnon q0 qb q1 qb1 HNb
  go_enter Tryd.func56, Tryd.ntmps56
  go_wp2
  obtain ⟨W0, hW0⟩ : ∃ W0, W0 = (w.alloc (.cells (barr nonce) 62)).alloc (.cells (barr (List.replicate 32 0)) 31) := ⟨_, rfl⟩
  rw [← hW0] at HBw HQ TN HK H2 H3 HT
  change Code.wp _ _ _ _ ((w.alloc (.cells (barr nonce) 62)).alloc (.cells (barr (List.replicate 32 0)) 31))
  rw [← hW0]
  clear hW0
  refine wp_region_held_drew (S := fun w' => Below w.heap.size w w') (by kernel_rfl) HBw.out.drew (fun _ => ?_)
  have HS := Lib.hid (HBw.out.drew)
  have hb : Below W0.heap.size W0 (World.drew W0) := (Below.refl _ _).drew
  have HK := Lib.hid (HK.out.on hb)
  have TN := Lib.hid (TN.out.on hb)
  have H2 := Lib.hid (H2.out.on hb)
  have H3 := Lib.hid (H3.out.on hb)
  have HT := Lib.hid (HT.out.on hb)
  have HQ := Lib.hid (HQ.out.on hb)
  clear hb HBw
  generalize World.drew W0 = v0 at *
  refine wpAnyH_take (i := 0) (oi := ⟨some 9, .move (.tmp 0), 28, _, _, none⟩) (v := .slice a n c) rfl (by kernel_rfl) (by kernel_rfl) (by kernel_rfl) (fun _ _ _ h => h) (Or.inl ⟨by rfl, fun _ _ => by go_simp⟩) HS.out ?_
  refine wpAnyH_take (i := 1) (oi := ⟨some 10, .slice 62 (.tmp 5) none none none, 28, _, _, none⟩) (v := .slice (some ⟨w.heap.size, 0, none⟩) 12 12) rfl (by kernel_rfl) (by kernel_rfl) (by kernel_rfl) (fun _ _ _ h => h) (Or.inl ⟨by rfl, fun _ _ => by go_simp⟩) HS.out ?_
  refine wpAnyH_take (i := 2) (oi := ⟨some 11, .move (.tmp 2), 28, _, _, none⟩) (v := .slice a2 n2 c2) rfl (by kernel_rfl) (by kernel_rfl) (by kernel_rfl) (fun _ _ _ h => h) (Or.inl ⟨by rfl, fun _ _ => by go_simp⟩) HS.out ?_
  refine wpAnyH_take (i := 3) (oi := ⟨some 12, .call { callee := .builtin .len, args := #[.tmp 11], argTypes := #[28] }, 3, _, _, none⟩) (v := .int .i64 (n2 : Nat)) rfl (by kernel_rfl) (by kernel_rfl) (by kernel_rfl) (fun _ _ _ h => h) (Or.inl ⟨by rfl, fun _ _ => by go_simp⟩) HS.out ?_
  refine wpAnyH_take (i := 4) (oi := ⟨some 13, .convert 3 142 (.tmp 12), 142, _, _, none⟩) (v := .int .u64 (n2 : Nat)) rfl (by kernel_rfl) (by kernel_rfl) (by kernel_rfl) (fun _ _ _ h => h) (Or.inl ⟨by rfl, fun _ _ => by go_simp⟩) HS.out ?_
  refine wpAnyH_take (i := 6) (oi := ⟨some 15, .move (.tmp 2), 28, _, _, none⟩) (v := .slice a2 n2 c2) rfl (by kernel_rfl) (by kernel_rfl) (by kernel_rfl) (fun _ _ _ h => h) (Or.inl ⟨by rfl, fun _ _ => by go_simp⟩) HS.out ?_
  refine wpAnyH_take (i := 7) (oi := ⟨some 16, .move (.tmp 3), 28, _, _, none⟩) (v := .slice a3 n3 c3) rfl (by kernel_rfl) (by kernel_rfl) (by kernel_rfl) (fun _ _ _ h => h) (Or.inl ⟨by rfl, fun _ _ => by go_simp⟩) HS.out ?_
  refine wpAnyH_take (i := 8) (oi := ⟨some 17, .call { callee := .builtin .len, args := #[.tmp 16], argTypes := #[28] }, 3, _, _, none⟩) (v := .int .i64 (n3 : Nat)) rfl (by kernel_rfl) (by kernel_rfl) (by kernel_rfl) (fun _ _ _ h => h) (Or.inl ⟨by rfl, fun _ _ => by go_simp⟩) HS.out ?_
  refine wpAnyH_take (i := 9) (oi := ⟨some 18, .convert 3 142 (.tmp 17), 142, _, _, none⟩) (v := .int .u64 (n3 : Nat)) rfl (by kernel_rfl) (by kernel_rfl) (by kernel_rfl) (fun _ _ _ h => h) (Or.inl ⟨by rfl, fun _ _ => by go_simp⟩) HS.out ?_
  refine wpAnyH_take (i := 11) (oi := ⟨some 20, .move (.tmp 3), 28, _, _, none⟩) (v := .slice a3 n3 c3) rfl (by kernel_rfl) (by kernel_rfl) (by kernel_rfl) (fun _ _ _ h => h) (Or.inl ⟨by rfl, fun _ _ => by go_simp⟩) HS.out ?_
  try simp only [Act.put, List.setIfInBounds_toArray, List.set_cons_succ, List.set_cons_zero]
  refine wpAnyH_ready (rs := [5]) (by kernel_rfl) (by simp) ?_
  refine AllReadyH.cons (o := ⟨some 14, .call { callee := .value (.func 100), args := #[.tmp 13], argTypes := #[142] }, 28, _, _, none⟩) rfl (fun K hK => ?_) AllReadyH.nil
  go_simp
  refine (u64_walk n2 (by omega) _).mono ?_
  rintro e v1 ⟨gUA, rfl, hgu, hbu, hb⟩
  have HK := Lib.hid (HK.out.on hb)
  have TN := Lib.hid (TN.out.on hb)
  have H2 := Lib.hid (H2.out.on hb)
  have H3 := Lib.hid (H3.out.on hb)
  have HT := Lib.hid (HT.out.on hb)
  have HQ := Lib.hid (HQ.out.on hb)
  have HS := Lib.hid (HS.out.trans (hb.mono HS.out.size))
  have TUA := Lib.hid (by have h := Txt.of_blk hbu; rw [be_len] at h; exact h)
  clear hb hbu hgu
  refine hK _ _ HS.out (fun _ => ?_)
  clear hK K
  try simp only [Act.put, List.setIfInBounds_toArray, List.set_cons_succ, List.set_cons_zero]
  refine wpAnyH_ready (rs := [10]) (by kernel_rfl) (by simp) ?_
  refine AllReadyH.cons (o := ⟨some 19, .call { callee := .value (.func 100), args := #[.tmp 18], argTypes := #[142] }, 28, _, _, none⟩) rfl (fun K hK => ?_) AllReadyH.nil
  go_simp
  refine (u64_walk n3 (by omega) _).mono ?_
  rintro e v2 ⟨gUB, rfl, hgu, hbu, hb⟩
  have HK := Lib.hid (HK.out.on hb)
  have TN := Lib.hid (TN.out.on hb)
  have H2 := Lib.hid (H2.out.on hb)
  have H3 := Lib.hid (H3.out.on hb)
  have HT := Lib.hid (HT.out.on hb)
  have HQ := Lib.hid (HQ.out.on hb)
  have HS := Lib.hid (HS.out.trans (hb.mono HS.out.size))
  have TUA := Lib.hid (TUA.out.on hb)
  have TUB := Lib.hid (by have h := Txt.of_blk hbu; rw [be_len] at h; exact h)
  clear hb hbu hgu
  refine hK _ _ HS.out (fun _ => ?_)
  clear hK K
  try simp only [Act.put, List.setIfInBounds_toArray, List.set_cons_succ, List.set_cons_zero]
  refine wpAnyH_ready (rs := [12]) (by kernel_rfl) (by simp) ?_
  refine AllReadyH.cons (o := ⟨some 21, .buildSlice 35 5 #[(0, .tmp 10), (1, .tmp 14), (2, .tmp 15), (3, .tmp 19), (4, .tmp 20)], 35, _, _, none⟩) rfl (fun K hK => ?_) AllReadyH.nil
  go_simp
  have BJ := Blk.new v2 #[.slice (some ⟨w.heap.size, 0, none⟩) 12 12, .slice (some ⟨gUA, 0, none⟩) 8 8, .slice a2 n2 c2, .slice (some ⟨gUB, 0, none⟩) 8 8, .slice a3 n3 c3] 28
  have hb := below_one' v2 (.cells #[.slice (some ⟨w.heap.size, 0, none⟩) 12 12, .slice (some ⟨gUA, 0, none⟩) 8 8, .slice a2 n2 c2, .slice (some ⟨gUB, 0, none⟩) 8 8, .slice a3 n3 c3] 28)
  generalize World.alloc v2 _ = v3 at *
  have HK := Lib.hid (HK.out.on hb)
  have TN := Lib.hid (TN.out.on hb)
  have H2 := Lib.hid (H2.out.on hb)
  have H3 := Lib.hid (H3.out.on hb)
  have HT := Lib.hid (HT.out.on hb)
  have HQ := Lib.hid (HQ.out.on hb)
  have HS := Lib.hid (HS.out.trans (hb.mono HS.out.size))
  have TUA := Lib.hid (TUA.out.on hb)
  have TUB := Lib.hid (TUB.out.on hb)
  replace BJ := Lib.hid BJ
  clear hb
  refine hK _ _ HS.out (fun _ => ?_)
  clear hK K
  try simp only [Act.put, List.setIfInBounds_toArray, List.set_cons_succ, List.set_cons_zero]
  refine wpAnyH_ready (rs := [13]) (by kernel_rfl) (by simp) ?_
  refine AllReadyH.cons (o := ⟨some 22, .call { callee := .value (.func 40), args := #[.tmp 9, .tmp 21], argTypes := #[28, 35] }, 31, _, _, none⟩) rfl (fun K hK => ?_) AllReadyH.nil
  go_simp
  refine (mac_blk5 v3 _ 28 BJ.out HK.out TN.out TUA.out H2.out TUB.out H3.out HT.out HKL.out (by rw [be_len, be_len]; have := HNL.out; have := H2L.out; have := H3L.out; omega)).mono ?_
  rintro e v4 ⟨he, hb⟩
  rw [← HVE.out] at he
  subst he
  have HK := Lib.hid (HK.out.on hb)
  have TN := Lib.hid (TN.out.on hb)
  have H2 := Lib.hid (H2.out.on hb)
  have H3 := Lib.hid (H3.out.on hb)
  have HT := Lib.hid (HT.out.on hb)
  have HQ := Lib.hid (HQ.out.on hb)
  have HS := Lib.hid (HS.out.trans (hb.mono HS.out.size))
  have TUA := Lib.hid (TUA.out.on hb)
  have TUB := Lib.hid (TUB.out.on hb)
  have BJ := Lib.hid (BJ.out.on hb)
  clear hb
  refine hK _ _ HS.out (fun _ => ?_)
  clear hK K
  try simp only [Act.put, List.setIfInBounds_toArray, List.set_cons_succ, List.set_cons_zero]
  refine wpAnyH_ready (rs := [14]) (by kernel_rfl) (by simp) ?_
  refine AllReadyH.cons (o := ⟨none, .store 31 (.tmp 8) (.tmp 22), 0, _, _, none⟩) rfl (fun K hK => ?_) AllReadyH.nil
  rw [if_pos (by rfl)]
  refine wp_store_abs 31 (.tmp 8) (.tmp 22) (by rfl) _ (barr V) (by rfl) (by rfl) HQ.out (by rw [barr_size, HVL.out]; exact size_u8x32) (by rw [barr_size, barr_size, HVL.out]; rfl) (barr_one_all _) ?_
  intro v5 hW p9
  have hfin := hW.below HS.out HG8.out
  refine hK _ _ hfin (fun _ => ?_)
  clear hK K hW
  refine wpAnyH_done (by kernel_rfl) ?_ _
  go_wp2
  refine bodyPost_ret (v := .agg (barr V)) ?_ rfl ⟨by rw [HVT.out], hfin⟩
  exact results_blk rfl _ p9 rfl Tryd.underlying31 (by rw [barr_size, HVL.out]; exact size_u8x32)
end Go.Proofs.YtgbahfggnbpnmaaDoor
