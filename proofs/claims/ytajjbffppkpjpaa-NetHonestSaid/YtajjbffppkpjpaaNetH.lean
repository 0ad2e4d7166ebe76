import Derived.Test.YtajjbffppkpjpaaNetG
/-
  net.gone; Drop.
-/
namespace Go.Proofs.Ytajjbffppkpjpaa
set_option linter.unusedSimpArgs false
set_option linter.unusedVariables false
open Go.RowKit
theorem NetAt.part' {w : World} {av : Nat → Prop} {b : Nat} {v1 v2 v3 : Value} {S : NS} (h : NetAt w av b v1 v2 v3 S) : NPart w av b v1 v2 v3 v1 v2 S.way S.ever S.came := h.part
theorem NetAt.wrote1 {w w1 w2 : World} {av : Nat → Prop} {b g : Nat} {v1 v2 v3 x : Value} {S : NS} {L : List Snt} (h : NetAt w av b v1 v2 v3 S) (hv : v1.ownBlock = some g) (hO : Only (fun k => k = g) w w1) (hR : SRow w1 av x L) (hx : x.ownBlock = v1.ownBlock) (hW : Wrote w1 w2 b) (hB : Blk w2 b (#[.bool true, v1, v2, v3].setIfInBounds 1 x) 43) : NetAt w2 av b x v2 v3 { S with way := L } := by
  have hne : ∀ k cur, av k → Blk w k cur 5 → ¬ k = g := fun k cur _ hb e => h.way.not_u8 hb (by rw [hv, e])
  have hP : NPart w1 av b v1 v2 v3 x v2 L S.ever S.came := ⟨hO.blk h.blk (fun e => h.way.not_b h.blk (by rw [hv, e])), hR, h.ever.keep hO (fun k e q => h.a12 k (by rw [hv, q]) e) hne, h.came.keep hO (fun k e q => h.a13 k (by rw [hv, q]) e) hne, fun k e => h.a12 k (by rw [← hx]; exact e), fun k e => h.a13 k (by rw [← hx]; exact e), h.a23⟩
  exact (hP.store1 hW hB).whole
theorem below_allocs2 (w : World) (o p : Obj) : Below w.heap.size w ((w.alloc o).alloc p) := below_boxes w o p
theorem range_below {w w' : World} {g off : Nat} {cs : List Value} (h : w.rangeAt g off cs) (hg : g < w.heap.size) (hb : Below w.heap.size w w') : w'.rangeAt g off cs := fun j v hj => (hb.cell (p := ⟨g, off + j, none⟩) hg).trans (h j v hj)
set_option maxRecDepth 100000 in
set_option maxHeartbeats 4000000 in
theorem ngone_walk {av : Nat → Prop} {b : Nat} {v1 v2 v3 : Value} {S : NS} (i : Nat) (hi : i < S.way.length) (hL : S.way.length ≤ 1024) (w : World) (h : NetAt w av b v1 v2 v3 S) :
    Calls Try.prog 83 #[.pointer (some ⟨b, 0, none⟩), .int .i64 i] w fun e w' => ∃ px nx cx x1, e = .returned (sag (S.way.getD i snt0).f (S.way.getD i snt0).t px nx cx) ∧ Tn w' av (.slice px nx cx) (S.way.getD i snt0).d ∧ NetAt w' av b x1 v2 v3 { S with way := S.way.eraseIdx i } ∧ Only (NFoot b v1 v2 v3) w w' ∧ x1.ownBlock = v1.ownBlock := by
  obtain ⟨g, c, cur, px, nx, cx, rfl, hn, hm, hB, hsz, hr, ht⟩ := h.way.at_i hi
  obtain ⟨n, hnn⟩ : ∃ n, n = S.way.length := ⟨_, rfl⟩
  obtain ⟨s, hs⟩ : ∃ s, s = S.way.getD i snt0 := ⟨_, rfl⟩
  rw [← hs] at hr ht ⊢
  rw [Nat.zero_add] at hr
  rw [← hnn] at hi hL hn
  have H := Lib.hid (show NetAt w av b (.slice (some ⟨g, 0, none⟩) n c) v2 v3 S by rw [hnn]; exact h)
  have HE := Lib.hid (show ∀ k, NFoot b (.slice (some ⟨g, 0, none⟩) n c) v2 v3 k → NFoot b (.slice (some ⟨g, 0, none⟩) S.way.length c) v2 v3 k from fun k q => q)
  have HR := Lib.hid hr
  have HGL := Lib.hid hB.lt
  have HT := Lib.hid ht
  have HNN := Lib.hid hnn
  have HI := Lib.hid hi
  have hc1 : (w.alloc (.cells #[.int .i64 0, .int .i64 0, .slice none 0 0] 47)).cell? ⟨b, 1, none⟩ = some (.slice (some ⟨g, 0, none⟩) n c) := (H.out.on (below_one' w _)).c1
  have HM := Lib.hid (show NFoot b (.slice (some ⟨g, 0, none⟩) n c) v2 v3 g from .inr (.inl rfl))
  have hwr : IntKind.i64.wrap ((i : Int) + 1) = (i : Int) + 1 := by rw [IntWalk.i64_in _ (by omega)]
  clear h hB hsz hr ht hs hnn hn hm
  go_enter Try.func83, Try.ntmps83
  go_wp2_with (first | (refine wpList_load_mid rfl 47 (.tmp 11) rfl g (i * 3) (by rfl) [.int .i64 s.f, .int .i64 s.t, .slice px nx cx] _ (range_below HR.out HGL.out (below_one' w _)) Try.underlying47 rfl size_sent ?_; clear hc1) | (refine wpList_store_abs rfl 47 (.tmp 5) (.tmp 12) rfl (w.heap.size + 1) #[.int .i64 s.f, .int .i64 s.t, .slice px nx cx] (by rfl) (by rfl) 47 _ (Blk.new' (w.alloc _) _ _ (by simp)) size_sent (by rfl) (by simp [Value.oneCell']) ?_; intro W hW p; have hb := hW.below (below_boxes w _ _) (by omega); have HB0 := Lib.hid (hW.blk ((Blk.new w #[.int .i64 0, .int .i64 0, .slice none 0 0] 47).alloc _) (by omega)); have HB1 := Lib.hid p; have HW := Lib.hid (H.out.on hb); have HT := Lib.hid (HT.out.on hb); have HBE := Lib.hid hb; have c1 := HW.out.c1; clear hW p hb))
  refine (sdelete_walk g n c i W HW.out.way HNN.out HI.out).mono ?_
  rintro e w2 ⟨rfl, hO, hR⟩
  have hg0 : w.heap.size ≠ g := by have := HGL.out; omega
  have hg1 : w.heap.size + 1 ≠ g := by have := HGL.out; omega
  have HB0 := Lib.hid (hO.blk HB0.out hg0)
  have HB1 := Lib.hid (hO.blk HB1.out hg1)
  have HT := Lib.hid (HT.out.keep hO (fun k cur _ hb e => HW.out.way.not_u8 hb (by rw [e]; rfl)))
  have HBB := Lib.hid (hO.blk HW.out.blk (fun e => HW.out.way.not_b HW.out.blk (by rw [e]; rfl)))
  have HOO := Lib.hid (show Only (NFoot b (.slice (some ⟨g, 0, none⟩) n c) v2 v3) w w2 from (Only.of_below HBE.out).trans (hO.mono (fun k e => by rw [e]; exact HM.out)))
  have HO := Lib.hid hO
  have HRR := Lib.hid hR
  clear hO hR hg0 hg1 c1
  go_wp2_with (first | (refine wpList_store_one rfl (.tmp 23) (.tmp 21) 41 size_sents (by rfl) b 1 (.slice (some ⟨g, 0, none⟩) (n - 1) c) (by rfl) (by rfl) (by rfl) (by rfl) HBB.out (by simp) ?_; intro W3 hW p; have HN := Lib.hid (HW.out.wrote1 rfl HO.out HRR.out rfl hW p); have HB0 := Lib.hid (hW.blk HB0.out (blk_type_ne HB0.out HBB.out (by decide))); have HB1 := Lib.hid (hW.blk HB1.out (blk_type_ne HB1.out HBB.out (by decide))); have HT := Lib.hid (HT.out.keep (Only.wrote (S := (· = b)) hW rfl) (fun k cur _ hb e => blk_type_ne hb HBB.out (by decide) e)); have HOO := Lib.hid (HOO.out.trans (Only.wrote hW (.inl rfl))); clear hW p) | (refine wpList_load_sub rfl 47 (.tmp 5) (by rfl) (w.heap.size + 1) 0 (by rfl) HB1.out [.int .i64 s.f, .int .i64 s.t, .slice px nx cx] (by intro i hi; simp at hi ⊢) _ Try.underlying47 rfl size_sent ?_) | (refine wpList_store_abs rfl 47 (.tmp 4) (.tmp 24) (by rfl) w.heap.size #[.int .i64 s.f, .int .i64 s.t, .slice px nx cx] (by rfl) (by rfl) 47 _ HB0.out size_sent (by rfl) (by simp [Value.oneCell']) ?_; intro W4 hW p; have HNE := Lib.hid (show ∀ k cur, Blk W3 k cur 5 → ¬ k = w.heap.size from fun k cur hb => blk_type_ne hb HB0.out (by decide)); have HOW := Lib.hid (Only.wrote (S := (· = w.heap.size)) hW rfl); have HB0 := Lib.hid p; clear hW p))
  have hnf : ∀ k, NFoot b (.slice (some ⟨g, 0, none⟩) n c) v2 v3 k → ¬ k = w.heap.size := fun k q e => by have := H.out.lt q; omega
  have hq : NetAt W4 av b (.slice (some ⟨g, 0, none⟩) (n - 1) c) v2 v3 { S with way := S.way.eraseIdx i } := HN.out.keep HOW.out (fun k q => hnf k (q.imp id (fun q => q.imp (fun e => by rw [← e]; rfl) id))) (fun k cur _ hb => HNE.out k cur hb)
  refine bodyPost_ret (v := sag s.f s.t px nx cx) ?_ rfl ⟨px, nx, cx, _, rfl, HT.out.keep HOW.out (fun k cur _ hb => HNE.out k cur hb), hq, ?_, rfl⟩
  · exact results_cell_row (P := Try.prog) rfl _ _ _ _ _ (0, 0) _ (by rfl) HB0.out Try.underlying47 rfl size_sent
  · exact (HOO.out.mono HE.out).trans' HOW.out (fun k e => .inr (by omega))
end Go.Proofs.Ytajjbffppkpjpaa
