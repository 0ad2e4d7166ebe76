import Derived.Test.YtgbahfggnbpnmaaDoorSched
/-
  The walk of sha2.Compress.
-/
namespace Go.Proofs.YtgbahfggnbpnmaaDoor
open Go.RowKit

/-- The table's cells. -/
def Tab (w : World) : Prop := ∀ i, i < 64 → w.cell? ⟨0, i, none⟩ = some (wv (ktab.getD i 0))
theorem Tab.lt {w : World} (h : Tab w) : 0 < w.heap.size := block_lt_of_cell (h 0 (by omega))
theorem Tab.below {w w' : World} {B : Nat} (h : Tab w) (hb : Below B w w') (hB : 0 < B) : Tab w' := fun i hi => (hb.cell (p := ⟨_, i, none⟩) hB).trans (h i hi)

theorem Tab.drew {w : World} (h : Tab w) : Tab w.drew := h
theorem Tab.drewN {w : World} (h : Tab w) (n : Nat) : Tab (w.drewN n) := h
theorem Tab.grown {w w' : World} {r : Option Nat} (h : Tab w) (hb : w.grownBy w' r) (hr : some 0 ≠ r) : Tab w' := fun i hi => (World.cell?_of_block (a := ⟨_, i, none⟩) (hb.block _ h.lt hr)).trans (h i hi)

theorem right_q (m : Int) (h1 : 1 ≤ m) (h2 : m ≤ 31) (x : UInt32) (w : World) :
    Calls Tryd.prog 94 #[wv x, .int .i64 m] w fun e w' => e = .returned (wv (rotr m.toNat x)) ∧ w' = w :=
  (right_any m h1 h2 x w).mono fun _ _ ⟨h, h'⟩ => ⟨h, h'.symm⟩

theorem t1_walk (x : S8) (k w : UInt32) :
    ((x.h.toNat : Int) + bits .xor .u32 (bits .xor .u32 ((rotr 6 x.e).toNat : Int) ((rotr 11 x.e).toNat : Int)) ((rotr 25 x.e).toNat : Int) +
      bits .xor .u32 (bits .and .u32 (x.e.toNat : Int) (x.f.toNat : Int)) (bits .and .u32 (bits .xor .u32 (if IntKind.u32.signed = true then -1 else IntKind.u32.max) (x.e.toNat : Int)) (x.g.toNat : Int)) +
      (k.toNat : Int) + (w.toNat : Int)) % 4294967296 = ((t1 x k w).toNat : Int) := by
  rw [show (if IntKind.u32.signed = true then -1 else IntKind.u32.max) = (4294967295 : Int) from rfl, u32_not, u32_xor, u32_xor, u32_and, u32_and, u32_xor]
  unfold t1
  rw [show rotr 6 x.e ^^^ rotr 11 x.e ^^^ rotr 25 x.e = big1 x.e from rfl, show x.e &&& x.f ^^^ ~~~x.e &&& x.g = chf x.e x.f x.g from rfl]
  generalize big1 x.e = p
  generalize chf x.e x.f x.g = q
  simp only [UInt32.toNat_add]
  omega
theorem t2_walk (x : S8) :
    (bits .xor .u32 (bits .xor .u32 ((rotr 2 x.a).toNat : Int) ((rotr 13 x.a).toNat : Int)) ((rotr 22 x.a).toNat : Int) +
      bits .xor .u32 (bits .xor .u32 (bits .and .u32 (x.a.toNat : Int) (x.b.toNat : Int)) (bits .and .u32 (x.a.toNat : Int) (x.c.toNat : Int))) (bits .and .u32 (x.b.toNat : Int) (x.c.toNat : Int))) % 4294967296 = ((t2 x).toNat : Int) := by
  rw [u32_xor, u32_xor, u32_and, u32_and, u32_and, u32_xor, u32_xor]
  unfold t2
  rw [show rotr 2 x.a ^^^ rotr 13 x.a ^^^ rotr 22 x.a = big0 x.a from rfl, show x.a &&& x.b ^^^ x.a &&& x.c ^^^ x.b &&& x.c = majf x.a x.b x.c from rfl]
  exact u32_add _ _
theorem wv_of {z : Int} {x : UInt32} (h : z = x.toNat) : Value.int .u32 z = wv x := by rw [h]

set_option maxRecDepth 100000 in
set_option maxHeartbeats 2000000 in
theorem compress_walk (s : List UInt32) (b : List UInt8) (hs : s.length = 8) (hb : b.length = 64) (w : World) (hT : Tab w) :
    Calls Tryd.prog 27 #[.agg (warr s), .agg (barr b)] w fun e w' => e = .returned (.agg (warr (compress s b))) ∧ Below w.heap.size w w' := by
  have HT := Lib.hid hT
  have HS := Lib.hid hs
  have HB := Lib.hid hb
  have hg := hT.lt
  clear hT hs hb
  have SZ : (Tryd.prog.info? 24).map (·.size) = some (barr b).size := by rw [barr_size, HB.out]; exact size_u8x64
  have SW : (Tryd.prog.info? 134).map (·.size) = some (warr (wl b 64)).size := by rw [warr_size, wl_len]; exact size_u32x64
  replace SZ := Lib.hid SZ
  replace SW := Lib.hid SW
  go_enter Tryd.func27, Tryd.ntmps27
  go_wp2_with (first | (refine wpList_load_row rfl 24 (.tmp 3) rfl (w.heap.size + 1) rfl 24 _ _ _ (new3 w _ _ _ _ _ _).2.1 Tryd.underlying24 rfl SZ.out ?_) | (go_at_call 93; refine (sched_walk b HB.out _).mono ?_; rintro e w1 ⟨rfl, hb1⟩; have m0 := (new3 w _ _ _ _ _ _).1.below hb1 (by simp; omega); have m2 := (new3 w _ _ _ _ _ _).2.2.1.below hb1 (by simp); have mb := (new3 w _ _ _ _ _ _).2.2.2.trans (hb1.mono (by simp; omega)); have hz : w.heap.size + 1 + 1 < w1.heap.size := (by have := hb1.size; simp at this; omega); clear hb1) | (refine wpList_store_abs rfl 134 (.tmp 5) (.tmp 18) rfl w1.heap.size (warr (wl b 64)) rfl rfl 134 _ (Blk.new w1 _ _) SW.out (by rw [warr_size, wl_len]; rfl) (warr_one_all _) ?_; intro W hW p5; have p0 := hW.blk (m0.alloc _) (by omega); have p2 := hW.blk (m2.alloc _) (by omega); have pb := hW.below (mb.alloc (by omega) _) (by omega); clear hW m0 m2 mb))
  generalize w1.heap.size = n1 at *
  have c0 := p0.cell 0 (warr_get s 0 (by rw [HS.out]; omega))
  have c1 := p0.cell 1 (warr_get s 1 (by rw [HS.out]; omega))
  have c2 := p0.cell 2 (warr_get s 2 (by rw [HS.out]; omega))
  have c3 := p0.cell 3 (warr_get s 3 (by rw [HS.out]; omega))
  have c4 := p0.cell 4 (warr_get s 4 (by rw [HS.out]; omega))
  have c5 := p0.cell 5 (warr_get s 5 (by rw [HS.out]; omega))
  have c6 := p0.cell 6 (warr_get s 6 (by rw [HS.out]; omega))
  have c7 := p0.cell 7 (warr_get s 7 (by rw [HS.out]; omega))
  go_quiet (fail)
  clear c0 c1 c2 c3 c4 c5 c6 c7
  replace p0 := p0.drewN nq
  replace p2 := p2.drewN nq
  replace p5 := p5.drewN nq
  replace pb := below_drewN pb nq
  generalize World.drewN W nq = W2 at *
  go_wp2
  go_loopw [6, 7, 8, 9, 10, 11, 12, 13, 35] (fun xa xb xc xd xe xf xg xh c wr => ∃ k : Nat, k ≤ 64 ∧ c = .int .i64 k ∧ xa = wv (rnds (wl b 64) (s8 s) k).a ∧ xb = wv (rnds (wl b 64) (s8 s) k).b ∧ xc = wv (rnds (wl b 64) (s8 s) k).c ∧ xd = wv (rnds (wl b 64) (s8 s) k).d ∧
      xe = wv (rnds (wl b 64) (s8 s) k).e ∧ xf = wv (rnds (wl b 64) (s8 s) k).f ∧ xg = wv (rnds (wl b 64) (s8 s) k).g ∧ xh = wv (rnds (wl b 64) (s8 s) k).h ∧
      Blk wr w.heap.size (warr s) 23 ∧ Blk wr (w.heap.size + 1 + 1) (warr (List.replicate 8 0)) 23 ∧ Blk wr n1 (warr (wl b 64)) 134 ∧ Below w.heap.size w wr) (fun _ _ _ _ _ _ _ _ c _ => 64 - (intOf c).toNat)
  case atStart =>
    exact ⟨0, Nat.zero_le _, rfl, by simp [rnds, s8], by simp [rnds, s8], by simp [rnds, s8], by simp [rnds, s8], by simp [rnds, s8], by simp [rnds, s8], by simp [rnds, s8], by simp [rnds, s8], p0, p2, p5, pb⟩
  case round =>
    clear p0 p2 p5 pb
    obtain ⟨k, hk, rfl, rfl, rfl, rfl, rfl, rfl, rfl, rfl, rfl, p0, p2, p5, pb⟩ := hrel
    by_cases hlt : k < 64
    · have d1 := p5.cell k (warr_get (wl b 64) k (by rw [wl_len]; exact hlt))
      have d2 := (pb.cell (p := ⟨0, k, none⟩) hg).trans (HT.out k hlt)
      generalize hx : rnds (wl b 64) (s8 s) k = x at *
      replace hx := Lib.hid hx
      go_wp2
      go_quiet ((go_at_call 94; exact Calls.quiet_of_same (right_q _ (by omega) (by omega) _ _)))
      go_wp2_with (go_at_call 94; refine (right_any _ (by omega) (by omega) _ _).mono ?_; rintro e w' ⟨rfl, rfl⟩)
      go_roundw
      case rel =>
        have e1 := t1_walk x (ktab[k]?.getD 0) ((wl b 64)[k]?.getD 0)
        have e2 := t2_walk x
        refine ⟨k + 1, by omega, by go_num, ?_, ?_, ?_, ?_, ?_, ?_, ?_, ?_, p0.drewN nq, p2.drewN nq, p5.drewN nq, below_drewN pb nq⟩
        · refine wv_of ?_
          rw [e1, e2, u32_add]
          simp only [rnds, hx.out, rnd, List.getD_eq_getElem?_getD]
        · simp only [rnds, hx.out, rnd]
        · simp only [rnds, hx.out, rnd]
        · simp only [rnds, hx.out, rnd]
        · refine wv_of ?_
          rw [e1, u32_add]
          simp only [rnds, hx.out, rnd, List.getD_eq_getElem?_getD]
        · simp only [rnds, hx.out, rnd]
        · simp only [rnds, hx.out, rnd]
        · simp only [rnds, hx.out, rnd]
      case measure => simp [intOf]; omega
    · have HK := Lib.hid (show k = 64 by omega)
      have c0 := p0.cell 0 (warr_get s 0 (by rw [HS.out]; omega))
      have c1 := p0.cell 1 (warr_get s 1 (by rw [HS.out]; omega))
      have c2 := p0.cell 2 (warr_get s 2 (by rw [HS.out]; omega))
      have c3 := p0.cell 3 (warr_get s 3 (by rw [HS.out]; omega))
      have c4 := p0.cell 4 (warr_get s 4 (by rw [HS.out]; omega))
      have c5 := p0.cell 5 (warr_get s 5 (by rw [HS.out]; omega))
      have c6 := p0.cell 6 (warr_get s 6 (by rw [HS.out]; omega))
      have c7 := p0.cell 7 (warr_get s 7 (by rw [HS.out]; omega))
      generalize hx : rnds (wl b 64) (s8 s) k = x at *
      replace hx := Lib.hid hx
      go_wp2_with (refine wpList_store_abs rfl 23 (.tmp 4) (.tmp 130) rfl (w.heap.size + 1 + 1) _ (by rfl) (by rfl) 23 _ p2 ?_ ?_ ?_ ?_; exact size_u32x8; rfl; simp [Value.oneCell']; intro W3 hW pr; have pb3 := hW.below pb (by omega); clear hW)
      refine bodyPost_ret (v := .agg (warr (compress s b))) ?_ rfl ⟨rfl, pb3⟩
      have e : compress s b = addS s x := by unfold compress; rw [← hx.out, HK.out]
      rw [e]
      simp only [u32_add] at pr
      exact results_blk (cs := warr (addS s x)) rfl _ pr rfl Tryd.underlying23 size_u32x8
end Go.Proofs.YtgbahfggnbpnmaaDoor
