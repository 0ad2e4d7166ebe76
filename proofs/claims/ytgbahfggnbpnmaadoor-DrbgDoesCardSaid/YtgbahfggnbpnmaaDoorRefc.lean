import Derived.Test.YtgbahfggnbpnmaaDoorNum
import Derived.StillTailTactics
/-
  The walk of the reference's Compress.
-/
namespace Go.Proofs.YtgbahfggnbpnmaaDoor
open Go.RowKit

theorem rot_q (m : Int) (h1 : 1 ≤ m) (h2 : m ≤ 31) (x : UInt32) (w : World) :
    Calls Tryd.prog 97 #[wv x, .int .u64 m] w fun e w' => e = .returned (wv (rotr m.toNat x)) ∧ w' = w :=
  (rot_any m h1 h2 x w).mono fun _ _ ⟨h, h'⟩ => ⟨h, h'.symm⟩

theorem ch_or (e f g : UInt32) : (e &&& f) ||| (~~~e &&& g) = chf e f g := by
  unfold chf
  apply UInt32.toBitVec_inj.1
  simp only [UInt32.toBitVec_or, UInt32.toBitVec_and, UInt32.toBitVec_not, UInt32.toBitVec_xor]
  apply BitVec.eq_of_getLsbD_eq
  intro i hi
  simp only [BitVec.getLsbD_or, BitVec.getLsbD_and, BitVec.getLsbD_not, BitVec.getLsbD_xor, hi, decide_true, Bool.true_and]
  cases e.toBitVec.getLsbD i <;> cases f.toBitVec.getLsbD i <;> cases g.toBitVec.getLsbD i <;> rfl
theorem maj_or (a b c : UInt32) : (a &&& b) ||| (a &&& c) ||| (b &&& c) = majf a b c := by
  unfold majf
  apply UInt32.toBitVec_inj.1
  simp only [UInt32.toBitVec_or, UInt32.toBitVec_and, UInt32.toBitVec_xor]
  apply BitVec.eq_of_getLsbD_eq
  intro i hi
  simp only [BitVec.getLsbD_or, BitVec.getLsbD_and, BitVec.getLsbD_xor]
  cases a.toBitVec.getLsbD i <;> cases b.toBitVec.getLsbD i <;> cases c.toBitVec.getLsbD i <;> rfl

theorem ch_w (e f g : UInt32) : bits .or .u32 (bits .and .u32 (e.toNat : Int) (f.toNat : Int)) (bits .and .u32 (bits .xor .u32 IntKind.u32.max (e.toNat : Int)) (g.toNat : Int)) = ((chf e f g).toNat : Int) := by
  rw [show IntKind.u32.max = (4294967295 : Int) from rfl, u32_not, u32_and, u32_and, u32_or, ch_or]
theorem maj_w (a b c : UInt32) : bits .or .u32 (bits .or .u32 (bits .and .u32 (a.toNat : Int) (b.toNat : Int)) (bits .and .u32 (a.toNat : Int) (c.toNat : Int))) (bits .and .u32 (b.toNat : Int) (c.toNat : Int)) = ((majf a b c).toNat : Int) := by
  rw [u32_and, u32_and, u32_and, u32_or, u32_or, maj_or]
theorem t1_w (x : S8) (k w : UInt32) :
    (((x.h.toNat : Int) + bits .xor .u32 (bits .xor .u32 ((rotr 6 x.e).toNat : Int) ((rotr 11 x.e).toNat : Int)) ((rotr 25 x.e).toNat : Int) +
      ((chf x.e x.f x.g).toNat : Int) + (k.toNat : Int)) % 4294967296 + (w.toNat : Int)) % 4294967296 = ((t1 x k w).toNat : Int) := by
  rw [u32_xor, u32_xor, show rotr 6 x.e ^^^ rotr 11 x.e ^^^ rotr 25 x.e = big1 x.e from rfl]
  unfold t1
  generalize big1 x.e = p
  generalize chf x.e x.f x.g = q
  simp only [UInt32.toNat_add]
  omega
theorem t2_w (x : S8) :
    (bits .xor .u32 (bits .xor .u32 ((rotr 2 x.a).toNat : Int) ((rotr 13 x.a).toNat : Int)) ((rotr 22 x.a).toNat : Int) + ((majf x.a x.b x.c).toNat : Int)) % 4294967296 = ((t2 x).toNat : Int) := by
  rw [u32_xor, u32_xor, show rotr 2 x.a ^^^ rotr 13 x.a ^^^ rotr 22 x.a = big0 x.a from rfl]
  exact u32_add _ _
/-- A state's eight words. -/
def s8l (x : S8) : List UInt32 := [x.a, x.b, x.c, x.d, x.e, x.f, x.g, x.h]
theorem s8l_s8 (s : List UInt32) (h : s.length = 8) : s = s8l (s8 s) := by
  match s, h with
  | [_, _, _, _, _, _, _, _], _ => rfl
theorem size_u8x64' (b : List UInt8) (hb : b.length = 64) : (Tryd.prog.info? 24).map (·.size) = some (barr b).size := by rw [barr_size, hb]; exact size_u8x64

/-- The sums so far. -/
def addI (s v : List UInt32) (i : Nat) : List UInt32 := (List.range 8).map fun k => if k < i then s.getD k 0 + v.getD k 0 else v.getD k 0
theorem addI_len (s v : List UInt32) (i : Nat) : (addI s v i).length = 8 := by simp [addI]
theorem addI_zero (s v : List UInt32) (h : v.length = 8) : addI s v 0 = v := by
  match v, h with
  | [_, _, _, _, _, _, _, _], _ => rfl
theorem addI_full (s v : List UInt32) : addI s v 8 = (List.range 8).map fun k => s.getD k 0 + v.getD k 0 := by
  simp [addI, List.range_succ]
theorem addI_step (s v : List UInt32) (i : Nat) (h : i < 8) : (addI s v i).set i ((addI s v i).getD i 0 + s.getD i 0) = addI s v (i + 1) := by
  apply List.ext_getElem?
  intro k
  simp only [addI, List.getElem?_set, List.length_map, List.length_range, List.getD_eq_getElem?_getD, List.getElem?_map]
  by_cases hk : k < 8
  · rw [List.getElem?_range hk, List.getElem?_range h]
    by_cases hik : i = k
    · subst hik; simp [h, UInt32.add_comm]
    · simp only [hik, if_false, Option.map_some]
      by_cases h2 : k < i
      · simp [h2, show k < i + 1 by omega]
      · simp [h2, show ¬ k < i + 1 by omega]
  · rw [if_neg (by omega)]
    rw [List.getElem?_eq_none (by simpa using hk : (List.range 8).length ≤ k)]; rfl

set_option maxRecDepth 100000 in
set_option maxHeartbeats 4000000 in
theorem refcompress_walk (s : List UInt32) (b : List UInt8) (hs : s.length = 8) (hb : b.length = 64) (w : World) :
    Calls Tryd.prog 28 #[.agg (warr s), .agg (barr b)] w fun e w' => e = .returned (.agg (warr (compress s b))) ∧ Below w.heap.size w w' := by
  have HS := Lib.hid hs
  have HB := Lib.hid hb
  have SZ := Lib.hid (size_u8x64' b hb)
  clear hs hb
  go_enter Tryd.func28, Tryd.ntmps28
  go_wp2_with (first | (go_at_call 95; refine (constants_walk _).mono ?_; rintro e w1 ⟨rfl, hb1⟩; have m0 := (new3 w _ _ _ _ _ _).1.below hb1 (by simp; omega); have m1 := (new3 w _ _ _ _ _ _).2.1.below hb1 (by simp); have m2 := (new3 w _ _ _ _ _ _).2.2.1.below hb1 (by simp); have mb := (new3 w _ _ _ _ _ _).2.2.2.trans (hb1.mono (by simp; omega)); have hz : w.heap.size + 1 + 1 < w1.heap.size := (by have := hb1.size; simp at this; omega); clear hb1) | (refine wpList_store_abs rfl 134 (.tmp 5) (.tmp 19) rfl w1.heap.size (warr ktab) rfl rfl 134 _ (Blk.new w1 _ _) ?_ ?_ ?_ ?_; exact size_u32x64; rfl; exact warr_one_all _; intro W hW p5; have p0 := hW.blk (m0.alloc _) (by omega); have p1 := hW.blk (m1.alloc _) (by omega); have p2 := hW.blk (m2.alloc _) (by omega); have pb := hW.below (mb.alloc (by omega) _) (by omega); have pz := hW.size; clear hW m0 m1 m2 mb))
  have q6 := Blk.new W (warr (List.replicate 64 0)) 134
  have q0 := p0.alloc (.cells (warr (List.replicate 64 0)) 134)
  have q1 := p1.alloc (.cells (warr (List.replicate 64 0)) 134)
  have q2 := p2.alloc (.cells (warr (List.replicate 64 0)) 134)
  have q5 := p5.alloc (.cells (warr (List.replicate 64 0)) 134)
  have qb := pb.alloc (by simp at pz; omega) (.cells (warr (List.replicate 64 0)) 134)
  have qz : W.heap.size = w1.heap.size + 1 := by simp at pz; exact pz
  rw [qz] at q6
  clear p0 p1 p2 p5 pb pz qz
  generalize w1.heap.size = n1 at *
  go_loopw [20] (fun c wr => ∃ k : Nat, k ≤ 64 ∧ c = .int .i64 k ∧ Blk wr w.heap.size (warr s) 23 ∧ Blk wr (w.heap.size + 1) (barr b) 24 ∧ Blk wr (w.heap.size + 1 + 1) (warr (List.replicate 8 0)) 23 ∧ Blk wr n1 (warr ktab) 134 ∧
      Blk wr (n1 + 1) (warr (wz b k)) 134 ∧ Below w.heap.size w wr) (fun c _ => 64 - (intOf c).toNat)
  case atStart => exact ⟨0, Nat.zero_le _, rfl, q0, q1, q2, q5, q6, qb⟩
  case round =>
    clear q0 q1 q2 q5 q6 qb
    obtain ⟨k, hk, rfl, p0, p1, p2, p5, p6, pb⟩ := hrel
    by_cases hlt : k < 64
    · by_cases h16 : k < 16
      · go_wp2_with (first | (refine wpList_load_row rfl 24 (.tmp 3) rfl (w.heap.size + 1) rfl 24 _ _ _ p1 Tryd.underlying24 rfl SZ.out ?_) | (go_at_call 96; refine (word_ref_walk b HB.out _ k rfl h16 _).mono ?_; rintro e w2 ⟨rfl, hb2⟩; have r0 := p0.below hb2 p0.lt; have r1 := p1.below hb2 p1.lt; have r2 := p2.below hb2 p2.lt; have r5 := p5.below hb2 p5.lt; have r6 := p6.below hb2 p6.lt; have rb := pb.trans (hb2.mono pb.size); have c6 := r6.cell k (warr_get (wz b k) k (by rw [wz_len b k hk]; exact hlt)); have f6 := r6.free k; clear hb2 p0 p1 p2 p5 p6 pb))
        go_roundw
        case rel =>
          refine ⟨k + 1, by omega, by go_num, r0.set' _ _ (by omega), r1.set' _ _ (by omega), r2.set' _ _ (by omega), r5.set' _ _ (by omega), ?_, below_setCell rb (by omega) _⟩
          rw [← wz_step b k hlt (z := ((word b k).toNat : Int)) (by rw [nextw, if_pos h16])]
          exact r6.set _ _
        case measure => simp [intOf]; omega
      · have d0 := p6.cell (k - 15) (warr_get (wz b k) _ (by rw [wz_len b k hk]; omega))
        have d1 := p6.cell (k - 2) (warr_get (wz b k) _ (by rw [wz_len b k hk]; omega))
        go_wp2
        go_quiet (fail)
        replace p0 := p0.drewN nq
        replace p1 := p1.drewN nq
        replace p2 := p2.drewN nq
        replace p5 := p5.drewN nq
        replace p6 := p6.drewN nq
        replace pb := below_drewN pb nq
        clear d0 d1
        go_wp2_with fail
        generalize World.drewN wr nq = W3 at *
        have d2 := p6.cell (k - 7) (warr_get (wz b k) _ (by rw [wz_len b k hk]; omega))
        have d3 := p6.cell (k - 16) (warr_get (wz b k) _ (by rw [wz_len b k hk]; omega))
        have d4 := p6.cell k (warr_get (wz b k) _ (by rw [wz_len b k hk]; omega))
        have d5 := p6.free k
        have k0 : (0 : Int) ≤ (k : Int) ∧ (k : Int) < 64 := by omega
        have f1 : IntKind.i64.wrap ((k : Int) - 7) = (k : Int) - 7 := IntWalk.i64_in _ (by omega)
        have f2 : IntKind.i64.wrap ((k : Int) - 16) = (k : Int) - 16 := IntWalk.i64_in _ (by omega)
        have g1 : (0 : Int) ≤ (k : Int) - 7 ∧ (k : Int) - 7 < 64 := by omega
        have g2 : (0 : Int) ≤ (k : Int) - 16 ∧ (k : Int) - 16 < 64 := by omega
        have g3 : (7 : Int) ≤ (k : Int) ∧ (16 : Int) ≤ (k : Int) := by omega
        have m1 : ((k : Int) - 7).toNat = k - 7 := by omega
        have m2 : ((k : Int) - 16).toNat = k - 16 := by omega
        refine wp_region_still_tail 29 (by kernel_rfl) (by kernel_rfl) ?_
        simp only [List.take_succ_cons, List.take_zero, List.drop_succ_cons, List.drop_zero]
        repeat (first | (refine wpStill_step (fun K hK => ?_); go_simp; refine hK _ ?_; clear hK K) | (refine wpStill_step (fun K hK => ?_); go_simp; refine ⟨_, rot_q _ (by omega) (by omega) _ _, hK _ ?_⟩; clear hK K))
        refine wpStill_nil ?_
        change wpList _ _ _ _ _ W3.drew
        go_wp2
        go_roundw
        case rel =>
          refine ⟨k + 1, by omega, by go_num, (p0.set' _ _ (by omega)).drew, (p1.set' _ _ (by omega)).drew, (p2.set' _ _ (by omega)).drew, (p5.set' _ _ (by omega)).drew, ?_, (below_setCell pb (by omega) _).drew⟩
          rw [← wz_step b k (by omega) ((next_walk ((wz b k)[k - 2]?.getD 0) ((wz b k)[k - 7]?.getD 0) ((wz b k)[k - 15]?.getD 0) ((wz b k)[k - 16]?.getD 0)).trans (by
            rw [nextw, if_neg (by omega), ← wz_get b k (k - 2) (by omega), ← wz_get b k (k - 7) (by omega), ← wz_get b k (k - 15) (by omega), ← wz_get b k (k - 16) (by omega)]
            simp only [List.getD_eq_getElem?_getD]))]
          exact (p6.set _ _).drew
        case measure => simp [intOf]; omega
    · have hd : decide ((k : Int) < 64) = false := by simp; omega
      have HK := Lib.hid (show k = 64 by omega)
      have SS : (Tryd.prog.info? 23).map (·.size) = some (warr s).size := by rw [warr_size, HS.out]; exact size_u32x8
      replace SS := Lib.hid SS
      have e8 := Lib.hid (show s = s8l (s8 s) from s8l_s8 s HS.out)
      clear hlt
      go_wp2_with (first | (refine wpList_load_row rfl 23 (.tmp 2) rfl w.heap.size rfl 23 _ _ _ p0 Tryd.underlying23 rfl SS.out ?_) | (refine wpList_store_abs rfl 23 (.tmp 10) (.tmp 68) rfl wr.heap.size (warr s) (by rfl) (by rfl) 23 _ (Blk.new wr _ _) ?_ ?_ ?_ ?_; exact SS.out; rw [warr_size, HS.out]; rfl; exact warr_one_all _; intro W5 hW p9; have p0' := hW.blk (p0.alloc _) (by have := p0.lt; omega); have p2' := hW.blk (p2.alloc _) (by have := p2.lt; omega); have p5' := hW.blk (p5.alloc _) (by have := p5.lt; omega); have p6' := hW.blk (p6.alloc _) (by have := p6.lt; omega); have pb' := hW.below (pb.alloc pb.size _) pb.size; have l2 := p2.lt; have l6 := p6.lt; have l0 := pb.size; clear hW p0 p1 p2 p5 p6 pb))
      generalize hn3 : wr.heap.size = n3 at *
      clear hn3
      obtain ⟨wo, HW⟩ : ∃ wo, Hid (wo = wr) := ⟨wr, rfl⟩
      go_loopw [69] (fun c wr => ∃ j : Nat, j ≤ 64 ∧ c = .int .i64 j ∧ Blk wr w.heap.size (warr s) 23 ∧ Blk wr (w.heap.size + 1 + 1) (warr (List.replicate 8 0)) 23 ∧ Blk wr n1 (warr ktab) 134 ∧
        Blk wr (n1 + 1) (warr (wl b 64)) 134 ∧ Blk wr n3 (warr (s8l (rnds (wl b 64) (s8 s) j))) 23 ∧ Below w.heap.size w wr) (fun c _ => 64 - (intOf c).toNat)
      case atStart =>
        refine ⟨0, Nat.zero_le _, rfl, p0', p2', p5', by rw [← wz_full, ← HK.out]; exact p6', ?_, pb'⟩
        rw [rnds, ← e8.out]; exact p9
      case round =>
        clear p0' p2' p5' p6' p9 pb' hd
        obtain ⟨j, hj, rfl, p0, p2, p5, p6, p9, pb⟩ := hrel
        by_cases hlt : j < 64
        · generalize hx : rnds (wl b 64) (s8 s) j = x at *
          replace hx := Lib.hid hx
          have c0 := p9.cell 0 (v := wv x.a) rfl
          have c1 := p9.cell 1 (v := wv x.b) rfl
          have c2 := p9.cell 2 (v := wv x.c) rfl
          have c3 := p9.cell 3 (v := wv x.d) rfl
          have c4 := p9.cell 4 (v := wv x.e) rfl
          have c5 := p9.cell 5 (v := wv x.f) rfl
          have c6 := p9.cell 6 (v := wv x.g) rfl
          have c7 := p9.cell 7 (v := wv x.h) rfl
          have d1 := p5.cell j (warr_get ktab j hlt)
          have d2 := p6.cell j (warr_get (wl b 64) j (by rw [wl_len]; exact hlt))
          go_wp2
          go_quiet (fail)
          go_wp2_with fail
          rw [ch_w x.e x.f x.g, maj_w x.a x.b x.c]
          replace p0 := p0.drewN nq
          replace p2 := p2.drewN nq
          replace p5 := p5.drewN nq
          replace p6 := p6.drewN nq
          replace p9 := p9.drewN nq
          replace pb := below_drewN pb nq
          clear c0 c4 c5 c6 d1 d2 c1 c2 c3 c7
          generalize World.drewN wr nq = W4 at *
          have c7 := p9.cell 7 (v := wv x.h) rfl
          have d1 := p5.cell j (warr_get ktab j hlt)
          have d2 := p6.cell j (warr_get (wl b 64) j (by rw [wl_len]; exact hlt))
          go_quiet ((go_at_call 97; exact Calls.quiet_of_same (rot_q _ (by omega) (by omega) _ _)))
          clear c7 d1 d2
          replace p0 := p0.drewN nq
          replace p2 := p2.drewN nq
          replace p5 := p5.drewN nq
          replace p6 := p6.drewN nq
          replace p9 := p9.drewN nq
          replace pb := below_drewN pb nq
          generalize World.drewN W4 nq = W5 at *
          rw [t1_w x (ktab[j]?.getD 0) ((wl b 64)[j]?.getD 0)]
          generalize ht1 : t1 x (ktab[j]?.getD 0) ((wl b 64)[j]?.getD 0) = T1 at *
          replace ht1 := Lib.hid ht1
          generalize hmj : majf x.a x.b x.c = mj at *
          replace hmj := Lib.hid hmj
          have c1 := p9.cell 1 (v := wv x.b) rfl
          have c2 := p9.cell 2 (v := wv x.c) rfl
          have c3 := p9.cell 3 (v := wv x.d) rfl
          have c5 := p9.cell 5 (v := wv x.f) rfl
          have c6 := p9.cell 6 (v := wv x.g) rfl
          go_wp2_with (first | (go_at_call 97; refine (rot_any _ (by omega) (by omega) _ _).mono ?_; rintro e w' ⟨rfl, rfl⟩) | (refine wpList_store_abs (o := ⟨none, .store 23 (.tmp 10) (.tmp 149), _, _, _, _⟩) rfl 23 (.tmp 10) (.tmp 149) rfl n3 _ (by rfl) (by rfl) 23 _ p9 ?_ ?_ ?_ ?_; exact size_u32x8; rfl; simp [Value.oneCell']; intro W6 hW q9; have q0 := hW.blk p0 (by omega); have q2 := hW.blk p2 (by omega); have q5 := hW.blk p5 (by omega); have q6 := hW.blk p6 (by omega); have qb := hW.below pb (by omega); clear hW p0 p2 p5 p6 p9 pb))
          go_roundw
          case rel =>
            refine ⟨j + 1, by omega, by go_num, q0, q2, q5, q6, ?_, qb⟩
            have e2 : ((T1.toNat : Int) + (bits .xor .u32 (bits .xor .u32 ((rotr 2 x.a).toNat : Int) ((rotr 13 x.a).toNat : Int)) ((rotr 22 x.a).toNat : Int) + (mj.toNat : Int))) % 4294967296 = ((T1 + t2 x).toNat : Int) := by
              rw [← u32_add, ← t2_w x, hmj.out]; simp
            rw [e2, u32_add] at q9
            simp only [rnds, hx.out, rnd, List.getD_eq_getElem?_getD, ht1.out]
            exact q9
          case measure => simp [intOf]; omega
        · have hd : decide ((j : Int) < 64) = false := by simp; omega
          have HJ := Lib.hid (show j = 64 by omega)
          generalize hx : rnds (wl b 64) (s8 s) j = x at *
          replace hx := Lib.hid hx
          clear hlt p5 p6
          go_wp2
          obtain ⟨wo2, HW2⟩ : ∃ wo, Hid (wo = wr) := ⟨wr, rfl⟩
          go_loopw [151] (fun c wr => ∃ i : Nat, i ≤ 8 ∧ c = .int .i64 i ∧ Blk wr w.heap.size (warr s) 23 ∧ Blk wr (w.heap.size + 1 + 1) (warr (List.replicate 8 0)) 23 ∧ Blk wr n3 (warr (addI s (s8l x) i)) 23 ∧ Below w.heap.size w wr) (fun c _ => 8 - (intOf c).toNat)
          case atStart => exact ⟨0, Nat.zero_le _, rfl, p0, p2, by rw [addI_zero _ _ rfl]; exact p9, pb⟩
          case round =>
            clear p0 p2 p9 pb hd
            obtain ⟨i, hi, rfl, p0, p2, p9, pb⟩ := hrel
            by_cases hlt : i < 8
            · have c0 := p0.cell i (warr_get s i (by rw [HS.out]; exact hlt))
              have c1 := p9.cell i (warr_get (addI s (s8l x) i) i (by rw [addI_len]; exact hlt))
              have c2 := p9.free i
              go_wp2
              go_region
              go_wp2
              go_roundw
              case rel =>
                refine ⟨i + 1, by omega, by go_num, (p0.set' _ _ (by omega)).drew, (p2.set' _ _ (by omega)).drew, ?_, (below_setCell pb (by omega) _).drew⟩
                have e := u32_add ((addI s (s8l x) i)[i]?.getD 0) (s[i]?.getD 0)
                rw [e, ← addI_step s (s8l x) i hlt]
                simp only [List.getD_eq_getElem?_getD]
                rw [← warr_set]
                exact (p9.set _ _).drew
              case measure => simp [intOf]; omega
            · have HI := Lib.hid (show i = 8 by omega)
              have SA : (Tryd.prog.info? 23).map (·.size) = some (warr (addI s (s8l x) i)).size := by rw [warr_size, addI_len]; exact size_u32x8
              replace SA := Lib.hid SA
              go_wp2_with (first | (refine wpList_load_row rfl 23 (.tmp 10) rfl n3 rfl 23 _ _ _ p9 Tryd.underlying23 rfl SA.out ?_) | (refine wpList_store_abs rfl 23 (.tmp 4) (.tmp 163) rfl (w.heap.size + 1 + 1) (warr (addI s (s8l x) i)) (by rfl) (by rfl) 23 _ p2 ?_ ?_ ?_ ?_; exact SA.out; rw [warr_size, warr_size, addI_len]; rfl; exact warr_one_all _; intro W7 hW pr; have pb7 := hW.below pb (by omega); clear hW))
              refine bodyPost_ret (v := .agg (warr (compress s b))) ?_ rfl ⟨rfl, pb7⟩
              have e : compress s b = addI s (s8l x) i := by unfold compress; rw [HI.out, addI_full, ← hx.out, HJ.out]; rfl
              rw [e]
              exact results_blk rfl _ pr rfl Tryd.underlying23 SA.out
end Go.Proofs.YtgbahfggnbpnmaaDoor
