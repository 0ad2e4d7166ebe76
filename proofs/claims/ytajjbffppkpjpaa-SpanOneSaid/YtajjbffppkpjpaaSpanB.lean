import Derived.Test.YtajjbffppkpjpaaSpanE
/-
  The reference's put.
-/
namespace Go.Proofs.Ytajjbffppkpjpaa
open Go.RowKit
theorem below_grownO {w0 wr w1 : World} {v : Value} {l : List Rg} {lo hi : Nat} (hb : Below lo w0 wr) (hO : OwnR wr hi v l) (hg : wr.grownBy w1 v.ownBlock) (hl : lo ≤ hi) (hs : lo ≤ wr.heap.size) : Below lo w0 w1 :=
  hb.trans ⟨hg.os, hg.tape, hg.output, hg.size, fun i hi => hg.block i (Nat.lt_of_lt_of_le hi hs) (fun e => by have := (hO.lt i e.symm).1; omega)⟩
theorem OwnR.above {w : World} {lo g : Nat} {v : Value} {l : List Rg} (h : OwnR w lo v l) (hg : g < lo) : ∀ k, v.ownBlock = some k → k ≠ g := fun k hk => by
  have := (h.lt k hk).1; omega
theorem OwnR.far {w w' : World} {lo g : Nat} {v : Value} {l : List Rg} (h : OwnR w lo v l) (hb : w.grownBy w' (some g)) (hg : g < lo) : OwnR w' lo v l := by
  refine h.grown hb ?_
  cases hk : v.ownBlock with
  | none => exact .inl rfl
  | some k => exact .inr fun e => h.above hg k hk (by simpa using e)
theorem apart_new (g h n c m d : Nat) (hne : g ≠ h) : Apart (.slice (some ⟨g, 0, none⟩) n c) (.slice (some ⟨h, 0, none⟩) m d) := fun k h1 h2 => by
  simp [Value.ownBlock] at h1 h2; omega
theorem pfold_succ (l : List Rg) (s : List Rg × Rg × List Rg) (i : Nat) (h : i < l.length) : (l.take (i + 1)).foldl pstep s = pstep ((l.take i).foldl pstep s) (l.getD i r0) := by
  rw [List.take_add_one, List.foldl_append]
  simp [List.getD, h]
theorem pfold_len (l : List Rg) : ∀ s : List Rg × Rg × List Rg, (l.foldl pstep s).1.length + (l.foldl pstep s).2.2.length ≤ s.1.length + s.2.2.length + l.length := by
  induction l with
  | nil => intro s; simp
  | cons x l ih =>
    intro s
    have h1 := ih (pstep s x)
    have h2 : (pstep s x).1.length + (pstep s x).2.2.length ≤ s.1.length + s.2.2.length + 1 := by
      unfold pstep; split
      · simp; omega
      · split
        · simp; omega
        · simp
    simp only [List.foldl_cons, List.length_cons]
    omega
set_option maxRecDepth 100000 in
set_option maxHeartbeats 2000000 in
theorem rput_walk (l : List Rg) (r : Rg) (a : Option Addr) (n c : Nat) (w : World) (hL : RgsIn w a n c l) (hlen : l.length ≤ 100000) :
    Calls Try.prog 107 #[.slice a n c, rag r] w fun e w' => ∃ v, e = .returned v ∧ OwnR w' w.heap.size v (putP l r) ∧ Below w.heap.size w w' := by
  have HL := Lib.hid hL
  obtain rfl : n = l.length := hL.len
  have hn63 : l.length ≤ 9223372036854775807 := by omega
  have HLn := Lib.hid hlen
  have hb1 := below_one1 w (.cells (rcb r) 25)
  have hb2 := below_two2 (w.alloc (.cells (rcb r) 25)) (.cells #[] 25) (.cells #[] 25)
  have HB0 := Lib.hid (show Below w.heap.size w (((w.alloc (.cells (rcb r) 25)).alloc (.cells #[] 25)).alloc (.cells #[] 25)) from hb1.trans (hb2.mono (by simp)))
  have BQ0 := Lib.hid ((Blk.new w (rcb r) 25).on hb2)
  have HY0 := Lib.hid ((OwnR.empty (w.alloc (.cells (rcb r) 25)) (lo := w.heap.size + 1) (by simp)).on (below_one1 _ (.cells #[] 25)))
  have HZ0 := Lib.hid (OwnR.empty ((w.alloc (.cells (rcb r) 25)).alloc (.cells #[] 25)) (lo := w.heap.size + 1) (by simp))
  have HAP0 := Lib.hid (apart_new (w.alloc (.cells (rcb r) 25)).heap.size ((w.alloc (.cells (rcb r) 25)).alloc (.cells #[] 25)).heap.size 0 0 0 0 (by simp))
  simp only [show ∀ (w : World) (o : Obj), (w.alloc o).heap.size = w.heap.size + 1 from fun w o => by simp] at HY0 HZ0 HAP0
  clear hb1 hb2 hL hlen
  go_enter Try.func107, Try.ntmps107
  go_wp2
  go_loopw [13, 5, 6] (fun x y z wr => ∃ i : Nat, i ≤ l.length ∧ x = .int .i64 (i : Nat) ∧ Hid (OwnR wr (w.heap.size + 1) y ((l.take i).foldl pstep ([], r, [])).1) ∧ Hid (OwnR wr (w.heap.size + 1) z ((l.take i).foldl pstep ([], r, [])).2.2) ∧ Hid (Apart y z) ∧ Hid (Blk wr w.heap.size (rcb ((l.take i).foldl pstep ([], r, [])).2.1) 25) ∧ Below w.heap.size w wr) (fun x _ _ _ => l.length - (intOf x).toNat)
  case atStart => exact ⟨0, Nat.zero_le _, rfl, HY0.out, HZ0.out, HAP0.out, BQ0.out, HB0.out⟩
  case round =>
    obtain ⟨i, hi, rfl, HY, HZ, HAP, BQ, hb⟩ := hrel
    have HBr := Lib.hid hb
    have hpl := pfold_len (l.take i) ([], r, [])
    have hsu0 := fun h => pfold_succ l ([], r, []) i h
    obtain ⟨s, hs⟩ : ∃ s, s = (l.take i).foldl pstep ([], r, []) := ⟨_, rfl⟩
    rw [← hs] at HY HZ BQ hpl hsu0
    obtain ⟨Y, q, Z⟩ := s
    simp only at HY HZ BQ hpl
    obtain ⟨sa, cs, rfl, _⟩ := HY.out.form
    obtain ⟨ta, ct, rfl, _⟩ := HZ.out.form
    have HLY := Lib.hid (show ∀ y : Rg, Y.length + [y].length ≤ 1000000000000 from fun y => by
      have := HLn.out
      simp [Nat.min_eq_left hi] at hpl ⊢
      omega)
    have HLZ := Lib.hid (show ∀ y : Rg, Z.length + [y].length ≤ 1000000000000 from fun y => by
      have := HLn.out
      simp [Nat.min_eq_left hi] at hpl ⊢
      omega)
    have HLE := Lib.hid (show (Y ++ [q]).length + Z.length ≤ 1000000000000 by
      have := HLn.out
      simp [Nat.min_eq_left hi] at hpl ⊢
      omega)
    clear hpl
    by_cases hlt : i < l.length
    · have hsu := hsu0 hlt
      clear hsu0 hs
      obtain ⟨g, o, rfl, hg, hr⟩ := HL.out.rd i hlt
      have HR := Lib.hid (rng_on hr hb)
      obtain ⟨x, hx⟩ : ∃ x, x = l.getD i r0 := ⟨_, rfl⟩
      rw [← hx] at HR hsu
      have HI := Lib.hid hlt
      have HAPs := Lib.hid HAP.out.symm
      clear hr hx hg hb hlt
      rcases Nat.lt_or_ge x.hi q.lo with h1 | h1
      · have g1 : (x.hi : Int) < (q.lo : Int) := by omega
        have HSU := Lib.hid (show (l.take (i + 1)).foldl pstep ([], r, []) = (Y ++ [x], q, Z) by rw [hsu]; exact if_pos h1)
        clear hsu h1
        go_wp2_with (first | (refine wpList_load_mid rfl 25 (.tmp 15) rfl g (o + i * 2) rfl (rcl x) _ HR.out Try.underlying25 rfl size_rg ?_) | (refine wpList_store_abs rfl 25 (.tmp 8) (.tmp 16) (by rfl) wr.heap.size #[.int .u64 (x.lo : Nat), .int .u64 (x.hi : Nat)] (by rfl) (by rfl) 25 _ (Blk.new wr _ _) size_rg (by rfl) (by simp [Value.oneCell']) ?_; intro W hW hp5; have hbW := hW.below ((Below.refl _ wr).alloc (Nat.le_refl _) _) (Nat.le_refl _); have HBW := Lib.hid (HBr.out.trans (hbW.mono HBr.out.size)); have BXW := Lib.hid hp5; have HYW := Lib.hid (HY.out.on hbW); have HZW := Lib.hid (HZ.out.on hbW); have BQW := Lib.hid (BQ.out.on hbW); have b0 := BQW.out.cell 0 rfl; have b1 := BQW.out.cell 1 rfl; have b2 := hp5.cell 0 rfl; have b3 := hp5.cell 1 rfl; have HQ6 := Lib.hid (HYW.out.on (below_one1 W (.cells #[.int .u64 (x.lo : Nat), .int .u64 (x.hi : Nat)] 25))); have HA6 := Lib.hid (below_alloc HBW.out HBW.out.size (.cells #[.int .u64 (x.lo : Nat), .int .u64 (x.hi : Nat)] 25)); have HT6 := Lib.hid (HZW.out.on (below_one1 W (.cells #[.int .u64 (x.lo : Nat), .int .u64 (x.hi : Nat)] 25))); have BT6 := Lib.hid (BQW.out.alloc (.cells #[.int .u64 (x.lo : Nat), .int .u64 (x.hi : Nat)] 25)); have HS6 := Lib.hid (show w.heap.size + 1 ≤ (World.alloc W (.cells #[.int .u64 (x.lo : Nat), .int .u64 (x.hi : Nat)] 25)).heap.size from Nat.le_trans BT6.out.lt (Nat.le_refl _)); clear hW hbW hp5) | (refine wpList_load_mid rfl 25 (.tmp 8) rfl wr.heap.size 0 rfl [.int .u64 (x.lo : Nat), .int .u64 (x.hi : Nat)] _ (range_blk BXW.out 0 _ (fun j hj => by simp)) Try.underlying25 rfl size_rg ?_) | (refine wpList_append_rgs2 rfl (.tmp 34) (.tmp 36) (by rfl) (w.heap.size + 1) _ Y (by rfl) HQ6.out _ 1 1 [x] (by rfl) rfl (RgR.one (Blk.new W #[.int .u64 (x.lo : Nat), .int .u64 (x.hi : Nat)] 25)) (HLY.out _) HS6.out ?_; intro a6 n6 c6 w6 hO hg he; have HO6 := Lib.hid hO; have HB6 := Lib.hid (below_grownO HA6.out HQ6.out hg (Nat.le_succ _) HA6.out.size); have HK6 := Lib.hid (HAP.out.keep HT6.out hg); have AP6 := Lib.hid (HAP.out.app HT6.out he); have BK6 := Lib.hid (BT6.out.past hg (HQ6.out.above (Nat.lt_succ_self _))); clear hO hg he))
        go_roundw
        case rel => exact ⟨i + 1, by have := HI.out; omega, by go_num, by rw [HSU.out]; exact HO6.out, by rw [HSU.out]; exact HK6.out, AP6.out, by rw [HSU.out]; exact BK6.out, HB6.out⟩
        case measure => have := HI.out; simp [intOf]; omega
      · have g1 : (q.lo : Int) ≤ (x.hi : Int) := by omega
        rcases Nat.lt_or_ge q.hi x.lo with h2 | h2
        · have g2 : (q.hi : Int) < (x.lo : Int) := by omega
          have HSU := Lib.hid (show (l.take (i + 1)).foldl pstep ([], r, []) = (Y, q, Z ++ [x]) by rw [hsu]; unfold pstep; dsimp only; rw [if_neg (by omega), if_pos h2])
          clear hsu h1 h2
          go_wp2_with (first | (refine wpList_load_mid rfl 25 (.tmp 15) rfl g (o + i * 2) rfl (rcl x) _ HR.out Try.underlying25 rfl size_rg ?_) | (refine wpList_store_abs rfl 25 (.tmp 8) (.tmp 16) (by rfl) wr.heap.size #[.int .u64 (x.lo : Nat), .int .u64 (x.hi : Nat)] (by rfl) (by rfl) 25 _ (Blk.new wr _ _) size_rg (by rfl) (by simp [Value.oneCell']) ?_; intro W hW hp5; have hbW := hW.below ((Below.refl _ wr).alloc (Nat.le_refl _) _) (Nat.le_refl _); have HBW := Lib.hid (HBr.out.trans (hbW.mono HBr.out.size)); have BXW := Lib.hid hp5; have HYW := Lib.hid (HY.out.on hbW); have HZW := Lib.hid (HZ.out.on hbW); have BQW := Lib.hid (BQ.out.on hbW); have b0 := BQW.out.cell 0 rfl; have b1 := BQW.out.cell 1 rfl; have b2 := hp5.cell 0 rfl; have b3 := hp5.cell 1 rfl; have HQ7 := Lib.hid (HZW.out.on (below_one1 W (.cells #[.int .u64 (x.lo : Nat), .int .u64 (x.hi : Nat)] 25))); have HA7 := Lib.hid (below_alloc HBW.out HBW.out.size (.cells #[.int .u64 (x.lo : Nat), .int .u64 (x.hi : Nat)] 25)); have HT7 := Lib.hid (HYW.out.on (below_one1 W (.cells #[.int .u64 (x.lo : Nat), .int .u64 (x.hi : Nat)] 25))); have BT7 := Lib.hid (BQW.out.alloc (.cells #[.int .u64 (x.lo : Nat), .int .u64 (x.hi : Nat)] 25)); have HS7 := Lib.hid (show w.heap.size + 1 ≤ (World.alloc W (.cells #[.int .u64 (x.lo : Nat), .int .u64 (x.hi : Nat)] 25)).heap.size from Nat.le_trans BT7.out.lt (Nat.le_refl _)); clear hW hbW hp5) | (refine wpList_load_mid rfl 25 (.tmp 8) rfl wr.heap.size 0 rfl [.int .u64 (x.lo : Nat), .int .u64 (x.hi : Nat)] _ (range_blk BXW.out 0 _ (fun j hj => by simp)) Try.underlying25 rfl size_rg ?_) | (refine wpList_append_rgs2 rfl (.tmp 44) (.tmp 46) (by rfl) (w.heap.size + 1) _ Z (by rfl) HQ7.out _ 1 1 [x] (by rfl) rfl (RgR.one (Blk.new W #[.int .u64 (x.lo : Nat), .int .u64 (x.hi : Nat)] 25)) (HLZ.out _) HS7.out ?_; intro a7 n7 c7 w7 hO hg he; have HO7 := Lib.hid hO; have HB7 := Lib.hid (below_grownO HA7.out HQ7.out hg (Nat.le_succ _) HA7.out.size); have HK7 := Lib.hid (HAPs.out.keep HT7.out hg); have AP7 := Lib.hid (HAPs.out.app HT7.out he); have BK7 := Lib.hid (BT7.out.past hg (HQ7.out.above (Nat.lt_succ_self _))); clear hO hg he))
          go_roundw
          case rel => exact ⟨i + 1, by have := HI.out; omega, by go_num, by rw [HSU.out]; exact HK7.out, by rw [HSU.out]; exact HO7.out, AP7.out.symm, by rw [HSU.out]; exact BK7.out, HB7.out⟩
          case measure => have := HI.out; simp [intOf]; omega
        · have g2 : (x.lo : Int) ≤ (q.hi : Int) := by omega
          obtain ⟨mn, hmn⟩ : ∃ m, m = min q.lo x.lo := ⟨_, rfl⟩
          obtain ⟨mx, hmx⟩ : ∃ m, m = max q.hi x.hi := ⟨_, rfl⟩
          have HSU := Lib.hid (show (l.take (i + 1)).foldl pstep ([], r, []) = (Y, ⟨mn, mx⟩, Z) by rw [hsu]; unfold pstep; dsimp only; rw [if_neg (by omega), if_neg (by omega), hmn, hmx])
          have g3 : min (q.lo : Int) (x.lo : Int) = (mn : Int) := by omega
          have g4 : max (q.hi : Int) (x.hi : Int) = (mx : Int) := by omega
          clear hsu h1 h2 hmn hmx
          go_wp2_with (first | (refine wpList_load_mid rfl 25 (.tmp 15) rfl g (o + i * 2) rfl (rcl x) _ HR.out Try.underlying25 rfl size_rg ?_) | (refine wpList_store_abs rfl 25 (.tmp 8) (.tmp 16) (by rfl) wr.heap.size #[.int .u64 (x.lo : Nat), .int .u64 (x.hi : Nat)] (by rfl) (by rfl) 25 _ (Blk.new wr _ _) size_rg (by rfl) (by simp [Value.oneCell']) ?_; intro W hW hp5; have hbW := hW.below ((Below.refl _ wr).alloc (Nat.le_refl _) _) (Nat.le_refl _); have HBW := Lib.hid (HBr.out.trans (hbW.mono HBr.out.size)); have BXW := Lib.hid hp5; have HYW := Lib.hid (HY.out.on hbW); have HZW := Lib.hid (HZ.out.on hbW); have BQW := Lib.hid (BQ.out.on hbW); have b0 := BQW.out.cell 0 rfl; have b1 := BQW.out.cell 1 rfl; have b2 := hp5.cell 0 rfl; have b3 := hp5.cell 1 rfl; clear hW hbW hp5) | (refine wpList_store_abs rfl 25 (.tmp 3) (.tmp 27) (by rfl) w.heap.size #[.int .u64 (mn : Nat), .int .u64 (mx : Nat)] (by rfl) (by rfl) 25 _ (BQW.out) size_rg (by rfl) (by simp [Value.oneCell']) ?_; intro V hV hpV; have hgV := hV.grown (grownBy_refl W (some w.heap.size)); have HBV := Lib.hid (hV.below HBW.out (Nat.le_refl _)); have BQV := Lib.hid hpV; have HYV := Lib.hid (HYW.out.far hgV (Nat.lt_succ_self _)); have HZV := Lib.hid (HZW.out.far hgV (Nat.lt_succ_self _)); clear hV hgV hpV))
          go_roundw
          case rel => exact ⟨i + 1, by have := HI.out; omega, by go_num, by rw [HSU.out]; exact HYV.out, by rw [HSU.out]; exact HZV.out, HAP.out, by rw [HSU.out]; exact BQV.out, HBV.out⟩
          case measure => have := HI.out; simp [intOf]; omega
    · have HF := Lib.hid (show putP l r = Y ++ [q] ++ Z by unfold putP; rw [List.take_of_length_le (by omega)] at hs; rw [← hs])
      clear hsu0 hs
      have HQ6 := Lib.hid (HY.out.on (below_one1 wr (.cells #[.int .u64 (q.lo : Nat), .int .u64 (q.hi : Nat)] 25)))
      have HA6 := Lib.hid (below_alloc HBr.out HBr.out.size (.cells #[.int .u64 (q.lo : Nat), .int .u64 (q.hi : Nat)] 25))
      have HT6 := Lib.hid (HZ.out.on (below_one1 wr (.cells #[.int .u64 (q.lo : Nat), .int .u64 (q.hi : Nat)] 25)))
      have BT6 := Lib.hid (BQ.out.alloc (.cells #[.int .u64 (q.lo : Nat), .int .u64 (q.hi : Nat)] 25))
      have HS6 := Lib.hid (show w.heap.size + 1 ≤ (World.alloc wr (.cells #[.int .u64 (q.lo : Nat), .int .u64 (q.hi : Nat)] 25)).heap.size from BT6.out.lt)
      go_wp2_with (first | (refine wpList_load_mid rfl 25 (.tmp 3) rfl w.heap.size 0 rfl [.int .u64 (q.lo : Nat), .int .u64 (q.hi : Nat)] _ (range_blk BQ.out 0 _ (fun j hj => by simp)) Try.underlying25 rfl size_rg ?_) | (refine wpList_append_rgs2 rfl (.tmp 49) (.tmp 51) (by rfl) (w.heap.size + 1) _ Y (by rfl) HQ6.out _ 1 1 [q] (by rfl) rfl (RgR.one (Blk.new wr #[.int .u64 (q.lo : Nat), .int .u64 (q.hi : Nat)] 25)) (HLY.out _) HS6.out ?_; intro a6 n6 c6 w6 hO hg he; have HO6 := Lib.hid hO; have HB6 := Lib.hid (below_grownO HA6.out HQ6.out hg (Nat.le_succ _) HA6.out.size); have HK6 := Lib.hid (HAP.out.keep HT6.out hg); have AP6 := Lib.hid (HAP.out.app HT6.out he); have BK6 := Lib.hid (BT6.out.past hg (HQ6.out.above (Nat.lt_succ_self _))); obtain ⟨_, _, eZ, _, _, hRZ, _⟩ := HK6.out.form; simp only [Value.slice.injEq] at eZ; have HRZ := Lib.hid (show RgR w6 ta Z by rw [eZ.1]; exact hRZ); have HS8 := Lib.hid (BK6.out.lt); clear hO hg he eZ hRZ) | (refine wpList_append_rgs rfl (.tmp 52) (.tmp 53) (by rfl) (w.heap.size + 1) _ (Y ++ [q]) (by rfl) HO6.out _ _ _ Z (by rfl) rfl HRZ.out HLE.out HS8.out ?_; intro a9 n9 c9 w9 hO9 hg9; have HO9 := Lib.hid hO9; have HB9 := Lib.hid (below_grownO HB6.out HO6.out hg9 (Nat.le_succ _) HB6.out.size); clear hO9 hg9))
      go_ret
      exact ⟨_, rfl, by rw [HF.out]; exact HO9.out.mono (Nat.le_succ _), HB9.out⟩
end Go.Proofs.Ytajjbffppkpjpaa
