import Derived.Test.YtgbahfggnbpnmaaDoorSum
/-
  Sum256, Sum192.
-/
namespace Go.Proofs.YtgbahfggnbpnmaaDoor
open Go.RowKit

theorem size_u8x24 : (Tryd.prog.info? 44).map (·.size) = some 24 := by kernel_rfl
set_option maxRecDepth 100000 in
set_option maxHeartbeats 800000 in
theorem sum256_walk (ls : List (List UInt8)) (n cap : Nat) (hn : n = ls.length) (pa : Option Addr) (w : World) (hP : Parts w (· < w.heap.size) pa ls) (hT : Two w) (hlen : ls.flatten.length ≤ 1152921504606846976) (hls : ls.length ≤ 4611686018427387904) :
    Calls Tryd.prog 30 #[.slice pa n cap] w fun e w' => e = .returned (.agg (barr (sha ls.flatten))) ∧ Below w.heap.size w w' := by
  have HP := Lib.hid hP
  have HT := Lib.hid hT
  have ht1 := hT.tab.lt
  have ht2 := hT.sta.lt
  clear hP hT
  go_enter Tryd.func30, Tryd.ntmps30
  obtain ⟨q0, qb⟩ := new1 w (barr (List.replicate 32 0)) 31
  have hsz : (w.alloc (.cells (barr (List.replicate 32 0)) 31)).heap.size = w.heap.size + 1 := by simp
  have qs := HT.out.sta.below qb ht2
  replace q0 := Lib.hid q0
  replace qb := Lib.hid qb
  replace qs := Lib.hid qs
  replace hsz := Lib.hid hsz
  go_wp2_with (first | (go_at_call 31; refine (new_walk _ qs.out).mono ?_; rintro e w1 ⟨rfl, hH, hb⟩; have p0 : Blk w1 w.heap.size (barr (List.replicate 32 0)) 31 := q0.out.below hb (by simp); have pb : Below w.heap.size w w1 := qb.out.trans (hb.mono (by simp)); have hH1 : HashAt w1 (w.heap.size + 1) [] := (by rw [hsz.out] at hH; exact hH); clear hb q0 qb qs hsz hH) | (go_at_call 32; refine (write_walk [] ls _ cap rfl pa (w.heap.size + 1) w1 hH1 ((HP.out.below pb).mono (fun b hb => by omega)) (HT.out.tab.below pb ht1) (by omega) (by simp only [List.length_nil]; omega) hls).mono ?_; rintro e w2 ⟨rfl, hgr, hH2⟩; have p0' := p0.grown hgr (by simp); have pb' := pb.trans (below_of_grownBy hgr (by omega) (by have := hH1.lt; omega)); clear p0 pb hgr) | (go_at_call 33; refine (sum_walk ([] ++ ls.flatten) (by simpa using hlen) (w.heap.size + 1) w2 hH2 (HT.out.tab.below pb' ht1) (by have := hH2.lt; omega)).mono ?_; rintro e w3 ⟨rfl, hb3⟩; have p0'' := p0'.below hb3 p0'.lt; have pb'' := pb'.trans (hb3.mono (by have := p0'.lt; omega)); clear p0' pb' hb3) | (refine wpList_store_abs rfl 31 (.tmp 2) (.tmp 9) rfl w.heap.size (barr (sha ([] ++ ls.flatten))) (by rfl) (by rfl) 31 _ p0'' (by rw [barr_size, sha_len]; exact size_u8x32) (by rw [barr_size, barr_size, sha_len]; rfl) (barr_one_all _) ?_; intro W9 hW9 pr; have pb9 := hW9.below pb'' (by omega); clear hW9))
  refine bodyPost_ret (v := .agg (barr (sha ls.flatten))) ?_ rfl ⟨rfl, pb9⟩
  exact results_blk (cs := barr (sha ([] ++ ls.flatten))) rfl _ pr rfl Tryd.underlying31 (by rw [barr_size, sha_len]; exact size_u8x32)
set_option maxRecDepth 100000 in
set_option maxHeartbeats 800000 in
theorem sum192_walk (ls : List (List UInt8)) (n cap : Nat) (hn : n = ls.length) (pa : Option Addr) (w : World) (hP : Parts w (· < w.heap.size) pa ls) (hT : Two w) (hlen : ls.flatten.length ≤ 1152921504606846976) (hls : ls.length ≤ 4611686018427387904) :
    Calls Tryd.prog 37 #[.slice pa n cap] w fun e w' => e = .returned (.agg (barr ((sha ls.flatten).take 24))) ∧ Below w.heap.size w w' := by
  have HP := Lib.hid hP
  have HT := Lib.hid hT
  have ht1 := hT.tab.lt
  have ht2 := hT.sta.lt
  clear hP hT
  go_enter Tryd.func37, Tryd.ntmps37
  obtain ⟨q0, qb⟩ := new1 w (barr (List.replicate 24 0)) 44
  have hsz : (w.alloc (.cells (barr (List.replicate 24 0)) 44)).heap.size = w.heap.size + 1 := by simp
  have qP : Parts (w.alloc (.cells (barr (List.replicate 24 0)) 44)) (· < (w.alloc (.cells (barr (List.replicate 24 0)) 44)).heap.size) pa ls := (HP.out.below qb).mono (fun b hb => by simp; omega)
  have qT := HT.out.below' qb
  replace q0 := Lib.hid q0
  replace qb := Lib.hid qb
  replace qP := Lib.hid qP
  replace qT := Lib.hid qT
  replace hsz := Lib.hid hsz
  have harr : ∀ (g : Nat) (W : World), (Instr.arrayAt 44 (.slice (some ⟨g, 0, none⟩) 24 32)).run Tryd.prog W = .ok (.pointer (some ⟨g, 0, none⟩)) W := fun g W => run_arrayAt _ _ _ _ _ _ _ Tryd.underlying44 (by omega)
  go_wp2_with (first | (go_at_call 30; refine (sum256_walk ls _ cap rfl pa _ qP.out qT.out hlen hls).mono ?_; rintro e w1 ⟨rfl, hb⟩; have p0 : Blk w1 w.heap.size (barr (List.replicate 24 0)) 44 := q0.out.below hb (by simp); have pb : Below w.heap.size w w1 := qb.out.trans (hb.mono (by simp)); clear hb q0 qb qP qT hsz) | (refine wpList_store_abs rfl 31 (.tmp 3) (.tmp 5) rfl w1.heap.size (barr (sha ls.flatten)) (by rfl) (by rfl) 31 _ (Blk.new w1 _ _) (by rw [barr_size, sha_len]; exact size_u8x32) (by rw [barr_size, sha_len]; rfl) (barr_one_all _) ?_; intro W hW p3; have p0' := hW.blk (p0.alloc _) (by have := p0.lt; omega); have pb' := hW.below (pb.alloc (by have := p0.lt; omega) _) (by have := p0.lt; omega); clear hW p0 pb) | (refine wpList_load_sub rfl 44 (.tmp 7) rfl w1.heap.size 0 rfl p3 (((sha ls.flatten).take 24).map bv) (fun i hi => by simp only [List.length_map, List.length_take] at hi; simp only [barr, List.getElem?_toArray, Nat.zero_add, List.map_take]; rw [List.getElem?_take, if_pos (by omega)]) _ Tryd.underlying44 rfl (by rw [List.length_map, List.length_take, sha_len]; exact size_u8x24) ?_) | (refine wpList_store_abs rfl 44 (.tmp 2) (.tmp 8) rfl w.heap.size (barr ((sha ls.flatten).take 24)) (by rfl) (by rfl) 44 _ p0' (by rw [barr_size, List.length_take, sha_len]; exact size_u8x24) (by rw [barr_size, barr_size, List.length_take, sha_len]; rfl) (barr_one_all _) ?_; intro W9 hW9 pr; have pb9 := hW9.below pb' (by omega); clear hW9))
  refine bodyPost_ret (v := .agg (barr ((sha ls.flatten).take 24))) ?_ rfl ⟨rfl, pb9⟩
  exact results_blk (cs := barr ((sha ls.flatten).take 24)) rfl _ pr rfl Tryd.underlying44 (by rw [barr_size, List.length_take, sha_len]; exact size_u8x24)
end Go.Proofs.YtgbahfggnbpnmaaDoor
