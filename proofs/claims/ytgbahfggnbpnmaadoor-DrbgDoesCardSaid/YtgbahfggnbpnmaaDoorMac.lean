import Derived.Test.YtgbahfggnbpnmaaDoorTurn
/-
  Keyed sums: sha2.Mac, Extract; the reference's Mac.
-/
namespace Go.Proofs.YtgbahfggnbpnmaaDoor
open Go.RowKit
/-- Write of one text that lies in a block of a slice just made. -/
theorem write_one (X : World) (t : TypeId) (g G : Nat) (hg : g = X.heap.size) {a : Option Addr} {n c : Nat} {m l : List UInt8} (hH : HashAt X G m) (h : Txt X a n c l) (hne : ∀ b o, a = some ⟨b, o, none⟩ → 0 < l.length → b ≠ G) (hT : Tab X) (hG : G ≠ 0) (hlen : m.length + l.length ≤ 4611686018427387904) :
    Calls Tryd.prog 32 #[.pointer (some ⟨G, 0, none⟩), .slice (some ⟨g, 0, none⟩) 1 1] (X.alloc (.cells #[.slice a n c] t)) fun e w' => e = .returned (.int .i64 0) ∧ X.grownBy w' (some G) ∧ HashAt w' G (m ++ l) := by
  subst hg
  have hlt := hH.lt
  have hb := below_one' X (.cells #[.slice a n c] t)
  have hP : Parts (X.alloc (.cells #[.slice a n c] t)) (· ≠ G) (some ⟨X.heap.size, 0, none⟩) [l] := fun i hi => by
    have : i = 0 := by simp at hi; omega
    subst this
    exact ⟨X.heap.size, 0, a, n, c, rfl, by omega, (Blk.new X _ t).cell 0 rfl, h.len, h.fit, h.rd.below hb, hne⟩
  refine (write_walk m [l] 1 1 rfl _ G _ (hH.below hb hlt) hP (hT.below hb hT.lt) hG (by simpa using hlen) (by simp)).mono ?_
  rintro e w' ⟨he, h1, h2⟩
  simp only [List.flatten_cons, List.flatten_nil, List.append_nil] at h2
  exact ⟨he, grownBy_trans (grownBy_of_below hb) h1, h2⟩
theorem wp_store_abs {P : Program} {o : Oper} {a : Act} {w : World} {K : Act → World → Prop} {Q : Exit → Act → World → Prop} (ty : TypeId) (x y : Operand) (ho : o.op = .store ty x y)
    (g : Nat) (cells : Array Value) (hx : a.eval x = .pointer (some ⟨g, 0, none⟩)) (hy : a.eval y = .agg cells)
    {old : Array Value} {t : TypeId} (hg : Blk w g old t) (hi : (P.info? ty).map (·.size) = some cells.size) (hold : old.size = cells.size) (h1 : cells.all (·.oneCell') = true)
    (h : ∀ W, Wrote w W g → Blk W g cells t → K (a.put o.dst undef) W) : o.wp P a w K Q := by
  refine wp_store_sub ty x y ho g 0 cells hx hy hg (by omega) hi h1 (fun W h1 h2 => h W h1 ?_)
  have e : (splice old.toList 0 cells.toList).toArray = cells := by
    unfold splice
    rw [List.take_zero, List.nil_append, List.drop_of_length_le (by simp; omega), List.append_nil, Array.toArray_toList]
  rw [e] at h2
  exact h2
theorem below_undrew {w w' : World} (h : Below w.drew.heap.size w.drew w') : Below w.heap.size w w' := ⟨h.os, h.tape, h.output, h.size, h.block⟩
theorem below_undrewN {w w' : World} {n : Nat} (h : Below (w.drewN n).heap.size (w.drewN n) w') : Below w.heap.size w w' := ⟨h.os, h.tape, h.output, h.size, h.block⟩
theorem below_grown {B : Nat} {w0 w w' : World} {r : Nat} (hb : Below B w0 w) (hg : w.grownBy w' (some r)) (hr : B ≤ r) (hB : B ≤ w.heap.size) : Below B w0 w' := hb.trans (below_of_grownBy hg hr hB)
set_option maxRecDepth 100000 in
set_option maxHeartbeats 1000000 in
theorem mac_walk (key : List UInt8) (a : Option Addr) (n c : Nat) (ls : List (List UInt8)) (m d : Nat) (hm : m = ls.length) (pa : Option Addr) (w : World) (hX : Txt w a n c key) (hP : Parts w (· < w.heap.size) pa ls) (hT : Two w)
    (hlen : key.length ≤ 1152921504606) (hll : ls.flatten.length ≤ 1152921504606) (hls : ls.length ≤ 4611686018427387904) :
    Calls Tryd.prog 40 #[.slice a n c, .slice pa m d] w fun e w' => e = .returned (.agg (barr (macL key ls.flatten))) ∧ Below w.heap.size w w' := by
  obtain rfl := hX.len
  subst hm
  obtain ⟨q0, qb⟩ := new1 w (barr (List.replicate 32 0)) 31
  have HB0 := Lib.hid qb
  have HX0 := Lib.hid (hX.below qb)
  have HP0 := Lib.hid (hP.all qb)
  have HT0 := Lib.hid (hT.below' qb)
  have HQ0 := Lib.hid q0
  clear hX hP hT q0 qb
  go_enter Tryd.func40, Tryd.ntmps40
  have HSZ := Lib.hid (show (w.alloc (.cells (barr (List.replicate 32 0)) 31)).heap.size = w.heap.size + 1 by simp)
  have HTL := Lib.hid HT0.out.tab.lt
  go_wp2_with (first | (go_at_call 31; refine (new_walk _ HT0.out.sta).mono ?_; rintro e w1 ⟨rfl, hH, hb⟩; rw [HSZ.out] at hH; have HH1 := Lib.hid hH; have HB1 := Lib.hid hb; clear hH hb) | (go_at_call 104; refine (pad_walk key 54 a key.length c _ (HX0.out.below HB1.out) hlen (HT0.out.below' HB1.out)).mono ?_; rintro e w2 ⟨g2, rfl, hg2, hb2, hbel2⟩; have HH2 := Lib.hid (HH1.out.below hbel2 HH1.out.lt); have HB2 := Lib.hid (HB1.out.trans (hbel2.mono HB1.out.size)); have TX2 := Lib.hid (by have h := Txt.of_blk hb2; rw [turnL_len] at h; exact h : Txt w2 (some ⟨g2, 0, none⟩) 64 64 (turnL key 54)); have HG2 := Lib.hid (by have := HH1.out.lt; omega : g2 ≠ w.heap.size + 1); clear hg2 hb2 hbel2))
  refine (write_one w2 28 _ (w.heap.size + 1) rfl HH2.out TX2.out (fun b o e _ => by have := HG2.out; simp at e; omega) (HT0.out.below' HB2.out).tab (by omega) (by rw [turnL_len]; simp)).mono ?_
  rintro e w3 ⟨rfl, hg3, hH3⟩
  rw [List.nil_append] at hH3
  have HH3 := Lib.hid hH3
  have HB3 := Lib.hid (below_grown HB2.out hg3 (by have := HSZ.out; omega) HB2.out.size)
  clear hg3 hH3
  go_wp2_with fail
  refine (write_walk (turnL key 54) ls _ d rfl pa (w.heap.size + 1) w3 HH3.out ((HP0.out.below HB3.out).mono (fun b hb => by have := HSZ.out; omega)) (HT0.out.below' HB3.out).tab (by omega) (by rw [turnL_len]; omega) hls).mono ?_
  rintro e w4 ⟨rfl, hg4, hH4⟩
  have HH4 := Lib.hid hH4
  have HB4 := Lib.hid (below_grown HB3.out hg4 (by have := HSZ.out; omega) HB3.out.size)
  clear hg4 hH4
  obtain ⟨M, hM⟩ : ∃ M, M = turnL key 54 ++ ls.flatten := ⟨_, rfl⟩
  have HML := Lib.hid (show M.length ≤ 1152921504606846976 by rw [hM, List.length_append, turnL_len]; omega)
  rw [← hM] at HH4
  have HM := Lib.hid hM
  clear hM
  go_wp2_with (first | (go_at_call 33; refine (sum_walk M HML.out (w.heap.size + 1) w4 HH4.out (HT0.out.below' HB4.out).tab (by have h1 := HTL.out; have h2 := HB4.out.size; omega)).mono ?_; rintro e w5 ⟨rfl, hb5⟩; have HB5 := Lib.hid (HB4.out.trans (hb5.mono HB4.out.size)); clear hb5) | (refine wpList_store_abs rfl 31 (.tmp 6) (.tmp 17) rfl w5.heap.size (barr (sha M)) (by rfl) (by rfl) 31 _ (Blk.new w5 _ _) (by rw [barr_size, sha_len]; exact size_u8x32) (by rw [barr_size, sha_len]; rfl) (barr_one_all _) ?_; intro W6 hW6 p6; have P6 := Lib.hid p6; have HB6 := Lib.hid (hW6.below (HB5.out.trans ((below_one' w5 _).mono HB5.out.size)) HB5.out.size); clear hW6 p6))
  have HX6 := Lib.hid (HX0.out.below HB6.out)
  have HT6 := Lib.hid (HT0.out.below' HB6.out)
  refine wp_region_any (by kernel_rfl) ?_
  change wpAny _ _ _ _ _ _ _ (World.drew W6)
  refine wpAny_take (i := 0) (oi := ⟨some 18, .move (.tmp 0), 28, _, _, none⟩) (v := .slice a key.length c) rfl (by kernel_rfl) (by kernel_rfl) (by kernel_rfl) (fun _ _ _ h => h) (Or.inl ⟨by rfl, fun _ => by go_simp⟩) ?_
  refine wpAny_take (i := 2) (oi := ⟨some 20, .slice 31 (.tmp 6) none none none, 28, _, _, none⟩) (v := .slice (some ⟨w5.heap.size, 0, none⟩) 32 32) rfl (by kernel_rfl) (by kernel_rfl) (by kernel_rfl) (fun _ _ _ h => h) (Or.inl ⟨by rfl, fun _ => by go_simp⟩) ?_
  simp only [Act.put, List.setIfInBounds_toArray, List.set_cons_succ, List.set_cons_zero]
  refine wpAny_ready (rs := [1]) (by kernel_rfl) (by simp) ?_
  refine AllReady.cons (o := ⟨some 19, .call { callee := .value (.func 104), args := #[.tmp 18, .const (.int .u8 92)], argTypes := #[28, 5] }, 28, _, _, none⟩) rfl (fun K hK => ?_) AllReady.nil
  go_simp
  refine (pad_walk key 92 a key.length c _ HX6.out.drew hlen HT6.out.drew).mono ?_
  rintro e w7 ⟨g7, rfl, hg7, hb7, hbel7⟩
  replace hbel7 := below_undrew hbel7
  refine hK _ _ ?_
  clear hK K
  refine wpAny_ready (rs := [3]) (by kernel_rfl) (by simp) ?_
  refine AllReady.cons (o := ⟨some 21, .buildSlice 35 2 #[(0, .tmp 19), (1, .tmp 20)], 35, _, _, none⟩) rfl (fun K hK => ?_) AllReady.nil
  go_simp
  refine hK _ _ ?_
  clear hK K
  have TA := Lib.hid (by have h := Txt.of_blk hb7; rw [turnL_len] at h; exact h : Txt w7 (some ⟨g7, 0, none⟩) 64 64 (turnL key 92))
  have TB := Lib.hid (out32 P6.out (sha_len M) hbel7)
  have hb6' : Below w.heap.size w W6 := HB0.out.trans (HB6.out.mono (by have := HSZ.out; omega))
  have HB7 := Lib.hid (hb6'.trans (hbel7.mono hb6'.size))
  have HT7 := Lib.hid (HT6.out.below' hbel7)
  have HQ7 := Lib.hid ((HQ0.out.below (HB6.out.trans (hbel7.mono HB6.out.size)) (by have := HSZ.out; omega)))
  clear hb6' hg7 hb7 hbel7
  refine wpAny_ready (rs := [4]) (by kernel_rfl) (by simp) ?_
  refine AllReady.cons (o := ⟨some 22, .call { callee := .value (.func 30), args := #[.tmp 21], argTypes := #[35] }, 31, _, _, none⟩) rfl (fun K hK => ?_) AllReady.nil
  go_simp
  refine (sum_two w7 28 _ rfl TA.out TB.out HT7.out (by rw [turnL_len, sha_len]; omega)).mono ?_
  rintro e w8 ⟨rfl, hb8⟩
  refine hK _ _ ?_
  clear hK K
  have HQ8 := Lib.hid (HQ7.out.below hb8 HQ7.out.lt)
  have HB8 := Lib.hid (HB7.out.trans (hb8.mono HB7.out.size))
  refine wpAny_ready (rs := [5]) (by kernel_rfl) (by simp) ?_
  refine AllReady.cons (o := ⟨none, .store 31 (.tmp 4) (.tmp 22), 0, _, _, none⟩) rfl (fun K hK => ?_) AllReady.nil
  rw [if_pos (by rfl)]
  refine wp_store_abs 31 (.tmp 4) (.tmp 22) (by rfl) w.heap.size (barr (sha (turnL key 92 ++ sha M))) (by rfl) (by rfl) HQ8.out (by rw [barr_size, sha_len]; exact size_u8x32) (by rw [barr_size, barr_size, sha_len]; rfl) (barr_one_all _) ?_
  intro W9 hW9 p9
  have HB9 := hW9.below HB8.out (Nat.le_refl _)
  refine hK _ _ ?_
  clear hK K
  refine wpAny_done (by kernel_rfl) ?_ _
  go_wp2
  refine bodyPost_ret (v := .agg (barr (macL key ls.flatten))) ?_ rfl ⟨rfl, HB9⟩
  have e : macL key ls.flatten = sha (turnL key 92 ++ sha M) := by rw [HM.out]; rfl
  rw [e]
  exact results_blk rfl _ p9 rfl Tryd.underlying31 (by rw [barr_size, sha_len]; exact size_u8x32)
end Go.Proofs.YtgbahfggnbpnmaaDoor
