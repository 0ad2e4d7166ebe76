import Derived.Test.YtgbahfggnbpnmaaDoorHex
import Derived.Test.YtgbahfggnbpnmaaDoorAbc
import Derived.Test.YtgbahfggnbpnmaaDoorEq
import Derived.Lib.SlBytesConst
/-
  The walk of liverylaw02's live.
-/
namespace Go.Proofs.YtgbahfggnbpnmaaDoor
open Go.RowKit

theorem parts_nil (w : World) (av : Nat → Prop) (pa : Option Addr) : Parts w av pa [] := fun i hi => by simp at hi
theorem parts_one {w : World} {av : Nat → Prop} {g : Nat} {a : Option Addr} {n cap : Nat} {t : TypeId} {l : List UInt8} (hb : Blk w g #[.slice a n cap] t) (hv : av g) (hn : n = l.length) (hc : n ≤ cap) (hr : RdB w a l) (ha : ∀ b o, a = some ⟨b, o, none⟩ → 0 < l.length → av b) :
    Parts w av (some ⟨g, 0, none⟩) [l] := fun i hi => by
  have : i = 0 := by simp at hi; omega
  subst this
  exact ⟨g, 0, a, n, cap, rfl, hv, hb.cell 0 rfl, hn, hc, hr, ha⟩
theorem parts_two {w : World} {av : Nat → Prop} {g : Nat} {a a' : Option Addr} {n n' cap cap' : Nat} {t : TypeId} {l l' : List UInt8} (hb : Blk w g #[.slice a n cap, .slice a' n' cap'] t) (hv : av g) (hn : n = l.length) (hc : n ≤ cap) (hr : RdB w a l) (ha : ∀ b o, a = some ⟨b, o, none⟩ → 0 < l.length → av b)
    (hn' : n' = l'.length) (hc' : n' ≤ cap') (hr' : RdB w a' l') (ha' : ∀ b o, a' = some ⟨b, o, none⟩ → 0 < l'.length → av b) :
    Parts w av (some ⟨g, 0, none⟩) [l, l'] := fun i hi => by
  have : i = 0 ∨ i = 1 := by simp at hi; omega
  rcases this with rfl | rfl
  · exact ⟨g, 0, a, n, cap, rfl, hv, hb.cell 0 rfl, hn, hc, hr, ha⟩
  · exact ⟨g, 0, a', n', cap', rfl, hv, hb.cell 1 rfl, hn', hc', hr', ha'⟩
theorem RdB.blk {w : World} {g : Nat} {t : TypeId} {l : List UInt8} (h : Blk w g (barr l) t) : RdB w (some ⟨g, 0, none⟩) l :=
  RdB.of_blk h l (by simp only [barr]; rw [List.take_of_length_le (by simp)])
theorem RdB.drew' {w : World} {a : Option Addr} {l : List UInt8} (h : RdB w a l) : RdB w.drew a l := h
theorem hex_abc : hexs (sha [97, 98, 99]) = [98, 97, 55, 56, 49, 54, 98, 102, 56, 102, 48, 49, 99, 102, 101, 97, 52, 49, 52, 49, 52, 48, 100, 101, 53, 100, 97, 101, 50, 50, 50, 51, 98, 48, 48, 51, 54, 49, 97, 51, 57, 54, 49, 55, 55, 97, 57, 99, 98, 52, 49, 48, 102, 102, 54, 49, 102, 50, 48, 48, 49, 53, 97, 100] := by rw [sha_abc]; decide +kernel

/-- A constant text's row, marked by the run-time. -/
theorem RdB.mark (W : World) (l : List UInt8) (t : TypeId) (fr : Nat × Nat) {g : Nat} (hg : g = W.heap.size) : RdB (W.alloc (.cells (barr l) t fr)) (some ⟨g, 0, none⟩) l := fun i hi => by
  subst hg
  refine ⟨_, 0, rfl, ?_⟩
  have h : (W.alloc (.cells (barr l) t fr)).heap[W.heap.size]? = some (.cells (barr l) t fr) := heap_alloc_new W _
  simp only [World.cell?, h]
  simp [barr]
theorem conv_const {P : Program} (w : World) (t e : TypeId) (C : Array Value) (n c g : Nat) (hg : g = w.heap.size) (ht : P.underlying t = some (.slice e)) (he : P.underlying e = some (.int .u8)) :
    (convert t t (.slice (some ⟨g, 0, none⟩) n c)).run P (w.alloc (.cells C e)) = .ok (.slice (some ⟨g, 0, none⟩) n c) (w.alloc (.cells C e (C.size, C.size + 1))) := by
  subst hg; exact Lib.run_convert_bytes_const w t e C n c ht he
theorem below_one (W : World) (o : Obj) : Below W.heap.size W (W.alloc o) := (Below.refl _ W).alloc (Nat.le_refl _) o
/-- One constant text in a row of parts. -/
theorem const_parts (W : World) (l : List UInt8) (fr : Nat × Nat) (g g' : Nat) (t t' : TypeId) (hg : g = W.heap.size) (hg' : g' = W.heap.size + 1) (n : Nat) (hn : n = l.length) :
    Parts ((W.alloc (.cells (barr l) t fr)).alloc (.cells #[.slice (some ⟨g, 0, none⟩) n n] t')) (fun b => W.heap.size ≤ b ∧ b < ((W.alloc (.cells (barr l) t fr)).alloc (.cells #[.slice (some ⟨g, 0, none⟩) n n] t')).heap.size) (some ⟨g', 0, none⟩) [l] := by
  refine parts_one (Blk.new' _ _ _ (by subst hg'; simp)) (by subst hg'; simp) hn (Nat.le_refl _) ((RdB.mark W l t fr hg).below (below_one _ _)) ?_
  intro b o e _; simp only [Option.some.injEq, Addr.mk.injEq] at e; simp; omega
/-- Two of them. -/
theorem const_parts2 (W : World) (l l' : List UInt8) (fr fr' : Nat × Nat) (g g' g'' : Nat) (t t' : TypeId) (hg : g = W.heap.size) (hg' : g' = W.heap.size + 1) (hg'' : g'' = W.heap.size + 1 + 1) (n n' : Nat) (hn : n = l.length) (hn' : n' = l'.length) :
    Parts (((W.alloc (.cells (barr l) t fr)).alloc (.cells (barr l') t fr')).alloc (.cells #[.slice (some ⟨g, 0, none⟩) n n, .slice (some ⟨g', 0, none⟩) n' n'] t')) (fun b => W.heap.size ≤ b) (some ⟨g'', 0, none⟩) [l, l'] := by
  refine parts_two (Blk.new' _ _ _ (by subst hg''; simp)) (by omega) hn (Nat.le_refl _) (((RdB.mark W l t fr hg).below (below_one _ _)).below (below_one _ _)) ?_ hn' (Nat.le_refl _) ((RdB.mark _ l' t fr' (by subst hg'; simp)).below (below_one _ _)) ?_
  · intro b o e _; simp only [Option.some.injEq, Addr.mk.injEq] at e; omega
  · intro b o e _; simp only [Option.some.injEq, Addr.mk.injEq] at e; omega

theorem write_abc (w2 : World) (g g'' : Nat) (hH : HashAt w2 g []) (hT : Tab w2) (hg : g ≠ 0) (hg'' : g'' = w2.heap.size + 1 + 1) :
    Calls Tryd.prog 32 #[.pointer (some ⟨g, 0, none⟩), .slice (some ⟨g'', 0, none⟩) 2 2]
      (((w2.alloc (.cells #[.int .u8 97] 5 (1, 2))).alloc (.cells #[.int .u8 98, .int .u8 99] 5 (2, 3))).alloc (.cells #[.slice (some ⟨w2.heap.size, 0, none⟩) 1 1, .slice (some ⟨w2.heap.size + 1, 0, none⟩) 2 2] 28))
      fun e w' => e = .returned (.int .i64 0) ∧ w2.grownBy w' (some g) ∧ HashAt w' g [97, 98, 99] := by
  have hb := (below_one w2 (.cells #[.int .u8 97] 5 (1, 2))).trans (((below_one _ (.cells #[.int .u8 98, .int .u8 99] 5 (2, 3))).mono (by simp)).trans ((below_one _ (.cells #[.slice (some ⟨w2.heap.size, 0, none⟩) 1 1, .slice (some ⟨w2.heap.size + 1, 0, none⟩) 2 2] 28)).mono (by simp; omega)))
  have hP := const_parts2 w2 [97] [98, 99] (1, 2) (2, 3) w2.heap.size (w2.heap.size + 1) g'' 5 28 rfl rfl hg'' 1 2 rfl rfl
  have hlt := hH.lt
  refine (write_walk [] [[97], [98, 99]] 2 2 rfl _ g _ (hH.below hb hlt) (hP.mono (fun b hb => by omega)) (hT.below hb hT.lt) hg (by decide) (by decide)).mono ?_
  rintro e w' ⟨rfl, h1, h2⟩
  exact ⟨rfl, grownBy_trans (grownBy_of_below hb) h1, h2⟩
set_option maxRecDepth 100000 in
set_option maxHeartbeats 800000 in
theorem live_walk (w : World) (hT : Two w) :
    Calls Tryd.prog 26 #[] w fun e w' => e = .returned (.bool true) ∧ Below w.heap.size w w' := by
  have HT := Lib.hid hT
  have ht1 := hT.tab.lt
  have ht2 := hT.sta.lt
  clear hT
  have hc1 := conv_const (P := Tryd.prog) w 28 5 #[.int .u8 97, .int .u8 98, .int .u8 99] 3 3 w.heap.size rfl Tryd.underlying28 Tryd.underlying5
  have qP := const_parts w [97, 98, 99] (3, 4) w.heap.size (w.heap.size + 1) 5 28 rfl rfl 3 rfl
  have qb : Below w.heap.size w ((w.alloc (.cells (barr [97, 98, 99]) 5 (3, 4))).alloc (.cells #[.slice (some ⟨w.heap.size, 0, none⟩) 3 3] 28)) := (below_one w _).trans ((below_one _ _).mono (by simp))
  have qT := HT.out.below' qb
  replace qb := Lib.hid qb
  replace qP := Lib.hid qP
  replace qT := Lib.hid qT
  go_enter Tryd.func26, Tryd.ntmps26
  go_wp2_with (first | (go_at_call 30; refine (sum256_walk [[97, 98, 99]] _ _ rfl _ _ (qP.out.mono fun _ h => h.2) qT.out (by decide) (by decide)).mono ?_; rintro e w1 ⟨rfl, hb⟩; have pb : Below w.heap.size w w1 := qb.out.trans (hb.mono (by simp; omega)); have pT := qT.out.below' hb; replace pT := Lib.hid pT; have hw1 : w.heap.size ≤ w1.heap.size := pb.size; clear hb qb qP qT hc1) | (refine wpList_store_abs rfl 31 (.tmp 1) (.tmp 6) rfl w1.heap.size (barr (sha [97, 98, 99])) (by rfl) (by rfl) 31 _ (Blk.new w1 _ _) (by rw [barr_size, sha_len]; exact size_u8x32) (by rw [barr_size, sha_len]; rfl) (barr_one_all _) ?_; intro W hW p1; have pb2 := hW.below (pb.alloc hw1 _) hw1; have hwW : W.heap.size = w1.heap.size + 1 := (by rw [hW.size]; simp); have pTW := HT.out.below pb2 ht1 ht2; replace pTW := Lib.hid pTW; replace hwW := Lib.hid hwW; clear hW pb) | (go_at_call 31; refine (new_walk _ pTW.out.sta).mono ?_; rintro e w2 ⟨rfl, hH, hb2⟩; have p1' := p1.below hb2 (by have := hwW.out; omega); have pb3 := pb2.trans (hb2.mono (by have := hwW.out; omega)); have hcA := conv_const (P := Tryd.prog) w2 28 5 #[.int .u8 97] 1 1 w2.heap.size rfl Tryd.underlying28 Tryd.underlying5; have hcB := conv_const (P := Tryd.prog) (w2.alloc (.cells #[.int .u8 97] 5 (1, 2))) 28 5 #[.int .u8 98, .int .u8 99] 2 2 (w2.heap.size + 1) (by simp) Tryd.underlying28 Tryd.underlying5; have qP2 := const_parts2 w2 [97] [98, 99] (1, 2) (2, 3) w2.heap.size (w2.heap.size + 1) (w2.heap.size + 1 + 1) 5 28 rfl rfl rfl 1 2 rfl rfl; replace qP2 := Lib.hid qP2; clear p1 pb2; have hw2 := hb2.size; have hlt := hH.lt; replace hH := Lib.hid hH; replace hb2 := Lib.hid hb2; replace p1' := Lib.hid p1'; replace pb3 := Lib.hid pb3) | (go_at_call 32; go_loud (refine (write_abc w2 W.heap.size _ hH.out (HT.out.tab.below pb3.out ht1) (by have := hwW.out; omega) rfl).mono ?_); rintro e w3 ⟨rfl, hgr, hH3⟩; have p13 := p1'.out.grown hgr (by have := hwW.out; simp; omega); have pb4 := pb3.out.trans (below_of_grownBy hgr (by have := hwW.out; omega) (by have := hwW.out; omega)); clear hgr hcA hcB qP2 pb3 p1' hb2 hH))
  have HW := Lib.hid (show w1.heap.size < W.heap.size by have := hwW.out; omega)
  have hS := hH3.lt
  have hTab := HT.out.tab.below pb4 ht1
  have hHex := RdB.blk p13
  have hlen3 : (sha [97, 98, 99]).length = 32 := sha_len _
  refine wp_region_any (by kernel_rfl) ?_
  change wpAny _ _ _ _ _ _ _ (World.drew w3)
  refine wpAny_take (i := 0) (oi := ⟨some 20, .slice 31 (.tmp 1) none none none, 28, _, _, none⟩) (v := .slice (some ⟨w1.heap.size, 0, none⟩) 32 32) rfl (by kernel_rfl) (by kernel_rfl) (by kernel_rfl) (fun _ _ _ h => h) (Or.inl ⟨by rfl, fun _ => by go_simp⟩) ?_
  simp only [Act.put, List.setIfInBounds_toArray, List.set_cons_succ, List.set_cons_zero]
  refine wpAny_ready (rs := [1]) (by kernel_rfl) (by simp) ?_
  refine AllReady.cons (o := ⟨some 21, .call { callee := .value (.func 92), args := #[.tmp 20], argTypes := #[28] }, 9, _, _, none⟩) rfl (fun K hK => ?_) AllReady.nil
  go_simp
  refine (hex_walk (sha [97, 98, 99]) 32 32 hlen3.symm (by omega) _ _ hHex.drew').mono ?_
  rintro e w5 ⟨he, hb5⟩
  rw [hex_abc] at he
  subst he
  refine hK _ _ ?_
  clear hK K
  have p5 := (p13.drew).below hb5 (by have := p13.lt; simpa using this)
  have h5 := (hH3.drew).below hb5 (by simpa using hS)
  have pb5 := (pb4.drew).trans (hb5.mono (by have := pb4.size; simpa using this))
  rw [sha_abc] at p5
  have heq := eq_bytes 32 Tryd.underlying31 [186, 120, 22, 191, 143, 1, 207, 234, 65, 65, 64, 222, 93, 174, 34, 35, 176, 3, 97, 163, 150, 23, 122, 156, 180, 16, 255, 97, 242, 0, 21, 173] [186, 120, 22, 191, 143, 1, 207, 234, 65, 65, 64, 222, 93, 174, 34, 35, 176, 3, 97, 163, 150, 23, 122, 156, 180, 16, 255, 97, 242, 0, 21, 173] rfl rfl
  simp only [decide_true] at heq
  have heq2 : ∀ W : World, (Op.equalIn 10000 31 (.agg (barr [186, 120, 22, 191, 143, 1, 207, 234, 65, 65, 64, 222, 93, 174, 34, 35, 176, 3, 97, 163, 150, 23, 122, 156, 180, 16, 255, 97, 242, 0, 21, 173])) (.agg (([186, 120, 22, 191, 143, 1, 207, 234, 65, 65, 64, 222, 93, 174, 34, 35, 176, 3, 97, 163, 150, 23, 122, 156, 180, 16, 255, 97, 242, 0, 21, 173] : List UInt8).map bv).toArray)).run Tryd.prog W = .ok true W := fun W => heq W
  simp only [List.map_cons, List.map_nil] at heq2
  refine wpAny_take (i := 2) (oi := ⟨some 22, .binOp .eql 9 (.tmp 21) _ 9, 4, _, _, none⟩) (v := .bool true) rfl (by kernel_rfl) (by kernel_rfl) (by kernel_rfl) (fun _ _ _ h => h) (Or.inl ⟨by rfl, fun _ => by go_simp⟩) ?_
  refine wpAny_take (i := 3) (oi := ⟨some 23, .move (.tmp 22), 4, _, _, none⟩) (v := .bool true) rfl (by kernel_rfl) (by kernel_rfl) (by kernel_rfl) (fun _ _ _ h => h) (Or.inl ⟨by rfl, fun _ => by go_simp⟩) ?_
  refine wpAny_take (i := 4) (oi := ⟨some 24, .move (.tmp 2), 33, _, _, some (3, true)⟩) (v := .pointer (some ⟨W.heap.size, 0, none⟩)) rfl (by kernel_rfl) (by kernel_rfl) (by kernel_rfl) (fun _ _ _ h => h) (Or.inl ⟨by rfl, fun _ => by go_simp⟩) ?_
  simp only [Act.put, List.setIfInBounds_toArray, List.set_cons_succ, List.set_cons_zero]
  refine wpAny_ready (rs := [5, 6]) (by kernel_rfl) (by simp) ?_
  refine AllReady.cons (o := ⟨some 25, .call { callee := .value (.func 33), args := #[.tmp 24], argTypes := #[33] }, 31, _, _, some (3, true)⟩) rfl (fun K hK => ?_) (AllReady.cons (o := ⟨some 26, .load 31 (.tmp 1), 31, _, _, some (3, true)⟩) rfl (fun K hK => ?_) AllReady.nil)
  ·
    go_simp
    refine (sum_walk [97, 98, 99] (by decide) W.heap.size _ h5 (HT.out.tab.below pb5 ht1) (by have := h5.lt; omega)).mono ?_
    rintro e w6 ⟨he, hb6⟩
    rw [sha_abc] at he
    subst he
    refine hK _ _ ?_
    clear hK K
    have p6 := p5.below hb6 p5.lt
    have h6 := h5.below hb6 h5.lt
    have pb6 := pb5.trans (hb6.mono pb5.size)
    refine wpAny_ready (rs := [6]) (by kernel_rfl) (by simp) ?_
    refine AllReady.cons (o := ⟨some 26, .load 31 (.tmp 1), 31, _, _, some (3, true)⟩) rfl (fun K hK => ?_) AllReady.nil
    rw [if_pos (by rfl)]
    refine wp_load_sub 31 (.tmp 1) (by rfl) w1.heap.size 0 (by rfl) p6 (([186, 120, 22, 191, 143, 1, 207, 234, 65, 65, 64, 222, 93, 174, 34, 35, 176, 3, 97, 163, 150, 23, 122, 156, 180, 16, 255, 97, 242, 0, 21, 173] : List UInt8).map bv) (fun i hi => by simp [barr]) _ Tryd.underlying31 rfl size_u8x32 ?_
    refine hK _ _ ?_
    clear hK K
    refine wpAny_take (i := 7) (oi := ⟨some 27, .binOp .eql 31 (.tmp 25) (.tmp 26) 31, 4, _, _, some (3, true)⟩) (v := .bool true) rfl (by kernel_rfl) (by kernel_rfl) (by kernel_rfl) (fun _ _ _ h => h) (Or.inl ⟨by rfl, fun _ => by go_simp⟩) ?_
    refine wpAny_take (i := 8) (oi := ⟨some 28, .pick (.tmp 23) (.tmp 27) (.const (.bool false)), 4, _, _, none⟩) (v := .bool true) rfl (by kernel_rfl) (by kernel_rfl) (by kernel_rfl) (fun _ _ _ h => h) (Or.inl ⟨by rfl, fun _ => by go_simp⟩) ?_
    refine wpAny_take (i := 9) (oi := ⟨some 29, .move (.tmp 28), 4, _, _, none⟩) (v := .bool true) rfl (by kernel_rfl) (by kernel_rfl) (by kernel_rfl) (fun _ _ _ h => h) (Or.inl ⟨by rfl, fun _ => by go_simp⟩) ?_
    refine wpAny_take (i := 10) (oi := ⟨some 30, .move (.tmp 2), 33, _, _, some (9, true)⟩) (v := .pointer (some ⟨W.heap.size, 0, none⟩)) rfl (by kernel_rfl) (by kernel_rfl) (by kernel_rfl) (fun _ _ _ h => h) (Or.inl ⟨by rfl, fun _ => by go_simp⟩) ?_
    simp only [Act.put, List.setIfInBounds_toArray, List.set_cons_succ, List.set_cons_zero]
    refine wpAny_ready (rs := [11]) (by kernel_rfl) (by simp) ?_
    refine AllReady.cons (o := ⟨some 31, .call { callee := .value (.func 34), args := #[.tmp 30], argTypes := #[33] }, 3, _, _, some (9, true)⟩) rfl (fun K hK => ?_) AllReady.nil
    go_simp
    refine (len_walk [97, 98, 99] W.heap.size _ h6).mono ?_
    rintro e w7 ⟨rfl, rfl⟩
    refine hK _ _ ?_
    clear hK K
    refine wpAny_take (i := 12) (oi := ⟨some 32, .binOp .eql 3 (.tmp 31) (.const (.int .i64 3)) 3, 4, _, _, some (9, true)⟩) (v := .bool true) rfl (by kernel_rfl) (by kernel_rfl) (by kernel_rfl) (fun _ _ _ h => h) (Or.inl ⟨by rfl, fun _ => by go_simp⟩) ?_
    refine wpAny_take (i := 13) (oi := ⟨some 33, .pick (.tmp 29) (.tmp 32) (.const (.bool false)), 4, _, _, none⟩) (v := .bool true) rfl (by kernel_rfl) (by kernel_rfl) (by kernel_rfl) (fun _ _ _ h => h) (Or.inl ⟨by rfl, fun _ => by go_simp⟩) ?_
    refine wpAny_take (i := 14) (oi := ⟨some 0, .assign (.tmp 33), 4, _, _, none⟩) (v := .bool true) rfl (by kernel_rfl) (by kernel_rfl) (by kernel_rfl) (fun _ _ _ h => h) (Or.inl ⟨by rfl, fun _ => by go_simp⟩) ?_
    refine wpAny_done (by kernel_rfl) ?_ _
    simp only [Act.put, List.setIfInBounds_toArray, List.set_cons_succ, List.set_cons_zero]
    go_wp2
    go_ret
    exact ⟨rfl, pb6⟩
  ·
    rw [if_pos (by rfl)]
    refine wp_load_sub 31 (.tmp 1) (by rfl) w1.heap.size 0 (by rfl) p5 (([186, 120, 22, 191, 143, 1, 207, 234, 65, 65, 64, 222, 93, 174, 34, 35, 176, 3, 97, 163, 150, 23, 122, 156, 180, 16, 255, 97, 242, 0, 21, 173] : List UInt8).map bv) (fun i hi => by simp [barr]) _ Tryd.underlying31 rfl size_u8x32 ?_
    refine hK _ _ ?_
    clear hK K
    refine wpAny_ready (rs := [5]) (by kernel_rfl) (by simp) ?_
    refine AllReady.cons (o := ⟨some 25, .call { callee := .value (.func 33), args := #[.tmp 24], argTypes := #[33] }, 31, _, _, some (3, true)⟩) rfl (fun K hK => ?_) AllReady.nil
    go_simp
    refine (sum_walk [97, 98, 99] (by decide) W.heap.size _ h5 (HT.out.tab.below pb5 ht1) (by have := h5.lt; omega)).mono ?_
    rintro e w6 ⟨he, hb6⟩
    rw [sha_abc] at he
    subst he
    refine hK _ _ ?_
    clear hK K
    have p6 := p5.below hb6 p5.lt
    have h6 := h5.below hb6 h5.lt
    have pb6 := pb5.trans (hb6.mono pb5.size)
    refine wpAny_take (i := 7) (oi := ⟨some 27, .binOp .eql 31 (.tmp 25) (.tmp 26) 31, 4, _, _, some (3, true)⟩) (v := .bool true) rfl (by kernel_rfl) (by kernel_rfl) (by kernel_rfl) (fun _ _ _ h => h) (Or.inl ⟨by rfl, fun _ => by go_simp⟩) ?_
    refine wpAny_take (i := 8) (oi := ⟨some 28, .pick (.tmp 23) (.tmp 27) (.const (.bool false)), 4, _, _, none⟩) (v := .bool true) rfl (by kernel_rfl) (by kernel_rfl) (by kernel_rfl) (fun _ _ _ h => h) (Or.inl ⟨by rfl, fun _ => by go_simp⟩) ?_
    refine wpAny_take (i := 9) (oi := ⟨some 29, .move (.tmp 28), 4, _, _, none⟩) (v := .bool true) rfl (by kernel_rfl) (by kernel_rfl) (by kernel_rfl) (fun _ _ _ h => h) (Or.inl ⟨by rfl, fun _ => by go_simp⟩) ?_
    refine wpAny_take (i := 10) (oi := ⟨some 30, .move (.tmp 2), 33, _, _, some (9, true)⟩) (v := .pointer (some ⟨W.heap.size, 0, none⟩)) rfl (by kernel_rfl) (by kernel_rfl) (by kernel_rfl) (fun _ _ _ h => h) (Or.inl ⟨by rfl, fun _ => by go_simp⟩) ?_
    simp only [Act.put, List.setIfInBounds_toArray, List.set_cons_succ, List.set_cons_zero]
    refine wpAny_ready (rs := [11]) (by kernel_rfl) (by simp) ?_
    refine AllReady.cons (o := ⟨some 31, .call { callee := .value (.func 34), args := #[.tmp 30], argTypes := #[33] }, 3, _, _, some (9, true)⟩) rfl (fun K hK => ?_) AllReady.nil
    go_simp
    refine (len_walk [97, 98, 99] W.heap.size _ h6).mono ?_
    rintro e w7 ⟨rfl, rfl⟩
    refine hK _ _ ?_
    clear hK K
    refine wpAny_take (i := 12) (oi := ⟨some 32, .binOp .eql 3 (.tmp 31) (.const (.int .i64 3)) 3, 4, _, _, some (9, true)⟩) (v := .bool true) rfl (by kernel_rfl) (by kernel_rfl) (by kernel_rfl) (fun _ _ _ h => h) (Or.inl ⟨by rfl, fun _ => by go_simp⟩) ?_
    refine wpAny_take (i := 13) (oi := ⟨some 33, .pick (.tmp 29) (.tmp 32) (.const (.bool false)), 4, _, _, none⟩) (v := .bool true) rfl (by kernel_rfl) (by kernel_rfl) (by kernel_rfl) (fun _ _ _ h => h) (Or.inl ⟨by rfl, fun _ => by go_simp⟩) ?_
    refine wpAny_take (i := 14) (oi := ⟨some 0, .assign (.tmp 33), 4, _, _, none⟩) (v := .bool true) rfl (by kernel_rfl) (by kernel_rfl) (by kernel_rfl) (fun _ _ _ h => h) (Or.inl ⟨by rfl, fun _ => by go_simp⟩) ?_
    refine wpAny_done (by kernel_rfl) ?_ _
    simp only [Act.put, List.setIfInBounds_toArray, List.set_cons_succ, List.set_cons_zero]
    go_wp2
    go_ret
    exact ⟨rfl, pb6⟩
end Go.Proofs.YtgbahfggnbpnmaaDoor
