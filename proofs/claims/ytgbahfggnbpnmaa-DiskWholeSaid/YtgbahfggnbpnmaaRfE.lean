import Derived.Test.YtgbahfggnbpnmaaRfB
import Derived.Test.YtgbahfggnbpnmaaDskN
/-
  The reference's May, Load, New.
-/
namespace Go.Proofs.Ytgbahfggnbpnmaa
open Go.RowKit
theorem info_tx : (Try.prog.info? 30).map (fun i => (i.zero, i.size, i.bytes)) = some (some (.slice none 0 0), 1, 24) := by kernel_rfl
theorem size_txs : (Try.prog.info? 68).map (·.size) = some 1 := by kernel_rfl
theorem ppiece {w : World} {a : Option Addr} {n c lo hi : Nat} {l : List UInt8} (h : Txt w a n c l) (h1 : lo ≤ hi) (h2 : hi ≤ n) :
    Txt w (if c = lo then a else a.map (·.add lo)) (hi - lo) (c - lo) ((l.drop lo).take (hi - lo)) := by
  have hl := h.len
  have hf := h.fit
  have hlen : ((l.drop lo).take (hi - lo)).length = hi - lo := by simp; omega
  refine ⟨hlen.symm, by omega, fun i hi' => ?_, fun b o e h0 => ?_⟩
  · rw [List.length_map, hlen] at hi'
    rw [if_neg (by omega)]
    obtain ⟨g, o, rfl, hc⟩ := h.rd.at (i := lo + i) (by omega)
    refine ⟨g, o + lo, by simp [Addr.add_mid], ?_⟩
    rw [Nat.add_assoc, hc]
    simp [List.getElem?_take, List.getElem?_drop, hi', List.getD, show lo + i < l.length by omega]
  · rw [hlen] at h0
    rw [if_neg (by omega)] at e
    obtain ⟨g, o', rfl, hc⟩ := h.rd.at (i := lo) (by omega)
    simp only [Option.map_some, Addr.add_mid, Option.some.injEq, Addr.mk.injEq] at e
    obtain ⟨rfl, _⟩ := e
    exact h.old g o' rfl (by omega)
theorem pelem_u8s : Try.prog.elem 30 = 5 := by kernel_rfl
theorem punder_u8s : Try.prog.underlying 30 = some (.slice (Try.prog.elem 30)) := by rw [pelem_u8s]; exact Try.underlying30
theorem psize_one (W : World) : (sizeOf 5).run Try.prog W = .ok 1 W := by
  obtain ⟨i, i1, i2, i3, i4⟩ := info_parts info_u8r
  simp [sizeOf, typeInfo, i1, i3]
theorem pslice_lk {w : World} {a : Option Addr} {n c lo hi k : Nat} {l : List UInt8} (h : Txt w a n c l) (h1 : hi = lo + k) (h2 : hi ≤ n) :
    ∃ A C, (∀ W : World, (Instr.sliceAt 30 (.slice a n c) (some (.int .i64 lo)) (some (.int .i64 hi)) none).run Try.prog W = .ok (.slice A k C) W) ∧ Txt w A k C ((l.drop lo).take k) := by
  have h3 := ppiece h (show lo ≤ hi by omega) h2
  have h4 : ∀ W : World, (Instr.sliceAt 30 (.slice a n c) (some (.int .i64 lo)) (some (.int .i64 hi)) none).run Try.prog W = .ok (.slice (if c = lo then a else a.map (·.add lo)) (hi - lo) (c - lo)) W := fun W => by
    have hf := h.fit
    rw [run_sliceAt_slice (h := punder_u8s), run_slice_lh (ht := punder_u8s) (h0 := by omega) (h1 := by omega) (h2 := by omega), pelem_u8s, psize_one]
    simp [Result.andThen, sliced]
  rw [show hi - lo = k by omega] at h3 h4
  exact ⟨_, _, h4, h3⟩
theorem pslice_l {w : World} {a : Option Addr} {n c lo : Nat} {l : List UInt8} (h : Txt w a n c l) (h1 : lo ≤ n) :
    ∃ A k C, (∀ W : World, (Instr.sliceAt 30 (.slice a n c) (some (.int .i64 lo)) none none).run Try.prog W = .ok (.slice A k C) W) ∧ Txt w A k C (l.drop lo) := by
  have h2 := ppiece h h1 (Nat.le_refl n)
  rw [List.take_of_length_le (by have := h.len; simp; omega)] at h2
  refine ⟨_, _, _, fun W => ?_, h2⟩
  rw [run_sliceAt_slice (h := punder_u8s), run_slice_l (ht := punder_u8s) (h0 := by omega) (h1 := by omega), pelem_u8s, psize_one]
  simp [Result.andThen, sliced]
structure BelL (lo : Nat) (A B : World) : Prop where
  b : Below lo A B
  s : lo ≤ B.heap.size
theorem BelL.on {lo : Nat} {A B C : World} (h : BelL lo A B) (hb : Below B.heap.size B C) : BelL lo A C := ⟨h.b.trans (hb.mono h.s), Nat.le_trans h.s hb.size⟩
theorem BelL.only {lo : Nat} {A B C : World} {S : Nat → Prop} (h : BelL lo A B) (hO : Only S B C) (hS : ∀ k, S k → lo ≤ k) : BelL lo A C := ⟨h.b.trans (hO.below hS h.s), Nat.le_trans h.s hO.size⟩
/-- The reference's disk that is being loaded: it holds u, its row is u2. -/
structure RLd (lo : Nat) (w : World) (bd : Nat) (u u2 : Value) (G : List Sec) : Prop where
  hbd : lo ≤ bd
  blk : Blk w bd #[u, .slice none 0 0, .bool false, .int .i64 (-1), .int .i64 0] 71
  good : ∃ gs, w.ownsRow 0 30 1 u2 G.length gs ∧ TxL w (lo ≤ ·) gs G
  low : ∀ k, u2.ownBlock = some k → lo ≤ k
theorem RLd.c0 {lo : Nat} {w : World} {bd : Nat} {u u2 : Value} {G : List Sec} (h : RLd lo w bd u u2 G) : w.cell? ⟨bd, 0, none⟩ = some u := h.blk.cell 0 rfl
theorem RLd.on {lo : Nat} {w w' : World} {bd : Nat} {u u2 : Value} {G : List Sec} (h : RLd lo w bd u u2 G) (hb : Below w.heap.size w w') : RLd lo w' bd u u2 G := by
  obtain ⟨gs, hg, hg2⟩ := h.good
  exact ⟨h.hbd, h.blk.on hb, ⟨gs, row_same hg fun k e => hb.block k (row_blk hg e).choose_spec.lt, hg2.keep (F := fun _ => False) (Only.of_below hb) (fun _ _ _ _ q => q)⟩, h.low⟩
theorem RLd.part {lo : Nat} {w w' : World} {bd kj oj cj m : Nat} {u : Value} {a7 : Option Addr} {c7 : Nat} {G : List Sec} {l : Sec} {gs : List Value} (h : RLd lo w bd u u G) (hg : w.grownBy w' u.ownBlock)
    (hO : w'.ownsRow 0 30 1 (.slice a7 m c7) (G.length + 1) (gs ++ [.slice (some ⟨kj, oj, none⟩) 256 cj])) (hw2 : TxL w (lo ≤ ·) gs G) (hX : Tx w (lo ≤ ·) (.slice (some ⟨kj, oj, none⟩) 256 cj) l)
    (hat : ∀ k, (Value.slice a7 m c7).ownBlock = some k → u.ownBlock = some k ∨ k = w.heap.size) : RLd lo w' bd u (.slice a7 m c7) (G ++ [l]) := by
  have hO3 : Only (fun k => u.ownBlock = some k) w w' := Only.grown hg (fun k e => e)
  obtain ⟨gs0, hgr, _⟩ := h.good
  have hne : ∀ k cur, lo ≤ k → Blk w k cur 5 → ¬ u.ownBlock = some k := fun k cur _ hb e => by obtain ⟨cu, hc⟩ := row_blk hgr e; exact blk_type_ne hb hc (by decide) rfl
  refine ⟨h.hbd, hO3.blk h.blk (fun e => by obtain ⟨cu, hc⟩ := row_blk hgr e; exact blk_type_ne h.blk hc (by decide) rfl), ⟨gs ++ [.slice (some ⟨kj, oj, none⟩) 256 cj], by rw [List.length_append]; exact hO, (hw2.keep hO3 hne).snoc (hX.keep hO3 hne)⟩, fun k e => ?_⟩
  rcases hat k e with q | q
  · exact h.low k q
  · have h1 := h.hbd; have h2 := h.blk.lt; omega
theorem RLd.whole {lo : Nat} {w w' : World} {bd : Nat} {u u2 : Value} {G : List Sec} (h : RLd lo w bd u u2 G) (hW : Wrote w w' bd) (hB : Blk w' bd (#[u, .slice none 0 0, .bool false, .int .i64 (-1), .int .i64 0].setIfInBounds 0 u2) 71) : RLd lo w' bd u2 u2 G := by
  have hO : Only (· = bd) w w' := Only.wrote hW rfl
  obtain ⟨gs, hg, hg2⟩ := h.good
  exact ⟨h.hbd, hB, ⟨gs, row_same hg fun k e => hO.same k (row_blk hg e).choose_spec.lt (fun q => by obtain ⟨cu, hc⟩ := row_blk hg e; exact blk_type_ne hc h.blk (by decide) q), hg2.keep hO (fun k cur _ hb e => blk_type_ne hb h.blk (by decide) e)⟩, h.low⟩
theorem RLd.ref {lo n : Nat} {w : World} {bd : Nat} {u : Value} {l : List UInt8} (h : RLd lo w bd u u (chunks l n)) (hn : 0 < n ∧ n ≤ 2048) (hl : l.length = n * 256) : RefAt w (lo ≤ ·) bd n u (.slice none 0 0) (loadS l) ∧ ∀ k, RFoot bd u (.slice none 0 0) k → lo ≤ k := by
  have e : (loadS l).good = chunks l n := by show chunks l (l.length / 256) = _; rw [hl, Nat.mul_div_cancel _ (by decide)]
  obtain ⟨gs, hg, hg2⟩ := h.good
  rw [chunks_len] at hg
  refine ⟨⟨loadS_ok hl, hn, (fun f e => by cases e), h.blk, ⟨gs, hg, by rw [e]; exact hg2⟩, ⟨[], World.ownsRow_nil _ 0 _ _, ⟨rfl, fun i p hp => by simp at hp⟩⟩⟩, ?_⟩
  rintro k (rfl | q | q)
  · exact h.hbd
  · exact h.low k q
  · cases q
set_option maxRecDepth 100000 in
theorem rmay_yes (n : Nat) (hn : 8 ≤ n ∧ n ≤ 2048) (w : World) : Calls Try.prog 42 #[.int .i64 (n : Nat)] w fun e w' => e = .returned (.bool true) ∧ w' = w := by
  have h1 : (8 : Int) ≤ (n : Int) := by omega
  have h2 : (n : Int) ≤ 2048 := by omega
  clear hn
  go_enter Try.func42, Try.ntmps42
  go_wp2
  go_ret
  exact ⟨by simp [h2], rfl⟩
set_option maxRecDepth 100000 in
theorem rmay_no (n : Int) (hn : n < 8 ∨ 2048 < n) (w : World) : Calls Try.prog 42 #[.int .i64 n] w fun e w' => e = .returned (.bool false) ∧ w' = w := by
  by_cases h1 : n < 8
  · clear hn
    go_enter Try.func42, Try.ntmps42
    go_wp2
    go_ret
    exact ⟨rfl, rfl⟩
  · have h2 : ¬ n ≤ 2048 := by omega
    clear hn
    go_enter Try.func42, Try.ntmps42
    go_wp2
    go_ret
    exact ⟨by simp [h2], rfl⟩
set_option maxRecDepth 100000 in
set_option maxHeartbeats 4000000 in
theorem rload_walk (l : List UInt8) (n : Nat) (hn : 8 ≤ n ∧ n ≤ 2048) (hl : l.length = n * 256) (pa : Option Addr) (m c : Nat) (w0 : World) (hT : Txt w0 pa m c l) :
    Calls Try.prog 28 #[.slice pa m c] w0 fun e w' => ∃ b u, e = .returned (.tuple #[.pointer (some ⟨b, 0, none⟩), .int .i64 0]) ∧ RefAt w' (w0.heap.size ≤ ·) b n u (.slice none 0 0) (loadS l) ∧ (∀ k, RFoot b u (.slice none 0 0) k → w0.heap.size ≤ k) ∧ Below w0.heap.size w0 w' := by
  have hm : m = n * 256 := by rw [hT.len, hl]
  have HM := Lib.hid hm
  have HN := Lib.hid hn
  have HLN := Lib.hid hl
  have HT := Lib.hid hT
  have r1 : (m : Int) % 256 = 0 := by omega
  have r2 : (m : Int).tmod 256 = 0 := by rw [Int.tmod_eq_emod_of_nonneg (by omega)]; exact r1
  have r3 : (m : Int) / 256 = (n : Int) := by omega
  have r4 : (m : Int).tdiv 256 = (n : Int) := by rw [Int.tdiv_eq_ediv_of_nonneg (by omega)]; exact r3
  have hb1 := below_one' w0 (.cells #[.slice none 0 0, .slice none 0 0, .bool false, .int .i64 (-1), .int .i64 0] 71)
  have r5 : wrap64 (n : Int) = (n : Int) := by unfold wrap64; omega
  have HB := Lib.hid (show BelL w0.heap.size w0 _ from ⟨hb1, hb1.size⟩)
  have HD := Lib.hid (show RLd w0.heap.size (w0.alloc (.cells #[.slice none 0 0, .slice none 0 0, .bool false, .int .i64 (-1), .int .i64 0] 71)) w0.heap.size (.slice none 0 0) (.slice none 0 0) (chunks l 0) from ⟨Nat.le_refl _, Blk.new w0 _ _, ⟨[], World.ownsRow_nil _ 0 _ _, ⟨rfl, fun i p hp => by simp at hp⟩⟩, fun k e => by cases e⟩)
  clear hn hl hT hm hb1
  go_enter Try.func28, Try.ntmps28
  go_wp2_with fail
  refine (rmay_yes n HN.out _).mono ?_
  rintro e w2 ⟨rfl, rfl⟩
  go_wp2
  clear r1 r2 r3 r4 r5
  generalize hlo : w2.heap.size = lo at *
  generalize World.alloc w2 _ = w3 at *
  go_loopw [5] (fun x wr => ∃ k kk ua uc, k ≤ n ∧ x = .int .i64 (kk : Nat) ∧ Hid (kk = k * 256) ∧ Hid (RLd lo wr lo (.slice ua k uc) (.slice ua k uc) (chunks l k)) ∧ Hid (BelL lo w2 wr)) (fun x _ => m - (intOf x).toNat)
  case atStart => exact ⟨0, 0, none, 0, Nat.zero_le _, rfl, rfl, HD.out, HB.out⟩
  case round =>
    obtain ⟨k, kk, ua, uc, hk, rfl, HKK, HD, HB⟩ := hrel
    by_cases hlt : k < n
    · obtain ⟨ke, hke⟩ : ∃ ke, ke = kk + 256 := ⟨_, rfl⟩
      have HKE := Lib.hid hke
      have hkk := HKK.out
      have hmm := HM.out
      have hn2 := HN.out.2
      have hkm : (kk : Int) < (m : Int) := by omega
      have hw1 : wrap64 ((kk : Int) + 256) = (ke : Int) := by unfold wrap64; omega
      have hw2 : IntKind.i64.wrap ((kk : Int) + 256) = (ke : Int) := by rw [IntWalk.i64_in _ (by omega)]; omega
      have HK := Lib.hid hlt
      have H63 := Lib.hid (show k + 1 ≤ maxLen by unfold maxLen; omega)
      have HBY := Lib.hid (show (k + 1) * 24 ≤ 140737488355328 by omega)
      obtain ⟨A, C, hsl, hts⟩ := pslice_lk (HT.out.below (hlo ▸ HB.out.b)) (show ke = kk + 256 by omega) (show ke ≤ m by omega)
      have HP := Lib.hid hts
      have HLL := Lib.hid (show ((l.drop kk).take 256).length = 256 from hts.len.symm)
      clear hkk hmm hn2 hts hke
      go_wp2
      refine wp_region_held_drew (S := fun _ => True) (by kernel_rfl) True.intro (fun _ => ?_)
      have HS := Lib.hid True.intro
      have hb : Below wr.heap.size wr (World.drew wr) := (Below.refl _ _).drew
      have HD := Lib.hid (HD.out.on hb)
      have HP := Lib.hid (HP.out.below hb)
      have HB := Lib.hid (HB.out.on hb)
      clear hb
      generalize World.drew wr = v0 at *
      try simp only [Act.put, List.setIfInBounds_toArray, List.set_cons_succ, List.set_cons_zero]
      refine wpAnyH_take (i := 0) (oi := ⟨some 25, .move (.tmp 4), _, _, _, none⟩) (v := .pointer (some ⟨lo, 0, none⟩)) rfl (by kernel_rfl) (by kernel_rfl) (by kernel_rfl) (fun _ _ _ h => h) (Or.inl ⟨by rfl, fun _ _ => by go_simp⟩) HS.out ?_
      try simp only [Act.put, List.setIfInBounds_toArray, List.set_cons_succ, List.set_cons_zero]
      refine wpAnyH_take (i := 1) (oi := ⟨some 26, .move (.tmp 4), _, _, _, none⟩) (v := .pointer (some ⟨lo, 0, none⟩)) rfl (by kernel_rfl) (by kernel_rfl) (by kernel_rfl) (fun _ _ _ h => h) (Or.inl ⟨by rfl, fun _ _ => by go_simp⟩) HS.out ?_
      try simp only [Act.put, List.setIfInBounds_toArray, List.set_cons_succ, List.set_cons_zero]
      refine wpAnyH_take (i := 2) (oi := ⟨some 27, .nilCheck (.tmp 26), _, _, _, none⟩) (v := .pointer (some ⟨lo, 0, none⟩)) rfl (by kernel_rfl) (by kernel_rfl) (by kernel_rfl) (fun _ _ _ h => h) (Or.inl ⟨by rfl, fun _ _ => by go_simp⟩) HS.out ?_
      try simp only [Act.put, List.setIfInBounds_toArray, List.set_cons_succ, List.set_cons_zero]
      refine wpAnyH_take (i := 3) (oi := ⟨some 28, .fieldAddr 71 (.tmp 27) 0, _, _, _, none⟩) (v := .pointer (some ⟨lo, 0, none⟩)) rfl (by kernel_rfl) (by kernel_rfl) (by kernel_rfl) (fun _ _ _ h => h) (Or.inl ⟨by rfl, fun _ _ => by go_simp⟩) HS.out ?_
      try simp only [Act.put, List.setIfInBounds_toArray, List.set_cons_succ, List.set_cons_zero]
      refine wpAnyH_take (i := 5) (oi := ⟨some 30, .move (.tmp 0), _, _, _, none⟩) (v := .slice pa m c) rfl (by kernel_rfl) (by kernel_rfl) (by kernel_rfl) (fun _ _ _ h => h) (Or.inl ⟨by rfl, fun _ _ => by go_simp⟩) HS.out ?_
      try simp only [Act.put, List.setIfInBounds_toArray, List.set_cons_succ, List.set_cons_zero]
      refine wpAnyH_take (i := 6) (oi := ⟨some 31, .move (.tmp 5), _, _, _, none⟩) (v := .int .i64 (kk : Nat)) rfl (by kernel_rfl) (by kernel_rfl) (by kernel_rfl) (fun _ _ _ h => h) (Or.inl ⟨by rfl, fun _ _ => by go_simp⟩) HS.out ?_
      try simp only [Act.put, List.setIfInBounds_toArray, List.set_cons_succ, List.set_cons_zero]
      refine wpAnyH_take (i := 7) (oi := ⟨some 32, .move (.tmp 5), _, _, _, none⟩) (v := .int .i64 (kk : Nat)) rfl (by kernel_rfl) (by kernel_rfl) (by kernel_rfl) (fun _ _ _ h => h) (Or.inl ⟨by rfl, fun _ _ => by go_simp⟩) HS.out ?_
      try simp only [Act.put, List.setIfInBounds_toArray, List.set_cons_succ, List.set_cons_zero]
      refine wpAnyH_take (i := 8) (oi := ⟨some 33, .binOp .add 3 (.tmp 32) (.const (.int .i64 256)) 3, _, _, _, none⟩) (v := .int .i64 (ke : Nat)) rfl (by kernel_rfl) (by kernel_rfl) (by kernel_rfl) (fun _ _ _ h => h) (Or.inl ⟨by rfl, fun _ _ => by go_simp⟩) HS.out ?_
      try simp only [Act.put, List.setIfInBounds_toArray, List.set_cons_succ, List.set_cons_zero]
      refine wpAnyH_take (i := 9) (oi := ⟨some 34, .slice 30 (.tmp 30) (some (.tmp 31)) (some (.tmp 33)) none, _, _, _, none⟩) (v := .slice A 256 C) rfl (by kernel_rfl) (by kernel_rfl) (by kernel_rfl) (fun _ _ _ h => h) (Or.inl ⟨by rfl, fun _ _ => by go_simp⟩) HS.out ?_
      try simp only [Act.put, List.setIfInBounds_toArray, List.set_cons_succ, List.set_cons_zero]
      refine wpAnyH_ready (rs := [4, 10]) (by kernel_rfl) (by simp) ?_
      refine AllReadyH.cons (o := ⟨some 29, .load 68 (.tmp 28), 68, _, _, none⟩) rfl (fun K hK => ?_) (AllReadyH.cons (o := ⟨some 35, .buildSlice 68 1 #[(0, .tmp 34)], 68, _, _, none⟩) rfl (fun K hK => ?_) AllReadyH.nil)
      · have c0 := HD.out.c0
        refine wp_of_yields' (v := .slice ua k uc) (by unfold execOp; go_simp) ?_
        clear c0
        refine hK _ _ HS.out (fun _ => ?_)
        clear hK K
        try simp only [Act.put, List.setIfInBounds_toArray, List.set_cons_succ, List.set_cons_zero]
        refine wpAnyH_ready (rs := [10]) (by kernel_rfl) (by simp) ?_
        refine AllReadyH.cons (o := ⟨some 35, .buildSlice 68 1 #[(0, .tmp 34)], 68, _, _, none⟩) rfl (fun K hK => ?_) AllReadyH.nil
        go_simp
        have BT := Blk.new v0 #[.slice A 256 C] 30
        have hb := below_one' v0 (.cells #[.slice A 256 C] 30)
        generalize World.alloc v0 _ = v2 at *
        have HD := Lib.hid (HD.out.on hb)
        have HP := Lib.hid (HP.out.below hb)
        have HB := Lib.hid (HB.out.on hb)
        replace BT := Lib.hid BT
        clear hb
        refine hK _ _ HS.out (fun _ => ?_)
        clear hK K
        try simp only [Act.put, List.setIfInBounds_toArray, List.set_cons_succ, List.set_cons_zero]
        refine wpAnyH_ready (rs := [11]) (by kernel_rfl) (by simp) ?_
        refine AllReadyH.cons (o := ⟨some 36, .call { callee := .value (.func 26), args := #[.tmp 35], argTypes := #[68] }, 30, _, _, none⟩) rfl (fun K hK => ?_) AllReadyH.nil
        go_simp
        refine (join_blk1 v2 _ BT.out HP.out (by rw [HLL.out]; omega)).mono ?_
        rintro e v3 ⟨aj, nj, cj, rfl, hOj, hb⟩
        have hsz := HB.out.s
        obtain ⟨kj, oj, cj, ej, _⟩ := (Tx.of_own hOj HLL.out).txt
        rw [ej]
        have HD := Lib.hid (HD.out.on hb)
        have HP := Lib.hid (HP.out.below hb)
        have HB := Lib.hid (HB.out.on hb)
        have BT := Lib.hid (BT.out.on hb)
        have HX := Lib.hid (((Tx.of_own hOj HLL.out).mono (av' := (lo ≤ ·)) (fun k e _ => Nat.le_trans hsz e)) |> (ej ▸ ·))
        clear hb hOj ej BT hsz
        refine hK _ _ HS.out (fun _ => ?_)
        clear hK K
        try simp only [Act.put, List.setIfInBounds_toArray, List.set_cons_succ, List.set_cons_zero]
        refine wpAnyH_ready (rs := [12]) (by kernel_rfl) (by simp) ?_
        refine AllReadyH.cons (o := ⟨some 37, .buildSlice 68 1 #[(0, .tmp 36)], 68, _, _, none⟩) rfl (fun K hK => ?_) AllReadyH.nil
        go_simp
        have BJ := Blk.new v3 #[.slice (some ⟨kj, oj, none⟩) 256 cj] 30
        have hb := below_one' v3 (.cells #[.slice (some ⟨kj, oj, none⟩) 256 cj] 30)
        generalize World.alloc v3 _ = v4 at *
        have HD := Lib.hid (HD.out.on hb)
        have HP := Lib.hid (HP.out.below hb)
        have HB := Lib.hid (HB.out.on hb)
        have HX := Lib.hid (HX.out.on hb)
        replace BJ := Lib.hid BJ
        clear hb
        refine hK _ _ HS.out (fun _ => ?_)
        clear hK K
        try simp only [Act.put, List.setIfInBounds_toArray, List.set_cons_succ, List.set_cons_zero]
        refine wpAnyH_ready (rs := [13]) (by kernel_rfl) (by simp) ?_
        refine AllReadyH.cons (o := ⟨some 38, .call { callee := .builtin .append, args := #[.tmp 29, .tmp 37], argTypes := #[68, 68] }, 68, _, _, none⟩) rfl (fun K hK => ?_) AllReadyH.nil
        obtain ⟨gs, hw, hw2⟩ := HD.out.good
        rw [chunks_len] at hw
        have HWS := Lib.hid hw
        have HW2 := Lib.hid hw2
        clear hw hw2
        refine wp_append_row (.tmp 29) (.tmp 37) 68 30 rfl (.slice none 0 0) 1 24 Try.underlying68 info_tx (by rfl) (by decide) (.slice ua k uc) k gs (by rfl) HWS.out _ 1 [.slice (some ⟨kj, oj, none⟩) 256 cj] (by rfl) (by rfl) BJ.out (by simp [Value.oneCell']) H63.out HBY.out ?_
        intro a7 c7 v5 hO hg hat
        have HPT := Lib.hid (HD.out.part hg (by rw [chunks_len]; exact hO) HW2.out HX.out hat)
        have HB := Lib.hid (HB.out.only (Only.grown (S := fun j => (Value.slice ua k uc).ownBlock = some j) hg (fun j e => e)) HD.out.low)
        clear hO hg hat HD BJ HX HWS HW2
        refine hK _ _ HS.out (fun _ => ?_)
        clear hK K
        try simp only [Act.put, List.setIfInBounds_toArray, List.set_cons_succ, List.set_cons_zero]
        refine wpAnyH_take (i := 14) (oi := ⟨some 39, .nilCheck (.tmp 25), _, _, _, none⟩) (v := .pointer (some ⟨lo, 0, none⟩)) rfl (by kernel_rfl) (by kernel_rfl) (by kernel_rfl) (fun _ _ _ h => h) (Or.inl ⟨by rfl, fun _ _ => by go_simp⟩) HS.out ?_
        try simp only [Act.put, List.setIfInBounds_toArray, List.set_cons_succ, List.set_cons_zero]
        refine wpAnyH_take (i := 15) (oi := ⟨some 40, .fieldAddr 71 (.tmp 39) 0, _, _, _, none⟩) (v := .pointer (some ⟨lo, 0, none⟩)) rfl (by kernel_rfl) (by kernel_rfl) (by kernel_rfl) (fun _ _ _ h => h) (Or.inl ⟨by rfl, fun _ _ => by go_simp⟩) HS.out ?_
        try simp only [Act.put, List.setIfInBounds_toArray, List.set_cons_succ, List.set_cons_zero]
        refine wpAnyH_ready (rs := [16]) (by kernel_rfl) (by simp) ?_
        refine AllReadyH.cons (o := ⟨none, .store 68 (.tmp 40) (.tmp 38), _, _, _, none⟩) rfl (fun K hK => ?_) AllReadyH.nil
        refine wp_store_one (.tmp 40) (.tmp 38) 68 size_txs rfl lo 0 (.slice a7 (k + 1) c7) (by rfl) (by rfl) (by rfl) (by rfl) HPT.out.blk (by simp) ?_
        intro v6 hW hB
        have HDN := Lib.hid (HPT.out.whole hW hB)
        have HB := Lib.hid (HB.out.only (Only.wrote (S := (· = lo)) hW rfl) (fun j e => by rw [e]; exact Nat.le_refl _))
        clear hW hB HPT
        refine hK _ _ HS.out (fun _ => ?_)
        clear hK K
        try simp only [Act.put, List.setIfInBounds_toArray, List.set_cons_succ, List.set_cons_zero]
        refine wpAnyH_done (by kernel_rfl) ?_ _
        have hdn := HDN.out
        rw [HKK.out, ← chunks_succ] at hdn
        have HDN := Lib.hid hdn
        clear hdn
        go_wp2
        go_roundw
        case rel => exact ⟨k + 1, ke, _, _, by have := HK.out; omega, rfl, by have := HKE.out; have := HKK.out; show ke = (k + 1) * 256; omega, HDN.out, HB.out⟩
        case measure => have h1 := HKE.out; have h2 := hkm; simp [intOf]; omega
      · go_simp
        have BT := Blk.new v0 #[.slice A 256 C] 30
        have hb := below_one' v0 (.cells #[.slice A 256 C] 30)
        generalize World.alloc v0 _ = v7 at *
        have HD := Lib.hid (HD.out.on hb)
        have HP := Lib.hid (HP.out.below hb)
        have HB := Lib.hid (HB.out.on hb)
        replace BT := Lib.hid BT
        clear hb
        refine hK _ _ HS.out (fun _ => ?_)
        clear hK K
        try simp only [Act.put, List.setIfInBounds_toArray, List.set_cons_succ, List.set_cons_zero]
        refine wpAnyH_ready (rs := [4, 11]) (by kernel_rfl) (by simp) ?_
        refine AllReadyH.cons (o := ⟨some 29, .load 68 (.tmp 28), 68, _, _, none⟩) rfl (fun K hK => ?_) (AllReadyH.cons (o := ⟨some 36, .call { callee := .value (.func 26), args := #[.tmp 35], argTypes := #[68] }, 30, _, _, none⟩) rfl (fun K hK => ?_) AllReadyH.nil)
        · have c0 := HD.out.c0
          refine wp_of_yields' (v := .slice ua k uc) (by unfold execOp; go_simp) ?_
          clear c0
          refine hK _ _ HS.out (fun _ => ?_)
          clear hK K
          try simp only [Act.put, List.setIfInBounds_toArray, List.set_cons_succ, List.set_cons_zero]
          refine wpAnyH_ready (rs := [11]) (by kernel_rfl) (by simp) ?_
          refine AllReadyH.cons (o := ⟨some 36, .call { callee := .value (.func 26), args := #[.tmp 35], argTypes := #[68] }, 30, _, _, none⟩) rfl (fun K hK => ?_) AllReadyH.nil
          go_simp
          refine (join_blk1 v7 _ BT.out HP.out (by rw [HLL.out]; omega)).mono ?_
          rintro e v9 ⟨aj, nj, cj, rfl, hOj, hb⟩
          have hsz := HB.out.s
          obtain ⟨kj, oj, cj, ej, _⟩ := (Tx.of_own hOj HLL.out).txt
          rw [ej]
          have HD := Lib.hid (HD.out.on hb)
          have HP := Lib.hid (HP.out.below hb)
          have HB := Lib.hid (HB.out.on hb)
          have BT := Lib.hid (BT.out.on hb)
          have HX := Lib.hid (((Tx.of_own hOj HLL.out).mono (av' := (lo ≤ ·)) (fun k e _ => Nat.le_trans hsz e)) |> (ej ▸ ·))
          clear hb hOj ej BT hsz
          refine hK _ _ HS.out (fun _ => ?_)
          clear hK K
          try simp only [Act.put, List.setIfInBounds_toArray, List.set_cons_succ, List.set_cons_zero]
          refine wpAnyH_ready (rs := [12]) (by kernel_rfl) (by simp) ?_
          refine AllReadyH.cons (o := ⟨some 37, .buildSlice 68 1 #[(0, .tmp 36)], 68, _, _, none⟩) rfl (fun K hK => ?_) AllReadyH.nil
          go_simp
          have BJ := Blk.new v9 #[.slice (some ⟨kj, oj, none⟩) 256 cj] 30
          have hb := below_one' v9 (.cells #[.slice (some ⟨kj, oj, none⟩) 256 cj] 30)
          generalize World.alloc v9 _ = v10 at *
          have HD := Lib.hid (HD.out.on hb)
          have HP := Lib.hid (HP.out.below hb)
          have HB := Lib.hid (HB.out.on hb)
          have HX := Lib.hid (HX.out.on hb)
          replace BJ := Lib.hid BJ
          clear hb
          refine hK _ _ HS.out (fun _ => ?_)
          clear hK K
          try simp only [Act.put, List.setIfInBounds_toArray, List.set_cons_succ, List.set_cons_zero]
          refine wpAnyH_ready (rs := [13]) (by kernel_rfl) (by simp) ?_
          refine AllReadyH.cons (o := ⟨some 38, .call { callee := .builtin .append, args := #[.tmp 29, .tmp 37], argTypes := #[68, 68] }, 68, _, _, none⟩) rfl (fun K hK => ?_) AllReadyH.nil
          obtain ⟨gs, hw, hw2⟩ := HD.out.good
          rw [chunks_len] at hw
          have HWS := Lib.hid hw
          have HW2 := Lib.hid hw2
          clear hw hw2
          refine wp_append_row (.tmp 29) (.tmp 37) 68 30 rfl (.slice none 0 0) 1 24 Try.underlying68 info_tx (by rfl) (by decide) (.slice ua k uc) k gs (by rfl) HWS.out _ 1 [.slice (some ⟨kj, oj, none⟩) 256 cj] (by rfl) (by rfl) BJ.out (by simp [Value.oneCell']) H63.out HBY.out ?_
          intro a7 c7 v11 hO hg hat
          have HPT := Lib.hid (HD.out.part hg (by rw [chunks_len]; exact hO) HW2.out HX.out hat)
          have HB := Lib.hid (HB.out.only (Only.grown (S := fun j => (Value.slice ua k uc).ownBlock = some j) hg (fun j e => e)) HD.out.low)
          clear hO hg hat HD BJ HX HWS HW2
          refine hK _ _ HS.out (fun _ => ?_)
          clear hK K
          try simp only [Act.put, List.setIfInBounds_toArray, List.set_cons_succ, List.set_cons_zero]
          refine wpAnyH_take (i := 14) (oi := ⟨some 39, .nilCheck (.tmp 25), _, _, _, none⟩) (v := .pointer (some ⟨lo, 0, none⟩)) rfl (by kernel_rfl) (by kernel_rfl) (by kernel_rfl) (fun _ _ _ h => h) (Or.inl ⟨by rfl, fun _ _ => by go_simp⟩) HS.out ?_
          try simp only [Act.put, List.setIfInBounds_toArray, List.set_cons_succ, List.set_cons_zero]
          refine wpAnyH_take (i := 15) (oi := ⟨some 40, .fieldAddr 71 (.tmp 39) 0, _, _, _, none⟩) (v := .pointer (some ⟨lo, 0, none⟩)) rfl (by kernel_rfl) (by kernel_rfl) (by kernel_rfl) (fun _ _ _ h => h) (Or.inl ⟨by rfl, fun _ _ => by go_simp⟩) HS.out ?_
          try simp only [Act.put, List.setIfInBounds_toArray, List.set_cons_succ, List.set_cons_zero]
          refine wpAnyH_ready (rs := [16]) (by kernel_rfl) (by simp) ?_
          refine AllReadyH.cons (o := ⟨none, .store 68 (.tmp 40) (.tmp 38), _, _, _, none⟩) rfl (fun K hK => ?_) AllReadyH.nil
          refine wp_store_one (.tmp 40) (.tmp 38) 68 size_txs rfl lo 0 (.slice a7 (k + 1) c7) (by rfl) (by rfl) (by rfl) (by rfl) HPT.out.blk (by simp) ?_
          intro v12 hW hB
          have HDN := Lib.hid (HPT.out.whole hW hB)
          have HB := Lib.hid (HB.out.only (Only.wrote (S := (· = lo)) hW rfl) (fun j e => by rw [e]; exact Nat.le_refl _))
          clear hW hB HPT
          refine hK _ _ HS.out (fun _ => ?_)
          clear hK K
          try simp only [Act.put, List.setIfInBounds_toArray, List.set_cons_succ, List.set_cons_zero]
          refine wpAnyH_done (by kernel_rfl) ?_ _
          have hdn := HDN.out
          rw [HKK.out, ← chunks_succ] at hdn
          have HDN := Lib.hid hdn
          clear hdn
          go_wp2
          go_roundw
          case rel => exact ⟨k + 1, ke, _, _, by have := HK.out; omega, rfl, by have := HKE.out; have := HKK.out; show ke = (k + 1) * 256; omega, HDN.out, HB.out⟩
          case measure => have h1 := HKE.out; have h2 := hkm; simp [intOf]; omega
        · go_simp
          refine (join_blk1 v7 _ BT.out HP.out (by rw [HLL.out]; omega)).mono ?_
          rintro e v13 ⟨aj, nj, cj, rfl, hOj, hb⟩
          have hsz := HB.out.s
          obtain ⟨kj, oj, cj, ej, _⟩ := (Tx.of_own hOj HLL.out).txt
          rw [ej]
          have HD := Lib.hid (HD.out.on hb)
          have HP := Lib.hid (HP.out.below hb)
          have HB := Lib.hid (HB.out.on hb)
          have BT := Lib.hid (BT.out.on hb)
          have HX := Lib.hid (((Tx.of_own hOj HLL.out).mono (av' := (lo ≤ ·)) (fun k e _ => Nat.le_trans hsz e)) |> (ej ▸ ·))
          clear hb hOj ej BT hsz
          refine hK _ _ HS.out (fun _ => ?_)
          clear hK K
          try simp only [Act.put, List.setIfInBounds_toArray, List.set_cons_succ, List.set_cons_zero]
          refine wpAnyH_ready (rs := [4, 12]) (by kernel_rfl) (by simp) ?_
          refine AllReadyH.cons (o := ⟨some 29, .load 68 (.tmp 28), 68, _, _, none⟩) rfl (fun K hK => ?_) (AllReadyH.cons (o := ⟨some 37, .buildSlice 68 1 #[(0, .tmp 36)], 68, _, _, none⟩) rfl (fun K hK => ?_) AllReadyH.nil)
          · have c0 := HD.out.c0
            refine wp_of_yields' (v := .slice ua k uc) (by unfold execOp; go_simp) ?_
            clear c0
            refine hK _ _ HS.out (fun _ => ?_)
            clear hK K
            try simp only [Act.put, List.setIfInBounds_toArray, List.set_cons_succ, List.set_cons_zero]
            refine wpAnyH_ready (rs := [12]) (by kernel_rfl) (by simp) ?_
            refine AllReadyH.cons (o := ⟨some 37, .buildSlice 68 1 #[(0, .tmp 36)], 68, _, _, none⟩) rfl (fun K hK => ?_) AllReadyH.nil
            go_simp
            have BJ := Blk.new v13 #[.slice (some ⟨kj, oj, none⟩) 256 cj] 30
            have hb := below_one' v13 (.cells #[.slice (some ⟨kj, oj, none⟩) 256 cj] 30)
            generalize World.alloc v13 _ = v15 at *
            have HD := Lib.hid (HD.out.on hb)
            have HP := Lib.hid (HP.out.below hb)
            have HB := Lib.hid (HB.out.on hb)
            have HX := Lib.hid (HX.out.on hb)
            replace BJ := Lib.hid BJ
            clear hb
            refine hK _ _ HS.out (fun _ => ?_)
            clear hK K
            try simp only [Act.put, List.setIfInBounds_toArray, List.set_cons_succ, List.set_cons_zero]
            refine wpAnyH_ready (rs := [13]) (by kernel_rfl) (by simp) ?_
            refine AllReadyH.cons (o := ⟨some 38, .call { callee := .builtin .append, args := #[.tmp 29, .tmp 37], argTypes := #[68, 68] }, 68, _, _, none⟩) rfl (fun K hK => ?_) AllReadyH.nil
            obtain ⟨gs, hw, hw2⟩ := HD.out.good
            rw [chunks_len] at hw
            have HWS := Lib.hid hw
            have HW2 := Lib.hid hw2
            clear hw hw2
            refine wp_append_row (.tmp 29) (.tmp 37) 68 30 rfl (.slice none 0 0) 1 24 Try.underlying68 info_tx (by rfl) (by decide) (.slice ua k uc) k gs (by rfl) HWS.out _ 1 [.slice (some ⟨kj, oj, none⟩) 256 cj] (by rfl) (by rfl) BJ.out (by simp [Value.oneCell']) H63.out HBY.out ?_
            intro a7 c7 v16 hO hg hat
            have HPT := Lib.hid (HD.out.part hg (by rw [chunks_len]; exact hO) HW2.out HX.out hat)
            have HB := Lib.hid (HB.out.only (Only.grown (S := fun j => (Value.slice ua k uc).ownBlock = some j) hg (fun j e => e)) HD.out.low)
            clear hO hg hat HD BJ HX HWS HW2
            refine hK _ _ HS.out (fun _ => ?_)
            clear hK K
            try simp only [Act.put, List.setIfInBounds_toArray, List.set_cons_succ, List.set_cons_zero]
            refine wpAnyH_take (i := 14) (oi := ⟨some 39, .nilCheck (.tmp 25), _, _, _, none⟩) (v := .pointer (some ⟨lo, 0, none⟩)) rfl (by kernel_rfl) (by kernel_rfl) (by kernel_rfl) (fun _ _ _ h => h) (Or.inl ⟨by rfl, fun _ _ => by go_simp⟩) HS.out ?_
            try simp only [Act.put, List.setIfInBounds_toArray, List.set_cons_succ, List.set_cons_zero]
            refine wpAnyH_take (i := 15) (oi := ⟨some 40, .fieldAddr 71 (.tmp 39) 0, _, _, _, none⟩) (v := .pointer (some ⟨lo, 0, none⟩)) rfl (by kernel_rfl) (by kernel_rfl) (by kernel_rfl) (fun _ _ _ h => h) (Or.inl ⟨by rfl, fun _ _ => by go_simp⟩) HS.out ?_
            try simp only [Act.put, List.setIfInBounds_toArray, List.set_cons_succ, List.set_cons_zero]
            refine wpAnyH_ready (rs := [16]) (by kernel_rfl) (by simp) ?_
            refine AllReadyH.cons (o := ⟨none, .store 68 (.tmp 40) (.tmp 38), _, _, _, none⟩) rfl (fun K hK => ?_) AllReadyH.nil
            refine wp_store_one (.tmp 40) (.tmp 38) 68 size_txs rfl lo 0 (.slice a7 (k + 1) c7) (by rfl) (by rfl) (by rfl) (by rfl) HPT.out.blk (by simp) ?_
            intro v17 hW hB
            have HDN := Lib.hid (HPT.out.whole hW hB)
            have HB := Lib.hid (HB.out.only (Only.wrote (S := (· = lo)) hW rfl) (fun j e => by rw [e]; exact Nat.le_refl _))
            clear hW hB HPT
            refine hK _ _ HS.out (fun _ => ?_)
            clear hK K
            try simp only [Act.put, List.setIfInBounds_toArray, List.set_cons_succ, List.set_cons_zero]
            refine wpAnyH_done (by kernel_rfl) ?_ _
            have hdn := HDN.out
            rw [HKK.out, ← chunks_succ] at hdn
            have HDN := Lib.hid hdn
            clear hdn
            go_wp2
            go_roundw
            case rel => exact ⟨k + 1, ke, _, _, by have := HK.out; omega, rfl, by have := HKE.out; have := HKK.out; show ke = (k + 1) * 256; omega, HDN.out, HB.out⟩
            case measure => have h1 := HKE.out; have h2 := hkm; simp [intOf]; omega
          · go_simp
            have BJ := Blk.new v13 #[.slice (some ⟨kj, oj, none⟩) 256 cj] 30
            have hb := below_one' v13 (.cells #[.slice (some ⟨kj, oj, none⟩) 256 cj] 30)
            generalize World.alloc v13 _ = v18 at *
            have HD := Lib.hid (HD.out.on hb)
            have HP := Lib.hid (HP.out.below hb)
            have HB := Lib.hid (HB.out.on hb)
            have HX := Lib.hid (HX.out.on hb)
            replace BJ := Lib.hid BJ
            clear hb
            refine hK _ _ HS.out (fun _ => ?_)
            clear hK K
            try simp only [Act.put, List.setIfInBounds_toArray, List.set_cons_succ, List.set_cons_zero]
            refine wpAnyH_ready (rs := [4]) (by kernel_rfl) (by simp) ?_
            refine AllReadyH.cons (o := ⟨some 29, .load 68 (.tmp 28), 68, _, _, none⟩) rfl (fun K hK => ?_) AllReadyH.nil
            have c0 := HD.out.c0
            refine wp_of_yields' (v := .slice ua k uc) (by unfold execOp; go_simp) ?_
            clear c0
            refine hK _ _ HS.out (fun _ => ?_)
            clear hK K
            try simp only [Act.put, List.setIfInBounds_toArray, List.set_cons_succ, List.set_cons_zero]
            refine wpAnyH_ready (rs := [13]) (by kernel_rfl) (by simp) ?_
            refine AllReadyH.cons (o := ⟨some 38, .call { callee := .builtin .append, args := #[.tmp 29, .tmp 37], argTypes := #[68, 68] }, 68, _, _, none⟩) rfl (fun K hK => ?_) AllReadyH.nil
            obtain ⟨gs, hw, hw2⟩ := HD.out.good
            rw [chunks_len] at hw
            have HWS := Lib.hid hw
            have HW2 := Lib.hid hw2
            clear hw hw2
            refine wp_append_row (.tmp 29) (.tmp 37) 68 30 rfl (.slice none 0 0) 1 24 Try.underlying68 info_tx (by rfl) (by decide) (.slice ua k uc) k gs (by rfl) HWS.out _ 1 [.slice (some ⟨kj, oj, none⟩) 256 cj] (by rfl) (by rfl) BJ.out (by simp [Value.oneCell']) H63.out HBY.out ?_
            intro a7 c7 v20 hO hg hat
            have HPT := Lib.hid (HD.out.part hg (by rw [chunks_len]; exact hO) HW2.out HX.out hat)
            have HB := Lib.hid (HB.out.only (Only.grown (S := fun j => (Value.slice ua k uc).ownBlock = some j) hg (fun j e => e)) HD.out.low)
            clear hO hg hat HD BJ HX HWS HW2
            refine hK _ _ HS.out (fun _ => ?_)
            clear hK K
            try simp only [Act.put, List.setIfInBounds_toArray, List.set_cons_succ, List.set_cons_zero]
            refine wpAnyH_take (i := 14) (oi := ⟨some 39, .nilCheck (.tmp 25), _, _, _, none⟩) (v := .pointer (some ⟨lo, 0, none⟩)) rfl (by kernel_rfl) (by kernel_rfl) (by kernel_rfl) (fun _ _ _ h => h) (Or.inl ⟨by rfl, fun _ _ => by go_simp⟩) HS.out ?_
            try simp only [Act.put, List.setIfInBounds_toArray, List.set_cons_succ, List.set_cons_zero]
            refine wpAnyH_take (i := 15) (oi := ⟨some 40, .fieldAddr 71 (.tmp 39) 0, _, _, _, none⟩) (v := .pointer (some ⟨lo, 0, none⟩)) rfl (by kernel_rfl) (by kernel_rfl) (by kernel_rfl) (fun _ _ _ h => h) (Or.inl ⟨by rfl, fun _ _ => by go_simp⟩) HS.out ?_
            try simp only [Act.put, List.setIfInBounds_toArray, List.set_cons_succ, List.set_cons_zero]
            refine wpAnyH_ready (rs := [16]) (by kernel_rfl) (by simp) ?_
            refine AllReadyH.cons (o := ⟨none, .store 68 (.tmp 40) (.tmp 38), _, _, _, none⟩) rfl (fun K hK => ?_) AllReadyH.nil
            refine wp_store_one (.tmp 40) (.tmp 38) 68 size_txs rfl lo 0 (.slice a7 (k + 1) c7) (by rfl) (by rfl) (by rfl) (by rfl) HPT.out.blk (by simp) ?_
            intro v21 hW hB
            have HDN := Lib.hid (HPT.out.whole hW hB)
            have HB := Lib.hid (HB.out.only (Only.wrote (S := (· = lo)) hW rfl) (fun j e => by rw [e]; exact Nat.le_refl _))
            clear hW hB HPT
            refine hK _ _ HS.out (fun _ => ?_)
            clear hK K
            try simp only [Act.put, List.setIfInBounds_toArray, List.set_cons_succ, List.set_cons_zero]
            refine wpAnyH_done (by kernel_rfl) ?_ _
            have hdn := HDN.out
            rw [HKK.out, ← chunks_succ] at hdn
            have HDN := Lib.hid hdn
            clear hdn
            go_wp2
            go_roundw
            case rel => exact ⟨k + 1, ke, _, _, by have := HK.out; omega, rfl, by have := HKE.out; have := HKK.out; show ke = (k + 1) * 256; omega, HDN.out, HB.out⟩
            case measure => have h1 := HKE.out; have h2 := hkm; simp [intOf]; omega
    · have hkk := HKK.out
      have hmm := HM.out
      obtain rfl : k = n := by omega
      have hkm : ¬ (kk : Int) < (m : Int) := by omega
      clear hkk hmm
      obtain ⟨hR, hF⟩ := HD.out.ref (by have := HN.out; omega) HLN.out
      go_wp2
      go_ret2
      exact ⟨lo, rfl, Value.slice ua k uc, hR, hF, HB.out.b⟩
set_option maxRecDepth 100000 in
set_option maxHeartbeats 1000000 in
theorem rload_bad (l : List UInt8) (h : l.length % 256 ≠ 0 ∨ l.length / 256 < 8 ∨ 2048 < l.length / 256) (hmx : l.length ≤ 9223372036854775807) (pa : Option Addr) (m c : Nat) (hm : m = l.length) (w0 : World) :
    Calls Try.prog 28 #[.slice pa m c] w0 fun e w' => e = .returned (.tuple #[.pointer none, .int .i64 1]) ∧ w' = w0 := by
  rw [← hm] at h hmx
  clear hm
  obtain ⟨r, hr⟩ : ∃ r, r = m % 256 := ⟨_, rfl⟩
  obtain ⟨d, hd⟩ : ∃ d, d = m / 256 := ⟨_, rfl⟩
  have r1 : (m : Int) % 256 = (r : Int) := by omega
  have r2 : (m : Int).tmod 256 = (r : Int) := by rw [Int.tmod_eq_emod_of_nonneg (by omega)]; exact r1
  have r3 : (m : Int) / 256 = (d : Int) := by omega
  have r4 : (m : Int).tdiv 256 = (d : Int) := by rw [Int.tdiv_eq_ediv_of_nonneg (by omega)]; exact r3
  have r5 : wrap64 (d : Int) = (d : Int) := by unfold wrap64; omega
  rw [← hr, ← hd] at h
  clear hr hd hmx
  by_cases h0 : r = 0
  · subst h0
    have HD := Lib.hid (show (d : Int) < 8 ∨ 2048 < (d : Int) by omega)
    clear h
    go_enter Try.func28, Try.ntmps28
    go_wp2_with fail
    refine (rmay_no d HD.out _).mono ?_
    rintro e w2 ⟨rfl, rfl⟩
    go_wp2
    go_ret2
    exact ⟨rfl, rfl⟩
  · have h1 : ((r : Int) == 0) = false := by simp; omega
    clear h
    go_enter Try.func28, Try.ntmps28
    go_wp2
    go_ret2
    exact ⟨rfl, rfl⟩
set_option maxRecDepth 100000 in
set_option maxHeartbeats 1000000 in
theorem rnew_bad (n : Int) (hn : n < 8 ∨ 2048 < n) (w0 : World) :
    Calls Try.prog 23 #[.int .i64 n] w0 fun e w' => e = .returned (.tuple #[.pointer none, .int .i64 1]) ∧ w' = w0 := by
  have HN := Lib.hid hn
  clear hn
  go_enter Try.func23, Try.ntmps23
  go_wp2_with fail
  refine (rmay_no n HN.out _).mono ?_
  rintro e w2 ⟨rfl, rfl⟩
  go_wp2
  go_ret2
  exact ⟨rfl, rfl⟩
set_option maxRecDepth 100000 in
set_option maxHeartbeats 1000000 in
theorem rnew_walk (n : Nat) (hn : 8 ≤ n ∧ n ≤ 2048) (w0 : World) :
    Calls Try.prog 23 #[.int .i64 (n : Nat)] w0 fun e w' => ∃ b u, e = .returned (.tuple #[.pointer (some ⟨b, 0, none⟩), .int .i64 0]) ∧ RefAt w' (w0.heap.size ≤ ·) b n u (.slice none 0 0) (newS n) ∧ (∀ k, RFoot b u (.slice none 0 0) k → w0.heap.size ≤ k) ∧ Below w0.heap.size w0 w' := by
  have HN := Lib.hid hn
  obtain ⟨m, hm⟩ : ∃ m, m = n * 256 := ⟨_, rfl⟩
  have hw1 : wrap64 (256 * (n : Int)) = (m : Int) := by unfold wrap64; omega
  have hw2 : IntKind.i64.wrap (256 * (n : Int)) = (m : Int) := by rw [IntWalk.i64_in _ (by omega)]; omega
  obtain ⟨zl, hzl⟩ : ∃ zl : List UInt8, zl = List.replicate m 0 := ⟨_, rfl⟩
  have hmk := fun w => run_make_bytes m (by omega) w
  rw [← hzl] at hmk
  have HZ := Lib.hid (show zl.length = n * 256 ∧ loadS zl = newS n by rw [hzl, hm]; exact ⟨List.length_replicate, newS_load n⟩)
  have hb := below_one' w0 (.cells (barr zl) 5)
  have HT := Lib.hid (show Txt (w0.alloc (.cells (barr zl) 5)) (some ⟨w0.heap.size, 0, none⟩) m m zl by
    have := Txt.of_blk (Blk.new w0 (barr zl) 5)
    rwa [show zl.length = m by rw [hzl]; exact List.length_replicate] at this)
  have HB := Lib.hid hb
  clear hn hm hzl hb
  go_enter Try.func23, Try.ntmps23
  go_wp2_with fail
  refine (rmay_yes n HN.out _).mono ?_
  rintro e w2 ⟨rfl, rfl⟩
  go_wp2_with fail
  refine (rload_walk zl n HN.out HZ.out.1 _ _ _ _ HT.out).mono ?_
  rintro e w3 ⟨b, u, rfl, hR, hF, hb⟩
  have HR := Lib.hid (hR.mono (av' := (w2.heap.size ≤ ·)) fun k e _ => Nat.le_trans HB.out.size e)
  have HF := Lib.hid (show ∀ k, RFoot b u (.slice none 0 0) k → w2.heap.size ≤ k from fun k hk => Nat.le_trans HB.out.size (hF k hk))
  have HB3 := Lib.hid (HB.out.trans (hb.mono HB.out.size))
  clear hR hF hb
  go_wp2
  go_ret2
  refine ⟨b, u, rfl, ?_, HF.out, HB3.out⟩
  rw [← HZ.out.2]
  exact HR.out
end Go.Proofs.Ytgbahfggnbpnmaa
