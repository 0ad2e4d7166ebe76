import Derived.Test.YtgbahfggnbpnmaaDskC
/-
  Crash$1, Sync$1, settles.
-/
namespace Go.Proofs.Ytgbahfggnbpnmaa
open Go.RowKit
theorem size_wr : (Try.prog.info? 67).map (·.size) = some 257 := by kernel_rfl
theorem info_wr : (Try.prog.info? 67).map (fun i => (i.zero, i.size, i.bytes)) = some (some (.agg (#[.int .i64 0] ++ Array.replicate 256 (.int .u8 0))), 257, 264) := by kernel_rfl
theorem zero_wr (w : World) : (zeroValue 67).run Try.prog w = .ok (.agg (#[.int .i64 0] ++ Array.replicate 256 (.int .u8 0))) w := by
  obtain ⟨i, i1, i2, i3, i4⟩ := info_parts info_wr
  simp [zeroValue, typeInfo, i1, i2]
/-- The disk's sectors turn. -/
theorem DiskAt.sec {w W : World} {b g n : Nat} {v : Value} {S T : DS} (h : DiskAt w b g n v S) (hW : Wrote w W g) (hB : Blk W g (barr T.good.flatten) 65) (hT : T.Ok n) (h1 : T.wait = S.wait) (h2 : T.gone = S.gone) (h3 : T.fuse = S.fuse) (h4 : T.ops = S.ops) : DiskAt W b g n v T := by
  obtain ⟨z, hb, hz⟩ := h.blk
  have hO : Only (· = g) w W := Only.wrote hW rfl
  refine ⟨hT, h.pos, by rw [h3]; exact h.fz, ⟨z, by rw [h2, h3, h4]; exact hO.blk hb (fun e => h.gb e.symm), by rw [h3]; exact hz⟩, hB, by rw [h1]; exact row_same h.wait fun k e => hO.same k (h.foot_lt (.inr (.inr e))) (h.vb k e).2⟩
theorem clear_row {w : World} {v : Value} {n : Nat} {cs : List Value} (h : w.ownsRow 0 67 257 v n cs) :
    ∃ W a c, v = .slice a n c ∧ (∀ ty, (Builtin.clear_ #[60] ty #[.slice a n c]).run Try.prog w = .ok (.tuple #[]) W) ∧ Only (fun k => v.ownBlock = some k) w W ∧ W.ownsRow 0 67 257 (.slice a 0 c) 0 [] ∧ (a = none → n = 0 ∧ c = 0) ∧ (∀ q, a = some q → ∃ k, q = ⟨k, 0, none⟩) := by
  have hzs : (Value.agg (#[.int .i64 0] ++ Array.replicate 256 (.int .u8 0))).cells.size = 257 := by simp [Value.cells]
  have hz1 : ∀ u ∈ (Value.agg (#[.int .i64 0] ++ Array.replicate 256 (.int .u8 0))).cells, u.oneCell' = true := by
    intro u hu
    simp only [Value.cells, Array.mem_append, Array.mem_replicate] at hu
    rcases hu with h | ⟨_, rfl⟩
    · simp at h; subst h; rfl
    · rfl
  rcases h.2 with ⟨rfl, h0⟩ | ⟨g, cap, cur, rfl, h2, h3, h4, h5, h6, h7⟩
  · subst h0
    refine ⟨w, none, 0, rfl, fun ty => ?_, Only.refl _ _, World.ownsRow_nil w 0 _ _, fun _ => ⟨rfl, rfl⟩, fun q e => by cases e⟩
    simp [Builtin.clear_, run_underlying Try.underlying60]
  · obtain ⟨W, cur', k1, k2, k3, k4⟩ := run_clear_rows (P := Try.prog) w 60 67 _ Try.underlying60 zero_wr hz1 g n cap (cur := cur) (u := 67) h3 (by rw [hzs, h6]; exact Nat.mul_le_mul_right _ h4)
    refine ⟨W, _, cap, rfl, k1, Only.wrote k2 rfl, ⟨by simp, Or.inr ⟨g, cap, cur', rfl, Nat.zero_le _, k3, Nat.zero_le _, h5, by rw [k4, h6], by simp⟩⟩, fun e => (by cases e), fun q e => ⟨g, (by cases e; rfl)⟩⟩
def ReadsB (w : World) (a : Option Addr) (l : List Bool) : Prop := ∀ i, i < l.length → ∃ g o, a = some ⟨g, o, none⟩ ∧ g < w.heap.size ∧ w.cell? ⟨g, o + i, none⟩ = some (.bool (l.getD i false))
theorem ReadsB.on {w w' : World} {a : Option Addr} {l : List Bool} (h : ReadsB w a l) (hb : Below w.heap.size w w') : ReadsB w' a l := fun i hi => by
  obtain ⟨g, o, e, hg, hc⟩ := h i hi
  exact ⟨g, o, e, Nat.lt_of_lt_of_le hg hb.size, (hb.cell (p := ⟨g, o + i, none⟩) hg).trans hc⟩
set_option maxRecDepth 100000 in
theorem sync1_walk (i : Int) (w : World) : Calls Try.prog 39 #[.int .i64 i] w fun e w' => e = .returned (.bool true) ∧ w' = w := by
  go_enter Try.func39, Try.ntmps39
  go_wp2
  go_ret
  exact ⟨rfl, rfl⟩
set_option maxRecDepth 100000 in
set_option maxHeartbeats 1000000 in
theorem crash1_walk (i p m c : Nat) (a : Option Addr) (l : List Bool) (hm : m = l.length) (w : World) (hp : w.cell? ⟨p, 0, none⟩ = some (.slice a m c)) (hr : ReadsB w a l) :
    Calls Try.prog 41 #[.int .i64 (i : Nat), .pointer (some ⟨p, 0, none⟩)] w fun e w' => e = .returned (.bool (l.getD i false)) ∧ w' = w := by
  by_cases hi : i < l.length
  · obtain ⟨g, o, rfl, hg, hc⟩ := hr i hi
    obtain ⟨u, hu⟩ : ∃ u, u = l.getD i false := ⟨_, rfl⟩
    rw [← hu] at hc
    have HU := Lib.hid hu
    have h1 : (i : Int) < (m : Int) := by omega
    clear hr hg hi hu hm
    go_enter Try.func41, Try.ntmps41
    go_wp2
    go_ret
    exact ⟨by rw [← HU.out]; rfl, rfl⟩
  · have h1 : ¬ (i : Int) < (m : Int) := by omega
    have HE := Lib.hid (show l[i]?.getD false = false by simp [List.getElem?_eq_none (Nat.le_of_not_lt hi)])
    clear hr hi hm
    go_enter Try.func41, Try.ntmps41
    go_wp2
    go_ret
    exact ⟨by rw [HE.out]; rfl, rfl⟩
theorem row_at {w : World} {lo n sz vc : Nat} {t : TypeId} {va : Option Addr} {cs : List Value} (h : w.ownsRow lo t sz (.slice va n vc) n cs) (hn : 0 < n) : ∃ gw cur, va = some ⟨gw, 0, none⟩ ∧ Blk w gw cur t ∧ cur.size = vc * sz ∧ cur.toList.take (n * sz) = cs ∧ n ≤ vc := by
  rcases h.2 with ⟨e, h0⟩ | ⟨g, cap, cur, e, h2, h3, h4, h5, h6, h7⟩
  · omega
  · simp only [Value.slice.injEq] at e
    obtain ⟨rfl, _, rfl⟩ := e
    exact ⟨g, cur, rfl, h3, h6, h7, h4⟩
theorem wait_elem {cur : Array Value} {l : List Wt} (hl : ∀ p, p ∈ l → p.2.length = 256) (h : cur.toList.take (l.length * 257) = wcells l) (k : Nat) (hk : k < l.length) : ∀ i, i < (wcell (l.getD k (0, []))).length → cur[k * 257 + i]? = (wcell (l.getD k (0, [])))[i]? := fun i hi => by
  rw [← wcells_at hl k hk, ← h]
  have hlen : (wcell (l.getD k (0, []))).length = 257 := wcell_len (hl _ (by rw [getD_of hk]; exact List.getElem_mem _))
  have : k * 257 + i < l.length * 257 := by omega
  rw [List.getElem?_take, if_pos (by omega), List.getElem?_drop, List.getElem?_take, if_pos this]
  simp
theorem splice_bv (F l : List UInt8) (off : Nat) : (splice (barr F).toList off (l.map bv)).toArray = barr (splice F off l) := by
  unfold splice barr
  simp [List.map_take, List.map_drop]
theorem settle_end {w W : World} {b g n : Nat} {v : Value} {S : DS} (h : DiskAt w b g n v S) (hO : Only (fun k => v.ownBlock = some k) w W) (u : Value) (hrow : W.ownsRow 0 67 257 u 0 []) (hu : ∀ k, u.ownBlock = some k → v.ownBlock = some k) :
    DiskAt (W.setCell ⟨b, 1, none⟩ u) b g n u { S with wait := [] } ∧ Only (Foot b g v) w (W.setCell ⟨b, 1, none⟩ u) ∧ W.cell? ⟨b, 1, none⟩ = some v ∧ W.frozen? ⟨b, 1, none⟩ = false := by
  obtain ⟨z, hb, hz⟩ := h.blk
  have hbW := hO.blk hb (fun e => (h.vb b e).1 rfl)
  have hgW := hO.blk h.good (fun e => (h.vb g e).2 rfl)
  refine ⟨⟨⟨h.ok.len, h.ok.sec, fun p hp => by cases hp⟩, h.pos, h.fz, ⟨z, hbW.set 1 u, hz⟩, hgW.set' 1 u h.gb, row_same hrow fun k e => ?_⟩, (hO.mono fun k e => .inr (.inr e)).trans (Only.cell W u (.inl rfl)), hbW.cell 1 rfl, hbW.free 1⟩
  exact (Only.cell (S := (· = b)) W u rfl).same k (row_blk hrow e).choose_spec.lt (h.vb k (hu k e)).1
theorem settled_ok {S : DS} {n : Nat} (h : S.Ok n) (pk : Nat → Bool) (k : Nat) (hk : k ≤ S.wait.length) : DS.Ok { S with good := settleTo S.good S.wait pk k } n :=
  ⟨by show (settleTo _ _ _ _).length = n; rw [settleTo_len]; exact h.len, settleTo_sec pk h.sec h.wt k hk, h.wt⟩
set_option maxRecDepth 100000 in
set_option maxHeartbeats 2000000 in
theorem settles_sync {b g n : Nat} {v : Value} {S : DS} (pk : Nat → Bool) (w : World) (h : DiskAt w b g n v S) (hlen : S.wait.length ≤ 1000000)
    (hpk : ∀ (k : Nat) W, Only (· = g) w W → Calls Try.prog 39 #[.int .i64 (k : Nat)] W fun e W' => e = .returned (.bool (pk k)) ∧ W' = W) :
    Calls Try.prog 38 #[.pointer (some ⟨b, 0, none⟩), .func (.func 39) #[] #[]] w fun e w' => (∃ u, e = .returned u) ∧ ∃ v', DiskAt w' b g n v' { S with good := settle S.good S.wait pk, wait := [] } ∧ Only (Foot b g v) w w' ∧ ∀ k, v'.ownBlock = some k → v.ownBlock = some k := by
  obtain ⟨va, vc, rfl, _, _, hnil, hsome⟩ := row_form h.wait
  have H := Lib.hid h
  have HPK := Lib.hid hpk
  have HSOME := Lib.hid hsome
  have c1 := h.c1
  have hlg := h.ok.len
  obtain ⟨m, hm⟩ : ∃ m, m = S.wait.length := ⟨_, rfl⟩
  have HM := Lib.hid hm
  have hm6 : m ≤ 1000000 := by omega
  rw [← hm] at c1 ⊢
  clear h hpk hsome hlen hnil hlg hm
  go_enter Try.func38, Try.ntmps38
  go_wp2
  go_loopw [11] (fun x wr => ∃ k : Nat, k ≤ m ∧ x = .int .i64 (k : Nat) ∧ Hid (DiskAt wr b g n (.slice va m vc) { S with good := settleTo S.good S.wait pk k }) ∧ Hid (Only (· = g) w wr)) (fun x _ => m - (intOf x).toNat)
  case atStart => exact ⟨0, Nat.zero_le _, rfl, by have q := H.out; rw [← HM.out] at q; exact q, Only.refl _ _⟩
  case round =>
    obtain ⟨k, hk, rfl, HD, HO⟩ := hrel
    by_cases hlt : k < m
    · have HK := Lib.hid hlt
      have c1 := HD.out.c1
      obtain ⟨gw, cur, rfl, hcB, hcs, hct, hcn⟩ := row_at (by have q := HD.out.wait; rw [HM.out] at q; exact q : wr.ownsRow 0 67 257 (.slice va S.wait.length vc) S.wait.length (wcells S.wait)) (by rw [← HM.out]; omega)
      obtain ⟨p, hp⟩ : ∃ p, p = S.wait.getD k (0, []) := ⟨_, rfl⟩
      have hkl : k < S.wait.length := by rw [← HM.out]; exact hlt
      have hpm : p ∈ S.wait := by rw [hp, getD_of hkl]; exact List.getElem_mem _
      have hwt := H.out.ok.wt p hpm
      have HCS := Lib.hid (show ∀ i, i < (wcell p).length → cur[k * 257 + i]? = (wcell p)[i]? by rw [hp]; exact wait_elem (fun p hp => (H.out.ok.wt p hp).2) hct k hkl)
      have HCB := Lib.hid hcB
      have HWL := Lib.hid (show (Try.prog.info? 67).map (·.size) = some (wcell p).length by rw [wcell_len hwt.2]; exact size_wr)
      have HWS := Lib.hid (show (Try.prog.info? 67).map (·.size) = some (wcell p).toArray.size by rw [List.size_toArray, wcell_len hwt.2]; exact size_wr)
      have HWZ := Lib.hid (show (257 : Nat) = (wcell p).toArray.size by rw [List.size_toArray, wcell_len hwt.2])
      have HW1 := Lib.hid (show (wcell p).toArray.all (·.oneCell') = true by simp [wcell, Value.oneCell'])
      have HP2 := Lib.hid (show (p.2.map bv).length = 256 by rw [List.length_map]; exact hwt.2)
      have HPS := Lib.hid (show (p.2.map bv).toArray.size = 256 by rw [List.size_toArray, List.length_map]; exact hwt.2)
      have HONE := Lib.hid (barr_one_all p.2)
      have HSUB := Lib.hid (show ∀ i, i < (p.2.map bv).length → (wcell p).toArray[1 + i]? = (p.2.map bv)[i]? from fun i hi => by simp [wcell, Nat.add_comm 1 i])
      have HSOK := Lib.hid (settled_ok H.out.ok pk k (by omega))
      have HFIT := Lib.hid (show p.1 * 256 + (p.2.map bv).toArray.size ≤ (barr (settleTo S.good S.wait pk k).flatten).size by
        have h1 := hwt.1
        rw [HPS.out, barr_size, flat_size HSOK.out.sec, HSOK.out.len]; omega)
      have hpn : (p.1 : Int) < (n : Int) := by have := hwt.1; omega
      have hst := settleTo_succ S.good S.wait pk k
      have hset : settleTo S.good S.wait pk (k + 1) = stepG S.wait pk (settleTo S.good S.wait pk k) k := hst
      unfold stepG at hst
      rw [← hp] at hst
      have HST0 := Lib.hid hst
      have HOK1 := Lib.hid (settled_ok H.out.ok pk (k + 1) hkl)
      have HPN := Lib.hid hwt.1
      have HL2 := Lib.hid hwt.2
      clear hcB hcs hct hcn hp hkl hpm hwt hst hset hlt
      have hzw := zero_wr
      go_wp2_with (first | (refine wpList_load_sub rfl 67 (.tmp 14) rfl gw (k * 257) rfl HCB.out (wcell p) HCS.out _ Try.underlying67 rfl HWL.out ?_) | (refine wpList_store_abs rfl 67 (.tmp 5) (.tmp 15) (by rfl) wr.heap.size (wcell p).toArray (by rfl) (by rfl) 67 _ (Blk.new wr _ _) HWS.out (by rw [← HWZ.out]; simp) HW1.out ?_; intro w6 hW hB5; have hb6 := hW.below (below_one' wr _) (Nat.le_refl _); have HD := Lib.hid (HD.out.on hb6); have HO2 := Lib.hid (HO.out.trans (Only.of_below (S := (· = g)) hb6)); have BX := Lib.hid hB5; clear hW hb6 hB5 HCB))
      clear hzw
      generalize wr.heap.size = bx at *
      refine (HPK.out k _ HO2.out).mono ?_
      rintro e w7 ⟨rfl, rfl⟩
      cases hpk : pk k with
      | true =>
        have HST := Lib.hid (show settleTo S.good S.wait pk (k + 1) = (settleTo S.good S.wait pk k).set p.1 p.2 by have q := HST0.out; rw [if_pos hpk] at q; exact q)
        have HSEC := Lib.hid (show ∀ x W : World, DiskAt x b g n (.slice (some ⟨gw, 0, none⟩) m vc) { S with good := settleTo S.good S.wait pk k } → Wrote x W g → Blk W g (splice (barr (settleTo S.good S.wait pk k).flatten).toList (p.1 * 256) (p.2.map bv)).toArray 65 → DiskAt W b g n (.slice (some ⟨gw, 0, none⟩) m vc) { S with good := settleTo S.good S.wait pk (k + 1) } from fun x W hx hW hB => hx.sec hW (by
          rw [splice_bv, flat_set HSOK.out.sec p.1 (by rw [HSOK.out.len]; exact HPN.out) p.2 HL2.out, ← HST.out] at hB
          exact hB) HOK1.out rfl rfl rfl rfl)
        clear hpk
        go_wp2_with fail
        refine wp_region_held_drew (S := fun _ => True) (by kernel_rfl) True.intro (fun _ => ?_)
        have HS := Lib.hid True.intro
        have hb : Below w7.heap.size w7 (World.drew w7) := (Below.refl _ _).drew
        have HD := Lib.hid (HD.out.on hb)
        have BX := Lib.hid (BX.out.on hb)
        have HO2 := Lib.hid (HO2.out.trans (Only.of_below (S := (· = g)) hb))
        clear hb
        generalize World.drew w7 = v0 at *
        have c0 := HD.out.c0
        have e0 : v0.cell? ⟨bx, 0, none⟩ = some (.int .i64 (p.1 : Nat)) := BX.out.cell 0 rfl
        try simp only [Act.put, List.setIfInBounds_toArray, List.set_cons_succ, List.set_cons_zero]
        refine wpAnyH_take (i := 0) (oi := ⟨some 19, .move (.tmp 0), _, _, _, none⟩) (v := .pointer (some ⟨b, 0, none⟩)) rfl (by kernel_rfl) (by kernel_rfl) (by kernel_rfl) (fun _ _ _ h => h) (Or.inl ⟨by rfl, fun _ _ => by go_simp⟩) HS.out ?_
        try simp only [Act.put, List.setIfInBounds_toArray, List.set_cons_succ, List.set_cons_zero]
        refine wpAnyH_take (i := 1) (oi := ⟨some 20, .nilCheck (.tmp 19), _, _, _, none⟩) (v := .pointer (some ⟨b, 0, none⟩)) rfl (by kernel_rfl) (by kernel_rfl) (by kernel_rfl) (fun _ _ _ h => h) (Or.inl ⟨by rfl, fun _ _ => by go_simp⟩) HS.out ?_
        try simp only [Act.put, List.setIfInBounds_toArray, List.set_cons_succ, List.set_cons_zero]
        refine wpAnyH_take (i := 2) (oi := ⟨some 21, .fieldAddr 62 (.tmp 20) 0, _, _, _, none⟩) (v := .pointer (some ⟨b, 0, none⟩)) rfl (by kernel_rfl) (by kernel_rfl) (by kernel_rfl) (fun _ _ _ h => h) (Or.inl ⟨by rfl, fun _ _ => by go_simp⟩) HS.out ?_
        try simp only [Act.put, List.setIfInBounds_toArray, List.set_cons_succ, List.set_cons_zero]
        refine wpAnyH_take (i := 4) (oi := ⟨some 23, .fieldAddr 67 (.tmp 5) 0, _, _, _, none⟩) (v := .pointer (some ⟨bx, 0, none⟩)) rfl (by kernel_rfl) (by kernel_rfl) (by kernel_rfl) (fun _ _ _ h => h) (Or.inl ⟨by rfl, fun _ _ => by go_simp⟩) HS.out ?_
        try simp only [Act.put, List.setIfInBounds_toArray, List.set_cons_succ, List.set_cons_zero]
        refine wpAnyH_take (i := 6) (oi := ⟨some 25, .fieldAddr 67 (.tmp 5) 1, _, _, _, none⟩) (v := .pointer (some ⟨bx, 1, none⟩)) rfl (by kernel_rfl) (by kernel_rfl) (by kernel_rfl) (fun _ _ _ h => h) (Or.inl ⟨by rfl, fun _ _ => by go_simp⟩) HS.out ?_
        try simp only [Act.put, List.setIfInBounds_toArray, List.set_cons_succ, List.set_cons_zero]
        refine wpAnyH_ready (rs := [3, 5, 7]) (by kernel_rfl) (by simp) ?_
        refine AllReadyH.cons (o := ⟨some 22, .load 59 (.tmp 21), 59, _, _, none⟩) rfl (fun K hK => ?_) (AllReadyH.cons (o := ⟨some 24, .load 3 (.tmp 23), 3, _, _, none⟩) rfl (fun K hK => ?_) (AllReadyH.cons (o := ⟨some 26, .load 65 (.tmp 25), 65, _, _, none⟩) rfl (fun K hK => ?_) AllReadyH.nil))
        · go_simp
          refine hK _ _ HS.out (fun _ => ?_)
          clear hK K
          try simp only [Act.put, List.setIfInBounds_toArray, List.set_cons_succ, List.set_cons_zero]
          refine wpAnyH_ready (rs := [5, 7]) (by kernel_rfl) (by simp) ?_
          refine AllReadyH.cons (o := ⟨some 24, .load 3 (.tmp 23), 3, _, _, none⟩) rfl (fun K hK => ?_) (AllReadyH.cons (o := ⟨some 26, .load 65 (.tmp 25), 65, _, _, none⟩) rfl (fun K hK => ?_) AllReadyH.nil)
          · go_simp
            refine hK _ _ HS.out (fun _ => ?_)
            clear hK K
            try simp only [Act.put, List.setIfInBounds_toArray, List.set_cons_succ, List.set_cons_zero]
            refine wpAnyH_ready (rs := [7]) (by kernel_rfl) (by simp) ?_
            refine AllReadyH.cons (o := ⟨some 26, .load 65 (.tmp 25), 65, _, _, none⟩) rfl (fun K hK => ?_) AllReadyH.nil
            refine wp_load_sub 65 (.tmp 25) (by rfl) bx 1 (by rfl) BX.out (p.2.map bv) HSUB.out _ Try.underlying65 rfl (by rw [HP2.out]; exact size_sec) ?_
            refine hK _ _ HS.out (fun _ => ?_)
            clear hK K
            try simp only [Act.put, List.setIfInBounds_toArray, List.set_cons_succ, List.set_cons_zero]
            refine wpAnyH_take (i := 8) (oi := ⟨some 27, .indexAddr 59 (.tmp 22) (.tmp 24), _, _, _, none⟩) (v := .pointer (some ⟨g, p.1 * 256, none⟩)) rfl (by kernel_rfl) (by kernel_rfl) (by kernel_rfl) (fun _ _ _ h => h) (Or.inl ⟨by rfl, fun _ _ => by go_simp⟩) HS.out ?_
            try simp only [Act.put, List.setIfInBounds_toArray, List.set_cons_succ, List.set_cons_zero]
            refine wpAnyH_ready (rs := [9]) (by kernel_rfl) (by simp) ?_
            refine AllReadyH.cons (o := ⟨none, .store 65 (.tmp 27) (.tmp 26), _, _, _, none⟩) rfl (fun K hK => ?_) AllReadyH.nil
            refine wp_store_sub 65 (.tmp 27) (.tmp 26) (by rfl) g (p.1 * 256) (p.2.map bv).toArray (by rfl) (by rfl) HD.out.good HFIT.out (by rw [HPS.out]; exact size_sec) HONE.out ?_
            intro v4 hW hB
            have HD3 := Lib.hid (HSEC.out _ _ HD.out hW (by simpa using hB))
            have HO3 := Lib.hid (HO2.out.trans (Only.wrote (S := (· = g)) hW rfl))
            clear hW hB HD
            refine hK _ _ HS.out (fun _ => ?_)
            clear hK K
            try simp only [Act.put, List.setIfInBounds_toArray, List.set_cons_succ, List.set_cons_zero]
            refine wpAnyH_done (by kernel_rfl) ?_ _
            have HD := HD3
            have HO2 := HO3
            clear HD3 HO3 c0 e0 BX
            go_wp2
            go_roundw
            case rel => exact ⟨k + 1, by have := HK.out; omega, by go_num, HD.out, HO2.out⟩
            case measure => have := HK.out; simp [intOf]; omega
          · refine wp_load_sub 65 (.tmp 25) (by rfl) bx 1 (by rfl) BX.out (p.2.map bv) HSUB.out _ Try.underlying65 rfl (by rw [HP2.out]; exact size_sec) ?_
            refine hK _ _ HS.out (fun _ => ?_)
            clear hK K
            try simp only [Act.put, List.setIfInBounds_toArray, List.set_cons_succ, List.set_cons_zero]
            refine wpAnyH_ready (rs := [5]) (by kernel_rfl) (by simp) ?_
            refine AllReadyH.cons (o := ⟨some 24, .load 3 (.tmp 23), 3, _, _, none⟩) rfl (fun K hK => ?_) AllReadyH.nil
            go_simp
            refine hK _ _ HS.out (fun _ => ?_)
            clear hK K
            try simp only [Act.put, List.setIfInBounds_toArray, List.set_cons_succ, List.set_cons_zero]
            refine wpAnyH_take (i := 8) (oi := ⟨some 27, .indexAddr 59 (.tmp 22) (.tmp 24), _, _, _, none⟩) (v := .pointer (some ⟨g, p.1 * 256, none⟩)) rfl (by kernel_rfl) (by kernel_rfl) (by kernel_rfl) (fun _ _ _ h => h) (Or.inl ⟨by rfl, fun _ _ => by go_simp⟩) HS.out ?_
            try simp only [Act.put, List.setIfInBounds_toArray, List.set_cons_succ, List.set_cons_zero]
            refine wpAnyH_ready (rs := [9]) (by kernel_rfl) (by simp) ?_
            refine AllReadyH.cons (o := ⟨none, .store 65 (.tmp 27) (.tmp 26), _, _, _, none⟩) rfl (fun K hK => ?_) AllReadyH.nil
            refine wp_store_sub 65 (.tmp 27) (.tmp 26) (by rfl) g (p.1 * 256) (p.2.map bv).toArray (by rfl) (by rfl) HD.out.good HFIT.out (by rw [HPS.out]; exact size_sec) HONE.out ?_
            intro v7 hW hB
            have HD3 := Lib.hid (HSEC.out _ _ HD.out hW (by simpa using hB))
            have HO3 := Lib.hid (HO2.out.trans (Only.wrote (S := (· = g)) hW rfl))
            clear hW hB HD
            refine hK _ _ HS.out (fun _ => ?_)
            clear hK K
            try simp only [Act.put, List.setIfInBounds_toArray, List.set_cons_succ, List.set_cons_zero]
            refine wpAnyH_done (by kernel_rfl) ?_ _
            have HD := HD3
            have HO2 := HO3
            clear HD3 HO3 c0 e0 BX
            go_wp2
            go_roundw
            case rel => exact ⟨k + 1, by have := HK.out; omega, by go_num, HD.out, HO2.out⟩
            case measure => have := HK.out; simp [intOf]; omega
        · go_simp
          refine hK _ _ HS.out (fun _ => ?_)
          clear hK K
          try simp only [Act.put, List.setIfInBounds_toArray, List.set_cons_succ, List.set_cons_zero]
          refine wpAnyH_ready (rs := [3, 7]) (by kernel_rfl) (by simp) ?_
          refine AllReadyH.cons (o := ⟨some 22, .load 59 (.tmp 21), 59, _, _, none⟩) rfl (fun K hK => ?_) (AllReadyH.cons (o := ⟨some 26, .load 65 (.tmp 25), 65, _, _, none⟩) rfl (fun K hK => ?_) AllReadyH.nil)
          · go_simp
            refine hK _ _ HS.out (fun _ => ?_)
            clear hK K
            try simp only [Act.put, List.setIfInBounds_toArray, List.set_cons_succ, List.set_cons_zero]
            refine wpAnyH_ready (rs := [7]) (by kernel_rfl) (by simp) ?_
            refine AllReadyH.cons (o := ⟨some 26, .load 65 (.tmp 25), 65, _, _, none⟩) rfl (fun K hK => ?_) AllReadyH.nil
            refine wp_load_sub 65 (.tmp 25) (by rfl) bx 1 (by rfl) BX.out (p.2.map bv) HSUB.out _ Try.underlying65 rfl (by rw [HP2.out]; exact size_sec) ?_
            refine hK _ _ HS.out (fun _ => ?_)
            clear hK K
            try simp only [Act.put, List.setIfInBounds_toArray, List.set_cons_succ, List.set_cons_zero]
            refine wpAnyH_take (i := 8) (oi := ⟨some 27, .indexAddr 59 (.tmp 22) (.tmp 24), _, _, _, none⟩) (v := .pointer (some ⟨g, p.1 * 256, none⟩)) rfl (by kernel_rfl) (by kernel_rfl) (by kernel_rfl) (fun _ _ _ h => h) (Or.inl ⟨by rfl, fun _ _ => by go_simp⟩) HS.out ?_
            try simp only [Act.put, List.setIfInBounds_toArray, List.set_cons_succ, List.set_cons_zero]
            refine wpAnyH_ready (rs := [9]) (by kernel_rfl) (by simp) ?_
            refine AllReadyH.cons (o := ⟨none, .store 65 (.tmp 27) (.tmp 26), _, _, _, none⟩) rfl (fun K hK => ?_) AllReadyH.nil
            refine wp_store_sub 65 (.tmp 27) (.tmp 26) (by rfl) g (p.1 * 256) (p.2.map bv).toArray (by rfl) (by rfl) HD.out.good HFIT.out (by rw [HPS.out]; exact size_sec) HONE.out ?_
            intro v11 hW hB
            have HD3 := Lib.hid (HSEC.out _ _ HD.out hW (by simpa using hB))
            have HO3 := Lib.hid (HO2.out.trans (Only.wrote (S := (· = g)) hW rfl))
            clear hW hB HD
            refine hK _ _ HS.out (fun _ => ?_)
            clear hK K
            try simp only [Act.put, List.setIfInBounds_toArray, List.set_cons_succ, List.set_cons_zero]
            refine wpAnyH_done (by kernel_rfl) ?_ _
            have HD := HD3
            have HO2 := HO3
            clear HD3 HO3 c0 e0 BX
            go_wp2
            go_roundw
            case rel => exact ⟨k + 1, by have := HK.out; omega, by go_num, HD.out, HO2.out⟩
            case measure => have := HK.out; simp [intOf]; omega
          · refine wp_load_sub 65 (.tmp 25) (by rfl) bx 1 (by rfl) BX.out (p.2.map bv) HSUB.out _ Try.underlying65 rfl (by rw [HP2.out]; exact size_sec) ?_
            refine hK _ _ HS.out (fun _ => ?_)
            clear hK K
            try simp only [Act.put, List.setIfInBounds_toArray, List.set_cons_succ, List.set_cons_zero]
            refine wpAnyH_ready (rs := [3]) (by kernel_rfl) (by simp) ?_
            refine AllReadyH.cons (o := ⟨some 22, .load 59 (.tmp 21), 59, _, _, none⟩) rfl (fun K hK => ?_) AllReadyH.nil
            go_simp
            refine hK _ _ HS.out (fun _ => ?_)
            clear hK K
            try simp only [Act.put, List.setIfInBounds_toArray, List.set_cons_succ, List.set_cons_zero]
            refine wpAnyH_take (i := 8) (oi := ⟨some 27, .indexAddr 59 (.tmp 22) (.tmp 24), _, _, _, none⟩) (v := .pointer (some ⟨g, p.1 * 256, none⟩)) rfl (by kernel_rfl) (by kernel_rfl) (by kernel_rfl) (fun _ _ _ h => h) (Or.inl ⟨by rfl, fun _ _ => by go_simp⟩) HS.out ?_
            try simp only [Act.put, List.setIfInBounds_toArray, List.set_cons_succ, List.set_cons_zero]
            refine wpAnyH_ready (rs := [9]) (by kernel_rfl) (by simp) ?_
            refine AllReadyH.cons (o := ⟨none, .store 65 (.tmp 27) (.tmp 26), _, _, _, none⟩) rfl (fun K hK => ?_) AllReadyH.nil
            refine wp_store_sub 65 (.tmp 27) (.tmp 26) (by rfl) g (p.1 * 256) (p.2.map bv).toArray (by rfl) (by rfl) HD.out.good HFIT.out (by rw [HPS.out]; exact size_sec) HONE.out ?_
            intro v14 hW hB
            have HD3 := Lib.hid (HSEC.out _ _ HD.out hW (by simpa using hB))
            have HO3 := Lib.hid (HO2.out.trans (Only.wrote (S := (· = g)) hW rfl))
            clear hW hB HD
            refine hK _ _ HS.out (fun _ => ?_)
            clear hK K
            try simp only [Act.put, List.setIfInBounds_toArray, List.set_cons_succ, List.set_cons_zero]
            refine wpAnyH_done (by kernel_rfl) ?_ _
            have HD := HD3
            have HO2 := HO3
            clear HD3 HO3 c0 e0 BX
            go_wp2
            go_roundw
            case rel => exact ⟨k + 1, by have := HK.out; omega, by go_num, HD.out, HO2.out⟩
            case measure => have := HK.out; simp [intOf]; omega
        · refine wp_load_sub 65 (.tmp 25) (by rfl) bx 1 (by rfl) BX.out (p.2.map bv) HSUB.out _ Try.underlying65 rfl (by rw [HP2.out]; exact size_sec) ?_
          refine hK _ _ HS.out (fun _ => ?_)
          clear hK K
          try simp only [Act.put, List.setIfInBounds_toArray, List.set_cons_succ, List.set_cons_zero]
          refine wpAnyH_ready (rs := [3, 5]) (by kernel_rfl) (by simp) ?_
          refine AllReadyH.cons (o := ⟨some 22, .load 59 (.tmp 21), 59, _, _, none⟩) rfl (fun K hK => ?_) (AllReadyH.cons (o := ⟨some 24, .load 3 (.tmp 23), 3, _, _, none⟩) rfl (fun K hK => ?_) AllReadyH.nil)
          · go_simp
            refine hK _ _ HS.out (fun _ => ?_)
            clear hK K
            try simp only [Act.put, List.setIfInBounds_toArray, List.set_cons_succ, List.set_cons_zero]
            refine wpAnyH_ready (rs := [5]) (by kernel_rfl) (by simp) ?_
            refine AllReadyH.cons (o := ⟨some 24, .load 3 (.tmp 23), 3, _, _, none⟩) rfl (fun K hK => ?_) AllReadyH.nil
            go_simp
            refine hK _ _ HS.out (fun _ => ?_)
            clear hK K
            try simp only [Act.put, List.setIfInBounds_toArray, List.set_cons_succ, List.set_cons_zero]
            refine wpAnyH_take (i := 8) (oi := ⟨some 27, .indexAddr 59 (.tmp 22) (.tmp 24), _, _, _, none⟩) (v := .pointer (some ⟨g, p.1 * 256, none⟩)) rfl (by kernel_rfl) (by kernel_rfl) (by kernel_rfl) (fun _ _ _ h => h) (Or.inl ⟨by rfl, fun _ _ => by go_simp⟩) HS.out ?_
            try simp only [Act.put, List.setIfInBounds_toArray, List.set_cons_succ, List.set_cons_zero]
            refine wpAnyH_ready (rs := [9]) (by kernel_rfl) (by simp) ?_
            refine AllReadyH.cons (o := ⟨none, .store 65 (.tmp 27) (.tmp 26), _, _, _, none⟩) rfl (fun K hK => ?_) AllReadyH.nil
            refine wp_store_sub 65 (.tmp 27) (.tmp 26) (by rfl) g (p.1 * 256) (p.2.map bv).toArray (by rfl) (by rfl) HD.out.good HFIT.out (by rw [HPS.out]; exact size_sec) HONE.out ?_
            intro v18 hW hB
            have HD3 := Lib.hid (HSEC.out _ _ HD.out hW (by simpa using hB))
            have HO3 := Lib.hid (HO2.out.trans (Only.wrote (S := (· = g)) hW rfl))
            clear hW hB HD
            refine hK _ _ HS.out (fun _ => ?_)
            clear hK K
            try simp only [Act.put, List.setIfInBounds_toArray, List.set_cons_succ, List.set_cons_zero]
            refine wpAnyH_done (by kernel_rfl) ?_ _
            have HD := HD3
            have HO2 := HO3
            clear HD3 HO3 c0 e0 BX
            go_wp2
            go_roundw
            case rel => exact ⟨k + 1, by have := HK.out; omega, by go_num, HD.out, HO2.out⟩
            case measure => have := HK.out; simp [intOf]; omega
          · go_simp
            refine hK _ _ HS.out (fun _ => ?_)
            clear hK K
            try simp only [Act.put, List.setIfInBounds_toArray, List.set_cons_succ, List.set_cons_zero]
            refine wpAnyH_ready (rs := [3]) (by kernel_rfl) (by simp) ?_
            refine AllReadyH.cons (o := ⟨some 22, .load 59 (.tmp 21), 59, _, _, none⟩) rfl (fun K hK => ?_) AllReadyH.nil
            go_simp
            refine hK _ _ HS.out (fun _ => ?_)
            clear hK K
            try simp only [Act.put, List.setIfInBounds_toArray, List.set_cons_succ, List.set_cons_zero]
            refine wpAnyH_take (i := 8) (oi := ⟨some 27, .indexAddr 59 (.tmp 22) (.tmp 24), _, _, _, none⟩) (v := .pointer (some ⟨g, p.1 * 256, none⟩)) rfl (by kernel_rfl) (by kernel_rfl) (by kernel_rfl) (fun _ _ _ h => h) (Or.inl ⟨by rfl, fun _ _ => by go_simp⟩) HS.out ?_
            try simp only [Act.put, List.setIfInBounds_toArray, List.set_cons_succ, List.set_cons_zero]
            refine wpAnyH_ready (rs := [9]) (by kernel_rfl) (by simp) ?_
            refine AllReadyH.cons (o := ⟨none, .store 65 (.tmp 27) (.tmp 26), _, _, _, none⟩) rfl (fun K hK => ?_) AllReadyH.nil
            refine wp_store_sub 65 (.tmp 27) (.tmp 26) (by rfl) g (p.1 * 256) (p.2.map bv).toArray (by rfl) (by rfl) HD.out.good HFIT.out (by rw [HPS.out]; exact size_sec) HONE.out ?_
            intro v21 hW hB
            have HD3 := Lib.hid (HSEC.out _ _ HD.out hW (by simpa using hB))
            have HO3 := Lib.hid (HO2.out.trans (Only.wrote (S := (· = g)) hW rfl))
            clear hW hB HD
            refine hK _ _ HS.out (fun _ => ?_)
            clear hK K
            try simp only [Act.put, List.setIfInBounds_toArray, List.set_cons_succ, List.set_cons_zero]
            refine wpAnyH_done (by kernel_rfl) ?_ _
            have HD := HD3
            have HO2 := HO3
            clear HD3 HO3 c0 e0 BX
            go_wp2
            go_roundw
            case rel => exact ⟨k + 1, by have := HK.out; omega, by go_num, HD.out, HO2.out⟩
            case measure => have := HK.out; simp [intOf]; omega
      | false =>
        have HST := Lib.hid (show settleTo S.good S.wait pk (k + 1) = settleTo S.good S.wait pk k by have q := HST0.out; rw [if_neg (by rw [hpk]; decide)] at q; exact q)
        clear hpk
        go_wp2
        go_roundw
        case rel => exact ⟨k + 1, by have := HK.out; omega, by go_num, by show DiskAt _ b g n _ { S with good := settleTo S.good S.wait pk (k + 1) }; rw [HST.out]; exact HD.out, HO2.out⟩
        case measure => have := HK.out; simp [intOf]; omega
    · obtain rfl : k = m := by omega
      obtain ⟨W, a, c, e, hcl, hOc, hrow, hn, hs⟩ := clear_row (by have q := HD.out.wait; rw [HM.out] at q; exact q : wr.ownsRow 0 67 257 (.slice va S.wait.length vc) S.wait.length (wcells S.wait))
      simp only [Value.slice.injEq] at e
      obtain ⟨rfl, _, rfl⟩ := e
      rw [← HM.out] at hcl hOc hn
      have hend := settle_end HD.out hOc _ hrow (fun k e => by cases va <;> exact e)
      have c1 := HD.out.c1
      have c1W := hend.2.2.1
      have f1W := hend.2.2.2
      have HE := Lib.hid hend
      have HSE := Lib.hid (show settleTo S.good S.wait pk k = settle S.good S.wait pk by rw [HM.out]; rfl)
      clear hOc hrow hend hlt
      cases va with
      | none =>
        obtain ⟨rfl, rfl⟩ := hn rfl
        clear hn hs
        go_wp2
        go_end0
        refine ⟨⟨_, rfl⟩, _, ?_, (HO.out.mono fun k e => .inr (.inl e)).trans HE.out.2.1, fun k e => e⟩
        rw [← HSE.out]; exact HE.out.1
      | some q =>
        obtain ⟨gw, rfl⟩ := hs q rfl
        clear hn hs
        go_wp2
        go_end0
        refine ⟨⟨_, rfl⟩, .slice (some ⟨gw, 0, none⟩) 0 vc, ?_, (HO.out.mono fun k e => .inr (.inl e)).trans HE.out.2.1, fun k e => e⟩
        rw [← HSE.out]; exact HE.out.1
set_option maxRecDepth 100000 in
set_option maxHeartbeats 2000000 in
theorem settles_crash {b g n : Nat} {v : Value} {S : DS} (pb : Nat) (pk : Nat → Bool) (w : World) (h : DiskAt w b g n v S) (hlen : S.wait.length ≤ 1000000)
    (hpk : ∀ (k : Nat) W, Only (· = g) w W → Calls Try.prog 41 #[.int .i64 (k : Nat), .pointer (some ⟨pb, 0, none⟩)] W fun e W' => e = .returned (.bool (pk k)) ∧ W' = W) :
    Calls Try.prog 38 #[.pointer (some ⟨b, 0, none⟩), .func (.func 41) #[] #[.pointer (some ⟨pb, 0, none⟩)]] w fun e w' => (∃ u, e = .returned u) ∧ ∃ v', DiskAt w' b g n v' { S with good := settle S.good S.wait pk, wait := [] } ∧ Only (Foot b g v) w w' ∧ ∀ k, v'.ownBlock = some k → v.ownBlock = some k := by
  obtain ⟨va, vc, rfl, _, _, hnil, hsome⟩ := row_form h.wait
  have H := Lib.hid h
  have HPK := Lib.hid hpk
  have HSOME := Lib.hid hsome
  have c1 := h.c1
  have hlg := h.ok.len
  obtain ⟨m, hm⟩ : ∃ m, m = S.wait.length := ⟨_, rfl⟩
  have HM := Lib.hid hm
  have hm6 : m ≤ 1000000 := by omega
  rw [← hm] at c1 ⊢
  clear h hpk hsome hlen hnil hlg hm
  go_enter Try.func38, Try.ntmps38
  go_wp2
  go_loopw [11] (fun x wr => ∃ k : Nat, k ≤ m ∧ x = .int .i64 (k : Nat) ∧ Hid (DiskAt wr b g n (.slice va m vc) { S with good := settleTo S.good S.wait pk k }) ∧ Hid (Only (· = g) w wr)) (fun x _ => m - (intOf x).toNat)
  case atStart => exact ⟨0, Nat.zero_le _, rfl, by have q := H.out; rw [← HM.out] at q; exact q, Only.refl _ _⟩
  case round =>
    obtain ⟨k, hk, rfl, HD, HO⟩ := hrel
    by_cases hlt : k < m
    · have HK := Lib.hid hlt
      have c1 := HD.out.c1
      obtain ⟨gw, cur, rfl, hcB, hcs, hct, hcn⟩ := row_at (by have q := HD.out.wait; rw [HM.out] at q; exact q : wr.ownsRow 0 67 257 (.slice va S.wait.length vc) S.wait.length (wcells S.wait)) (by rw [← HM.out]; omega)
      obtain ⟨p, hp⟩ : ∃ p, p = S.wait.getD k (0, []) := ⟨_, rfl⟩
      have hkl : k < S.wait.length := by rw [← HM.out]; exact hlt
      have hpm : p ∈ S.wait := by rw [hp, getD_of hkl]; exact List.getElem_mem _
      have hwt := H.out.ok.wt p hpm
      have HCS := Lib.hid (show ∀ i, i < (wcell p).length → cur[k * 257 + i]? = (wcell p)[i]? by rw [hp]; exact wait_elem (fun p hp => (H.out.ok.wt p hp).2) hct k hkl)
      have HCB := Lib.hid hcB
      have HWL := Lib.hid (show (Try.prog.info? 67).map (·.size) = some (wcell p).length by rw [wcell_len hwt.2]; exact size_wr)
      have HWS := Lib.hid (show (Try.prog.info? 67).map (·.size) = some (wcell p).toArray.size by rw [List.size_toArray, wcell_len hwt.2]; exact size_wr)
      have HWZ := Lib.hid (show (257 : Nat) = (wcell p).toArray.size by rw [List.size_toArray, wcell_len hwt.2])
      have HW1 := Lib.hid (show (wcell p).toArray.all (·.oneCell') = true by simp [wcell, Value.oneCell'])
      have HP2 := Lib.hid (show (p.2.map bv).length = 256 by rw [List.length_map]; exact hwt.2)
      have HPS := Lib.hid (show (p.2.map bv).toArray.size = 256 by rw [List.size_toArray, List.length_map]; exact hwt.2)
      have HONE := Lib.hid (barr_one_all p.2)
      have HSUB := Lib.hid (show ∀ i, i < (p.2.map bv).length → (wcell p).toArray[1 + i]? = (p.2.map bv)[i]? from fun i hi => by simp [wcell, Nat.add_comm 1 i])
      have HSOK := Lib.hid (settled_ok H.out.ok pk k (by omega))
      have HFIT := Lib.hid (show p.1 * 256 + (p.2.map bv).toArray.size ≤ (barr (settleTo S.good S.wait pk k).flatten).size by
        have h1 := hwt.1
        rw [HPS.out, barr_size, flat_size HSOK.out.sec, HSOK.out.len]; omega)
      have hpn : (p.1 : Int) < (n : Int) := by have := hwt.1; omega
      have hst := settleTo_succ S.good S.wait pk k
      have hset : settleTo S.good S.wait pk (k + 1) = stepG S.wait pk (settleTo S.good S.wait pk k) k := hst
      unfold stepG at hst
      rw [← hp] at hst
      have HST0 := Lib.hid hst
      have HOK1 := Lib.hid (settled_ok H.out.ok pk (k + 1) hkl)
      have HPN := Lib.hid hwt.1
      have HL2 := Lib.hid hwt.2
      clear hcB hcs hct hcn hp hkl hpm hwt hst hset hlt
      have hzw := zero_wr
      go_wp2_with (first | (refine wpList_load_sub rfl 67 (.tmp 14) rfl gw (k * 257) rfl HCB.out (wcell p) HCS.out _ Try.underlying67 rfl HWL.out ?_) | (refine wpList_store_abs rfl 67 (.tmp 5) (.tmp 15) (by rfl) wr.heap.size (wcell p).toArray (by rfl) (by rfl) 67 _ (Blk.new wr _ _) HWS.out (by rw [← HWZ.out]; simp) HW1.out ?_; intro w6 hW hB5; have hb6 := hW.below (below_one' wr _) (Nat.le_refl _); have HD := Lib.hid (HD.out.on hb6); have HO2 := Lib.hid (HO.out.trans (Only.of_below (S := (· = g)) hb6)); have BX := Lib.hid hB5; clear hW hb6 hB5 HCB))
      clear hzw
      generalize wr.heap.size = bx at *
      refine (HPK.out k _ HO2.out).mono ?_
      rintro e w7 ⟨rfl, rfl⟩
      cases hpk : pk k with
      | true =>
        have HST := Lib.hid (show settleTo S.good S.wait pk (k + 1) = (settleTo S.good S.wait pk k).set p.1 p.2 by have q := HST0.out; rw [if_pos hpk] at q; exact q)
        have HSEC := Lib.hid (show ∀ x W : World, DiskAt x b g n (.slice (some ⟨gw, 0, none⟩) m vc) { S with good := settleTo S.good S.wait pk k } → Wrote x W g → Blk W g (splice (barr (settleTo S.good S.wait pk k).flatten).toList (p.1 * 256) (p.2.map bv)).toArray 65 → DiskAt W b g n (.slice (some ⟨gw, 0, none⟩) m vc) { S with good := settleTo S.good S.wait pk (k + 1) } from fun x W hx hW hB => hx.sec hW (by
          rw [splice_bv, flat_set HSOK.out.sec p.1 (by rw [HSOK.out.len]; exact HPN.out) p.2 HL2.out, ← HST.out] at hB
          exact hB) HOK1.out rfl rfl rfl rfl)
        clear hpk
        go_wp2_with fail
        refine wp_region_held_drew (S := fun _ => True) (by kernel_rfl) True.intro (fun _ => ?_)
        have HS := Lib.hid True.intro
        have hb : Below w7.heap.size w7 (World.drew w7) := (Below.refl _ _).drew
        have HD := Lib.hid (HD.out.on hb)
        have BX := Lib.hid (BX.out.on hb)
        have HO2 := Lib.hid (HO2.out.trans (Only.of_below (S := (· = g)) hb))
        clear hb
        generalize World.drew w7 = v0 at *
        have c0 := HD.out.c0
        have e0 : v0.cell? ⟨bx, 0, none⟩ = some (.int .i64 (p.1 : Nat)) := BX.out.cell 0 rfl
        try simp only [Act.put, List.setIfInBounds_toArray, List.set_cons_succ, List.set_cons_zero]
        refine wpAnyH_take (i := 0) (oi := ⟨some 19, .move (.tmp 0), _, _, _, none⟩) (v := .pointer (some ⟨b, 0, none⟩)) rfl (by kernel_rfl) (by kernel_rfl) (by kernel_rfl) (fun _ _ _ h => h) (Or.inl ⟨by rfl, fun _ _ => by go_simp⟩) HS.out ?_
        try simp only [Act.put, List.setIfInBounds_toArray, List.set_cons_succ, List.set_cons_zero]
        refine wpAnyH_take (i := 1) (oi := ⟨some 20, .nilCheck (.tmp 19), _, _, _, none⟩) (v := .pointer (some ⟨b, 0, none⟩)) rfl (by kernel_rfl) (by kernel_rfl) (by kernel_rfl) (fun _ _ _ h => h) (Or.inl ⟨by rfl, fun _ _ => by go_simp⟩) HS.out ?_
        try simp only [Act.put, List.setIfInBounds_toArray, List.set_cons_succ, List.set_cons_zero]
        refine wpAnyH_take (i := 2) (oi := ⟨some 21, .fieldAddr 62 (.tmp 20) 0, _, _, _, none⟩) (v := .pointer (some ⟨b, 0, none⟩)) rfl (by kernel_rfl) (by kernel_rfl) (by kernel_rfl) (fun _ _ _ h => h) (Or.inl ⟨by rfl, fun _ _ => by go_simp⟩) HS.out ?_
        try simp only [Act.put, List.setIfInBounds_toArray, List.set_cons_succ, List.set_cons_zero]
        refine wpAnyH_take (i := 4) (oi := ⟨some 23, .fieldAddr 67 (.tmp 5) 0, _, _, _, none⟩) (v := .pointer (some ⟨bx, 0, none⟩)) rfl (by kernel_rfl) (by kernel_rfl) (by kernel_rfl) (fun _ _ _ h => h) (Or.inl ⟨by rfl, fun _ _ => by go_simp⟩) HS.out ?_
        try simp only [Act.put, List.setIfInBounds_toArray, List.set_cons_succ, List.set_cons_zero]
        refine wpAnyH_take (i := 6) (oi := ⟨some 25, .fieldAddr 67 (.tmp 5) 1, _, _, _, none⟩) (v := .pointer (some ⟨bx, 1, none⟩)) rfl (by kernel_rfl) (by kernel_rfl) (by kernel_rfl) (fun _ _ _ h => h) (Or.inl ⟨by rfl, fun _ _ => by go_simp⟩) HS.out ?_
        try simp only [Act.put, List.setIfInBounds_toArray, List.set_cons_succ, List.set_cons_zero]
        refine wpAnyH_ready (rs := [3, 5, 7]) (by kernel_rfl) (by simp) ?_
        refine AllReadyH.cons (o := ⟨some 22, .load 59 (.tmp 21), 59, _, _, none⟩) rfl (fun K hK => ?_) (AllReadyH.cons (o := ⟨some 24, .load 3 (.tmp 23), 3, _, _, none⟩) rfl (fun K hK => ?_) (AllReadyH.cons (o := ⟨some 26, .load 65 (.tmp 25), 65, _, _, none⟩) rfl (fun K hK => ?_) AllReadyH.nil))
        · go_simp
          refine hK _ _ HS.out (fun _ => ?_)
          clear hK K
          try simp only [Act.put, List.setIfInBounds_toArray, List.set_cons_succ, List.set_cons_zero]
          refine wpAnyH_ready (rs := [5, 7]) (by kernel_rfl) (by simp) ?_
          refine AllReadyH.cons (o := ⟨some 24, .load 3 (.tmp 23), 3, _, _, none⟩) rfl (fun K hK => ?_) (AllReadyH.cons (o := ⟨some 26, .load 65 (.tmp 25), 65, _, _, none⟩) rfl (fun K hK => ?_) AllReadyH.nil)
          · go_simp
            refine hK _ _ HS.out (fun _ => ?_)
            clear hK K
            try simp only [Act.put, List.setIfInBounds_toArray, List.set_cons_succ, List.set_cons_zero]
            refine wpAnyH_ready (rs := [7]) (by kernel_rfl) (by simp) ?_
            refine AllReadyH.cons (o := ⟨some 26, .load 65 (.tmp 25), 65, _, _, none⟩) rfl (fun K hK => ?_) AllReadyH.nil
            refine wp_load_sub 65 (.tmp 25) (by rfl) bx 1 (by rfl) BX.out (p.2.map bv) HSUB.out _ Try.underlying65 rfl (by rw [HP2.out]; exact size_sec) ?_
            refine hK _ _ HS.out (fun _ => ?_)
            clear hK K
            try simp only [Act.put, List.setIfInBounds_toArray, List.set_cons_succ, List.set_cons_zero]
            refine wpAnyH_take (i := 8) (oi := ⟨some 27, .indexAddr 59 (.tmp 22) (.tmp 24), _, _, _, none⟩) (v := .pointer (some ⟨g, p.1 * 256, none⟩)) rfl (by kernel_rfl) (by kernel_rfl) (by kernel_rfl) (fun _ _ _ h => h) (Or.inl ⟨by rfl, fun _ _ => by go_simp⟩) HS.out ?_
            try simp only [Act.put, List.setIfInBounds_toArray, List.set_cons_succ, List.set_cons_zero]
            refine wpAnyH_ready (rs := [9]) (by kernel_rfl) (by simp) ?_
            refine AllReadyH.cons (o := ⟨none, .store 65 (.tmp 27) (.tmp 26), _, _, _, none⟩) rfl (fun K hK => ?_) AllReadyH.nil
            refine wp_store_sub 65 (.tmp 27) (.tmp 26) (by rfl) g (p.1 * 256) (p.2.map bv).toArray (by rfl) (by rfl) HD.out.good HFIT.out (by rw [HPS.out]; exact size_sec) HONE.out ?_
            intro v4 hW hB
            have HD3 := Lib.hid (HSEC.out _ _ HD.out hW (by simpa using hB))
            have HO3 := Lib.hid (HO2.out.trans (Only.wrote (S := (· = g)) hW rfl))
            clear hW hB HD
            refine hK _ _ HS.out (fun _ => ?_)
            clear hK K
            try simp only [Act.put, List.setIfInBounds_toArray, List.set_cons_succ, List.set_cons_zero]
            refine wpAnyH_done (by kernel_rfl) ?_ _
            have HD := HD3
            have HO2 := HO3
            clear HD3 HO3 c0 e0 BX
            go_wp2
            go_roundw
            case rel => exact ⟨k + 1, by have := HK.out; omega, by go_num, HD.out, HO2.out⟩
            case measure => have := HK.out; simp [intOf]; omega
          · refine wp_load_sub 65 (.tmp 25) (by rfl) bx 1 (by rfl) BX.out (p.2.map bv) HSUB.out _ Try.underlying65 rfl (by rw [HP2.out]; exact size_sec) ?_
            refine hK _ _ HS.out (fun _ => ?_)
            clear hK K
            try simp only [Act.put, List.setIfInBounds_toArray, List.set_cons_succ, List.set_cons_zero]
            refine wpAnyH_ready (rs := [5]) (by kernel_rfl) (by simp) ?_
            refine AllReadyH.cons (o := ⟨some 24, .load 3 (.tmp 23), 3, _, _, none⟩) rfl (fun K hK => ?_) AllReadyH.nil
            go_simp
            refine hK _ _ HS.out (fun _ => ?_)
            clear hK K
            try simp only [Act.put, List.setIfInBounds_toArray, List.set_cons_succ, List.set_cons_zero]
            refine wpAnyH_take (i := 8) (oi := ⟨some 27, .indexAddr 59 (.tmp 22) (.tmp 24), _, _, _, none⟩) (v := .pointer (some ⟨g, p.1 * 256, none⟩)) rfl (by kernel_rfl) (by kernel_rfl) (by kernel_rfl) (fun _ _ _ h => h) (Or.inl ⟨by rfl, fun _ _ => by go_simp⟩) HS.out ?_
            try simp only [Act.put, List.setIfInBounds_toArray, List.set_cons_succ, List.set_cons_zero]
            refine wpAnyH_ready (rs := [9]) (by kernel_rfl) (by simp) ?_
            refine AllReadyH.cons (o := ⟨none, .store 65 (.tmp 27) (.tmp 26), _, _, _, none⟩) rfl (fun K hK => ?_) AllReadyH.nil
            refine wp_store_sub 65 (.tmp 27) (.tmp 26) (by rfl) g (p.1 * 256) (p.2.map bv).toArray (by rfl) (by rfl) HD.out.good HFIT.out (by rw [HPS.out]; exact size_sec) HONE.out ?_
            intro v7 hW hB
            have HD3 := Lib.hid (HSEC.out _ _ HD.out hW (by simpa using hB))
            have HO3 := Lib.hid (HO2.out.trans (Only.wrote (S := (· = g)) hW rfl))
            clear hW hB HD
            refine hK _ _ HS.out (fun _ => ?_)
            clear hK K
            try simp only [Act.put, List.setIfInBounds_toArray, List.set_cons_succ, List.set_cons_zero]
            refine wpAnyH_done (by kernel_rfl) ?_ _
            have HD := HD3
            have HO2 := HO3
            clear HD3 HO3 c0 e0 BX
            go_wp2
            go_roundw
            case rel => exact ⟨k + 1, by have := HK.out; omega, by go_num, HD.out, HO2.out⟩
            case measure => have := HK.out; simp [intOf]; omega
        · go_simp
          refine hK _ _ HS.out (fun _ => ?_)
          clear hK K
          try simp only [Act.put, List.setIfInBounds_toArray, List.set_cons_succ, List.set_cons_zero]
          refine wpAnyH_ready (rs := [3, 7]) (by kernel_rfl) (by simp) ?_
          refine AllReadyH.cons (o := ⟨some 22, .load 59 (.tmp 21), 59, _, _, none⟩) rfl (fun K hK => ?_) (AllReadyH.cons (o := ⟨some 26, .load 65 (.tmp 25), 65, _, _, none⟩) rfl (fun K hK => ?_) AllReadyH.nil)
          · go_simp
            refine hK _ _ HS.out (fun _ => ?_)
            clear hK K
            try simp only [Act.put, List.setIfInBounds_toArray, List.set_cons_succ, List.set_cons_zero]
            refine wpAnyH_ready (rs := [7]) (by kernel_rfl) (by simp) ?_
            refine AllReadyH.cons (o := ⟨some 26, .load 65 (.tmp 25), 65, _, _, none⟩) rfl (fun K hK => ?_) AllReadyH.nil
            refine wp_load_sub 65 (.tmp 25) (by rfl) bx 1 (by rfl) BX.out (p.2.map bv) HSUB.out _ Try.underlying65 rfl (by rw [HP2.out]; exact size_sec) ?_
            refine hK _ _ HS.out (fun _ => ?_)
            clear hK K
            try simp only [Act.put, List.setIfInBounds_toArray, List.set_cons_succ, List.set_cons_zero]
            refine wpAnyH_take (i := 8) (oi := ⟨some 27, .indexAddr 59 (.tmp 22) (.tmp 24), _, _, _, none⟩) (v := .pointer (some ⟨g, p.1 * 256, none⟩)) rfl (by kernel_rfl) (by kernel_rfl) (by kernel_rfl) (fun _ _ _ h => h) (Or.inl ⟨by rfl, fun _ _ => by go_simp⟩) HS.out ?_
            try simp only [Act.put, List.setIfInBounds_toArray, List.set_cons_succ, List.set_cons_zero]
            refine wpAnyH_ready (rs := [9]) (by kernel_rfl) (by simp) ?_
            refine AllReadyH.cons (o := ⟨none, .store 65 (.tmp 27) (.tmp 26), _, _, _, none⟩) rfl (fun K hK => ?_) AllReadyH.nil
            refine wp_store_sub 65 (.tmp 27) (.tmp 26) (by rfl) g (p.1 * 256) (p.2.map bv).toArray (by rfl) (by rfl) HD.out.good HFIT.out (by rw [HPS.out]; exact size_sec) HONE.out ?_
            intro v11 hW hB
            have HD3 := Lib.hid (HSEC.out _ _ HD.out hW (by simpa using hB))
            have HO3 := Lib.hid (HO2.out.trans (Only.wrote (S := (· = g)) hW rfl))
            clear hW hB HD
            refine hK _ _ HS.out (fun _ => ?_)
            clear hK K
            try simp only [Act.put, List.setIfInBounds_toArray, List.set_cons_succ, List.set_cons_zero]
            refine wpAnyH_done (by kernel_rfl) ?_ _
            have HD := HD3
            have HO2 := HO3
            clear HD3 HO3 c0 e0 BX
            go_wp2
            go_roundw
            case rel => exact ⟨k + 1, by have := HK.out; omega, by go_num, HD.out, HO2.out⟩
            case measure => have := HK.out; simp [intOf]; omega
          · refine wp_load_sub 65 (.tmp 25) (by rfl) bx 1 (by rfl) BX.out (p.2.map bv) HSUB.out _ Try.underlying65 rfl (by rw [HP2.out]; exact size_sec) ?_
            refine hK _ _ HS.out (fun _ => ?_)
            clear hK K
            try simp only [Act.put, List.setIfInBounds_toArray, List.set_cons_succ, List.set_cons_zero]
            refine wpAnyH_ready (rs := [3]) (by kernel_rfl) (by simp) ?_
            refine AllReadyH.cons (o := ⟨some 22, .load 59 (.tmp 21), 59, _, _, none⟩) rfl (fun K hK => ?_) AllReadyH.nil
            go_simp
            refine hK _ _ HS.out (fun _ => ?_)
            clear hK K
            try simp only [Act.put, List.setIfInBounds_toArray, List.set_cons_succ, List.set_cons_zero]
            refine wpAnyH_take (i := 8) (oi := ⟨some 27, .indexAddr 59 (.tmp 22) (.tmp 24), _, _, _, none⟩) (v := .pointer (some ⟨g, p.1 * 256, none⟩)) rfl (by kernel_rfl) (by kernel_rfl) (by kernel_rfl) (fun _ _ _ h => h) (Or.inl ⟨by rfl, fun _ _ => by go_simp⟩) HS.out ?_
            try simp only [Act.put, List.setIfInBounds_toArray, List.set_cons_succ, List.set_cons_zero]
            refine wpAnyH_ready (rs := [9]) (by kernel_rfl) (by simp) ?_
            refine AllReadyH.cons (o := ⟨none, .store 65 (.tmp 27) (.tmp 26), _, _, _, none⟩) rfl (fun K hK => ?_) AllReadyH.nil
            refine wp_store_sub 65 (.tmp 27) (.tmp 26) (by rfl) g (p.1 * 256) (p.2.map bv).toArray (by rfl) (by rfl) HD.out.good HFIT.out (by rw [HPS.out]; exact size_sec) HONE.out ?_
            intro v14 hW hB
            have HD3 := Lib.hid (HSEC.out _ _ HD.out hW (by simpa using hB))
            have HO3 := Lib.hid (HO2.out.trans (Only.wrote (S := (· = g)) hW rfl))
            clear hW hB HD
            refine hK _ _ HS.out (fun _ => ?_)
            clear hK K
            try simp only [Act.put, List.setIfInBounds_toArray, List.set_cons_succ, List.set_cons_zero]
            refine wpAnyH_done (by kernel_rfl) ?_ _
            have HD := HD3
            have HO2 := HO3
            clear HD3 HO3 c0 e0 BX
            go_wp2
            go_roundw
            case rel => exact ⟨k + 1, by have := HK.out; omega, by go_num, HD.out, HO2.out⟩
            case measure => have := HK.out; simp [intOf]; omega
        · refine wp_load_sub 65 (.tmp 25) (by rfl) bx 1 (by rfl) BX.out (p.2.map bv) HSUB.out _ Try.underlying65 rfl (by rw [HP2.out]; exact size_sec) ?_
          refine hK _ _ HS.out (fun _ => ?_)
          clear hK K
          try simp only [Act.put, List.setIfInBounds_toArray, List.set_cons_succ, List.set_cons_zero]
          refine wpAnyH_ready (rs := [3, 5]) (by kernel_rfl) (by simp) ?_
          refine AllReadyH.cons (o := ⟨some 22, .load 59 (.tmp 21), 59, _, _, none⟩) rfl (fun K hK => ?_) (AllReadyH.cons (o := ⟨some 24, .load 3 (.tmp 23), 3, _, _, none⟩) rfl (fun K hK => ?_) AllReadyH.nil)
          · go_simp
            refine hK _ _ HS.out (fun _ => ?_)
            clear hK K
            try simp only [Act.put, List.setIfInBounds_toArray, List.set_cons_succ, List.set_cons_zero]
            refine wpAnyH_ready (rs := [5]) (by kernel_rfl) (by simp) ?_
            refine AllReadyH.cons (o := ⟨some 24, .load 3 (.tmp 23), 3, _, _, none⟩) rfl (fun K hK => ?_) AllReadyH.nil
            go_simp
            refine hK _ _ HS.out (fun _ => ?_)
            clear hK K
            try simp only [Act.put, List.setIfInBounds_toArray, List.set_cons_succ, List.set_cons_zero]
            refine wpAnyH_take (i := 8) (oi := ⟨some 27, .indexAddr 59 (.tmp 22) (.tmp 24), _, _, _, none⟩) (v := .pointer (some ⟨g, p.1 * 256, none⟩)) rfl (by kernel_rfl) (by kernel_rfl) (by kernel_rfl) (fun _ _ _ h => h) (Or.inl ⟨by rfl, fun _ _ => by go_simp⟩) HS.out ?_
            try simp only [Act.put, List.setIfInBounds_toArray, List.set_cons_succ, List.set_cons_zero]
            refine wpAnyH_ready (rs := [9]) (by kernel_rfl) (by simp) ?_
            refine AllReadyH.cons (o := ⟨none, .store 65 (.tmp 27) (.tmp 26), _, _, _, none⟩) rfl (fun K hK => ?_) AllReadyH.nil
            refine wp_store_sub 65 (.tmp 27) (.tmp 26) (by rfl) g (p.1 * 256) (p.2.map bv).toArray (by rfl) (by rfl) HD.out.good HFIT.out (by rw [HPS.out]; exact size_sec) HONE.out ?_
            intro v18 hW hB
            have HD3 := Lib.hid (HSEC.out _ _ HD.out hW (by simpa using hB))
            have HO3 := Lib.hid (HO2.out.trans (Only.wrote (S := (· = g)) hW rfl))
            clear hW hB HD
            refine hK _ _ HS.out (fun _ => ?_)
            clear hK K
            try simp only [Act.put, List.setIfInBounds_toArray, List.set_cons_succ, List.set_cons_zero]
            refine wpAnyH_done (by kernel_rfl) ?_ _
            have HD := HD3
            have HO2 := HO3
            clear HD3 HO3 c0 e0 BX
            go_wp2
            go_roundw
            case rel => exact ⟨k + 1, by have := HK.out; omega, by go_num, HD.out, HO2.out⟩
            case measure => have := HK.out; simp [intOf]; omega
          · go_simp
            refine hK _ _ HS.out (fun _ => ?_)
            clear hK K
            try simp only [Act.put, List.setIfInBounds_toArray, List.set_cons_succ, List.set_cons_zero]
            refine wpAnyH_ready (rs := [3]) (by kernel_rfl) (by simp) ?_
            refine AllReadyH.cons (o := ⟨some 22, .load 59 (.tmp 21), 59, _, _, none⟩) rfl (fun K hK => ?_) AllReadyH.nil
            go_simp
            refine hK _ _ HS.out (fun _ => ?_)
            clear hK K
            try simp only [Act.put, List.setIfInBounds_toArray, List.set_cons_succ, List.set_cons_zero]
            refine wpAnyH_take (i := 8) (oi := ⟨some 27, .indexAddr 59 (.tmp 22) (.tmp 24), _, _, _, none⟩) (v := .pointer (some ⟨g, p.1 * 256, none⟩)) rfl (by kernel_rfl) (by kernel_rfl) (by kernel_rfl) (fun _ _ _ h => h) (Or.inl ⟨by rfl, fun _ _ => by go_simp⟩) HS.out ?_
            try simp only [Act.put, List.setIfInBounds_toArray, List.set_cons_succ, List.set_cons_zero]
            refine wpAnyH_ready (rs := [9]) (by kernel_rfl) (by simp) ?_
            refine AllReadyH.cons (o := ⟨none, .store 65 (.tmp 27) (.tmp 26), _, _, _, none⟩) rfl (fun K hK => ?_) AllReadyH.nil
            refine wp_store_sub 65 (.tmp 27) (.tmp 26) (by rfl) g (p.1 * 256) (p.2.map bv).toArray (by rfl) (by rfl) HD.out.good HFIT.out (by rw [HPS.out]; exact size_sec) HONE.out ?_
            intro v21 hW hB
            have HD3 := Lib.hid (HSEC.out _ _ HD.out hW (by simpa using hB))
            have HO3 := Lib.hid (HO2.out.trans (Only.wrote (S := (· = g)) hW rfl))
            clear hW hB HD
            refine hK _ _ HS.out (fun _ => ?_)
            clear hK K
            try simp only [Act.put, List.setIfInBounds_toArray, List.set_cons_succ, List.set_cons_zero]
            refine wpAnyH_done (by kernel_rfl) ?_ _
            have HD := HD3
            have HO2 := HO3
            clear HD3 HO3 c0 e0 BX
            go_wp2
            go_roundw
            case rel => exact ⟨k + 1, by have := HK.out; omega, by go_num, HD.out, HO2.out⟩
            case measure => have := HK.out; simp [intOf]; omega
      | false =>
        have HST := Lib.hid (show settleTo S.good S.wait pk (k + 1) = settleTo S.good S.wait pk k by have q := HST0.out; rw [if_neg (by rw [hpk]; decide)] at q; exact q)
        clear hpk
        go_wp2
        go_roundw
        case rel => exact ⟨k + 1, by have := HK.out; omega, by go_num, by show DiskAt _ b g n _ { S with good := settleTo S.good S.wait pk (k + 1) }; rw [HST.out]; exact HD.out, HO2.out⟩
        case measure => have := HK.out; simp [intOf]; omega
    · obtain rfl : k = m := by omega
      obtain ⟨W, a, c, e, hcl, hOc, hrow, hn, hs⟩ := clear_row (by have q := HD.out.wait; rw [HM.out] at q; exact q : wr.ownsRow 0 67 257 (.slice va S.wait.length vc) S.wait.length (wcells S.wait))
      simp only [Value.slice.injEq] at e
      obtain ⟨rfl, _, rfl⟩ := e
      rw [← HM.out] at hcl hOc hn
      have hend := settle_end HD.out hOc _ hrow (fun k e => by cases va <;> exact e)
      have c1 := HD.out.c1
      have c1W := hend.2.2.1
      have f1W := hend.2.2.2
      have HE := Lib.hid hend
      have HSE := Lib.hid (show settleTo S.good S.wait pk k = settle S.good S.wait pk by rw [HM.out]; rfl)
      clear hOc hrow hend hlt
      cases va with
      | none =>
        obtain ⟨rfl, rfl⟩ := hn rfl
        clear hn hs
        go_wp2
        go_end0
        refine ⟨⟨_, rfl⟩, _, ?_, (HO.out.mono fun k e => .inr (.inl e)).trans HE.out.2.1, fun k e => e⟩
        rw [← HSE.out]; exact HE.out.1
      | some q =>
        obtain ⟨gw, rfl⟩ := hs q rfl
        clear hn hs
        go_wp2
        go_end0
        refine ⟨⟨_, rfl⟩, .slice (some ⟨gw, 0, none⟩) 0 vc, ?_, (HO.out.mono fun k e => .inr (.inl e)).trans HE.out.2.1, fun k e => e⟩
        rw [← HSE.out]; exact HE.out.1
end Go.Proofs.Ytgbahfggnbpnmaa
