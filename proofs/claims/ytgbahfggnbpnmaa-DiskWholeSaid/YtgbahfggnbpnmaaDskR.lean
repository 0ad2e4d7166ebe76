import Derived.Test.YtgbahfggnbpnmaaDskL
/-
  Read.
-/
namespace Go.Proofs.Ytgbahfggnbpnmaa
open Go.RowKit Go.Shelf
attribute [local go_sem] Oper.semAt_some
theorem info_u8r : (Try.prog.info? 5).map (fun i => (i.zero, i.size, i.bytes)) = some (some (.int .u8 0), 1, 1) := by kernel_rfl
theorem rep_bytes (n : Nat) : Array.replicate n (Value.int .u8 0) = barr (List.replicate n 0) := by simp [barr]
theorem run_make_bytes (z : Nat) (hz : z ≤ 1048576) (w : World) : (Instr.makeSlice 30 (.int .i64 (z : Nat)) (.int .i64 (z : Nat))).run Try.prog w = .ok (.slice (some ⟨w.heap.size, 0, none⟩) z z) (w.alloc (.cells (barr (List.replicate z 0)) 5)) := by
  obtain ⟨i, i1, i2, i3, i4⟩ := info_parts info_u8r
  have hr := run_make (P := Try.prog) w 30 5 i (.int .u8 0) Try.underlying30 i1 i2 .i64 .i64 z z (by omega) (by omega) (by rw [i4]; omega) (by omega)
  simp only [Int.toNat_natCast, i3, Nat.mul_one] at hr
  have em : madeCells (Value.int .u8 0).cells z = barr (List.replicate z 0) := by
    rw [← rep_bytes]
    apply Array.ext
    · simp [madeCells, Value.cells]
    · intro j h1 h2; simp [madeCells, Value.cells, Nat.mod_one]
  rw [hr, em]
theorem make256 (w : World) : (Instr.makeSlice 30 (.int .i64 256) (.int .i64 256)).run Try.prog w = .ok (.slice (some ⟨w.heap.size, 0, none⟩) 256 256) (w.alloc (.cells (barr (List.replicate 256 0)) 5)) := run_make_bytes 256 (by omega) w
theorem size_u8r : (Try.prog.info? 5).map (·.size) = some 1 := by kernel_rfl
theorem sec_cells {W : World} {g q : Nat} {G : List Sec} (h : Blk W g (barr G.flatten) 65) (hs : ∀ s, s ∈ G → s.length = 256) (hq : q < G.length) : ∀ j u, ((G.getD q []).map bv)[j]? = some u → W.cell? ⟨g, q * 256 + j, none⟩ = some u := fun j u hu => by
  have hj : j < 256 := by
    have h1 : (G.getD q []).length = 256 := by rw [getD_of hq]; exact hs _ (List.getElem_mem _)
    rcases Nat.lt_or_ge j 256 with h | h
    · exact h
    · rw [List.getElem?_eq_none (by rw [List.length_map, h1]; exact h)] at hu; cases hu
  refine h.cell _ ?_
  rw [← flat_at hs q hq] at hu
  simp only [List.getElem?_map, List.getElem?_take, List.getElem?_drop, if_pos hj] at hu
  simp only [barr, List.getElem?_toArray, List.getElem?_map]
  exact hu
/-- copy of a whole sector into a text of 256 bytes. -/
theorem copy_256 {W : World} {go : Nat} {cur : Array Value} (hO : Blk W go cur 5) (hcur : cur.size = 256) (gs os : Nat) (l : List UInt8) (hl : l.length = 256) (hsrc : ∀ j u, (l.map bv)[j]? = some u → W.cell? ⟨gs, os + j, none⟩ = some u) :
    ∃ X, (∀ ty, (Builtin.copy_ #[30, 30] ty #[.slice (some ⟨go, 0, none⟩) 256 256, .slice (some ⟨gs, os, none⟩) 256 256]).run Try.prog W = .ok (goInt 256) X) ∧ Wrote W X go ∧ Blk X go (barr l) 5 := by
  have hlm : (l.map bv).length = 256 := by rw [List.length_map]; exact hl
  obtain ⟨R, hR⟩ : ∃ R, R = (cur.toList.take 0 ++ l.map bv ++ cur.toList.drop (0 + (l.map bv).length)).toArray := ⟨_, rfl⟩
  have hRb : R = barr l := by
    rw [hR]
    simp only [List.take_zero, List.nil_append, Nat.zero_add]
    rw [List.drop_eq_nil_of_le (by rw [hlm, Array.length_toList, hcur]; exact Nat.le_refl _), List.append_nil]
    rfl
  refine ⟨W.setRow go R, fun ty => ?_, Wrote.row W go R, hRb ▸ hO.setRow R⟩
  have := run_copy_row (P := Try.prog) W 30 30 ty 5 go 0 256 256 ⟨gs, os, none⟩ 256 256 cur 5 (l.map bv) Try.underlying30 size_u8r hO (by rw [hlm]; rfl) (fun j u hu => by rw [Addr.add_mid]; exact hsrc j u hu) (by rw [hlm, hcur]; omega) (fun u hu => by obtain ⟨x, _, rfl⟩ := List.mem_map.1 hu; rfl)
  rw [← hR, hlm] at this
  exact this
set_option maxRecDepth 100000 in
theorem dread_nil (i : Int) (w : World) : Calls Try.prog 29 #[.pointer none, .int .i64 i] w fun e w' => e = .returned (.tuple #[.slice none 0 0, .int .i64 2]) ∧ Below w.heap.size w w' := by
  have hb := below_one' w (.cells #[.int .i64 i] 3)
  have HB := Lib.hid hb
  clear hb
  refine (callsIn_wide (n := 3)).1 ?_
  refine callsIn_of_wp_marks Try.func29 rfl trivial ?_ rfl
  simp only [Try.ntmps29, List.size_toArray, List.length_cons, List.length_nil, Nat.reduceAdd, Nat.reduceSub, Array.replicate_succ, Array.replicate_zero, List.push_toArray, List.append_toArray, List.nil_append, List.cons_append]
  gi_wp2
  refine ⟨trivial, (callsIn_wide.2 (dmay_nil i _)).mono ?_⟩
  rintro e w2 ⟨rfl, rfl⟩
  gi_wp2
  exact ⟨_, results_tmp2 rfl _ _ _, rfl, HB.out⟩
/-- What Read holds between two rounds. -/
structure RdJ (w : World) (bi go D q : Nat) (r : Loop) (l : Sec) (Y : World) : Prop where
  lp : Y.heap[D + 1]? = some (.loop r)
  dfr : Y.heap[D]? = some (.deferred (some []))
  out : Blk Y go (barr l) 5
  box : Blk Y (go + 1) #[.slice (some ⟨go, 0, none⟩) 256 256] 30
  ix : Blk Y bi #[.int .i64 (q : Nat)] 3
  below : Below bi w Y
theorem RdJ.on {w : World} {bi go D q : Nat} {r : Loop} {l : Sec} {Y Z : World} (h : RdJ w bi go D q r l Y) (hb : Below Y.heap.size Y Z) (hbi : bi ≤ Y.heap.size) : RdJ w bi go D q r l Z :=
  ⟨(hb.block _ (Array.getElem?_eq_some_iff.1 h.lp).1).trans h.lp, (hb.block _ (Array.getElem?_eq_some_iff.1 h.dfr).1).trans h.dfr, h.out.on hb, h.box.on hb, h.ix.on hb, h.below.trans (hb.mono hbi)⟩
theorem below_put {n₀ k : Nat} (W : World) (o : Obj) (h : n₀ ≤ k) : Below n₀ W (W.putObj k o) := ⟨rfl, rfl, rfl, by simp, fun i hi => World.putObj_heap_other (by omega)⟩
theorem Only.put {S : Nat → Prop} (A : World) {k : Nat} (o : Obj) (hk : S k) : Only S A (A.putObj k o) := ⟨rfl, rfl, rfl, by simp, fun i hi hn => World.putObj_heap_other (fun e => hn (e ▸ hk))⟩
theorem RdJ.put {w : World} {bi go D q : Nat} {r : Loop} {l : Sec} {Y : World} (h : RdJ w bi go D q r l Y) (hd : bi < go ∧ go + 1 < D) (r' : Loop) : RdJ w bi go D q r' l (Y.putObj (D + 1) (.loop r')) :=
  ⟨World.putObj_heap_same (Array.getElem?_eq_some_iff.1 h.lp).1, (World.putObj_heap_other (by omega)).trans h.dfr, (World.putObj_heap_other (by omega)).trans h.out, (World.putObj_heap_other (by omega)).trans h.box, (World.putObj_heap_other (by omega)).trans h.ix, h.below.trans (below_put _ _ (by omega))⟩
theorem RdJ.wrote {w : World} {bi go D q : Nat} {r : Loop} {l l' : Sec} {Y Z : World} (h : RdJ w bi go D q r l Y) (hd : bi < go ∧ go + 1 < D) (hW : Wrote Y Z go) (hZ : Blk Z go (barr l') 5) : RdJ w bi go D q r l' Z := by
  have hO : Only (· = go) Y Z := Only.wrote hW rfl
  exact ⟨(hO.same _ (Array.getElem?_eq_some_iff.1 h.lp).1 (fun e => by omega)).trans h.lp, (hO.same _ (Array.getElem?_eq_some_iff.1 h.dfr).1 (fun e => by omega)).trans h.dfr, hZ, hW.blk h.box (by omega), hW.blk h.ix (by omega), hW.below h.below (by omega)⟩
def RdA (w : World) (bi go D q : Nat) (r : Loop) (l : Sec) (pre : List Wt) (Y : World) : Prop := (∀ p, p ∈ pre → p.1 ≠ q) ∧ RdJ w bi go D q r l Y
def RdZ (w : World) (bi go D q : Nat) (r : Loop) (pre : List Wt) (Y : World) : Prop := ∃ p0 x, pre = p0 ++ [x] ∧ (∀ p, p ∈ p0 → p.1 ≠ q) ∧ x.1 = q ∧ RdJ w bi go D q r x.2 Y
theorem latest_fold (S : DS) (q : Nat) : S.latest q = S.wait.reverse.foldr (fun p b => pickW q b p) (S.good.getD q []) := by
  unfold DS.latest; rw [List.foldl_eq_foldr_reverse]
theorem pick_none {q : Nat} : ∀ {l : List Wt}, (∀ p, p ∈ l → p.1 ≠ q) → ∀ b, l.foldr (fun p b => pickW q b p) b = b := by
  intro l
  induction l with
  | nil => intro _ b; rfl
  | cons p l ih =>
    intro h b
    rw [List.foldr_cons, ih (fun p hp => h p (by simp [hp]))]
    unfold pickW
    rw [if_neg (h p (by simp))]
theorem latest_none {S : DS} {q : Nat} (h : ∀ p, p ∈ S.wait.reverse → p.1 ≠ q) : S.latest q = S.good.getD q [] := by
  rw [latest_fold, pick_none h]
theorem latest_some {S : DS} {q : Nat} {p0 : List Wt} {x : Wt} (h : p0 ++ [x] <+: S.wait.reverse) (h0 : ∀ p, p ∈ p0 → p.1 ≠ q) (hx : x.1 = q) : S.latest q = x.2 := by
  obtain ⟨t, ht⟩ := h
  rw [latest_fold, ← ht, List.append_assoc, List.foldr_append, pick_none h0, List.singleton_append, List.foldr_cons]
  unfold pickW
  rw [if_pos hx]
set_option maxRecDepth 100000 in
set_option maxHeartbeats 2000000 in
theorem dread_at {b g n : Nat} {v : Value} {S : DS} (i : Int) (w : World) (h : DiskAt w b g n v S) (hlen : S.wait.length ≤ 1000000) :
    Calls Try.prog 29 #[.pointer (some ⟨b, 0, none⟩), .int .i64 i] w fun e w' => ∃ u, e = .returned (.tuple #[u, .int .i64 (S.read i).2]) ∧ OwnB w' w.heap.size u (S.read i).1 ∧ Below w.heap.size w w' := by
  have hb := below_one' w (.cells #[.int .i64 i] 3)
  have HB := Lib.hid hb
  have HD := Lib.hid (h.on hb)
  have HF := Lib.hid (show ∀ k, Foot b g v k → k < w.heap.size from fun k hk => h.foot_lt hk)
  have HI := Lib.hid (Blk.new w #[.int .i64 i] 3)
  have hlg := h.ok.len
  have HLN := Lib.hid hlen
  clear h hb hlen
  refine (callsIn_wide (n := 3)).1 ?_
  refine callsIn_of_wp_marks Try.func29 rfl trivial ?_ rfl
  simp only [Try.ntmps29, List.size_toArray, List.length_cons, List.length_nil, Nat.reduceAdd, Nat.reduceSub, Array.replicate_succ, Array.replicate_zero, List.push_toArray, List.append_toArray, List.nil_append, List.cons_append]
  gi_wp2
  refine ⟨trivial, (callsIn_wide.2 (dmay_at i _ HD.out)).mono ?_⟩
  rintro e w2 ⟨rfl, rfl⟩
  generalize hbi : w.heap.size = bi at *
  generalize w.alloc _ = w1 at *
  by_cases hout : S.out i
  · have HE := Lib.hid (show S.read i = ([], 1) from if_pos hout)
    rw [show S.mayE i = 1 from if_pos hout]
    clear hout
    gi_wp2
    exact ⟨_, results_tmp2 rfl _ _ _, _, rfl.trans (by rw [HE.out]; rfl), by rw [HE.out]; exact OwnB.nil _ _, by rw [hbi]; exact HB.out⟩
  rw [show S.mayE i = 0 from if_neg hout]
  have c2 := HD.out.c2
  cases hg : S.gone with
  | true =>
    have HE := Lib.hid (show S.read i = ([], 5) by unfold DS.read; rw [if_neg hout, if_pos hg])
    rw [hg] at c2
    clear hout hg
    gi_wp2
    exact ⟨_, results_tmp2 rfl _ _ _, _, rfl.trans (by rw [HE.out]; rfl), by rw [HE.out]; exact OwnB.nil _ _, by rw [hbi]; exact HB.out⟩
  | false =>
    rw [hg] at c2
    obtain ⟨zl, hzl⟩ : ∃ zl : List UInt8, zl = List.replicate 256 0 := ⟨_, rfl⟩
    have hmk := make256
    rw [← hzl] at hmk
    have HZ := Lib.hid (show zl.length = 256 by rw [hzl]; exact List.length_replicate)
    obtain ⟨q, rfl⟩ : ∃ q : Nat, i = q := ⟨i.toNat, by unfold DS.out at hout; omega⟩
    have hq : q < n := by unfold DS.out at hout; omega
    have ci : w1.cell? ⟨bi, 0, none⟩ = some (.int .i64 (q : Nat)) := HI.out.cell 0 rfl
    have HE := Lib.hid (show S.read (q : Nat) = (S.latest q, 0) by unfold DS.read; rw [if_neg hout, if_neg (by rw [hg]; decide)]; simp)
    clear hout hg hzl
    gi_wp2
    have hb2 := below_two w1 (.cells (barr zl) 5) (.cells #[.slice (some ⟨w1.heap.size, 0, none⟩) 256 256] 30)
    have HB2 := Lib.hid hb2
    have HD2 := Lib.hid (HD.out.on hb2)
    have HO := Lib.hid ((Blk.new w1 (barr zl) 5).alloc (.cells #[.slice (some ⟨w1.heap.size, 0, none⟩) 256 256] 30))
    have HX := Lib.hid (Blk.new' (w1.alloc (.cells (barr zl) 5)) #[.slice (some ⟨w1.heap.size, 0, none⟩) 256 256] 30 (g := w1.heap.size + 1) (by simp))
    have HI2 := Lib.hid (HI.out.on hb2)
    generalize (w1.alloc _).alloc _ = W at *
    have c0 := HD2.out.c0
    have ci := HI2.out.cell 0 rfl
    have cx := HX.out.cell 0 rfl
    obtain ⟨sc, hsc⟩ : ∃ sc, sc = S.good.getD q [] := ⟨_, rfl⟩
    have HSC := Lib.hid hsc
    have HSCL := Lib.hid (show sc.length = 256 by rw [hsc, getD_of (by rw [hlg]; exact hq)]; exact HD.out.ok.sec _ (List.getElem_mem _))
    have HSL := Lib.hid (show (S.good.getD q []).length = 256 by rw [getD_of (by rw [hlg]; exact hq)]; exact HD.out.ok.sec _ (List.getElem_mem _))
    obtain ⟨X, hcp, hWX, hX⟩ := copy_256 (W := W.drew) HO.out (by rw [barr_size]; exact HZ.out) g (q * 256) (S.good.getD q []) HSL.out (sec_cells HD2.out.good HD2.out.ok.sec (by rw [hlg]; exact hq))
    have HWX := Lib.hid hWX
    rw [← hsc] at hX
    have HXO := Lib.hid hX
    clear hb2 hmk c2 hWX hX hlg hsc
    gi_region
    have HDX := Lib.hid (HD2.out.keep (F := (· = w1.heap.size)) ((Only.of_below (A := W) (B := W.drew) (Below.refl _ _).drew).trans (Only.wrote HWX.out rfl)) (fun k hk e => by have h1 := HF.out k hk; have h2 := HB.out.size; omega))
    have HIX := Lib.hid (HWX.out.blk (show Blk W.drew bi _ _ from HI2.out) (by have := HI.out.lt; omega))
    have HXX := Lib.hid (HWX.out.blk (show Blk W.drew _ _ _ from HX.out) (by omega))
    have HBX := Lib.hid (HB.out.trans ((HWX.out.below (HB2.out.drew) (Nat.le_refl _)).mono (by have := HI.out.lt; omega)))
    have hgo := HB.out.size
    have hgo2 := HI.out.lt
    generalize w1.heap.size = go at *
    clear hcp
    gi_wp2
    refine ⟨trivial, (callsIn_wide.2 (latest_walk _ _)).mono ?_⟩
    rintro e w5 ⟨rfl, rfl⟩
    gi_wp2
    refine range_stmt rfl (enters_of Try.func49 (by kernel_rfl) rfl) fun r hst hpe hps has hbo htm => ?_
    obtain ⟨W1, hW1⟩ : ∃ x, x = X.alloc (.cells #[.pointer (some ⟨b, 0, none⟩)] 24) := ⟨_, rfl⟩
    have hbX := below_one' X (.cells #[.pointer (some ⟨b, 0, none⟩)] 24)
    have hd1 : Blk W1 X.heap.size #[.pointer (some ⟨b, 0, none⟩)] 24 := by rw [hW1]; exact Blk.new X _ _
    have hgX : go < X.heap.size := HXO.out.lt
    have hsX : W1.heap.size = X.heap.size + 1 := by rw [hW1]; simp
    rw [← hW1] at hbX ⊢
    obtain ⟨D, hD⟩ : ∃ D, D = W1.heap.size := ⟨_, rfl⟩
    rw [← hD]
    have hal : Below W1.heap.size W1 ((W1.alloc (.deferred (some []))).alloc (.loop r)) := ((Below.refl _ W1).alloc (Nat.le_refl _) _).alloc (by simp) _
    obtain ⟨W2, hW2⟩ : ∃ x, x = (W1.alloc (.deferred (some []))).alloc (.loop r) := ⟨_, rfl⟩
    have hl2 : W2.heap[D + 1]? = some (.loop r) := by
      rw [hW2, hD]; have := World.alloc_heap_new (W1.alloc (.deferred (some []))) (.loop r); rwa [World.size_alloc] at this
    have hd2 : W2.heap[D]? = some (.deferred (some [])) := by
      rw [hW2, hD]; exact (Below.heap_alloc _ _ _ (by simp)).trans (World.alloc_heap_new W1 _)
    have hs2 : W2.heap.size = D + 2 := by rw [hW2, hD]; simp
    rw [← hW2] at hal ⊢
    have hb12 := hbX.trans (hal.mono hbX.size)
    have HST := Lib.hid hst
    have HPE := Lib.hid hpe
    have HPS := Lib.hid hps
    have HAS := Lib.hid has
    have HBO := Lib.hid hbo
    have HTM := Lib.hid htm
    have HDG := Lib.hid (show go + 1 < D ∧ X.heap.size + 1 = D by have := HXX.out.lt; omega)
    have HDX2 := Lib.hid (HDX.out.on hb12)
    have HW := Lib.hid (show RdJ w bi go D q r sc W2 from ⟨hl2, hd2, HXO.out.on hb12, HXX.out.on hb12, HIX.out.on hb12, HBX.out.trans (hb12.mono (by omega))⟩)
    obtain ⟨rd, hrd⟩ : ∃ rd : Loop, rd = { r with state := .done, pending := some (.exit 0) } := ⟨_, rfl⟩
    obtain ⟨rb, hrb⟩ : ∃ rb : Loop, rb = { r with state := .busy } := ⟨_, rfl⟩
    have HRD := Lib.hid hrd
    have HRB := Lib.hid hrb
    have HHD := Lib.hid (hd1.on hal)
    have HB12 := Lib.hid hb12
    generalize hbd : X.heap.size = bd at *
    clear hst hpe hps has hbo htm hD hW2 hl2 hd2 hs2 hal hsX hW1 hd1 hgX hb12 hrd hrb hbX hbd hgo
    refine (latest1_in (3 - 1) (D + 1) bd (fun k => k = go ∨ k = D + 1) HLN.out (RdA w bi go D q r sc) (RdZ w bi go D q rd)
      ?round W2 (HHD.out.cell 0 rfl) (by have := HDG.out; omega) HDX2.out (fun k hk e => by have h1 := HF.out k hk; have h2 := HDG.out; omega) ⟨fun p hp => (by cases hp), HW.out⟩).mono ?behind
    case round =>
      intro pre x Y hpre hX
      obtain ⟨hno, hX⟩ := hX
      have hxm : x ∈ S.wait := by have := hpre.subset (show x ∈ pre ++ [x] by simp); simpa using this
      have hwt := HD.out.ok.wt x hxm
      have HL2 := Lib.hid hwt.2
      have HNO := Lib.hid hno
      have HWS := Lib.hid (show (Try.prog.info? 67).map (·.size) = some (wcell x).toArray.size by rw [List.size_toArray, wcell_len hwt.2]; exact size_wr)
      have HWZ := Lib.hid (show (257 : Nat) = (wcell x).toArray.size by rw [List.size_toArray, wcell_len hwt.2])
      have HW1 := Lib.hid (show (wcell x).toArray.all (·.oneCell') = true by simp [wcell, Value.oneCell'])
      refine round_at hX.lp (by rw [HPS.out]; rfl) ?_
      rw [HAS.out, HPS.out, HTM.out, HBO.out]
      have HX := Lib.hid hX
      have HSL := Lib.hid (show (ic 0).size = (wcell x).toArray.size by rw [ic_size]; exact HWZ.out)
      clear hX hno hpre hxm hwt
      have hzw := zero_ic
      gi_wp2_with (refine wpListIn_store_abs rfl 67 (.tmp 8) (.tmp 31) (by rfl) Y.heap.size (wcell x).toArray (by rfl) (by rfl) 67 _ (Blk.new Y (ic 0) _) HWS.out HSL.out HW1.out ?_; intro Y1 hW hB)
      have hb1 := hW.below (below_one' Y (.cells (ic 0) 67)) (Nat.le_refl _)
      have hHD : bi < go ∧ go + 1 < D := ⟨hgo2, HDG.out.1⟩
      have hX1 := HX.out.on hb1 (Nat.le_of_lt HX.out.ix.lt)
      refine ⟨_, run_beginRound hX1.lp HST.out, ?_⟩
      rw [← HRB.out]
      have hX2 := hX1.put hHD rb
      have hlt := (Array.getElem?_eq_some_iff.1 HX.out.lp).1
      have hB2 : Blk (Y1.putObj (D + 1) (.loop rb)) Y.heap.size (wcell x).toArray 67 := (World.putObj_heap_other (by omega)).trans hB
      have hOn : Only (fun k => k = go ∨ k = D + 1) Y (Y1.putObj (D + 1) (.loop rb)) := (Only.of_below hb1).trans (Only.put _ _ (.inr rfl))
      obtain ⟨Z, hZ⟩ : ∃ Z, Z = Y1.putObj (D + 1) (.loop rb) := ⟨_, rfl⟩
      rw [← hZ] at hX2 hB2 hOn ⊢
      have HX2 := Lib.hid hX2
      have HB2 := Lib.hid hB2
      have HON := Lib.hid hOn
      have HHD2 := Lib.hid hHD
      have cx0 : Z.cell? ⟨Y.heap.size, 0, none⟩ = some (.int .i64 (x.1 : Nat)) := hB2.cell 0 rfl
      have ciq : Z.cell? ⟨bi, 0, none⟩ = some (.int .i64 (q : Nat)) := hX2.ix.cell 0 rfl
      generalize Y.heap.size = bx at *
      clear hb1 hX1 hX2 hB hB2 hOn hZ hW hzw hlt hHD
      by_cases hq2 : x.1 = q
      · have hee : (((x.1 : Nat) : Int) == (q : Int)) = true := by simp [hq2]
        have HQ2 := Lib.hid hq2
        have cb : Z.cell? ⟨go + 1, 0, none⟩ = some (.slice (some ⟨go, 0, none⟩) 256 256) := HX2.out.box.cell 0 rfl
        obtain ⟨V, hcp, hWV, hV⟩ := copy_256 (W := Z.drew) HX2.out.out (by rw [barr_size, HSCL.out]) bx 1 x.2 HL2.out (fun j u hu => HB2.out.cell (1 + j) (by
          simp only [wcell, List.getElem?_toArray, Nat.add_comm 1 j, List.getElem?_cons_succ]; exact hu))
        have HV := Lib.hid (HX2.out.wrote HHD2.out (show Wrote Z V go from ⟨hWV.size, fun h hne => hWV.blk h hne, fun h hp => hWV.below h.drew hp, fun h => hWV.grown (grownBy_drew h)⟩) hV)
        clear hq2 hWV hV
        gi_wp2
        have e1 : ({ rb with state := if (some (Code.exit 0)).isNone then .ready else .done, pending := some (.exit 0) } : Loop) = rd := by rw [HRD.out, HRB.out]; rfl
        have q1 := run_endRound (P := Try.prog) (some (.exit 0)) HV.out.lp
        rw [e1] at q1
        have HQ1 := Lib.hid q1
        have hmo : Try.prog.follows .mixedOrders = true := by kernel_rfl
        clear e1 q1
        gi_region_o
        all_goals gi_wp2
        all_goals exact ⟨_, _, HQ1.out, .inr ⟨rfl, pre, x, rfl, HNO.out, HQ2.out, HV.out.put HHD2.out rd⟩⟩
      · have hee : (((x.1 : Nat) : Int) == (q : Int)) = false := by simp; omega
        have HQ2 := Lib.hid hq2
        clear hq2
        gi_wp2
        have e1 : ({ rb with state := if (none : Option Code).isNone then .ready else .done, pending := none } : Loop) = r := by
          rw [HRB.out]
          have h1 := HST.out
          have h2 := HPE.out
          cases r
          simp_all
        have q1 := run_endRound (P := Try.prog) none HX2.out.lp
        rw [e1] at q1
        refine ⟨_, _, q1, .inl ⟨rfl, ⟨fun p hp => ?_, HX2.out.put HHD2.out r⟩, HON.out.trans (Only.put _ _ (.inr rfl))⟩⟩
        rcases List.mem_append.1 hp with h | h
        · exact HNO.out p h
        · obtain rfl := List.mem_singleton.1 h; exact HQ2.out
    case behind =>
      rintro e Y ⟨⟨u, rfl⟩, (⟨hno, hI⟩ | ⟨k, hk, p0, x, rfl, hno, hxq, hI⟩)⟩
      · have q1 := run_endLoop (P := Try.prog) hI.lp (by rw [HST.out]; simp)
        rw [HPE.out] at q1
        refine ⟨none, _, q1, ?_⟩
        have hHD : bi < go ∧ go + 1 < D := ⟨hgo2, HDG.out.1⟩
        have H2 := Lib.hid (hI.put hHD { r with state := .exhausted, pending := none })
        have HLT := Lib.hid (show S.latest q = sc by rw [latest_none hno, HSC.out])
        clear hI q1 hno
        obtain ⟨Z, hZ⟩ : ∃ Z, Z = Y.putObj (D + 1) (.loop { r with state := .exhausted, pending := none }) := ⟨_, rfl⟩
        rw [← hZ] at H2 ⊢
        have cb : Z.cell? ⟨go + 1, 0, none⟩ = some (.slice (some ⟨go, 0, none⟩) 256 256) := H2.out.box.cell 0 rfl
        clear hZ
        gi_wp2
        refine ⟨by simp, .inl ⟨_, _, rfl, run_takeDeferred H2.out.dfr, ?_⟩⟩
        have hB0 : Blk (Z.putObj D (.deferred none)) go (barr sc) 5 := (World.putObj_heap_other (by have := HDG.out; omega)).trans H2.out.out
        have hOw := OwnB.of_blk (lo := w.heap.size) hB0 (by omega) (by unfold maxLen; rw [HSCL.out]; omega)
        rw [HSCL.out] at hOw
        exact ⟨_, results_tmp2 rfl _ _ _, .slice (some ⟨go, 0, none⟩) 256 256, by rw [HE.out]; rfl, by rw [HE.out]; show OwnB _ _ _ (S.latest q); rw [HLT.out]; exact hOw, by rw [hbi]; exact H2.out.below.trans (below_put _ _ (by have := HDG.out; omega))⟩
      · have q1 := run_endLoop (P := Try.prog) hI.lp (by rw [HRD.out]; simp)
        rw [show rd.pending = some (Code.exit 0) by rw [HRD.out]] at q1
        refine ⟨some (.exit 0), _, q1, ?_⟩
        have hHD : bi < go ∧ go + 1 < D := ⟨hgo2, HDG.out.1⟩
        have H2 := Lib.hid (hI.put hHD { rd with state := .exhausted, pending := some (.exit 0) })
        have HLT := Lib.hid (show S.latest q = x.2 by rw [latest_some hk hno hxq])
        have HXL := Lib.hid (show x.2.length = 256 from (HD.out.ok.wt x (by have := hk.subset (show x ∈ p0 ++ [x] by simp); simpa using this)).2)
        clear hI q1 hno hk hxq
        obtain ⟨Z, hZ⟩ : ∃ Z, Z = Y.putObj (D + 1) (.loop { rd with state := .exhausted, pending := some (.exit 0) }) := ⟨_, rfl⟩
        rw [← hZ] at H2 ⊢
        have cb : Z.cell? ⟨go + 1, 0, none⟩ = some (.slice (some ⟨go, 0, none⟩) 256 256) := H2.out.box.cell 0 rfl
        clear hZ
        gi_wp2
        refine ⟨by simp, .inl ⟨_, _, rfl, run_takeDeferred H2.out.dfr, ?_⟩⟩
        have hB0 : Blk (Z.putObj D (.deferred none)) go (barr x.2) 5 := (World.putObj_heap_other (by have := HDG.out; omega)).trans H2.out.out
        have hOw := OwnB.of_blk (lo := w.heap.size) hB0 (by omega) (by unfold maxLen; rw [HXL.out]; omega)
        rw [HXL.out] at hOw
        exact ⟨_, results_tmp2 rfl _ _ _, .slice (some ⟨go, 0, none⟩) 256 256, by rw [HE.out]; rfl, by rw [HE.out]; show OwnB _ _ _ (S.latest q); rw [HLT.out]; exact hOw, by rw [hbi]; exact H2.out.below.trans (below_put _ _ (by have := HDG.out; omega))⟩
end Go.Proofs.Ytgbahfggnbpnmaa
