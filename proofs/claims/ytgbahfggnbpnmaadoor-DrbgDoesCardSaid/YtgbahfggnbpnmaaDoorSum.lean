import Derived.Test.YtgbahfggnbpnmaaDoorHashW
/-
  A Hash: Sum.
-/
namespace Go.Proofs.YtgbahfggnbpnmaaDoor
open Go.RowKit

section
variable {P : Program} {ops : Array Oper} {rest : List Oper} {o : Oper} {a : Act} {w : World} {Q : Exit → Act → World → Prop}
theorem wp_copy_abs {K : Act → World → Prop} (d s : Operand) (dT sT : TypeId)
    (ho : o.op = .call { callee := .builtin .copy, args := #[d, s], argTypes := #[dT, sT] }) (elem : TypeId) (hu : P.underlying dT = some (.slice elem)) (hsz : (P.info? elem).map (·.size) = some 1)
    (dp sp : Option Addr) (dLen dCap sLen sCap : Nat) (hd : a.eval d = .slice dp dLen dCap) (hs : a.eval s = .slice sp sLen sCap)
    (g off : Nat) {cur : Array Value} {t : TypeId} (hg : Blk w g cur t) (cs : List Value) (hn : cs.length = min sLen dLen)
    (hpos : 0 < cs.length → dp = some ⟨g, off, none⟩) (hr : Rd w sp cs) (hfit : off + cs.length ≤ cur.size) (h1 : ∀ v ∈ cs, v.oneCell' = true) (N : Nat) (hN : cs.length = N)
    (h : ∀ W, Wrote w W g → Blk W g (splice cur.toList off cs).toArray t → K (a.put o.dst (goInt N)) W) : o.wp P a w K Q := by
  subst hN
  by_cases h0 : cs.length = 0
  · obtain rfl : cs = [] := List.eq_nil_of_length_eq_zero h0
    have hrun := run_copy_none (P := P) w dT sT o.type elem dp sp dLen dCap sLen sCap hu hsz (by simpa using hn.symm)
    unfold Oper.wp
    simp [execOp, ho, resolve, invoke, builtin, hd, hs, hrun, Result.andThen]
    exact h w (Wrote.refl w g) (by unfold Blk at *; simpa [splice] using hg)
  · obtain rfl := hpos (by omega)
    obtain ⟨g', o', rfl, _⟩ := hr 0 (by omega)
    have hrun := run_copy_row (P := P) w dT sT o.type elem g off dLen dCap ⟨g', o', none⟩ sLen sCap cur t cs hu hsz hg hn (fun j v hv => by
      have hj : j < cs.length := by
        rcases Nat.lt_or_ge j cs.length with h' | h'
        · exact h'
        · rw [List.getElem?_eq_none h'] at hv; cases hv
      obtain ⟨g2, o2, e1, e2⟩ := hr j hj
      simp at e1; obtain ⟨rfl, rfl⟩ := e1
      rw [Addr.add_mid, e2, hv]) hfit h1
    unfold Oper.wp
    simp [execOp, ho, resolve, invoke, builtin, hd, hs, hrun, Result.andThen]
    exact h _ (Wrote.row w g _) (hg.setRow _)
end

theorem run_index_agg {P : Program} (t e : TypeId) (n : Nat) (cs : Array Value) (q : IntKind) (k : Nat) (v : Value) (h : P.underlying t = some (.array n e)) (hag : ∀ w, (isAgg e).run P w = .ok false w) (hs : (P.info? e).map (·.size) = some 1) (hk : k < n) (hv : cs[k]? = some v) (w : World) :
    (Instr.index t (.agg cs) (.int q k)).run P w = .ok v w := by
  have h2 : (0 : Int) ≤ k ∧ (k : Int) < n := by omega
  obtain ⟨i, i1, i2⟩ := Option.map_eq_some_iff.1 hs
  simp [Instr.index, run_underlying h, asIntOf, h2, go_sem, sizeOf, typeInfo, i1, i2, part, hv, hag, hk]
theorem size_u32 : (Tryd.prog.info? 22).map (·.size) = some 1 := by kernel_rfl
theorem size_u8x32 : (Tryd.prog.info? 31).map (·.size) = some 32 := by kernel_rfl
/-- The bytes so far, zeros behind them. -/
def oz (s : List UInt32) (k : Nat) : List UInt8 := outb (s.take k) ++ List.replicate (32 - 4 * k) 0
theorem oz_len (s : List UInt32) (k : Nat) (hs : s.length = 8) (hk : k ≤ 8) : (oz s k).length = 32 := by
  unfold oz; rw [List.length_append, outb_len]; simp [hs]; omega
theorem oz_zero (s : List UInt32) : oz s 0 = List.replicate 32 0 := by simp [oz, outb]
theorem oz_full (s : List UInt32) (hs : s.length = 8) : oz s 8 = outb s := by simp [oz, List.take_of_length_le (show s.length ≤ 8 by omega)]
theorem outb_snoc (s : List UInt32) (x : UInt32) : outb (s ++ [x]) = outb s ++ be 4 x.toNat := by simp [outb]
theorem oz_step (s : List UInt32) (k : Nat) (hs : s.length = 8) (hk : k < 8) : splice (oz s k) (4 * k) (be 4 (s.getD k 0).toNat) = oz s (k + 1) := by
  have e : s.take (k + 1) = s.take k ++ [s.getD k 0] := by rw [List.take_succ_eq_append_getElem (by omega)]; simp [hs, hk]
  have hl : (outb (s.take k)).length = 4 * k := by rw [outb_len]; simp [hs]; omega
  unfold oz
  rw [e, outb_snoc]
  unfold splice
  rw [be_len, List.take_append_of_le_length (by omega), List.take_of_length_le (by omega), List.drop_append, List.drop_of_length_le (by omega), hl]
  simp
  omega
def totOf (w : World) (g : Nat) : Nat := match w.cell? ⟨g, 74, none⟩ with | some (.int _ z) => z.toNat | _ => 0
theorem totOf_at {w : World} {g : Nat} {m : List UInt8} (h : HashAt w g m) : totOf w g = m.length := by
  unfold totOf; rw [h.total]; simp

/-- A byte in a new slice is put. -/
theorem put_one (m : List UInt8) (x : UInt8) (z : Int) (hz : z = x.toNat) (g gn : Nat) (w : World) (hB : HashAt w g m) (hT : Tab w) (hgt : g ≠ 0) (hlen : m.length + 1 ≤ 4611686018427387904) (hgn : gn = w.heap.size) :
    Calls Tryd.prog 99 #[.pointer (some ⟨g, 0, none⟩), .slice (some ⟨gn, 0, none⟩) 1 1] (w.alloc (.cells #[.int .u8 z] 5)) fun e w' => e = .returned (.tuple #[]) ∧ w.grownBy w' (some g) ∧ HashAt w' g (m ++ [x]) := by
  subst hz hgn
  have hb := (new1 w #[bv x] 5).2
  refine (put_at m [x] 1 1 rfl (Nat.le_refl _) _ g _ (hB.below hb hB.lt) (RdB.new w _ _ [x] rfl rfl) (fun b o e _ => ?_) (hT.below hb hT.lt) hgt (by simpa using hlen)).mono ?_
  · have := hB.lt; simp only [Option.some.injEq, Addr.mk.injEq] at e; omega
  · rintro e w' ⟨rfl, h1, h2⟩
    exact ⟨rfl, grownBy_trans (grownBy_of_below hb) h1, h2⟩

set_option maxRecDepth 100000 in
set_option maxHeartbeats 800000 in
theorem sum_walk (m : List UInt8) (hm : m.length ≤ 1152921504606846976) (g : Nat) (w : World) (hB : HashAt w g m) (hT : Tab w) (hgt : 0 < w.heap.size) :
    Calls Tryd.prog 33 #[.pointer (some ⟨g, 0, none⟩)] w fun e w' => e = .returned (.agg (barr (sha m))) ∧ Below w.heap.size w w' := by
  have hg := hB.lt
  have hc := hB.cell
  have ht := hB.total
  obtain ⟨st, rest, held, h1, h2⟩ := hB
  have H1 := Lib.hid h1
  have HM := Lib.hid hm
  have HT := Lib.hid hT
  have hsz : (Tryd.prog.info? 51).map (·.size) = some (hcells st rest held m.length).size := by rw [hcells_size h1.stl h1.restl]; exact size_hash
  have HZ := Lib.hid hsz
  have hsz2 : (75 : Nat) = (hcells st rest held m.length).size := by rw [hcells_size h1.stl h1.restl]
  have HZ2 := Lib.hid hsz2
  clear hsz hsz2 h1 hm hT
  go_enter Tryd.func33, Tryd.ntmps33
  obtain ⟨q0, q1, qb⟩ := new2 w (barr (List.replicate 32 0)) (barr (List.replicate 32 0)) 31 31
  have ha := (qb.cell (p := ⟨g, 0, none⟩) hg).trans hc
  have hB2 := h2.below qb hg
  have hsz : ((w.alloc (.cells (barr (List.replicate 32 0)) 31)).alloc (.cells (barr (List.replicate 32 0)) 31)).heap.size = w.heap.size + 1 + 1 := by simp
  replace q0 := Lib.hid q0
  replace q1 := Lib.hid q1
  replace qb := Lib.hid qb
  replace ha := Lib.hid ha
  replace hB2 := Lib.hid hB2
  replace hsz := Lib.hid hsz
  go_wp2_with (first | (go_at_call 98; refine (none_made _ g true ha.out).mono ?_; rintro e w1 ⟨rfl, hw⟩; have p0 : Blk w1 w.heap.size (barr (List.replicate 32 0)) 31 := (by rw [← hw]; exact q0.out); have p1 : Blk w1 (w.heap.size + 1) (barr (List.replicate 32 0)) 31 := (by rw [← hw]; exact q1.out); have pb : Below w.heap.size w w1 := (by rw [← hw]; exact qb.out); have pg : Blk w1 g (hcells st rest held m.length) 51 := (by rw [← hw]; exact hB2.out); have hs1 : w1.heap.size = w.heap.size + 1 + 1 := (by rw [← hw]; exact hsz.out); clear hw q0 q1 qb ha hB2 hsz) | (refine wpList_load_row rfl 51 (.tmp 12) rfl g rfl 51 _ _ _ pg Tryd.underlying51 rfl HZ.out ?_) | (refine wpList_store_abs rfl 51 (.tmp 4) (.tmp 13) rfl (w.heap.size + 1 + 1) _ rfl rfl 51 _ (Blk.new' w1 _ _ hs1.symm) HZ.out HZ2.out (hcells_one _ _ _ _) ?_; intro W hW p4; have p2 := hW.blk (p0.alloc _) (by omega); have p3 := hW.blk (p1.alloc _) (by omega); have pb2 := hW.below (pb.alloc (by omega) _) (by omega); have pg2 := hW.blk (pg.alloc _) (by omega); have hgc := pg2.cell 74 (hcells_total H1.out.stl H1.out.restl); have hs2 : W.heap.size = w.heap.size + 1 + 1 + 1 := (by rw [hW.size]; simp [hs1]); clear hW p0 p1 pb pg) | (go_at_call 99; refine (put_one m 128 _ rfl (w.heap.size + 1 + 1) _ W ⟨st, rest, held, H1.out, p4⟩ (HT.out.below pb2 hgt) (by omega) (by have := HM.out; omega) (by omega)).mono ?_; rintro e w2 ⟨rfl, hgr, hH⟩; have p2' := p2.grown hgr (by simp; omega); have p3' := p3.grown hgr (by simp); have pb3 := pb2.trans (below_of_grownBy hgr (by omega) (by omega)); clear p2 p3 pb2 hgr pg2 hgc p4))
  go_loopw [22] (fun _ wr => ∃ k : Nat, k ≤ padz m.length ∧ Blk wr w.heap.size (barr (List.replicate 32 0)) 31 ∧ Blk wr (w.heap.size + 1) (barr (List.replicate 32 0)) 31 ∧ Below w.heap.size w wr ∧ HashAt wr (w.heap.size + 1 + 1) (m ++ 128 :: List.replicate k 0)) (fun _ wr => m.length + 1 + padz m.length - totOf wr (w.heap.size + 1 + 1))
  case atStart => exact ⟨0, Nat.zero_le _, p2', p3', pb3, hH⟩
  case round =>
    clear p2' p3' pb3 hH hs2 hs1
    obtain ⟨k, hk, p2, p3, pb, hH⟩ := hrel
    have HH := Lib.hid hH
    have hlt := hH.lt
    have htot := totOf_at hH
    obtain ⟨st', rest', held', h1', h2'⟩ := hH
    have c73 := h2'.cell 73 (hcells_held h1'.stl h1'.restl)
    have hhe := h1'.heldE
    simp only [List.length_append, List.length_cons, List.length_replicate] at hhe
    have hp := padz_spec m.length
    replace htot := Lib.hid htot
    replace hp := Lib.hid hp
    replace hhe := Lib.hid hhe
    have H1' := Lib.hid h1'
    have H2' := Lib.hid h2'
    clear h1' h2' h2 hc ht
    by_cases h56 : held' = 56
    · have hd : ((held' : Int) != 56) = false := by simp; omega
      have HK := Lib.hid (show k = padz m.length by have := hp.out; have := hhe.out; omega)
      have HD := Lib.hid h56
      obtain ⟨cnt, hcn⟩ : ∃ c : Nat, c = 8 * m.length := ⟨_, rfl⟩
      have HCN := Lib.hid hcn
      clear hcn
      have hcnt : IntKind.u64.wrap (8 * IntKind.u64.wrap (m.length : Int)) = (cnt : Int) := by
        have := HM.out
        have := HCN.out
        rw [IntKind.wrap_u64, IntKind.wrap_u64]; omega
      clear h56 hk
      rw [hcnt]
      go_wp2_with (first | (go_at_call 100; refine (u64_walk cnt (by have := HM.out; have := HCN.out; omega) wr).mono ?_; rintro e w3 ⟨g3, rfl, rfl, hb3, hbel3⟩) | (go_at_call 99; refine (put_at (m ++ 128 :: List.replicate k 0) (be 8 cnt) 8 8 (be_len 8 cnt).symm (Nat.le_refl _) _ (w.heap.size + 1 + 1) w3 (HH.out.below hbel3 hlt) (RdB.of_blk hb3 _ (by simp only [barr]; rw [be_len, List.take_of_length_le (by simp [be_len])])) (by intro b o e _; simp at e; omega) (HT.out.below (pb.trans (hbel3.mono (by omega))) hgt) (by omega) (by have := HM.out; have := hp.out; have := HK.out; simp [be_len]; omega)).mono ?_; rintro e w4 ⟨rfl, hgr4, hH4⟩; have q2 := (p2.below hbel3 (by omega)).grown hgr4 (by simp; omega); have q3 := (p3.below hbel3 (by omega)).grown hgr4 (by simp); have qb := (pb.trans (hbel3.mono (by omega))).trans (below_of_grownBy hgr4 (by omega) (by have := hbel3.size; omega)); obtain ⟨st4, rest4, held4, h4i, h4b⟩ := hH4; replace h4i := Lib.hid h4i; clear p2 p3 pb hbel3 hb3 hgr4) | (refine wpList_load_sub rfl 23 (.tmp 30) rfl (w.heap.size + 1 + 1) 1 rfl h4b (st4.map wv) (fun i hi => hcells_st h4i.out.stl i (by simpa [h4i.out.stl] using hi)) _ Tryd.underlying23 rfl (by rw [List.length_map, h4i.out.stl]; exact size_u32x8) ?_))
      have hsum : sha m = outb st4 := by
        have e1 := h4i.out.stE
        have e2 : m ++ 128 :: List.replicate k 0 ++ be 8 cnt = padded m := by rw [HK.out, HCN.out]; rfl
        rw [e2] at e1
        unfold sha; rw [e1]
      have h8 := h4i.out.stl
      replace hsum := Lib.hid hsum
      replace h8 := Lib.hid h8
      clear c73 HCN HD hd hcnt
      generalize hS4 : ((st4.map wv).toArray) = S4
      replace hS4 := Lib.hid hS4
      go_loopw [32] (fun c wr => ∃ k : Nat, k ≤ 8 ∧ c = .int .i64 k ∧ Blk wr w.heap.size (barr (List.replicate 32 0)) 31 ∧ Blk wr (w.heap.size + 1) (barr (oz st4 k)) 31 ∧ Below w.heap.size w wr) (fun c _ => 8 - (intOf c).toNat)
      case atStart => exact ⟨0, Nat.zero_le _, rfl, q2, by rw [oz_zero]; exact q3, qb⟩
      case round =>
        clear q2 q3 qb h4b
        obtain ⟨i, hi, rfl, q2, q3, qb⟩ := hrel
        by_cases h8i : i < 8
        · obtain ⟨x, hx⟩ : ∃ x, x = st4.getD i 0 := ⟨_, rfl⟩
          replace hx := Lib.hid hx
          have hix : ∀ w', (Instr.index 23 (.agg S4) (.int .i64 i)).run Tryd.prog w' = .ok (wv x) w' := fun w' => run_index_agg _ _ _ _ _ _ _ Tryd.underlying23 (fun _ => by kernel_rfl) size_u32 h8i (by rw [← hS4.out, hx.out]; exact warr_get st4 i (by rw [h8.out]; exact h8i)) w'
          have g1 : (0 : Int) ≤ 4 * (i : Int) ∧ 4 * (i : Int) ≤ 32 := by omega
          have f1 : IntKind.i64.wrap (4 * (i : Int)) = 4 * (i : Int) := IntWalk.i64_in _ (by omega)
          have n1 : (4 * (i : Int)).toNat = 4 * i := by omega
          have n2 : ¬ (32 = 4 * i) := by omega
          go_wp2
          refine wp_region_any (by kernel_rfl) ?_
          change wpAny _ _ _ _ _ _ _ (World.drew wr)
          refine wpAny_take (i := 0) (oi := ⟨some 36, .move (.tmp 6), 3, _, _, none⟩) (v := .int .i64 i) rfl (by kernel_rfl) (by kernel_rfl) (by kernel_rfl) (fun _ _ _ h => h) (Or.inl ⟨by rfl, fun _ => by go_simp⟩) ?_
          refine wpAny_take (i := 1) (oi := ⟨some 37, .binOp .mul 3 (.const (.int .i64 4)) (.tmp 36) 3, 3, _, _, none⟩) (v := .int .i64 (4 * (i : Int))) rfl (by kernel_rfl) (by kernel_rfl) (by kernel_rfl) (fun _ _ _ h => h) (Or.inl ⟨by rfl, fun _ => by go_simp⟩) ?_
          refine wpAny_take (i := 2) (oi := ⟨some 38, .slice 31 (.tmp 3) (some (.tmp 37)) none none, 28, _, _, none⟩) (v := .slice (some ⟨w.heap.size + 1, 4 * i, none⟩) (32 - 4 * i) (32 - 4 * i)) rfl (by kernel_rfl) (by kernel_rfl) (by kernel_rfl) (fun _ _ _ h => h) (Or.inl ⟨by rfl, fun _ => by go_simp⟩) ?_
          refine wpAny_take (i := 3) (oi := ⟨some 39, .move (.tmp 7), 22, _, _, none⟩) (v := wv x) rfl (by kernel_rfl) (by kernel_rfl) (by kernel_rfl) (fun _ _ _ h => h) (Or.inl ⟨by rfl, fun _ => by go_simp⟩) ?_
          simp only [Act.put, List.setIfInBounds_toArray, List.set_cons_succ, List.set_cons_zero]
          refine wpAny_ready (rs := [4]) (by kernel_rfl) (by simp) ?_
          refine AllReady.cons (o := ⟨some 40, .call { callee := .value (.func 101), args := #[.tmp 39], argTypes := #[22] }, 28, _, _, none⟩) rfl (fun K hK => ?_) AllReady.nil
          go_simp
          refine (u32_walk x _).mono ?_
          rintro e w5 ⟨g5, rfl, hg5, hb5, hbel5⟩
          refine hK _ _ ?_
          clear hK K
          have hsz := qb.size
          have q2' := (q2.drew).below hbel5 (by have := q2.lt; simpa using this)
          have q3' := (q3.drew).below hbel5 (by have := q3.lt; simpa using this)
          have qb' := (qb.drew).trans (hbel5.mono (by simpa using hsz))
          have hg5' : g5 ≠ w.heap.size + 1 := by have := q3.lt; simp at hg5; omega
          clear q2 q3 qb hbel5
          refine wpAny_ready (rs := [5]) (by kernel_rfl) (by simp) ?_
          refine AllReady.cons (o := ⟨some 41, .call { callee := .builtin .copy, args := #[.tmp 38, .tmp 40], argTypes := #[28, 28] }, 3, _, _, none⟩) rfl (fun K hK => ?_) AllReady.nil
          rw [if_pos (by rfl)]
          refine wp_copy_abs (.tmp 38) (.tmp 40) 28 28 rfl 5 Tryd.underlying28 size_u8 (some ⟨w.heap.size + 1, 4 * i, none⟩) (some ⟨g5, 0, none⟩) (32 - 4 * i) (32 - 4 * i) 4 4 (by rfl) (by rfl) (w.heap.size + 1) (4 * i) q3' ((be 4 x.toNat).map bv) (by simp [be_len]; omega) (fun _ => rfl) (Rd.of_blk hb5 _ (by intro j hj; simp [barr])) (by simp [be_len, oz_len _ _ h8.out hi]; omega) (bv_one _) 4 (by simp [be_len]) ?_
          intro W6 hW6 hb6
          refine hK _ _ ?_
          clear hK K
          refine wpAny_done (by kernel_rfl) ?_ _
          have q2'' := hW6.blk q2' (by omega)
          have qb'' := hW6.below qb' (by omega)
          clear hW6 q2' qb'
          go_wp2
          go_roundw
          case rel =>
            refine ⟨i + 1, by omega, by go_num, q2'', ?_, qb''⟩
            rw [← oz_step st4 i h8.out h8i, ← hx.out]
            have e7 : (splice (barr (oz st4 i)).toList (4 * i) ((be 4 x.toNat).map bv)).toArray = barr (splice (oz st4 i) (4 * i) (be 4 x.toNat)) := by
              simp [barr, splice]
            rw [← e7]; exact hb6
          case measure => simp [intOf]; omega
        · have HI := Lib.hid (show i = 8 by omega)
          have HS3 := Lib.hid (show (Tryd.prog.info? 31).map (·.size) = some (barr (oz st4 i)).size by rw [barr_size, oz_len _ _ h8.out hi]; exact size_u8x32)
          go_wp2_with (first | (refine wpList_load_row rfl 31 (.tmp 3) rfl (w.heap.size + 1) rfl 31 _ _ _ q3 Tryd.underlying31 rfl HS3.out ?_) | (refine wpList_store_abs rfl 31 (.tmp 2) (.tmp 43) rfl w.heap.size _ (by rfl) (by rfl) 31 _ q2 HS3.out (by rw [barr_size, barr_size, oz_len _ _ h8.out hi]; rfl) (barr_one_all _) ?_; intro W9 hW9 pr; have pb9 := hW9.below qb (by omega); clear hW9))
          refine bodyPost_ret (v := .agg (barr (sha m))) ?_ rfl ⟨rfl, pb9⟩
          rw [hsum.out, ← oz_full st4 h8.out, ← HI.out]
          exact results_blk rfl _ pr rfl Tryd.underlying31 HS3.out
    · have hd : ((held' : Int) != 56) = true := by simp; omega
      have HK := Lib.hid (show k < padz m.length by
        have := hp.out
        have := hhe.out
        rcases Nat.lt_or_ge k (padz m.length) with h | h
        · exact h
        · exfalso; omega)
      clear h56
      go_wp2_with (go_at_call 99; refine (put_one (m ++ 128 :: List.replicate k 0) 0 _ rfl (w.heap.size + 1 + 1) _ wr HH.out (HT.out.below pb hgt) (by omega) (by have := HM.out; have := hp.out; have := HK.out; simp; omega) (by omega)).mono ?_; rintro e w3 ⟨rfl, hgr3, hH3⟩; have p2' := p2.grown hgr3 (by simp; omega); have p3' := p3.grown hgr3 (by simp); have pb' := pb.trans (below_of_grownBy hgr3 (by omega) (by omega)); clear p2 p3 pb)
      go_roundw
      case rel =>
        refine ⟨k + 1, HK.out, p2', p3', pb', ?_⟩
        have e : m ++ 128 :: List.replicate (k + 1) 0 = m ++ 128 :: List.replicate k 0 ++ [0] := by rw [List.replicate_succ', List.append_assoc]; rfl
        rw [e]; exact hH3
      case measure =>
        have e1 := totOf_at hH3
        have e2 := htot.out
        have := HK.out
        simp only [List.length_append, List.length_cons, List.length_replicate, List.length_nil] at e1 e2
        omega
end Go.Proofs.YtgbahfggnbpnmaaDoor
