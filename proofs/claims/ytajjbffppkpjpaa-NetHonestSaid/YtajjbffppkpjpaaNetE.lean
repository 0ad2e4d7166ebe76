import Derived.Test.YtajjbffppkpjpaaNetD
/-
  net.Send.
-/
namespace Go.Proofs.Ytajjbffppkpjpaa
set_option linter.unusedSimpArgs false
set_option linter.unusedVariables false
open Go.RowKit
/-- make of no letters with room for n: a new block. -/
theorem wpList_make_sents {ops : Array Oper} {rest : List Oper} {o : Oper} {a : Act} {w : World} {Q : Exit → Act → World → Prop} (hgd : o.guard = none) (l c : Operand) (ho : o.op = .makeSlice 41 l c) (n : Nat) (hn : n ≤ 1000000)
    (hl : a.eval l = .int .i64 (0 : Nat)) (hc : a.eval c = .int .i64 (n : Nat))
    (h : ∀ cur : Array Value, cur.size = n * 3 → wpList Try.prog ops Q rest (a.put o.dst (.slice (some ⟨w.heap.size, 0, none⟩) 0 n)) (w.alloc (.cells cur 47))) : wpList Try.prog ops Q (o :: rest) a w := by
  obtain ⟨i, i1, i2, i3, i4⟩ := info_parts info_sent
  refine wpList_plain hgd fun K hK => ?_
  have hr := run_make (P := Try.prog) w 41 47 i (.agg #[.int .i64 0, .int .i64 0, .slice none 0 0]) Try.underlying41 i1 i2 .i64 .i64 (0 : Nat) n (by omega) (by omega) (by rw [i4]; omega) (by omega)
  simp only [Int.toNat_natCast, i3] at hr
  have hs : (madeCells (Value.agg #[.int .i64 0, .int .i64 0, .slice none 0 0]).cells (n * 3)).size = n * 3 := by simp [madeCells]
  obtain ⟨cur, hcur⟩ : ∃ cur, cur = madeCells (Value.agg #[.int .i64 0, .int .i64 0, .slice none 0 0]).cells (n * 3) := ⟨_, rfl⟩
  rw [← hcur] at hr hs
  unfold Oper.wp
  simp only [execOp, ho, hl, hc, hr, Result.andThen, Sem.run_bind, Sem.run_pure]
  exact hK _ _ (h cur hs)
set_option maxRecDepth 100000 in
theorem nsend_no {p : Option Addr} (f : Int) (a : Option Addr) (n c : Nat) (w : World) (h : NoNet w p) : Calls Try.prog 27 #[.pointer p, .int .i64 f, .slice a n c] w fun e w' => e = .returned (.int .i64 2) ∧ w' = w := by
  have H := Lib.hid h
  clear h
  go_enter Try.func27, Try.ntmps27
  go_wp2_with fail
  refine (nnone_no _ H.out).mono ?_
  rintro e w2 ⟨rfl, rfl⟩
  go_wp2
  go_ret
  exact ⟨rfl, rfl⟩
abbrev mkS (f : Int) (x : Ltr) : Snt := ⟨f, x.1, x.2⟩
/-- The row that Send lays, between two rounds. -/
structure SJ (na : Nat → Prop) (w wr : World) (av : Nat → Prop) (b : Nat) (v1 v2 v3 : Value) (S : NS) (f : Int) (L : List Ltr) (v : Value) (k : Nat) : Prop where
  row : ∃ ls : List (Snt × Value), wr.ownsRow 0 47 3 v k (ncells ls) ∧ ls.map (·.1) = (L.take k).map (mkS f) ∧ ∀ p, p ∈ ls → ∃ px nx cx, p.2 = .slice px nx cx ∧ Txt w px nx cx p.1.d ∧ ∀ b o, px = some ⟨b, o, none⟩ → 0 < p.1.d.length → na b
  new : ∀ j, v.ownBlock = some j → w.heap.size ≤ j
  net : NetAt wr av b v1 v2 v3 S
  bl : Below w.heap.size w wr
theorem SJ.on {na : Nat → Prop} {w wr w' : World} {av : Nat → Prop} {b k : Nat} {v1 v2 v3 v : Value} {S : NS} {f : Int} {L : List Ltr} (h : SJ na w wr av b v1 v2 v3 S f L v k) (hb : Below wr.heap.size wr w') : SJ na w w' av b v1 v2 v3 S f L v k := by
  obtain ⟨ls, h1, h2, h3⟩ := h.row
  exact ⟨⟨ls, row_same' h1 fun j e => hb.block j (row_blk' h1 e).choose_spec.lt, h2, h3⟩, h.new, h.net.on hb, h.bl.trans (hb.mono h.bl.size)⟩
theorem SJ.form {na : Nat → Prop} {w wr : World} {av : Nat → Prop} {b k : Nat} {v1 v2 v3 v : Value} {S : NS} {f : Int} {L : List Ltr} (h : SJ na w wr av b v1 v2 v3 S f L v k) : ∃ oa oc, v = .slice oa k oc := by
  obtain ⟨ls, h1, _⟩ := h.row
  rcases h1.2 with ⟨rfl, h0⟩ | ⟨g', cap, cur', rfl, _⟩
  · exact ⟨none, 0, by rw [h0]⟩
  · exact ⟨_, _, rfl⟩
/-- The row behind the last round is one that put takes. -/
theorem SJ.lin {na : Nat → Prop} {w wr : World} {av : Nat → Prop} {b k : Nat} {v1 v2 v3 v : Value} {S : NS} {f : Int} {L : List Ltr} (h : SJ na w wr av b v1 v2 v3 S f L v k) (hk : k = L.length) (hna : ∀ j, na j → j < w.heap.size ∧ ¬ NFoot b v1 v2 v3 j) (hfo : ∀ j, NFoot b v1 v2 v3 j → j < w.heap.size) :
    ∃ a c, v = .slice a k c ∧ LIn wr (fun j => j < wr.heap.size ∧ ¬ NFoot b v1 v2 v3 j) a (L.map (mkS f)) := by
  obtain ⟨ls, h1, h2, h3⟩ := h.row
  rw [hk, List.take_length] at h2
  have hl : ls.length = L.length := by have := congrArg List.length h2; simpa using this
  have hb1 : Below w.heap.size w wr := h.bl
  rcases h1.2 with ⟨rfl, h0⟩ | ⟨g, cap, cur, rfl, _, hc, hn, _, hsz, htk⟩
  · exact ⟨none, 0, by rw [h0], fun i hi => by rw [List.length_map] at hi; omega⟩
  · refine ⟨_, cap, rfl, fun i hi => ?_⟩
    rw [List.length_map] at hi
    have hi2 : i < ls.length := by omega
    obtain ⟨px, nx, cx, e1, e2, e4⟩ := h3 ls[i] (List.getElem_mem hi2)
    have e3 : (L.map (mkS f)).getD i snt0 = ls[i].1 := by
      rw [← h2, List.getD_eq_getElem?_getD, List.getElem?_map, List.getElem?_eq_getElem hi2]; rfl
    rw [e3]
    have hbk : Blk wr g cur 47 := hc
    have hnf : ∀ j, w.heap.size ≤ j → ¬ NFoot b v1 v2 v3 j := fun j hj q => by have := hfo j q; omega
    refine ⟨g, 0, nx, cx, px, rfl, ⟨hbk.lt, hnf g (h.new g rfl)⟩, hbk.lt, ?_, e2.below hb1, fun bb oo e h0 => ?_⟩
    · obtain ⟨q1, q2, q3⟩ := ncells_at (List.getElem?_eq_getElem hi2)
      rw [← htk] at q1 q2 q3
      rw [List.getElem?_take_of_lt (by omega)] at q1 q2 q3
      refine range_blk hbk (0 + i * 3) _ fun j hj => ?_
      have : j = 0 ∨ j = 1 ∨ j = 2 := by simp at hj; omega
      rcases this with rfl | rfl | rfl
      · simpa using q1
      · simpa using q2
      · rw [e1] at q3; simpa using q3
    · have hlt := e2.old bb oo e h0
      exact ⟨Nat.lt_of_lt_of_le hlt hb1.size, (hna bb (e4 bb oo e h0)).2⟩
theorem SJ.snoc {na : Nat → Prop} {w X w' : World} {av : Nat → Prop} {b k m c7 nx cx : Nat} {v1 v2 v3 v : Value} {S : NS} {f : Int} {L : List Ltr} {x : Ltr} {ls : List (Snt × Value)} {a7 px : Option Addr} (hnet : NetAt X av b v1 v2 v3 S) (hbl : Below w.heap.size w X) (hfo : ∀ j, NFoot b v1 v2 v3 j → j < w.heap.size) (hnew : ∀ j, v.ownBlock = some j → w.heap.size ≤ j)
    (h1 : X.ownsRow 0 47 3 v k (ncells ls)) (h2 : ls.map (·.1) = (L.take k).map (mkS f)) (h3 : ∀ p, p ∈ ls → ∃ px nx cx, p.2 = .slice px nx cx ∧ Txt w px nx cx p.1.d ∧ ∀ b o, px = some ⟨b, o, none⟩ → 0 < p.1.d.length → na b) (hk : k < L.length) (hx : x = L.getD k ltr0) (ht : Txt w px nx cx x.2) (hxn : ∀ b o, px = some ⟨b, o, none⟩ → 0 < x.2.length → na b) (hg : X.grownBy w' v.ownBlock)
    (hO : w'.ownsRow 0 47 3 (.slice a7 m c7) (k + 1) (ncells ls ++ [.int .i64 f, .int .i64 x.1, .slice px nx cx])) (hat : ∀ j, (Value.slice a7 m c7).ownBlock = some j → v.ownBlock = some j ∨ j = X.heap.size) :
    SJ na w w' av b v1 v2 v3 S f L (.slice a7 m c7) (k + 1) := by
  have hO3 : Only (fun j => v.ownBlock = some j) X w' := Only.grown hg (fun j e => e)
  refine ⟨⟨ls ++ [(mkS f x, .slice px nx cx)], by rw [ncells_snoc]; exact hO, ?_, fun p hp => ?_⟩, fun j e => ?_, hnet.keep hO3 (fun j hj e => by have h1 := hfo j hj; have h2 := hnew j e; omega) (fun j cur _ hb e => ?_), hbl.trans (hO3.below hnew hbl.size)⟩
  · rw [List.map_append, h2, List.take_succ_eq_append_getElem hk, List.map_append, hx, List.getD, List.getElem?_eq_getElem hk]; rfl
  · rcases List.mem_append.1 hp with q | q
    · exact h3 p q
    · rw [List.mem_singleton.1 q]; exact ⟨px, nx, cx, rfl, ht, hxn⟩
  · rcases hat j e with q | q
    · exact hnew j q
    · rw [q]; exact hbl.size
  · obtain ⟨cc, hc⟩ := row_blk' h1 e
    exact blk_type_ne hb hc (by decide) rfl
set_option maxRecDepth 100000 in
set_option maxHeartbeats 8000000 in
theorem nsend_at {av na : Nat → Prop} {b : Nat} {v1 v2 v3 : Value} {S : NS} {K : Nat} (f : Int) (L : List Ltr) (a : Option Addr) (n c : Nat) (w : World) (h : NetAt w av b v1 v2 v3 S) (hI : LtIn w na a n c L) (hna : ∀ j, na j → j < w.heap.size ∧ ¬ NFoot b v1 v2 v3 j)
    (hL : S.Lim K) (hd : ∀ x, x ∈ L → x.2.length ≤ 1000000) (hK : K + L.length ≤ 1000000) :
    Calls Try.prog 27 #[.pointer (some ⟨b, 0, none⟩), .int .i64 f, .slice a n c] w fun e w' => e = .returned (.int .i64 (S.send f L).1) ∧ ∃ x1 x2, NetAt w' (fun k => av k ∨ w.heap.size ≤ k) b x1 x2 v3 (S.send f L).2 ∧ Only (NFoot b v1 v2 v3) w w' ∧ ∀ k, NFoot b x1 x2 v3 k → NFoot b v1 v2 v3 k ∨ w.heap.size ≤ k := by
  have H := Lib.hid h
  have HA := Lib.hid (h.mono (av' := fun k => av k ∨ w.heap.size ≤ k) fun k e _ => .inl e)
  have HFO := Lib.hid (show ∀ j, NFoot b v1 v2 v3 j → j < w.heap.size from fun j hj => h.lt hj)
  have HNA := Lib.hid hna
  have HI := Lib.hid hI
  have HN := Lib.hid hI.len
  have HLI := Lib.hid hL
  have HDD := Lib.hid hd
  have HK := Lib.hid hK
  have hn1 : n ≤ 1000000 := by rw [hI.len]; omega
  clear h hI hna hL hd hK
  go_enter Try.func27, Try.ntmps27
  go_wp2_with fail
  refine (nnone_at _ H.out).mono ?_
  rintro e w2 ⟨rfl, rfl⟩
  go_wp2_with fail
  refine (isdev_walk f _).mono ?_
  rintro e w3 ⟨rfl, rfl⟩
  by_cases hd : devP f
  · rw [decide_eq_true hd]
    have HDV := Lib.hid hd
    clear hd
    obtain ⟨M, hM⟩ : ∃ M : Bool, M = true ↔ ∃ x, x ∈ L ∧ ¬ devP x.1 := by
      by_cases q : ∃ x, x ∈ L ∧ ¬ devP x.1
      · exact ⟨true, fun _ => q, fun _ => rfl⟩
      · exact ⟨false, (fun e => by cases e), fun e => absurd e q⟩
    go_wp2_with fail
    refine (containsl_walk L a n c _ HI.out M hM).mono ?_
    rintro e w4 ⟨rfl, hb⟩
    have HB4 := Lib.hid hb
    have HNE := Lib.hid (H.out.on hb)
    have HAE := Lib.hid (HA.out.on hb)
    cases M with
    | true =>
      have HE := Lib.hid (show S.send f L = (1, S) from if_pos (.inr (hM.1 rfl)))
      clear hM hb
      go_wp2
      go_ret
      exact ⟨by rw [HE.out]; rfl, v1, v2, by rw [HE.out]; exact HAE.out, Only.of_below HB4.out, fun k e => .inl e⟩
    | false =>
      have HE := Lib.hid (show S.send f L = S.put (L.map (mkS f)) from if_neg (fun q => q.elim (fun r => r HDV.out) (fun r => by have := hM.2 r; cases this)))
      clear hM hb
      go_wp2_with (refine wpList_make_sents rfl (.const (.int .i64 0)) (.tmp 22) rfl n hn1 (by rfl) (by rfl) ?_; intro cur hcur; have hbm := below_one' w4 (.cells cur 47); have HJ := Lib.hid (show SJ na w3 (w4.alloc (.cells cur 47)) av b v1 v2 v3 S f L (.slice (some ⟨w4.heap.size, 0, none⟩) 0 n) 0 from ⟨⟨[], ⟨rfl, Or.inr ⟨w4.heap.size, n, cur, rfl, Nat.zero_le _, Blk.new w4 cur _, Nat.zero_le _, by unfold maxLen; omega, hcur, by simp [ncells]⟩⟩, rfl, (fun p hp => by cases hp)⟩, (fun j e => by cases e; exact HB4.out.size), HNE.out.on hbm, HB4.out.trans (hbm.mono HB4.out.size)⟩); clear hbm hcur)
      go_loopw [8, 26] (fun ov y wr => ∃ (k : Nat), k ≤ n ∧ y = .int .i64 (k : Nat) ∧ Hid (SJ na w3 wr av b v1 v2 v3 S f L ov k)) (fun _ y _ => n - (intOf y).toNat)
      case atStart => exact ⟨0, Nat.zero_le _, rfl, HJ.out⟩
      case round =>
        obtain ⟨k, hk, rfl, HSJ⟩ := hrel
        by_cases hlt : k < n
        · obtain ⟨g, o, px, nx, cx, ha, hg, hr, ht, _, hxn⟩ := HI.out.rd k (by have := HN.out; omega)
          subst ha
          obtain ⟨x, hx⟩ : ∃ x, x = L.getD k ltr0 := ⟨_, rfl⟩
          rw [← hx] at hr ht hxn
          have hbw := HSJ.out.bl
          have HR := Lib.hid (show _ from (fun j y hj => (hbw.cell (p := ⟨g, o + k * 2 + j, none⟩) hg).trans (hr j y hj) : World.rangeAt _ g (o + k * 2) [.int .i64 x.1, .slice px nx cx]))
          have HX := Lib.hid hx
          have HTX := Lib.hid ht
          have HXN := Lib.hid hxn
          have HKL := Lib.hid (show k < L.length by have := HN.out; omega)
          have H63 := Lib.hid (show k + 1 ≤ maxLen by unfold maxLen; omega)
          have HBY := Lib.hid (show (k + 1) * 40 ≤ 140737488355328 by omega)
          clear hr ht hx hbw hg hxn
          obtain ⟨oa, oc, rfl⟩ := HSJ.out.form
          obtain ⟨ls, h1, h2, h3⟩ := HSJ.out.row
          have H2 := Lib.hid h2
          have H3 := Lib.hid h3
          have H1 := Lib.hid h1
          have HNT := Lib.hid HSJ.out.net
          have HBL := Lib.hid HSJ.out.bl
          have HNW := Lib.hid HSJ.out.new
          clear h1 h2 h3
          go_wp2_with (first | (refine wpList_load_mid rfl 70 (.tmp 28) rfl g (o + k * 2) rfl [.int .i64 x.1, .slice px nx cx] _ HR.out Try.underlying70 rfl size_ltr ?_) | (refine wpList_store_abs rfl 70 (.tmp 10) (.tmp 29) rfl wr.heap.size #[.int .i64 x.1, .slice px nx cx] (by rfl) (by rfl) 70 _ (Blk.new wr _ _) size_ltr (by rfl) (by simp [Value.oneCell']) ?_; intro W hW p5; have hbw := hW.below ((Below.refl _ wr).alloc (Nat.le_refl _) _) (Nat.le_refl _); have hbx := below_one' W (.cells #[.int .i64 f, .int .i64 x.1, .slice px nx cx] 47); have hby := hbw.trans (hbx.mono hbw.size); have H1 := Lib.hid (row_same' H1.out fun j e => hby.block j (row_blk' H1.out e).choose_spec.lt); have HNT := Lib.hid (HNT.out.on hby); have HBL := Lib.hid (HBL.out.trans (hby.mono HBL.out.size)); have BJ := Lib.hid (Blk.new W #[.int .i64 f, .int .i64 x.1, .slice px nx cx] 47); have b0 := p5.cell 0 rfl; have b1 := p5.cell 1 rfl; clear hW p5 hbw hbx hby) | (refine wpList_append_row rfl (.tmp 30) (.tmp 37) 41 47 rfl (.agg #[.int .i64 0, .int .i64 0, .slice none 0 0]) 3 40 Try.underlying41 info_sent (by rfl) (by decide) (.slice oa k oc) k (ncells ls) (by rfl) H1.out _ 1 [.int .i64 f, .int .i64 x.1, .slice px nx cx] (by rfl) (by rfl) BJ.out (by simp [Value.oneCell']) H63.out HBY.out ?_; intro a7 c7 wu hO hg hat; have HSN := Lib.hid (SJ.snoc (x := x) HNT.out HBL.out HFO.out HNW.out H1.out H2.out H3.out HKL.out HX.out HTX.out HXN.out hg hO hat); clear hO hg hat))
          go_roundw
          case rel => exact ⟨k + 1, by have := HKL.out; have := HN.out; omega, by go_num, HSN.out⟩
          case measure => simp [intOf]; omega
        · obtain rfl : k = n := by omega
          obtain ⟨oa, oc, rfl, hlin⟩ := HSJ.out.lin HN.out HNA.out HFO.out
          have HLN := Lib.hid hlin
          clear hlin
          go_wp2_with fail
          refine (nput_walk (L.map (mkS f)) oa k oc (by rw [List.length_map]; exact HN.out) _ HSJ.out.net HLN.out (fun j hj => hj) HLI.out (fun s hs => by obtain ⟨x, hx, rfl⟩ := List.mem_map.1 hs; exact HDD.out x hx) (by rw [List.length_map]; exact HK.out)).mono ?_
          rintro e w6 ⟨rfl, x1, x2, hN, hO, hG⟩
          have HNF := Lib.hid (hN.mono (av' := fun k => av k ∨ w3.heap.size ≤ k) fun k e _ => e.imp id (fun q => Nat.le_trans HSJ.out.bl.size q))
          have HOF := Lib.hid ((Only.of_below (S := NFoot b v1 v2 v3) HSJ.out.bl).trans hO)
          have HGF := Lib.hid (show ∀ k, NFoot b x1 x2 v3 k → NFoot b v1 v2 v3 k ∨ w3.heap.size ≤ k from fun k e => (hG k e).imp id (fun q => Nat.le_trans HSJ.out.bl.size q))
          clear hN hO hG
          go_wp2
          go_ret
          exact ⟨by rw [HE.out]; rfl, x1, x2, by rw [HE.out]; exact HNF.out, HOF.out, HGF.out⟩
  · have HE := Lib.hid (show S.send f L = (1, S) from if_pos (.inl hd))
    rw [decide_eq_false hd]
    clear hd
    go_wp2
    go_ret
    exact ⟨by rw [HE.out]; rfl, v1, v2, by rw [HE.out]; exact HA.out, Only.refl _ _, fun k e => .inl e⟩
end Go.Proofs.Ytajjbffppkpjpaa
