import Derived.Test.YtgbahfggnbpnmaaRfA
/-
  The reference's Read, Image.
-/
namespace Go.Proofs.Ytgbahfggnbpnmaa
open Go.RowKit
theorem size_rwt : (Try.prog.info? 76).map (·.size) = some 2 := by kernel_rfl
theorem lat_succ (S : DS) (q k : Nat) (hk : k < S.wait.length) : (S.wait.take (k + 1)).foldl (pickW q) (S.good.getD q []) = pickW q ((S.wait.take k).foldl (pickW q) (S.good.getD q [])) (S.wait.getD k (0, [])) := by
  rw [List.take_succ_eq_append_getElem hk, List.foldl_append, getD_of hk]; rfl
theorem RefAt.row_form' {w : World} {av : Nat → Prop} {b n : Nat} {u v : Value} {S : DS} (h : RefAt w av b n u v S) : ∃ a c, v = .slice a S.wait.length c := by
  obtain ⟨ws, hw, _⟩ := h.wait
  obtain ⟨a, c, e, _⟩ := row_form hw
  exact ⟨a, c, e⟩
set_option maxRecDepth 100000 in
set_option maxHeartbeats 2000000 in
theorem rread_at {av : Nat → Prop} {b n : Nat} {u v : Value} {S : DS} (i : Int) (w : World) (h : RefAt w av b n u v S) (hlen : S.wait.length ≤ 1000000) :
    Calls Try.prog 30 #[.pointer (some ⟨b, 0, none⟩), .int .i64 i] w fun e w' => ∃ x, e = .returned (.tuple #[x, .int .i64 (S.read i).2]) ∧ OwnB w' w.heap.size x (S.read i).1 ∧ Below w.heap.size w w' := by
  obtain ⟨gu, cu, rfl, hcu⟩ := h.u_form
  obtain ⟨a, c, rfl⟩ := h.row_form'
  obtain ⟨m, hm⟩ : ∃ m, m = S.wait.length := ⟨_, rfl⟩
  rw [← hm] at h
  have hm1 : m ≤ 1000000 := by omega
  have H := Lib.hid h
  have HM := Lib.hid hm
  have hlg := h.ok.len
  have hn := h.pos.2
  have c0 := h.c0
  have c1 := h.c1
  have c2 := h.c2
  clear h hm hlen hcu
  go_enter Try.func30, Try.ntmps30
  by_cases h1 : i < 0
  · have HE := Lib.hid (show S.read i = ([], 1) from if_pos (.inl h1))
    clear hlg
    go_wp2
    go_ret2
    exact ⟨_, by rw [HE.out]; rfl, by rw [HE.out]; exact OwnB.nil _ _, Below.refl _ _⟩
  by_cases h2 : (n : Int) ≤ i
  · have HE := Lib.hid (show S.read i = ([], 1) from if_pos (.inr (by rw [hlg]; exact h2)))
    clear hlg
    go_wp2
    go_ret2
    exact ⟨_, by rw [HE.out]; rfl, by rw [HE.out]; exact OwnB.nil _ _, Below.refl _ _⟩
  obtain ⟨q, rfl⟩ : ∃ q : Nat, i = q := ⟨i.toNat, by omega⟩
  have hq : q < n := by omega
  have hout : ¬ S.out (q : Int) := by unfold DS.out; rw [hlg]; omega
  cases hg : S.gone with
  | true =>
    have HE := Lib.hid (show S.read (q : Int) = ([], 5) by unfold DS.read; rw [if_neg hout, if_pos hg])
    rw [hg] at c2
    clear hlg hout hg
    go_wp2
    go_ret2
    exact ⟨_, by rw [HE.out]; rfl, by rw [HE.out]; exact OwnB.nil _ _, Below.refl _ _⟩
  | false =>
    have HE := Lib.hid (show S.read (q : Int) = (S.latest q, 0) by unfold DS.read; rw [if_neg hout, if_neg (by rw [hg]; decide)]; simp)
    rw [hg] at c2
    obtain ⟨x0, cx, fx, ht⟩ := H.out.u_at hq
    have HT := Lib.hid ht
    clear hlg hout hg fx ht
    go_wp2
    clear c0 c1 c2 cx
    go_loopw [6, 36] (fun bb x wr => ∃ k : Nat, k ≤ m ∧ x = .int .i64 (k : Nat) ∧ Hid (Tx wr av bb ((S.wait.take k).foldl (pickW q) (S.good.getD q []))) ∧ Hid (Below w.heap.size w wr)) (fun _ x _ => m - (intOf x).toNat)
    case atStart => exact ⟨0, Nat.zero_le _, rfl, HT.out, Below.refl _ _⟩
    case round =>
      obtain ⟨k, hk, rfl, HX, HB⟩ := hrel
      by_cases hlt : k < m
      · have HR := Lib.hid (H.out.on HB.out)
        obtain ⟨gw, cur, y, ha, hb, h1, h2, ht⟩ := HR.out.w_at (i := k) (by rw [← HM.out]; exact hlt)
        subst ha
        have HK := Lib.hid hlt
        have HS := Lib.hid (lat_succ S q k (by rw [← HM.out]; exact hlt))
        obtain ⟨p, hp⟩ : ∃ p, p = S.wait.getD k (0, []) := ⟨_, rfl⟩
        rw [← hp] at h1 ht
        have HPP := Lib.hid hp
        have HC := Lib.hid hb
        have HV := Lib.hid (show ∀ j, j < [Value.int .i64 (p.1 : Nat), y].length → cur[k * 2 + j]? = [Value.int .i64 (p.1 : Nat), y][j]? from fun j hj => by
          have : j = 0 ∨ j = 1 := by simp at hj; omega
          rcases this with rfl | rfl
          · exact h1
          · exact h2)
        have HY := Lib.hid ht
        clear hb h1 h2 ht hp
        obtain ⟨ky, oy, cy, rfl, _⟩ := HY.out.txt
        by_cases hpq : p.1 = q
        · have hd : (((p.1 : Nat) : Int) == (q : Int)) = true := by simp; omega
          have HPQ := Lib.hid hpq
          clear hpq
          go_wp2_with (first | (refine wpList_load_sub rfl 76 (.tmp 38) rfl gw (k * 2) rfl HC.out [.int .i64 (p.1 : Nat), .slice (some ⟨ky, oy, none⟩) 256 cy] HV.out _ Try.underlying76 rfl size_rwt ?_) | (refine wpList_store_abs rfl 76 (.tmp 8) (.tmp 39) rfl wr.heap.size #[.int .i64 (p.1 : Nat), .slice (some ⟨ky, oy, none⟩) 256 cy] (by rfl) (by rfl) 76 _ (Blk.new wr _ _) size_rwt (by rfl) (by simp [Value.oneCell']) ?_; intro W hW p5; have hbw := hW.below ((Below.refl wr.heap.size wr).alloc (Nat.le_refl _) _) (Nat.le_refl _); have HBW := Lib.hid (HB.out.trans (hbw.mono HB.out.size)); have HYW := Lib.hid (HY.out.on hbw); have b0 := p5.cell 0 rfl; have b1 := p5.cell 1 rfl; clear hW p5 hbw))
          go_roundw
          case rel =>
            refine ⟨k + 1, HK.out, by go_num, ?_, HBW.out⟩
            rw [HS.out, ← HPP.out]
            unfold pickW
            rw [if_pos HPQ.out]
            exact HYW.out
          case measure => have := HK.out; simp [intOf]; omega
        · have hd : (((p.1 : Nat) : Int) == (q : Int)) = false := by simp; omega
          have HPQ := Lib.hid hpq
          clear hpq
          go_wp2_with (first | (refine wpList_load_sub rfl 76 (.tmp 38) rfl gw (k * 2) rfl HC.out [.int .i64 (p.1 : Nat), .slice (some ⟨ky, oy, none⟩) 256 cy] HV.out _ Try.underlying76 rfl size_rwt ?_) | (refine wpList_store_abs rfl 76 (.tmp 8) (.tmp 39) rfl wr.heap.size #[.int .i64 (p.1 : Nat), .slice (some ⟨ky, oy, none⟩) 256 cy] (by rfl) (by rfl) 76 _ (Blk.new wr _ _) size_rwt (by rfl) (by simp [Value.oneCell']) ?_; intro W hW p5; have hbw := hW.below ((Below.refl wr.heap.size wr).alloc (Nat.le_refl _) _) (Nat.le_refl _); have HBW := Lib.hid (HB.out.trans (hbw.mono HB.out.size)); have HXW := Lib.hid (HX.out.on hbw); have b0 := p5.cell 0 rfl; have b1 := p5.cell 1 rfl; clear hW p5 hbw))
          go_roundw
          case rel =>
            refine ⟨k + 1, HK.out, by go_num, ?_, HBW.out⟩
            rw [HS.out, ← HPP.out]
            unfold pickW
            rw [if_neg HPQ.out]
            exact HXW.out
          case measure => have := HK.out; simp [intOf]; omega
      · have HF := Lib.hid (show (S.wait.take k).foldl (pickW q) (S.good.getD q []) = S.latest q by
          rw [List.take_of_length_le (by rw [← HM.out]; omega)]; rfl)
        obtain ⟨ky, oy, cy, rfl, ht⟩ := HX.out.txt
        rw [HF.out] at ht
        have HT2 := Lib.hid ht
        have HL2 := Lib.hid (show (S.latest q).length = 256 from ht.len.symm)
        clear ht
        go_wp2_with fail
        refine (join1 wr 30 _ rfl HT2.out (by rw [HL2.out]; omega)).mono ?_
        rintro e w9 ⟨a9, n9, c9, rfl, hO, hb⟩
        have HO9 := Lib.hid (hO.mono HB.out.size)
        have HB9 := Lib.hid (HB.out.trans (hb.mono HB.out.size))
        clear hO hb
        go_wp2
        go_ret2
        exact ⟨_, by rw [HE.out]; rfl, by rw [HE.out]; exact HO9.out, HB9.out⟩
theorem TxL.parts {w : World} {av : Nat → Prop} {gs : List Value} {G : List Sec} (h : TxL w av gs G) {gu : Nat} {cur : Array Value} {t : TypeId} (hb : Blk w gu cur t) (hc : cur.toList.take (G.length * 1) = gs) : Parts w (· < w.heap.size) (some ⟨gu, 0, none⟩) G := fun i hi => by
  obtain ⟨v, hv, ht⟩ := h.at hi
  obtain ⟨k, o, c, rfl, h1⟩ := ht.txt
  rw [← hc, List.getElem?_take_of_lt (by omega)] at hv
  exact ⟨gu, 0, _, _, _, rfl, hb.lt, hb.cell (0 + i) (by rw [Nat.zero_add]; simpa using hv), h1.len, h1.fit, h1.rd, h1.old⟩
set_option maxRecDepth 100000 in
set_option maxHeartbeats 1000000 in
theorem rimage_at {av : Nat → Prop} {b n : Nat} {u v : Value} {S : DS} (w : World) (h : RefAt w av b n u v S) :
    Calls Try.prog 33 #[.pointer (some ⟨b, 0, none⟩)] w fun e w' => ∃ a m c, e = .returned (.slice a m c) ∧ OwnB w' w.heap.size (.slice a m c) S.image ∧ Below w.heap.size w w' := by
  obtain ⟨gs, hg, hg2⟩ := h.good
  obtain ⟨a, cu, rfl, h1, h2, h3, h4⟩ := row_form hg
  cases a with
  | none => have := (h3 rfl).1; have := h.pos.1; omega
  | some q =>
    obtain ⟨gu, cur, rfl, e2, hb, h5, h6⟩ := h4 q rfl
    have hP := hg2.parts hb (by rw [h.ok.len]; exact h6)
    have HP := Lib.hid hP
    have HL := Lib.hid h.ok.len
    have HF := Lib.hid (flat_size h.ok.sec)
    have hn := h.pos.2
    have c0 := h.c0
    clear hP hb h h1 h2 h3 h4 h5 h6 hg hg2 e2
    go_enter Try.func33, Try.ntmps33
    go_wp2_with fail
    refine (join_walk S.good n cu HL.out.symm _ _ HP.out (by rw [HF.out, HL.out]; omega) (by rw [HL.out]; omega)).mono ?_
    rintro e w9 ⟨a9, n9, c9, rfl, hO, hb⟩
    have HO9 := Lib.hid hO
    have HB9 := Lib.hid hb
    clear hO hb
    go_wp2
    go_ret
    exact ⟨_, _, _, rfl, HO9.out, HB9.out⟩
end Go.Proofs.Ytgbahfggnbpnmaa
