import Derived.Test.YtgbahfggnbpnmaaRfD
/-
  The reference's Sync, Crash.
-/
namespace Go.Proofs.Ytgbahfggnbpnmaa
open Go.RowKit
/-- One sector of the reference's turns. -/
theorem RefAt.setG {w : World} {av : Nat → Prop} {b n gu cu : Nat} {v : Value} {S T : DS} (h : RefAt w av b n (.slice (some ⟨gu, 0, none⟩) n cu) v S) {i : Nat} (hi : i < n) {x : Value} {l : Sec} (hx : Tx w av x l)
    (h1 : T.good = S.good.set i l) (h2 : T.wait = S.wait) (h3 : T.gone = S.gone) (h4 : T.fuse = S.fuse) (h5 : T.ops = S.ops) :
    RefAt (w.setCell ⟨gu, i, none⟩ x) av b n (.slice (some ⟨gu, 0, none⟩) n cu) v T ∧ Only (· = gu) w (w.setCell ⟨gu, i, none⟩ x) := by
  have hO : Only (· = gu) w (w.setCell ⟨gu, i, none⟩ x) := Only.cell w x rfl
  refine ⟨?_, hO⟩
  obtain ⟨gs, hg, hg2⟩ := h.good
  obtain ⟨ws, hw, hw2⟩ := h.wait
  obtain ⟨a, c, e, k1, k2, k3, k4⟩ := row_form hg
  simp only [Value.slice.injEq] at e
  obtain ⟨rfl, _, rfl⟩ := e
  obtain ⟨g, cur, e1, e2, hb, k5, k6⟩ := k4 _ rfl
  cases e1
  have hne : ∀ k cur, av k → Blk w k cur 5 → ¬ k = gu := fun k cur _ hk e => h.foot_ne hk (.inr (.inl (by rw [e]; rfl)))
  have hl : l.length = 256 := by obtain ⟨_, _, _, _, _, q, _⟩ := hx; exact q
  refine ⟨⟨by rw [h1, List.length_set]; exact h.ok.len, fun s hs => ?_, by rw [h2]; exact h.ok.wt⟩, h.pos, by rw [h4]; exact h.fit, by rw [h3, h4, h5]; exact hO.blk h.blk (fun e => h.ub gu rfl e.symm), ⟨gs.set i x, ?_, by rw [h1]; exact (hg2.keep hO hne).set i (hx.keep hO hne)⟩,
    ⟨ws, by rw [h2]; exact row_same hw fun k e => hO.same k (h.lt (.inr (.inr e))) (fun q => (h.vb k e).2 (by rw [q]; rfl)), by rw [h2]; exact hw2.keep hO hne⟩⟩
  · rw [h1] at hs
    rcases List.mem_or_eq_of_mem_set hs with q | q
    · exact h.ok.sec s q
    · rw [q]; exact hl
  · refine ⟨by rw [List.length_set]; exact hg.1, Or.inr ⟨gu, cu, cur.setIfInBounds i x, rfl, Nat.zero_le _, (show Blk w gu cur 30 from hb).set i x, k1, k2, by simpa using k5, ?_⟩⟩
    rw [Array.toList_setIfInBounds, List.take_set, k6]
/-- The reference's plain cells turn and nothing waits any more. -/
theorem RefAt.scalW {w w' : World} {av : Nat → Prop} {b n : Nat} {u v : Value} {S T : DS} (h : RefAt w av b n u v S) (hO : Only (· = b) w w')
    (hB : Blk w' b #[u, .slice none 0 0, .bool T.gone, .int .i64 (fz T.fuse), .int .i64 (T.ops : Nat)] 71) (hf : ∀ f, T.fuse = some f → f ≤ 9223372036854775807)
    (h1 : T.good = S.good) (h2 : T.wait = []) : RefAt w' av b n u (.slice none 0 0) T := by
  obtain ⟨gs, hg, hg2⟩ := h.good
  have hne : ∀ k cur, av k → Blk w k cur 5 → ¬ k = b := fun k cur _ hb e => h.foot_ne hb (.inl e)
  exact ⟨⟨by rw [h1]; exact h.ok.len, by rw [h1]; exact h.ok.sec, by rw [h2]; intro p hp; cases hp⟩, h.pos, hf, hB, ⟨gs, row_same hg fun k e => hO.same k (h.lt (.inr (.inl e))) (h.ub k e), by rw [h1]; exact hg2.keep hO hne⟩,
    ⟨[], by rw [h2]; exact World.ownsRow_nil _ 0 _ _, by rw [h2]; exact ⟨rfl, fun i p hp => by simp at hp⟩⟩⟩
theorem ReadsB.onlyF {w W : World} {F : Nat → Prop} {a : Option Addr} {l : List Bool} (h : ReadsB w a l) (hO : Only F w W) (hF : ∀ g o, a = some ⟨g, o, none⟩ → 0 < l.length → ¬ F g) : ReadsB W a l := fun i hi => by
  obtain ⟨p, o, e, hp, hc⟩ := h i hi
  refine ⟨p, o, e, Nat.lt_of_lt_of_le hp hO.size, ?_⟩
  rw [← hc]
  exact World.cell?_of_block (a := ⟨p, o + i, none⟩) (hO.same p hp (hF p o e (by omega)))
theorem ReadsB.cell {w : World} {g o : Nat} {l : List Bool} (h : ReadsB w (some ⟨g, o, none⟩) l) {k : Nat} (hk : k < l.length) : w.cell? ⟨g, o + k, none⟩ = some (.bool (l.getD k false)) := by
  obtain ⟨p, q, e, _, hc⟩ := h k hk
  cases e
  exact hc
def DS.upG (S : DS) (G : List Sec) : DS := { S with good := G }
set_option maxRecDepth 100000 in
set_option maxHeartbeats 2000000 in
theorem rsync_at {av : Nat → Prop} {b n : Nat} {u v : Value} {S : DS} (w : World) (h : RefAt w av b n u v S) (hops : S.ops ≤ 4611686018427387904) (hlen : S.wait.length ≤ 1000000) :
    Calls Try.prog 44 #[.pointer (some ⟨b, 0, none⟩)] w fun e w' => e = .returned (.int .i64 S.sync.1) ∧ ∃ v', RefAt w' av b n u v' S.sync.2 ∧ Only (RFoot b u v) w w' ∧ ∀ k, v'.ownBlock = some k → v.ownBlock = some k := by
  have H := Lib.hid h
  have HOP := Lib.hid hops
  have c2 := h.c2
  clear h hops
  go_enter Try.func44, Try.ntmps44
  cases hg : S.gone with
  | true =>
    have HE := Lib.hid (show S.sync = (5, S) from if_pos hg)
    rw [hg] at c2
    clear hg hlen
    go_wp2
    go_ret
    exact ⟨by rw [HE.out]; rfl, v, by rw [HE.out]; exact H.out, Only.refl _ _, fun k e => e⟩
  | false =>
    have HG := Lib.hid hg
    rw [hg] at c2
    clear hg
    go_wp2_with fail
    refine (burnt_at _ H.out HOP.out).mono ?_
    rintro e w3 ⟨rfl, hD, hO⟩
    have HD := Lib.hid hD
    have HO := Lib.hid (hO.mono (T := RFoot b u v) fun k e => .inl e)
    clear hD hO c2
    cases hq : S.goes.1 with
    | false =>
      have HE := Lib.hid (show S.sync = (5, S.goes.2) by unfold DS.sync; rw [if_neg (by rw [HG.out]; decide), if_neg (by rw [hq]; decide)])
      clear hq hlen
      go_wp2
      go_ret
      exact ⟨by rw [HE.out]; rfl, v, by rw [HE.out]; exact HD.out, HO.out, fun k e => e⟩
    | true =>
      have HE := Lib.hid (show S.sync = (0, { S.goes.2 with good := settle S.good S.wait (fun _ => true), wait := [] }) by unfold DS.sync; rw [if_neg (by rw [HG.out]; decide), if_pos hq])
      clear hq
      obtain ⟨G, hG⟩ : ∃ G, G = S.goes.2 := ⟨_, rfl⟩
      have HGW := Lib.hid (show G.wait = S.wait by rw [hG, goes_wait])
      have HGG := Lib.hid (show G.good = S.good by rw [hG, goes_good])
      have HGE := Lib.hid hG
      have hD := HD.out
      rw [← hG] at hD
      obtain ⟨gu, cu, rfl, hcu1, hcu2⟩ := hD.u_form
      obtain ⟨a, c, rfl⟩ := hD.row_form'
      obtain ⟨m, hm⟩ : ∃ m, m = G.wait.length := ⟨_, rfl⟩
      rw [← hm] at hD
      have HM := Lib.hid hm
      have hm1 : m ≤ 1000000 := by rw [hm, HGW.out]; exact hlen
      have HD3 := Lib.hid hD
      have HO := Lib.hid (show Only (RFoot b (.slice (some ⟨gu, 0, none⟩) n cu) (.slice a m c)) w w3 by rw [hm]; exact HO.out)
      have c1 := hD.c1
      clear hm hG hD hlen hcu1 hcu2 HD
      go_wp2
      clear c1
      go_loopw [18] (fun x wr => ∃ k : Nat, k ≤ m ∧ x = .int .i64 (k : Nat) ∧ Hid (RefAt wr av b n (.slice (some ⟨gu, 0, none⟩) n cu) (.slice a m c) (G.upG (settleTo S.good S.wait (fun _ => true) k))) ∧ Hid (Only (RFoot b (.slice (some ⟨gu, 0, none⟩) n cu) (.slice a m c)) w wr)) (fun x _ => m - (intOf x).toNat)
      case atStart => exact ⟨0, Nat.zero_le _, rfl, by
        have := HD3.out
        show RefAt _ _ _ _ _ _ (G.upG S.good)
        rw [← HGG.out]; exact this, HO.out⟩
      case round =>
        obtain ⟨k, hk, rfl, HR, HB⟩ := hrel
        by_cases hlt : k < m
        · have HWL := Lib.hid (show m = S.wait.length by rw [HM.out, HGW.out])
          obtain ⟨gw, cur, y, ha, hb, h1, h2, ht⟩ := HR.out.w_at (i := k) (by show k < G.wait.length; rw [← HM.out]; exact hlt)
          subst ha
          have HK := Lib.hid hlt
          obtain ⟨p, hp⟩ : ∃ p, p = S.wait.getD k (0, []) := ⟨_, rfl⟩
          rw [show (G.upG (settleTo S.good S.wait (fun _ => true) k)).wait = S.wait from HGW.out, ← hp] at h1 ht
          have hpn : p.1 < n := (HR.out.ok.wt p (by show p ∈ G.wait; rw [HGW.out, hp, getD_of (by rw [← HWL.out]; exact hlt)]; exact List.getElem_mem _)).1
          have HSU := Lib.hid (show settleTo S.good S.wait (fun _ => true) (k + 1) = (settleTo S.good S.wait (fun _ => true) k).set p.1 p.2 by rw [settleTo_succ]; unfold stepG; rw [if_pos rfl, hp])
          have HC := Lib.hid hb
          have HV := Lib.hid (show ∀ j, j < [Value.int .i64 (p.1 : Nat), y].length → cur[k * 2 + j]? = [Value.int .i64 (p.1 : Nat), y][j]? from fun j hj => by
            have : j = 0 ∨ j = 1 := by simp at hj; omega
            rcases this with rfl | rfl
            · exact h1
            · exact h2)
          have HY := Lib.hid ht
          clear hb h1 h2 ht hp
          obtain ⟨ky, oy, cy, rfl, _⟩ := HY.out.txt
          obtain ⟨z0, cz, fz0, _⟩ := HR.out.u_at hpn
          have hn2 := HR.out.pos.2
          clear cz
          go_wp2_with (first | (refine wpList_load_sub rfl 76 (.tmp 20) rfl gw (k * 2) rfl HC.out [.int .i64 (p.1 : Nat), .slice (some ⟨ky, oy, none⟩) 256 cy] HV.out _ Try.underlying76 rfl size_rwt ?_) | (refine wpList_store_abs rfl 76 (.tmp 4) (.tmp 21) rfl wr.heap.size #[.int .i64 (p.1 : Nat), .slice (some ⟨ky, oy, none⟩) 256 cy] (by rfl) (by rfl) 76 _ (Blk.new wr _ _) size_rwt (by rfl) (by simp [Value.oneCell']) ?_; intro W hW p5; have hbw := hW.below ((Below.refl wr.heap.size wr).alloc (Nat.le_refl _) _) (Nat.le_refl _); have HBW := Lib.hid (HB.out.trans (Only.of_below hbw)); have HYW := Lib.hid (HY.out.on hbw); have HRW := Lib.hid (HR.out.on hbw); have b0 := p5.cell 0 rfl; have b1 := p5.cell 1 rfl; clear hW p5 hbw fz0))
          have f0 := HRW.out.c0
          obtain ⟨z1, cz1, fz1, _⟩ := HRW.out.u_at hpn
          go_region
          all_goals
            obtain ⟨hR2, hO2⟩ := HRW.out.setG (T := G.upG (settleTo S.good S.wait (fun _ => true) (k + 1))) hpn HYW.out (by show settleTo _ _ _ _ = _; rw [HSU.out]; rfl) rfl rfl rfl rfl
            have hd := (Below.refl (W.setCell ⟨gu, p.1, none⟩ (.slice (some ⟨ky, oy, none⟩) 256 cy)).heap.size (W.setCell ⟨gu, p.1, none⟩ (.slice (some ⟨ky, oy, none⟩) 256 cy))).drew
            have HR2 := Lib.hid (hR2.on hd)
            have HB2 := Lib.hid ((HBW.out.trans (hO2.mono fun j e => .inr (.inl (by rw [e]; rfl)))).trans (Only.of_below hd))
            clear hR2 hO2 f0 cz1 fz1 b0 b1 hd
            generalize World.drew _ = W2 at *
            go_wp2
            go_roundw
            case rel => exact ⟨k + 1, HK.out, by go_num, HR2.out, HB2.out⟩
            case measure => have := HK.out; simp [intOf]; omega
        · obtain rfl : k = m := by omega
          have c1 := HR.out.c1
          have f1 := HR.out.blk.free 1
          go_wp2
          go_ret
          have hO3 : Only (· = b) wr (wr.setCell ⟨b, 1, none⟩ (.slice none 0 0)) := Only.cell wr _ rfl
          have hm2 : S.wait.length = k := by rw [HM.out, HGW.out]
          refine ⟨by rw [HE.out]; rfl, .slice none 0 0, ?_, ?_, fun k e => by cases e⟩
          · rw [HE.out, ← HGE.out]
            refine HR.out.scalW hO3 (HR.out.blk.set 1 _) HR.out.fit ?_ rfl
            show settle S.good S.wait _ = settleTo S.good S.wait _ k
            unfold settle
            rw [hm2]
          · rw [← HM.out]
            exact HB.out.trans (hO3.mono fun j e => .inl e)
theorem Only.two (w : World) (b i j k : Nat) (x y z : Value) : Only (· = b) w (((w.setCell ⟨b, i, none⟩ x).setCell ⟨b, j, none⟩ y).setCell ⟨b, k, none⟩ z) := (only2 w b i j x y).trans (Only.cell (S := (· = b)) _ z rfl)
set_option maxRecDepth 100000 in
set_option maxHeartbeats 2000000 in
theorem rcrash_at {av : Nat → Prop} {b n : Nat} {u v : Value} {S : DS} (q : Option Addr) (mq cq : Nat) (l : List Bool) (hmq : mq = l.length) (w : World) (h : RefAt w av b n u v S) (hlen : S.wait.length ≤ 1000000) (hq : ReadsB w q l) (hqf : ∀ g o, q = some ⟨g, o, none⟩ → 0 < l.length → ¬ RFoot b u v g) :
    Calls Try.prog 46 #[.pointer (some ⟨b, 0, none⟩), .slice q mq cq] w fun e w' => (∃ u, e = .returned u) ∧ ∃ v', RefAt w' av b n u v' (S.crash l) ∧ Only (RFoot b u v) w w' ∧ ∀ k, v'.ownBlock = some k → v.ownBlock = some k := by
  obtain ⟨gu, cu, rfl, hcu1, hcu2⟩ := h.u_form
  obtain ⟨a, c, rfl⟩ := h.row_form'
  obtain ⟨m, hm⟩ : ∃ m, m = S.wait.length := ⟨_, rfl⟩
  rw [← hm] at h
  have hm1 : m ≤ 1000000 := by omega
  have H := Lib.hid h
  have HM := Lib.hid hm
  have HMQ := Lib.hid hmq
  have HQ0 := Lib.hid hq
  have HQF := Lib.hid hqf
  have c1 := h.c1
  clear h hm hlen hmq hq hqf hcu1 hcu2
  go_enter Try.func46, Try.ntmps46
  go_wp2
  clear c1
  go_loopw [11] (fun x wr => ∃ k : Nat, k ≤ m ∧ x = .int .i64 (k : Nat) ∧ Hid (RefAt wr av b n (.slice (some ⟨gu, 0, none⟩) n cu) (.slice a m c) (S.upG (settleTo S.good S.wait (fun i => l.getD i false) k))) ∧ Hid (ReadsB wr q l) ∧ Hid (Only (RFoot b (.slice (some ⟨gu, 0, none⟩) n cu) (.slice a m c)) w wr)) (fun x _ => m - (intOf x).toNat)
  case atStart => exact ⟨0, Nat.zero_le _, rfl, H.out, HQ0.out, Only.refl _ _⟩
  case round =>
    obtain ⟨k, hk, rfl, HR, HQ, HB⟩ := hrel
    by_cases hlt : k < m
    · obtain ⟨gw, cur, y, ha, hb, h1, h2, ht⟩ := HR.out.w_at (i := k) (by show k < S.wait.length; rw [← HM.out]; exact hlt)
      subst ha
      have HK := Lib.hid hlt
      obtain ⟨p, hp⟩ : ∃ p, p = S.wait.getD k (0, []) := ⟨_, rfl⟩
      rw [show (S.upG (settleTo S.good S.wait (fun i => l.getD i false) k)).wait = S.wait from rfl, ← hp] at h1 ht
      have hpn : p.1 < n := (HR.out.ok.wt p (by show p ∈ S.wait; rw [hp, getD_of (by rw [← HM.out]; exact hlt)]; exact List.getElem_mem _)).1
      have HC := Lib.hid hb
      have HV := Lib.hid (show ∀ j, j < [Value.int .i64 (p.1 : Nat), y].length → cur[k * 2 + j]? = [Value.int .i64 (p.1 : Nat), y][j]? from fun j hj => by
        have : j = 0 ∨ j = 1 := by simp at hj; omega
        rcases this with rfl | rfl
        · exact h1
        · exact h2)
      have HY := Lib.hid ht
      have HPP := Lib.hid hp
      clear hb h1 h2 ht hp
      obtain ⟨ky, oy, cy, rfl, _⟩ := HY.out.txt
      have hn2 := HR.out.pos.2
      by_cases hl : k < l.length
      · have hl2 : (k : Int) < (mq : Int) := by rw [HMQ.out]; omega
        obtain ⟨gq, oq, rfl, hgq, hcq⟩ := HQ.out k hl
        cases hlk : l.getD k false with
        | true =>
          have HSU := Lib.hid (show settleTo S.good S.wait (fun i => l.getD i false) (k + 1) = (settleTo S.good S.wait (fun i => l.getD i false) k).set p.1 p.2 by rw [settleTo_succ]; unfold stepG; rw [if_pos hlk, HPP.out])
          have HLK := Lib.hid hlk
          have HL := Lib.hid hl
          clear hcq hlk hl
          go_wp2_with (first | (refine wpList_load_sub rfl 76 (.tmp 14) rfl gw (k * 2) rfl HC.out [.int .i64 (p.1 : Nat), .slice (some ⟨ky, oy, none⟩) 256 cy] HV.out _ Try.underlying76 rfl size_rwt ?_) | (refine wpList_store_abs rfl 76 (.tmp 5) (.tmp 15) rfl wr.heap.size #[.int .i64 (p.1 : Nat), .slice (some ⟨ky, oy, none⟩) 256 cy] (by rfl) (by rfl) 76 _ (Blk.new wr _ _) size_rwt (by rfl) (by simp [Value.oneCell']) ?_; intro W hW p5; have hbw := hW.below ((Below.refl wr.heap.size wr).alloc (Nat.le_refl _) _) (Nat.le_refl _); have HBW := Lib.hid (HB.out.trans (Only.of_below hbw)); have HYW := Lib.hid (HY.out.on hbw); have HRW := Lib.hid (HR.out.on hbw); have HQW := Lib.hid (HQ.out.on hbw); have b0 := p5.cell 0 rfl; have b1 := p5.cell 1 rfl; have cq1 := (HQW.out.cell HL.out).trans (by rw [HLK.out]); have f0 := HRW.out.c0; obtain ⟨z1, cz1, fz1, _⟩ := HRW.out.u_at hpn; clear hW p5 hbw))
          go_region
          all_goals
            obtain ⟨hR2, hO2⟩ := HRW.out.setG (T := S.upG (settleTo S.good S.wait (fun i => l.getD i false) (k + 1))) hpn HYW.out (by show settleTo _ _ _ _ = _; rw [HSU.out]; rfl) rfl rfl rfl rfl
            have hd := (Below.refl (W.setCell ⟨gu, p.1, none⟩ (.slice (some ⟨ky, oy, none⟩) 256 cy)).heap.size (W.setCell ⟨gu, p.1, none⟩ (.slice (some ⟨ky, oy, none⟩) 256 cy))).drew
            have HR2 := Lib.hid (hR2.on hd)
            have HQ2 := Lib.hid ((HQW.out.onlyF hO2 (fun g o e h0 e2 => HQF.out g o e h0 (by rw [e2, ← HM.out]; exact .inr (.inl rfl)))).on hd)
            have HB2 := Lib.hid ((HBW.out.trans (hO2.mono fun j e => .inr (.inl (by rw [e]; rfl)))).trans (Only.of_below hd))
            clear hR2 hO2 f0 cz1 fz1 b0 b1 hd cq1
            generalize World.drew _ = W2 at *
            go_wp2
            go_roundw
            case rel => exact ⟨k + 1, HK.out, by go_num, HR2.out, HQ2.out, HB2.out⟩
            case measure => have := HK.out; simp [intOf]; omega
        | false =>
          have HSU := Lib.hid (show settleTo S.good S.wait (fun i => l.getD i false) (k + 1) = settleTo S.good S.wait (fun i => l.getD i false) k by rw [settleTo_succ]; unfold stepG; rw [if_neg (show ¬ l.getD k false = true by rw [hlk]; decide)])
          have HLK := Lib.hid hlk
          have HL := Lib.hid hl
          clear hcq hlk hl
          go_wp2_with (first | (refine wpList_load_sub rfl 76 (.tmp 14) rfl gw (k * 2) rfl HC.out [.int .i64 (p.1 : Nat), .slice (some ⟨ky, oy, none⟩) 256 cy] HV.out _ Try.underlying76 rfl size_rwt ?_) | (refine wpList_store_abs rfl 76 (.tmp 5) (.tmp 15) rfl wr.heap.size #[.int .i64 (p.1 : Nat), .slice (some ⟨ky, oy, none⟩) 256 cy] (by rfl) (by rfl) 76 _ (Blk.new wr _ _) size_rwt (by rfl) (by simp [Value.oneCell']) ?_; intro W hW p5; have hbw := hW.below ((Below.refl wr.heap.size wr).alloc (Nat.le_refl _) _) (Nat.le_refl _); have HBW := Lib.hid (HB.out.trans (Only.of_below hbw)); have HYW := Lib.hid (HY.out.on hbw); have HRW := Lib.hid (HR.out.on hbw); have HQW := Lib.hid (HQ.out.on hbw); have b0 := p5.cell 0 rfl; have b1 := p5.cell 1 rfl; have cq1 := (HQW.out.cell HL.out).trans (by rw [HLK.out]); clear hW p5 hbw))
          go_roundw
          case rel => exact ⟨k + 1, HK.out, by go_num, by rw [HSU.out]; exact HRW.out, HQW.out, HBW.out⟩
          case measure => have := HK.out; simp [intOf]; omega
      · have hl2 : ¬ (k : Int) < (mq : Int) := by rw [HMQ.out]; omega
        have HSU := Lib.hid (show settleTo S.good S.wait (fun i => l.getD i false) (k + 1) = settleTo S.good S.wait (fun i => l.getD i false) k by rw [settleTo_succ]; unfold stepG; rw [if_neg (show ¬ l.getD k false = true by rw [List.getD_eq_getElem?_getD, List.getElem?_eq_none (by omega)]; decide)])
        clear hl
        go_wp2_with (first | (refine wpList_load_sub rfl 76 (.tmp 14) rfl gw (k * 2) rfl HC.out [.int .i64 (p.1 : Nat), .slice (some ⟨ky, oy, none⟩) 256 cy] HV.out _ Try.underlying76 rfl size_rwt ?_) | (refine wpList_store_abs rfl 76 (.tmp 5) (.tmp 15) rfl wr.heap.size #[.int .i64 (p.1 : Nat), .slice (some ⟨ky, oy, none⟩) 256 cy] (by rfl) (by rfl) 76 _ (Blk.new wr _ _) size_rwt (by rfl) (by simp [Value.oneCell']) ?_; intro W hW p5; have hbw := hW.below ((Below.refl wr.heap.size wr).alloc (Nat.le_refl _) _) (Nat.le_refl _); have HBW := Lib.hid (HB.out.trans (Only.of_below hbw)); have HYW := Lib.hid (HY.out.on hbw); have HRW := Lib.hid (HR.out.on hbw); have HQW := Lib.hid (HQ.out.on hbw); have b0 := p5.cell 0 rfl; have b1 := p5.cell 1 rfl; clear hW p5 hbw))
        go_roundw
        case rel => exact ⟨k + 1, HK.out, by go_num, by rw [HSU.out]; exact HRW.out, HQW.out, HBW.out⟩
        case measure => have := HK.out; simp [intOf]; omega
    · obtain rfl : k = m := by omega
      have c1 := HR.out.c1
      have c2 := HR.out.c2
      have c3 := HR.out.c3
      have f1 := HR.out.blk.free 1
      have f2 := HR.out.blk.free 2
      have f3 := HR.out.blk.free 3
      go_wp2
      go_end0
      refine ⟨⟨_, rfl⟩, .slice none 0 0, ?_, by rw [← HM.out]; exact HB.out.trans ((Only.two wr b 1 2 3 _ _ _).mono fun j e => .inl e), fun k e => by cases e⟩
      refine HR.out.scalW (Only.two wr b 1 2 3 _ _ _) (((HR.out.blk.set 1 _).set 2 _).set 3 _) (fun f e => by cases e) ?_ rfl
      show settle S.good S.wait _ = settleTo S.good S.wait _ k
      unfold settle
      rw [← HM.out]
end Go.Proofs.Ytgbahfggnbpnmaa
