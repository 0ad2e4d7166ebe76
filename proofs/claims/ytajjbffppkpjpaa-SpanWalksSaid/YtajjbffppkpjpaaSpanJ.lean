import Derived.Test.YtajjbffppkpjpaaSpanI
import Derived.Test.YtajjbffppkpjpaaSpanX
/-
  span.Sub.
-/
namespace Go.Proofs.Ytajjbffppkpjpaa
open Go.RowKit
theorem cut_none {r x : Rg} (h : ¬ (inter x r).lo < (inter x r).hi) : cutP r x = [x] := if_neg h
theorem cut_some {r x : Rg} (h : (inter x r).lo < (inter x r).hi) : cutP r x = (if x.lo < r.lo then [⟨x.lo, r.lo⟩] else []) ++ (if r.hi < x.hi then [⟨r.hi, x.hi⟩] else []) := if_pos h
theorem cut_len (r x : Rg) : (cutP r x).length ≤ 2 := by
  by_cases h : (inter x r).lo < (inter x r).hi
  · rw [cut_some h]
    split <;> split <;> simp
  · rw [cut_none h]; simp
theorem sub_succ (l : List Rg) (r : Rg) (i : Nat) (h : i < l.length) : subP (l.take (i + 1)) r = subP (l.take i) r ++ cutP r (l.getD i r0) := by
  rw [List.take_add_one, subP, List.flatMap_append]
  simp [subP, List.getD, h]
theorem sub_len (l : List Rg) (r : Rg) : (subP l r).length ≤ 2 * l.length := by
  induction l with
  | nil => simp [subP]
  | cons x l ih =>
    have := cut_len r x
    simp only [subP, List.flatMap_cons, List.length_append, List.length_cons] at *
    omega
theorem Blk.past {w w' : World} {g : Nat} {cs : Array Value} {t : TypeId} {k : Option Nat} (h : Blk w g cs t) (hg : w.grownBy w' k) (hne : ∀ j, k = some j → j ≠ g) : Blk w' g cs t :=
  h.grown hg (fun e => hne g e.symm rfl)
theorem covP_iff {l : List Rg} {r : Rg} (hl : MayP l) (hr : oneP r) : (∃ x, x ∈ l ∧ (decide ((inter x r).lo < (inter x r).hi) && decide (inter x r = r)) = true) ↔ covP l r := by
  constructor
  · rintro ⟨x, hx, h⟩
    rw [Bool.and_eq_true, decide_eq_true_iff, decide_eq_true_iff] at h
    have h2 := h.2
    refine ⟨x, hx, ?_, ?_⟩
    · have : (inter x r).lo = r.lo := by rw [h2]
      simp only [inter] at this; omega
    · have : (inter x r).hi = r.hi := by rw [h2]
      simp only [inter] at this; omega
  · rintro ⟨x, hx, h1, h2⟩
    refine ⟨x, hx, ?_⟩
    have e : inter x r = r := by
      cases r
      simp only [inter, Rg.mk.injEq] at *
      omega
    rw [e, Bool.and_eq_true, decide_eq_true_iff, decide_eq_true_iff]
    exact ⟨hr.1, rfl⟩
set_option maxRecDepth 100000 in
set_option maxHeartbeats 2000000 in
theorem sub_walk (l : List Rg) (r : Rg) (a : Option Addr) (n c : Nat) (w : World) (hL : RgsIn w a n c l) :
    Calls Try.prog 21 #[.slice a n c, rag r] w fun e w' => ∃ v z, e = .returned (.tuple #[v, .int .i64 z]) ∧ OwnR w' w.heap.size v (subR l r).1 ∧ z = (subR l r).2 ∧ Below w.heap.size w w' := by
  have hb := below_one1 w (.cells (rcb r) 25)
  have HL := Lib.hid (hL.on hb)
  have BG := Lib.hid (Blk.new w (rcb r) 25)
  have HB := Lib.hid hb
  obtain ⟨M1, h1⟩ := bool_of (MayP l)
  obtain ⟨M2, h2⟩ := bool_of (∃ x, x ∈ l ∧ (decide ((inter x r).lo < (inter x r).hi) && decide (inter x r = r)) = true)
  have H1 := Lib.hid h1
  have H2 := Lib.hid h2
  obtain rfl : n = l.length := hL.len
  clear hL hb h1 h2
  go_enter Try.func21, Try.ntmps21
  go_wp2_with fail
  refine (may_walkS l a _ c _ HL.out M1 H1.out).mono ?_
  rintro e w2 ⟨rfl, hb2⟩
  have HB2 := Lib.hid (HB.out.trans (hb2.mono HB.out.size))
  have HL2 := Lib.hid (HL.out.on hb2)
  have BG2 := Lib.hid (BG.out.below hb2 BG.out.lt)
  have b0 := BG2.out.cell 0 rfl
  have b1 := BG2.out.cell 1 rfl
  clear hb2 HL BG HB
  cases M1 with
  | false =>
    have HA := Lib.hid (show subR l r = ([], 190) from if_pos (fun h => by have := H1.out.2 h.1; cases this))
    go_wp2
    go_ret2
    exact ⟨_, _, rfl, by rw [HA.out]; exact OwnR.nil _ _, by rw [HA.out], HB2.out⟩
  | true =>
    have HMAY := Lib.hid (H1.out.1 rfl)
    by_cases ho : oneP r
    · have HO := Lib.hid ho
      clear ho
      go_wp2_with fail
      refine (one_walk r _).mono ?_
      rintro e w3 ⟨he, hb3⟩
      rw [decide_eq_true HO.out] at he
      subst he
      have HB3 := Lib.hid (HB2.out.trans (hb3.mono HB2.out.size))
      have HL3 := Lib.hid (HL2.out.on hb3)
      have BG3 := Lib.hid (BG2.out.below hb3 BG2.out.lt)
      clear hb3 b0 b1 HL2 BG2 HB2
      have b0 := BG3.out.cell 0 rfl
      have b1 := BG3.out.cell 1 rfl
      go_wp2_with fail
      refine (covers_walk l r a _ c _ HL3.out true M2 ⟨fun _ => HMAY.out, fun _ => rfl⟩ H2.out).mono ?_
      rintro e w4 ⟨he, hb4⟩
      rw [decide_eq_true HO.out, Bool.true_and, Bool.true_and] at he
      subst he
      have HB4 := Lib.hid (HB3.out.trans (hb4.mono HB3.out.size))
      have HL4 := Lib.hid (HL3.out.on hb4)
      have BG4 := Lib.hid (BG3.out.on hb4)
      clear hb4 b0 b1 HL3 BG3 HB3
      cases M2 with
      | false =>
        have HA := Lib.hid (show subR l r = ([], 4) by
          unfold subR
          rw [if_neg (not_not_intro ⟨HMAY.out, HO.out⟩), if_pos]
          intro h
          have := H2.out.2 ((covP_iff HMAY.out HO.out).2 h)
          cases this)
        go_wp2
        go_ret2
        exact ⟨_, _, rfl, by rw [HA.out]; exact OwnR.nil _ _, by rw [HA.out], HB4.out⟩
      | true =>
        have HA0 := Lib.hid (show subR l r = sizeR (subP l r) by
          unfold subR
          rw [if_neg (not_not_intro ⟨HMAY.out, HO.out⟩), if_neg]
          exact not_not_intro ((covP_iff HMAY.out HO.out).1 (H2.out.1 rfl)))
        have hn63 : l.length ≤ 9223372036854775807 := by have := HMAY.out.2.2; omega
        go_wp2
        go_loopw [27, 6] (fun x s wr => ∃ i : Nat, i ≤ l.length ∧ x = .int .i64 (i : Nat) ∧ Hid (OwnR wr w4.heap.size s (subP (l.take i) r)) ∧ Below w4.heap.size w4 wr) (fun x _ _ => l.length - (intOf x).toNat)
        case atStart => exact ⟨0, Nat.zero_le _, rfl, OwnR.nil _ _, Below.refl _ _⟩
        case round =>
          obtain ⟨i, hi, rfl, HOS, hb⟩ := hrel
          have HBr := Lib.hid hb
          obtain ⟨O, hO⟩ : ∃ O, O = subP (l.take i) r := ⟨_, rfl⟩
          rw [← hO] at HOS
          by_cases hlt : i < l.length
          · have HOl := Lib.hid (show O.length ≤ 128 by
              have h1 := sub_len (l.take i) r
              have h2 := HMAY.out.2.2
              rw [← hO] at h1
              simp [Nat.min_eq_left hi] at h1
              omega)
            have hsu := sub_succ l r i hlt
            rw [← hO] at hsu
            clear hO
            obtain ⟨g, o, rfl, hg, hr⟩ := HL4.out.rd i hlt
            have HR := Lib.hid (rng_on hr hb)
            obtain ⟨x, hx⟩ : ∃ x, x = l.getD i r0 := ⟨_, rfl⟩
            rw [← hx] at HR hsu
            have HSu0 := Lib.hid hsu
            have HI := Lib.hid hlt
            obtain ⟨sa, cs, rfl, _⟩ := HOS.out.form
            have HNE := Lib.hid (show ∀ k, (Value.slice sa O.length cs).ownBlock = some k → k ≠ wr.heap.size from fun k hk => Nat.ne_of_lt (HOS.out.lt k hk).2)
            have HNG := Lib.hid (show ∀ k, (Value.slice sa O.length cs).ownBlock = some k → k ≠ w.heap.size from fun k hk => Nat.ne_of_gt (Nat.lt_of_lt_of_le BG4.out.lt (HOS.out.lt k hk).1))
            have HLEN := Lib.hid (show ∀ y : Rg, O.length + [y].length ≤ 1000000000000 from fun y => by have := HOl.out; simp; omega)
            have HLEN2 := Lib.hid (show ∀ z y : Rg, (O ++ [z]).length + [y].length ≤ 1000000000000 from fun z y => by have := HOl.out; simp; omega)
            have BGr := Lib.hid (BG4.out.below hb BG4.out.lt)
            have HLO := Lib.hid HBr.out.size
            clear hr hx hsu hg hb hlt
            go_wp2_with (first | (refine wpList_load_mid rfl 25 (.tmp 29) rfl g (o + i * 2) rfl (rcl x) _ HR.out Try.underlying25 rfl size_rg ?_) | (refine wpList_store_abs rfl 25 (.tmp 8) (.tmp 30) (by rfl) wr.heap.size #[.int .u64 (x.lo : Nat), .int .u64 (x.hi : Nat)] (by rfl) (by rfl) 25 _ (Blk.new wr _ _) size_rg (by rfl) (by simp [Value.oneCell']) ?_; intro W hW hp5; have hbW := hW.below ((Below.refl _ wr).alloc (Nat.le_refl _) _) (Nat.le_refl _); have HBW := Lib.hid (HBr.out.trans (hbW.mono HBr.out.size)); have BX := Lib.hid hp5; have HOSW := Lib.hid (HOS.out.on hbW); have BGW := Lib.hid (BGr.out.on hbW); have b0 := BGW.out.cell 0 rfl; have b1 := BGW.out.cell 1 rfl; have b2 := hp5.cell 0 rfl; have b3 := hp5.cell 1 rfl; clear hW hbW hp5))
            generalize wr.heap.size = gx at *
            refine (both_walk x r _).mono ?_
            rintro e w5 ⟨he, hb5⟩
            have HB5 := Lib.hid (HBW.out.trans (hb5.mono HBW.out.size))
            have BX5 := Lib.hid (BX.out.on hb5)
            have BG5 := Lib.hid (BGW.out.on hb5)
            have HOS5 := Lib.hid (HOSW.out.on hb5)
            clear hb5 b0 b1 b2 b3
            by_cases his : (inter x r).lo < (inter x r).hi
            · rw [decide_eq_true his] at he
              subst he
              have HSu1 := Lib.hid (cut_some his)
              clear his
              rcases Nat.lt_or_ge x.lo r.lo with hp | hp
              · have gp : (x.lo : Int) < (r.lo : Int) := by omega
                rcases Nat.lt_or_ge r.hi x.hi with hq | hq
                · have gq : (r.hi : Int) < (x.hi : Int) := by omega
                  have HSu := Lib.hid (show subP (l.take (i + 1)) r = O ++ [⟨x.lo, r.lo⟩] ++ [⟨r.hi, x.hi⟩] by rw [HSu0.out, HSu1.out, if_pos hp, if_pos hq, List.append_assoc])
                  go_wp2_with (first | (refine wpList_store_abs rfl 25 (.tmp 9) (.tmp 35) (by rfl) w5.heap.size #[.int .u64 ((inter x r).lo : Nat), .int .u64 ((inter x r).hi : Nat)] (by rfl) (by rfl) 25 _ (Blk.new w5 _ _) size_rg (by rfl) (by simp [Value.oneCell']) ?_; intro V hV hpV; have hbV := hV.below ((Below.refl _ w5).alloc (Nat.le_refl _) _) (Nat.le_refl _); have HBV := Lib.hid (HB5.out.trans (hbV.mono HB5.out.size)); have BXV := Lib.hid (BX5.out.on hbV); have HOSV := Lib.hid (HOS5.out.on hbV); have BGV := Lib.hid (BG5.out.on hbV); have b0 := BGV.out.cell 0 rfl; have b1 := BGV.out.cell 1 rfl; have b2 := BXV.out.cell 0 rfl; have b3 := BXV.out.cell 1 rfl; clear hV hbV hpV; have HQ6 := Lib.hid (HOSV.out.on (below_one1 V (.cells #[.int .u64 (x.lo : Nat), .int .u64 (r.lo : Nat)] 25))); have HA6 := Lib.hid (below_alloc HBV.out HBV.out.size (.cells #[.int .u64 (x.lo : Nat), .int .u64 (r.lo : Nat)] 25))) | (refine wpList_append_rgs rfl (.tmp 48) (.tmp 54) (by rfl) w4.heap.size _ O (by rfl) HQ6.out _ 1 1 [⟨x.lo, r.lo⟩] (by rfl) rfl (RgR.one (Blk.new V #[.int .u64 (x.lo : Nat), .int .u64 (r.lo : Nat)] 25)) (HLEN.out _) HA6.out.size ?_; intro a6 n6 c6 w6 hO hg; have HO6 := Lib.hid hO; have HB6 := Lib.hid (below_ownR HA6.out HQ6.out HA6.out.size hg); have BX6 := Lib.hid ((BXV.out.alloc (.cells #[.int .u64 (x.lo : Nat), .int .u64 (r.lo : Nat)] 25)).past hg HNE.out); have BG6 := Lib.hid ((BGV.out.alloc (.cells #[.int .u64 (x.lo : Nat), .int .u64 (r.lo : Nat)] 25)).past hg HNG.out); have b0 := BG6.out.cell 0 rfl; have b1 := BG6.out.cell 1 rfl; have b2 := BX6.out.cell 0 rfl; have b3 := BX6.out.cell 1 rfl; clear hO hg; have HQ7 := Lib.hid (HO6.out.on (below_one1 w6 (.cells #[.int .u64 (r.hi : Nat), .int .u64 (x.hi : Nat)] 25))); have HA7 := Lib.hid (below_alloc HB6.out HB6.out.size (.cells #[.int .u64 (r.hi : Nat), .int .u64 (x.hi : Nat)] 25))) | (refine wpList_append_rgs rfl (.tmp 61) (.tmp 67) (by rfl) w4.heap.size _ (O ++ [⟨x.lo, r.lo⟩]) (by rfl) HQ7.out _ 1 1 [⟨r.hi, x.hi⟩] (by rfl) rfl (RgR.one (Blk.new w6 #[.int .u64 (r.hi : Nat), .int .u64 (x.hi : Nat)] 25)) (HLEN2.out _ _) HA7.out.size ?_; intro a7 n7 c7 w7 hO hg; have HO7 := Lib.hid hO; have HB7 := Lib.hid (below_ownR HA7.out HQ7.out HA7.out.size hg); clear hO hg))
                  go_roundw
                  case rel => exact ⟨i + 1, by have := HI.out; omega, by go_num, by rw [HSu.out]; exact HO7.out, HB7.out⟩
                  case measure => have := HI.out; simp [intOf]; omega
                · have gq : (x.hi : Int) ≤ (r.hi : Int) := by omega
                  have HSu := Lib.hid (show subP (l.take (i + 1)) r = O ++ [⟨x.lo, r.lo⟩] by rw [HSu0.out, HSu1.out, if_pos hp, if_neg (by omega), List.append_nil])
                  go_wp2_with (first | (refine wpList_store_abs rfl 25 (.tmp 9) (.tmp 35) (by rfl) w5.heap.size #[.int .u64 ((inter x r).lo : Nat), .int .u64 ((inter x r).hi : Nat)] (by rfl) (by rfl) 25 _ (Blk.new w5 _ _) size_rg (by rfl) (by simp [Value.oneCell']) ?_; intro V hV hpV; have hbV := hV.below ((Below.refl _ w5).alloc (Nat.le_refl _) _) (Nat.le_refl _); have HBV := Lib.hid (HB5.out.trans (hbV.mono HB5.out.size)); have BXV := Lib.hid (BX5.out.on hbV); have HOSV := Lib.hid (HOS5.out.on hbV); have BGV := Lib.hid (BG5.out.on hbV); have b0 := BGV.out.cell 0 rfl; have b1 := BGV.out.cell 1 rfl; have b2 := BXV.out.cell 0 rfl; have b3 := BXV.out.cell 1 rfl; clear hV hbV hpV; have HQ6 := Lib.hid (HOSV.out.on (below_one1 V (.cells #[.int .u64 (x.lo : Nat), .int .u64 (r.lo : Nat)] 25))); have HA6 := Lib.hid (below_alloc HBV.out HBV.out.size (.cells #[.int .u64 (x.lo : Nat), .int .u64 (r.lo : Nat)] 25))) | (refine wpList_append_rgs rfl (.tmp 48) (.tmp 54) (by rfl) w4.heap.size _ O (by rfl) HQ6.out _ 1 1 [⟨x.lo, r.lo⟩] (by rfl) rfl (RgR.one (Blk.new V #[.int .u64 (x.lo : Nat), .int .u64 (r.lo : Nat)] 25)) (HLEN.out _) HA6.out.size ?_; intro a6 n6 c6 w6 hO hg; have HO6 := Lib.hid hO; have HB6 := Lib.hid (below_ownR HA6.out HQ6.out HA6.out.size hg); have BX6 := Lib.hid ((BXV.out.alloc (.cells #[.int .u64 (x.lo : Nat), .int .u64 (r.lo : Nat)] 25)).past hg HNE.out); have BG6 := Lib.hid ((BGV.out.alloc (.cells #[.int .u64 (x.lo : Nat), .int .u64 (r.lo : Nat)] 25)).past hg HNG.out); have b0 := BG6.out.cell 0 rfl; have b1 := BG6.out.cell 1 rfl; have b2 := BX6.out.cell 0 rfl; have b3 := BX6.out.cell 1 rfl; clear hO hg))
                  go_roundw
                  case rel => exact ⟨i + 1, by have := HI.out; omega, by go_num, by rw [HSu.out]; exact HO6.out, HB6.out⟩
                  case measure => have := HI.out; simp [intOf]; omega
              · have gp : (r.lo : Int) ≤ (x.lo : Int) := by omega
                rcases Nat.lt_or_ge r.hi x.hi with hq | hq
                · have gq : (r.hi : Int) < (x.hi : Int) := by omega
                  have HSu := Lib.hid (show subP (l.take (i + 1)) r = O ++ [⟨r.hi, x.hi⟩] by rw [HSu0.out, HSu1.out, if_neg (by omega), if_pos hq, List.nil_append])
                  go_wp2_with (first | (refine wpList_store_abs rfl 25 (.tmp 9) (.tmp 35) (by rfl) w5.heap.size #[.int .u64 ((inter x r).lo : Nat), .int .u64 ((inter x r).hi : Nat)] (by rfl) (by rfl) 25 _ (Blk.new w5 _ _) size_rg (by rfl) (by simp [Value.oneCell']) ?_; intro V hV hpV; have hbV := hV.below ((Below.refl _ w5).alloc (Nat.le_refl _) _) (Nat.le_refl _); have HBV := Lib.hid (HB5.out.trans (hbV.mono HB5.out.size)); have BXV := Lib.hid (BX5.out.on hbV); have HOSV := Lib.hid (HOS5.out.on hbV); have BGV := Lib.hid (BG5.out.on hbV); have b0 := BGV.out.cell 0 rfl; have b1 := BGV.out.cell 1 rfl; have b2 := BXV.out.cell 0 rfl; have b3 := BXV.out.cell 1 rfl; clear hV hbV hpV; have HQ7 := Lib.hid (HOSV.out.on (below_one1 V (.cells #[.int .u64 (r.hi : Nat), .int .u64 (x.hi : Nat)] 25))); have HA7 := Lib.hid (below_alloc HBV.out HBV.out.size (.cells #[.int .u64 (r.hi : Nat), .int .u64 (x.hi : Nat)] 25))) | (refine wpList_append_rgs rfl (.tmp 61) (.tmp 67) (by rfl) w4.heap.size _ O (by rfl) HQ7.out _ 1 1 [⟨r.hi, x.hi⟩] (by rfl) rfl (RgR.one (Blk.new V #[.int .u64 (r.hi : Nat), .int .u64 (x.hi : Nat)] 25)) (HLEN.out _) HA7.out.size ?_; intro a7 n7 c7 w7 hO hg; have HO7 := Lib.hid hO; have HB7 := Lib.hid (below_ownR HA7.out HQ7.out HA7.out.size hg); clear hO hg))
                  go_roundw
                  case rel => exact ⟨i + 1, by have := HI.out; omega, by go_num, by rw [HSu.out]; exact HO7.out, HB7.out⟩
                  case measure => have := HI.out; simp [intOf]; omega
                · have gq : (x.hi : Int) ≤ (r.hi : Int) := by omega
                  have HSu := Lib.hid (show subP (l.take (i + 1)) r = O by rw [HSu0.out, HSu1.out, if_neg (by omega), if_neg (by omega), List.append_nil, List.append_nil])
                  go_wp2_with (first | (refine wpList_store_abs rfl 25 (.tmp 9) (.tmp 35) (by rfl) w5.heap.size #[.int .u64 ((inter x r).lo : Nat), .int .u64 ((inter x r).hi : Nat)] (by rfl) (by rfl) 25 _ (Blk.new w5 _ _) size_rg (by rfl) (by simp [Value.oneCell']) ?_; intro V hV hpV; have hbV := hV.below ((Below.refl _ w5).alloc (Nat.le_refl _) _) (Nat.le_refl _); have HBV := Lib.hid (HB5.out.trans (hbV.mono HB5.out.size)); have BXV := Lib.hid (BX5.out.on hbV); have HOSV := Lib.hid (HOS5.out.on hbV); have BGV := Lib.hid (BG5.out.on hbV); have b0 := BGV.out.cell 0 rfl; have b1 := BGV.out.cell 1 rfl; have b2 := BXV.out.cell 0 rfl; have b3 := BXV.out.cell 1 rfl; clear hV hbV hpV))
                  go_roundw
                  case rel => exact ⟨i + 1, by have := HI.out; omega, by go_num, by rw [HSu.out]; exact HOSV.out, HBV.out⟩
                  case measure => have := HI.out; simp [intOf]; omega
            · rw [decide_eq_false his] at he
              subst he
              have HSu := Lib.hid (show subP (l.take (i + 1)) r = O ++ [x] by rw [HSu0.out, cut_none his])
              clear his
              go_wp2_with (first | (refine wpList_store_abs rfl 25 (.tmp 9) (.tmp 35) (by rfl) w5.heap.size #[.int .u64 ((inter x r).lo : Nat), .int .u64 ((inter x r).hi : Nat)] (by rfl) (by rfl) 25 _ (Blk.new w5 _ _) size_rg (by rfl) (by simp [Value.oneCell']) ?_; intro V hV hpV; have hbV := hV.below ((Below.refl _ w5).alloc (Nat.le_refl _) _) (Nat.le_refl _); have HBV := Lib.hid (HB5.out.trans (hbV.mono HB5.out.size)); have BXV := Lib.hid (BX5.out.on hbV); have HOSV := Lib.hid (HOS5.out.on hbV); have BGV := Lib.hid (BG5.out.on hbV); have b0 := BGV.out.cell 0 rfl; have b1 := BGV.out.cell 1 rfl; have b2 := BXV.out.cell 0 rfl; have b3 := BXV.out.cell 1 rfl; clear hV hbV hpV; have HQ6 := Lib.hid (HOSV.out.on (below_one1 V (.cells #[.int .u64 (x.lo : Nat), .int .u64 (x.hi : Nat)] 25))); have HA6 := Lib.hid (below_alloc HBV.out HBV.out.size (.cells #[.int .u64 (x.lo : Nat), .int .u64 (x.hi : Nat)] 25))) | (refine wpList_load_mid rfl 25 (.tmp 8) rfl gx 0 rfl [.int .u64 (x.lo : Nat), .int .u64 (x.hi : Nat)] _ (range_blk BXV.out 0 _ (fun j hj => by simp)) Try.underlying25 rfl size_rg ?_) | (refine wpList_append_rgs rfl (.tmp 39) (.tmp 41) (by rfl) w4.heap.size _ O (by rfl) HQ6.out _ 1 1 [x] (by rfl) rfl (RgR.one (Blk.new V #[.int .u64 (x.lo : Nat), .int .u64 (x.hi : Nat)] 25)) (HLEN.out _) HA6.out.size ?_; intro a6 n6 c6 w6 hO hg; have HO6 := Lib.hid hO; have HB6 := Lib.hid (below_ownR HA6.out HQ6.out HA6.out.size hg); clear hO hg))
              go_roundw
              case rel => exact ⟨i + 1, by have := HI.out; omega, by go_num, by rw [HSu.out]; exact HO6.out, HB6.out⟩
              case measure => have := HI.out; simp [intOf]; omega
          · have HF := Lib.hid (show O = subP l r by rw [hO, List.take_of_length_le (by omega)])
            clear hO
            obtain ⟨sa, cs, rfl, _⟩ := HOS.out.form
            by_cases hlong : 64 < O.length
            · have HA := Lib.hid (show subR l r = ([], 6) by rw [HA0.out, ← HF.out]; exact if_pos hlong)
              go_wp2_with fail
              refine (sized_walk O sa _ cs rfl _).mono ?_
              rintro e w6 ⟨he, rfl⟩
              rw [if_pos hlong] at he
              subst he
              go_wp2
              go_ret2
              exact ⟨_, _, rfl, by rw [HA.out]; exact OwnR.nil _ _, by rw [HA.out], HB4.out.trans (HBr.out.mono HB4.out.size)⟩
            · have HA := Lib.hid (show subR l r = (O, 0) by rw [HA0.out, ← HF.out]; exact if_neg hlong)
              go_wp2_with fail
              refine (sized_walk O sa _ cs rfl _).mono ?_
              rintro e w6 ⟨he, rfl⟩
              rw [if_neg hlong] at he
              subst he
              go_wp2
              go_ret2
              exact ⟨_, _, rfl, by rw [HA.out]; exact HOS.out.mono HB4.out.size, by rw [HA.out], HB4.out.trans (HBr.out.mono HB4.out.size)⟩
    · have HO := Lib.hid ho
      have HA := Lib.hid (show subR l r = ([], 190) from if_pos (fun h => ho h.2))
      clear ho
      go_wp2_with fail
      refine (one_walk r _).mono ?_
      rintro e w3 ⟨he, hb3⟩
      rw [decide_eq_false HO.out] at he
      subst he
      have HB3 := Lib.hid (HB2.out.trans (hb3.mono HB2.out.size))
      clear hb3
      go_wp2
      go_ret2
      exact ⟨_, _, rfl, by rw [HA.out]; exact OwnR.nil _ _, by rw [HA.out], HB3.out⟩
end Go.Proofs.Ytajjbffppkpjpaa
