import Derived.Test.YtajjbffppkpjpaaSpanD
/-
  The reference's sized, Add, Sub, Meet, Has, Norm, Cut.
-/
namespace Go.Proofs.Ytajjbffppkpjpaa
open Go.RowKit
theorem both_pos {l : List Rg} {r : Rg} (h : meetsP l r) : 0 < (bothP l [r]).length := by
  obtain ⟨i, h1, h2⟩ := mem_of_meets.1 h
  obtain ⟨x, hx, _⟩ := ((both_sep l [r]).2 i).2 ⟨h1, (mem_one r i).2 h2⟩
  exact List.length_pos_of_mem hx
theorem both_zero {l : List Rg} {r : Rg} (h : ¬ meetsP l r) : (bothP l [r]).length = 0 := by
  rcases Nat.eq_zero_or_pos (bothP l [r]).length with h0 | h0
  · exact h0
  · exfalso
    obtain ⟨x, hx⟩ := List.exists_mem_of_length_pos h0
    have hp : x.lo < x.hi := (both_sep l [r]).1.posAll x hx
    have := ((both_sep l [r]).2 x.lo).1 ⟨x, hx, Nat.le_refl _, hp⟩
    exact h (mem_of_meets.2 ⟨x.lo, this.1, (mem_one r _).1 this.2⟩)
theorem ones_step {l : List Rg} {i : Nat} (h : ∀ j, j < i → oneP (l.getD j r0)) (hn : oneP (l.getD i r0)) : ∀ j, j < i + 1 → oneP (l.getD j r0) := fun j hj => by
  rcases Nat.lt_or_ge j i with q | q
  · exact h j q
  · obtain rfl : j = i := by omega
    exact hn
set_option maxRecDepth 100000 in
theorem rsized_walk (l : List Rg) (a : Option Addr) (n c : Nat) (hn : n = l.length) (w : World) :
    Calls Try.prog 106 #[.slice a n c] w fun e w' => e = .returned (if 64 < l.length then .tuple #[.slice none 0 0, .int .i64 6] else .tuple #[.slice a n c, .int .i64 0]) ∧ w = w' := by
  subst hn
  by_cases h : 64 < l.length
  · rw [if_pos h]
    have g : (64 : Int) < (l.length : Int) := by omega
    go_enter Try.func106, Try.ntmps106
    go_wp2
    go_ret2
    exact ⟨rfl, rfl⟩
  · rw [if_neg h]
    have g : ¬ (64 : Int) < (l.length : Int) := by omega
    go_enter Try.func106, Try.ntmps106
    go_wp2
    go_ret2
    exact ⟨rfl, rfl⟩
set_option maxRecDepth 100000 in
set_option maxHeartbeats 1000000 in
theorem radd_walk (l : List Rg) (r : Rg) (hr64 : b64r r) (a : Option Addr) (n c : Nat) (w : World) (hL : RgsIn w a n c l) :
    Calls Try.prog 66 #[.slice a n c, rag r] w fun e w' => ∃ v z, e = .returned (.tuple #[v, .int .i64 z]) ∧ OwnR w' w.heap.size v (addR l r).1 ∧ z = (addR l r).2 ∧ Below w.heap.size w w' := by
  have hb := below_one1 w (.cells (rcb r) 25)
  have HL := Lib.hid (hL.on hb)
  have BG := Lib.hid (Blk.new w (rcb r) 25)
  have HB := Lib.hid hb
  have HR64 := Lib.hid hr64
  obtain ⟨M1, h1⟩ := bool_of (MayP l)
  have H1 := Lib.hid h1
  obtain rfl : n = l.length := hL.len
  clear hL hb h1 hr64
  go_enter Try.func66, Try.ntmps66
  go_wp2_with fail
  refine (may_walkR l a _ c _ HL.out M1 H1.out).mono ?_
  rintro e w2 ⟨rfl, hb2⟩
  have HB2 := Lib.hid (HB.out.trans (hb2.mono HB.out.size))
  have HL2 := Lib.hid (HL.out.on hb2)
  have BG2 := Lib.hid (BG.out.on hb2)
  have b0 := BG2.out.cell 0 rfl
  have b1 := BG2.out.cell 1 rfl
  clear hb2 HL BG HB
  cases M1 with
  | false =>
    have HA := Lib.hid (show addR l r = ([], 190) from if_pos (fun h => by have := H1.out.2 h.1; cases this))
    go_wp2
    go_ret2
    exact ⟨_, _, rfl, by rw [HA.out]; exact OwnR.nil _ _, by rw [HA.out], HB2.out⟩
  | true =>
    have HMAY := Lib.hid (H1.out.1 rfl)
    by_cases ho : oneP r
    · have HO := Lib.hid ho
      clear ho
      go_wp2_with fail
      refine (rone_walk r _).mono ?_
      rintro e w3 ⟨he, hb3⟩
      rw [decide_eq_true HO.out] at he
      subst he
      have HB3 := Lib.hid (HB2.out.trans (hb3.mono HB2.out.size))
      have HL3 := Lib.hid (HL2.out.on hb3)
      have BG3 := Lib.hid (BG2.out.on hb3)
      clear hb3 b0 b1 HL2 BG2 HB2
      have b0 := BG3.out.cell 0 rfl
      have b1 := BG3.out.cell 1 rfl
      have hbx := below_one1 w3 (.cells (rcb r) 25)
      have HBx := Lib.hid (HB3.out.trans (hbx.mono HB3.out.size))
      have HLx := Lib.hid (HL3.out.on hbx)
      have BGx := Lib.hid (BG3.out.on hbx)
      have HLr := Lib.hid (RgsIn.blk (l := [r]) (Blk.new w3 (rcb r) 25) (by simp [rcs, rcl]) 1 rfl (by simp [maxLen]) HO.out.may.b64)
      clear hbx
      go_wp2_with fail
      refine (rboth_walk l [r] a _ c _ 1 1 _ HLx.out HLr.out HMAY.out.2.2 (by simp)).mono ?_
      rintro e w4 ⟨v4, rfl, hO4, hb4⟩
      obtain ⟨pm, cm, rfl, _⟩ := hO4.form
      have HB4 := Lib.hid (HBx.out.trans (hb4.mono HBx.out.size))
      have HL4 := Lib.hid (HLx.out.on hb4)
      have BG4 := Lib.hid (BGx.out.on hb4)
      clear hO4 hb4 b0 b1 HLx HBx BGx HLr HL3 HB3 BG3
      have b0 := BG4.out.cell 0 rfl
      have b1 := BG4.out.cell 1 rfl
      by_cases hm : meetsP l r
      · have HA := Lib.hid (show addR l r = ([], 192) by
          unfold addR
          rw [if_neg (not_not_intro ⟨HMAY.out, HO.out⟩), if_pos hm])
        have gl : (0 : Int) < ((bothP l [r]).length : Int) := by
          have := both_pos hm; omega
        clear hm
        go_wp2
        go_ret2
        exact ⟨_, _, rfl, by rw [HA.out]; exact OwnR.nil _ _, by rw [HA.out], HB4.out⟩
      · have HA0 := Lib.hid (show addR l r = sizeR (putP l r) by
          unfold addR
          rw [if_neg (not_not_intro ⟨HMAY.out, HO.out⟩), if_neg hm])
        have gl : (bothP l [r]).length = 0 := both_zero hm
        clear hm
        have gl2 : ¬ (0 : Int) < ((bothP l [r]).length : Int) := by omega
        go_wp2_with fail
        refine (rput_walk l r a _ c _ HL4.out (by have := HMAY.out.2.2; omega)).mono ?_
        rintro e w5 ⟨v5, rfl, hO5, hb5⟩
        have HB5 := Lib.hid (HB4.out.trans (hb5.mono HB4.out.size))
        have HO5 := Lib.hid (hO5.mono HB4.out.size)
        clear hO5 hb5 b0 b1 gl gl2
        obtain ⟨pv, cv, rfl, _⟩ := HO5.out.form
        by_cases hlong : 64 < (putP l r).length
        · have HA := Lib.hid (show addR l r = ([], 6) by rw [HA0.out]; exact if_pos hlong)
          go_wp2_with fail
          refine (rsized_walk (putP l r) pv _ cv rfl _).mono ?_
          rintro e w9 ⟨he, rfl⟩
          rw [if_pos hlong] at he
          subst he
          go_wp2
          go_ret2
          exact ⟨_, _, rfl, by rw [HA.out]; exact OwnR.nil _ _, by rw [HA.out], HB5.out⟩
        · have HA := Lib.hid (show addR l r = (putP l r, 0) by rw [HA0.out]; exact if_neg hlong)
          go_wp2_with fail
          refine (rsized_walk (putP l r) pv _ cv rfl _).mono ?_
          rintro e w9 ⟨he, rfl⟩
          rw [if_neg hlong] at he
          subst he
          go_wp2
          go_ret2
          exact ⟨_, _, rfl, by rw [HA.out]; exact HO5.out, by rw [HA.out], HB5.out⟩
    · have HO := Lib.hid ho
      have HA := Lib.hid (show addR l r = ([], 190) from if_pos (fun h => ho h.2))
      clear ho
      go_wp2_with fail
      refine (rone_walk r _).mono ?_
      rintro e w3 ⟨he, hb3⟩
      rw [decide_eq_false HO.out] at he
      subst he
      have HB3 := Lib.hid (HB2.out.trans (hb3.mono HB2.out.size))
      clear hb3
      go_wp2
      go_ret2
      exact ⟨_, _, rfl, by rw [HA.out]; exact OwnR.nil _ _, by rw [HA.out], HB3.out⟩
set_option maxRecDepth 100000 in
set_option maxHeartbeats 1000000 in
theorem rsub_walk (l : List Rg) (r : Rg) (hr64 : b64r r) (a : Option Addr) (n c : Nat) (w : World) (hL : RgsIn w a n c l) :
    Calls Try.prog 67 #[.slice a n c, rag r] w fun e w' => ∃ v z, e = .returned (.tuple #[v, .int .i64 z]) ∧ OwnR w' w.heap.size v (subR l r).1 ∧ z = (subR l r).2 ∧ Below w.heap.size w w' := by
  have hb := below_one1 w (.cells (rcb r) 25)
  have HL := Lib.hid (hL.on hb)
  have BG := Lib.hid (Blk.new w (rcb r) 25)
  have HB := Lib.hid hb
  have HR64 := Lib.hid hr64
  obtain ⟨M1, h1⟩ := bool_of (MayP l)
  have H1 := Lib.hid h1
  obtain rfl : n = l.length := hL.len
  clear hL hb h1 hr64
  go_enter Try.func67, Try.ntmps67
  go_wp2_with fail
  refine (may_walkR l a _ c _ HL.out M1 H1.out).mono ?_
  rintro e w2 ⟨rfl, hb2⟩
  have HB2 := Lib.hid (HB.out.trans (hb2.mono HB.out.size))
  have HL2 := Lib.hid (HL.out.on hb2)
  have BG2 := Lib.hid (BG.out.on hb2)
  have b0 := BG2.out.cell 0 rfl
  have b1 := BG2.out.cell 1 rfl
  clear hb2 HL BG HB
  cases M1 with
  | false =>
    have HA := Lib.hid (show subR l r = ([], 190) from if_pos (fun h => by have := H1.out.2 h.1; cases this))
    go_wp2
    go_ret2
    exact ⟨_, _, rfl, by rw [HA.out]; exact OwnR.nil _ _, by rw [HA.out], HB2.out⟩
  | true =>
    have HMAY := Lib.hid (H1.out.1 rfl)
    by_cases ho : oneP r
    · have HO := Lib.hid ho
      clear ho
      go_wp2_with fail
      refine (rone_walk r _).mono ?_
      rintro e w3 ⟨he, hb3⟩
      rw [decide_eq_true HO.out] at he
      subst he
      have HB3 := Lib.hid (HB2.out.trans (hb3.mono HB2.out.size))
      have HL3 := Lib.hid (HL2.out.on hb3)
      have BG3 := Lib.hid (BG2.out.on hb3)
      clear hb3 b0 b1 HL2 BG2 HB2
      have b0 := BG3.out.cell 0 rfl
      have b1 := BG3.out.cell 1 rfl
      obtain ⟨M2, h2⟩ := bool_of (covP l r)
      have H2 := Lib.hid h2
      clear h2
      go_wp2_with fail
      refine (rcovers_walk l r a _ c _ HL3.out M2 H2.out).mono ?_
      rintro e w4 ⟨rfl, hb4⟩
      have HB4 := Lib.hid (HB3.out.trans (hb4.mono HB3.out.size))
      have HL4 := Lib.hid (HL3.out.on hb4)
      have BG4 := Lib.hid (BG3.out.on hb4)
      clear hb4 b0 b1 HL3 BG3 HB3
      have b0 := BG4.out.cell 0 rfl
      have b1 := BG4.out.cell 1 rfl
      cases M2 with
      | false =>
        have HA := Lib.hid (show subR l r = ([], 4) by
          unfold subR
          rw [if_neg (not_not_intro ⟨HMAY.out, HO.out⟩), if_pos]
          intro h
          have := H2.out.2 h
          cases this)
        go_wp2
        go_ret2
        exact ⟨_, _, rfl, by rw [HA.out]; exact OwnR.nil _ _, by rw [HA.out], HB4.out⟩
      | true =>
        have HLS := Lib.hid (show subP l r = lessP l r from sub_less HMAY.out.1 (show r.pos from HO.out.1) (fun x hx => by have := HMAY.out.2.1 x hx; unfold maxIx at this; omega))
        have HA0 := Lib.hid (show subR l r = sizeR (subP l r) by
          unfold subR
          rw [if_neg (not_not_intro ⟨HMAY.out, HO.out⟩), if_neg (not_not_intro (H2.out.1 rfl))])
        go_wp2_with fail
        refine (rless_walk l r a _ c _ HL4.out HMAY.out.2.2 HR64.out).mono ?_
        rintro e w5 ⟨v5, rfl, hO5, hb5⟩
        rw [← HLS.out] at hO5
        have HB5 := Lib.hid (HB4.out.trans (hb5.mono HB4.out.size))
        have HO5 := Lib.hid (hO5.mono HB4.out.size)
        clear hO5 hb5 b0 b1
        obtain ⟨pv, cv, rfl, _⟩ := HO5.out.form
        by_cases hlong : 64 < (subP l r).length
        · have HA := Lib.hid (show subR l r = ([], 6) by rw [HA0.out]; exact if_pos hlong)
          go_wp2_with fail
          refine (rsized_walk (subP l r) pv _ cv rfl _).mono ?_
          rintro e w9 ⟨he, rfl⟩
          rw [if_pos hlong] at he
          subst he
          go_wp2
          go_ret2
          exact ⟨_, _, rfl, by rw [HA.out]; exact OwnR.nil _ _, by rw [HA.out], HB5.out⟩
        · have HA := Lib.hid (show subR l r = (subP l r, 0) by rw [HA0.out]; exact if_neg hlong)
          go_wp2_with fail
          refine (rsized_walk (subP l r) pv _ cv rfl _).mono ?_
          rintro e w9 ⟨he, rfl⟩
          rw [if_neg hlong] at he
          subst he
          go_wp2
          go_ret2
          exact ⟨_, _, rfl, by rw [HA.out]; exact HO5.out, by rw [HA.out], HB5.out⟩
    · have HO := Lib.hid ho
      have HA := Lib.hid (show subR l r = ([], 190) from if_pos (fun h => ho h.2))
      clear ho
      go_wp2_with fail
      refine (rone_walk r _).mono ?_
      rintro e w3 ⟨he, hb3⟩
      rw [decide_eq_false HO.out] at he
      subst he
      have HB3 := Lib.hid (HB2.out.trans (hb3.mono HB2.out.size))
      clear hb3
      go_wp2
      go_ret2
      exact ⟨_, _, rfl, by rw [HA.out]; exact OwnR.nil _ _, by rw [HA.out], HB3.out⟩
set_option maxRecDepth 100000 in
set_option maxHeartbeats 1000000 in
theorem rmeet_walk (a b : List Rg) (pa : Option Addr) (na ca : Nat) (pb : Option Addr) (nb cb : Nat) (w : World) (hLa : RgsIn w pa na ca a) (hLb : RgsIn w pb nb cb b) :
    Calls Try.prog 69 #[.slice pa na ca, .slice pb nb cb] w fun e w' => ∃ v z, e = .returned (.tuple #[v, .int .i64 z]) ∧ OwnR w' w.heap.size v (meetR a b).1 ∧ z = (meetR a b).2 ∧ Below w.heap.size w w' := by
  have HLa := Lib.hid hLa
  have HLb := Lib.hid hLb
  obtain ⟨M1, h1⟩ := bool_of (MayP a)
  obtain ⟨M2, h2⟩ := bool_of (MayP b)
  have H1 := Lib.hid h1
  have H2 := Lib.hid h2
  obtain rfl : na = a.length := hLa.len
  obtain rfl : nb = b.length := hLb.len
  clear hLa hLb h1 h2
  go_enter Try.func69, Try.ntmps69
  go_wp2_with fail
  refine (may_walkR a pa _ ca _ HLa.out M1 H1.out).mono ?_
  rintro e w2 ⟨rfl, hb2⟩
  have HB2 := Lib.hid hb2
  have HLa2 := Lib.hid (HLa.out.on hb2)
  have HLb2 := Lib.hid (HLb.out.on hb2)
  clear hb2 HLa HLb
  cases M1 with
  | false =>
    have HA := Lib.hid (show meetR a b = ([], 190) from if_pos (fun h => by have := H1.out.2 h.1; cases this))
    go_wp2
    go_ret2
    exact ⟨_, _, rfl, by rw [HA.out]; exact OwnR.nil _ _, by rw [HA.out], HB2.out⟩
  | true =>
    have HMa := Lib.hid (H1.out.1 rfl)
    go_wp2_with fail
    refine (may_walkR b pb _ cb _ HLb2.out M2 H2.out).mono ?_
    rintro e w4 ⟨rfl, hb4⟩
    have HB4 := Lib.hid (HB2.out.trans (hb4.mono HB2.out.size))
    have HLa4 := Lib.hid (HLa2.out.on hb4)
    have HLb4 := Lib.hid (HLb2.out.on hb4)
    clear hb4 HLa2 HLb2
    cases M2 with
    | false =>
      have HA := Lib.hid (show meetR a b = ([], 190) from if_pos (fun h => by have := H2.out.2 h.2; cases this))
      go_wp2
      go_ret2
      exact ⟨_, _, rfl, by rw [HA.out]; exact OwnR.nil _ _, by rw [HA.out], HB4.out⟩
    | true =>
      have HMb := Lib.hid (H2.out.1 rfl)
      have HA0 := Lib.hid (show meetR a b = sizeR (bothP a b) from if_neg (not_not_intro ⟨HMa.out, HMb.out⟩))
      go_wp2_with fail
      refine (rboth_walk a b pa _ ca pb _ cb _ HLa4.out HLb4.out HMa.out.2.2 HMb.out.2.2).mono ?_
      rintro e w5 ⟨v5, rfl, hO5, hb5⟩
      have HB5 := Lib.hid (HB4.out.trans (hb5.mono HB4.out.size))
      have HO5 := Lib.hid (hO5.mono HB4.out.size)
      clear hO5 hb5
      obtain ⟨pv, cv, rfl, _⟩ := HO5.out.form
      by_cases hlong : 64 < (bothP a b).length
      · have HA := Lib.hid (show meetR a b = ([], 6) by rw [HA0.out]; exact if_pos hlong)
        go_wp2_with fail
        refine (rsized_walk (bothP a b) pv _ cv rfl _).mono ?_
        rintro e w9 ⟨he, rfl⟩
        rw [if_pos hlong] at he
        subst he
        go_wp2
        go_ret2
        exact ⟨_, _, rfl, by rw [HA.out]; exact OwnR.nil _ _, by rw [HA.out], HB5.out⟩
      · have HA := Lib.hid (show meetR a b = (bothP a b, 0) by rw [HA0.out]; exact if_neg hlong)
        go_wp2_with fail
        refine (rsized_walk (bothP a b) pv _ cv rfl _).mono ?_
        rintro e w9 ⟨he, rfl⟩
        rw [if_neg hlong] at he
        subst he
        go_wp2
        go_ret2
        exact ⟨_, _, rfl, by rw [HA.out]; exact HO5.out, by rw [HA.out], HB5.out⟩
theorem covP_point {l : List Rg} {i : Nat} : covP l ⟨i, i + 1⟩ ↔ mem l i := by
  constructor
  · rintro ⟨x, hx, h1, h2⟩; exact ⟨x, hx, h1, h2⟩
  · rintro ⟨x, hx, h1, h2⟩; exact ⟨x, hx, h1, h2⟩
set_option maxRecDepth 100000 in
set_option maxHeartbeats 1000000 in
theorem rhas_walk (l : List Rg) (i : Nat) (a : Option Addr) (n c : Nat) (w : World) (hL : RgsIn w a n c l) (Q : Bool) (hQ : Q = true ↔ MayP l ∧ mem l i) :
    Calls Try.prog 73 #[.slice a n c, .int .u64 (i : Nat)] w fun e w' => e = .returned (.bool Q) ∧ Below w.heap.size w w' := by
  have HL := Lib.hid hL
  have HQ := Lib.hid hQ
  obtain ⟨M1, h1⟩ := bool_of (MayP l)
  have H1 := Lib.hid h1
  clear hL hQ h1
  go_enter Try.func73, Try.ntmps73
  go_wp2_with fail
  refine (may_walkR l a n c _ HL.out M1 H1.out).mono ?_
  rintro e w2 ⟨rfl, hb2⟩
  have HB2 := Lib.hid hb2
  have HL2 := Lib.hid (HL.out.on hb2)
  clear hb2 HL
  cases M1 with
  | false =>
    have HF := Lib.hid (show Q = false from Bool.eq_false_iff.2 fun q => by have := H1.out.2 (HQ.out.1 q).1; cases this)
    go_wp2
    go_ret
    exact ⟨by rw [HF.out]; rfl, HB2.out⟩
  | true =>
    have HMAY := Lib.hid (H1.out.1 rfl)
    by_cases gi : (i : Int) < 1152921504606846976
    · have gd : decide ((i : Int) < (1152921504606846976 : Int)) = true := by simpa using gi
      have gs : IntKind.u64.wrap ((i : Int) + 1) = ((i + 1 : Nat) : Int) := by rw [IntKind.wrap_u64]; omega
      have HC := Lib.hid (show Q = true ↔ covP l ⟨i, i + 1⟩ from HQ.out.trans ⟨fun h => covP_point.2 h.2, fun h => ⟨HMAY.out, covP_point.1 h⟩⟩)
      clear gi
      go_wp2_with fail
      refine (rcovers_walk l ⟨i, i + 1⟩ a n c _ HL2.out Q HC.out).mono ?_
      rintro e w3 ⟨rfl, hb3⟩
      have HB3 := Lib.hid (HB2.out.trans (hb3.mono HB2.out.size))
      clear hb3
      go_wp2
      go_ret
      exact ⟨rfl, HB3.out⟩
    · have gd : decide ((i : Int) < (1152921504606846976 : Int)) = false := by simpa using gi
      have HF := Lib.hid (show Q = false from Bool.eq_false_iff.2 fun q => by
        have h := (HQ.out.1 q)
        have := mem_lt h.1.2.1 h.2
        unfold maxIx at this
        omega)
      clear gi
      go_wp2
      go_ret
      exact ⟨by rw [HF.out]; rfl, HB2.out⟩
set_option maxRecDepth 100000 in
set_option maxHeartbeats 1000000 in
theorem rnorm_walk (l : List Rg) (a : Option Addr) (n c : Nat) (w : World) (hL : RgsIn w a n c l) :
    Calls Try.prog 63 #[.slice a n c] w fun e w' => ∃ v z, e = .returned (.tuple #[v, .int .i64 z]) ∧ OwnR w' w.heap.size v (normR l).1 ∧ z = (normR l).2 ∧ Below w.heap.size w w' := by
  have HL := Lib.hid hL
  obtain rfl : n = l.length := hL.len
  clear hL
  by_cases h64 : 64 < l.length
  · have HA := Lib.hid (show normR l = ([], 190) from if_pos (.inl h64))
    have g1 : (64 : Int) < (l.length : Int) := by omega
    go_enter Try.func63, Try.ntmps63
    go_wp2
    go_ret2
    exact ⟨_, _, rfl, by rw [HA.out]; exact OwnR.nil _ _, by rw [HA.out], Below.refl _ _⟩
  · have g1 : ¬ (64 : Int) < (l.length : Int) := by omega
    have hn63 : l.length ≤ 9223372036854775807 := by omega
    have H64 := Lib.hid h64
    clear h64
    go_enter Try.func63, Try.ntmps63
    go_wp2
    go_loopw [11] (fun x wr => ∃ i : Nat, i ≤ l.length ∧ x = .int .i64 (i : Nat) ∧ Hid (∀ j, j < i → oneP (l.getD j r0)) ∧ Below w.heap.size w wr) (fun x _ => l.length - (intOf x).toNat)
    case atStart => exact ⟨0, Nat.zero_le _, rfl, fun j hj => (by omega), Below.refl _ _⟩
    case round =>
      obtain ⟨i, hi, rfl, HJ, hb⟩ := hrel
      have HBr := Lib.hid hb
      by_cases hlt : i < l.length
      · obtain ⟨g, o, rfl, hg, hr⟩ := HL.out.rd i hlt
        have HR := Lib.hid (rng_on hr hb)
        obtain ⟨x, hx⟩ : ∃ x, x = l.getD i r0 := ⟨_, rfl⟩
        rw [← hx] at HR
        have HX := Lib.hid hx
        have HI := Lib.hid hlt
        clear hr hx hg hb hlt
        go_wp2_with (first | (refine wpList_load_mid rfl 25 (.tmp 13) rfl g (o + i * 2) rfl (rcl x) _ HR.out Try.underlying25 rfl size_rg ?_) | (refine wpList_store_abs rfl 25 (.tmp 5) (.tmp 14) (by rfl) wr.heap.size #[.int .u64 (x.lo : Nat), .int .u64 (x.hi : Nat)] (by rfl) (by rfl) 25 _ (Blk.new wr _ _) size_rg (by rfl) (by simp [Value.oneCell']) ?_; intro W hW hp5; have hbW := hW.below ((Below.refl _ wr).alloc (Nat.le_refl _) _) (Nat.le_refl _); have HBW := Lib.hid (HBr.out.trans (hbW.mono HBr.out.size)); have b2 := hp5.cell 0 rfl; have b3 := hp5.cell 1 rfl; clear hW hbW hp5))
        refine (rone_walk x _).mono ?_
        rintro e w5 ⟨he, hb5⟩
        have HB5 := Lib.hid (HBW.out.trans (hb5.mono HBW.out.size))
        clear hb5 b2 b3
        by_cases ho : oneP x
        · rw [decide_eq_true ho] at he
          subst he
          have HO := Lib.hid ho
          clear ho
          go_wp2
          go_roundw
          case rel => exact ⟨i + 1, by have := HI.out; omega, by go_num, ones_step HJ.out (by rw [← HX.out]; exact HO.out), HB5.out⟩
          case measure => have := HI.out; simp [intOf]; omega
        · rw [decide_eq_false ho] at he
          subst he
          have HA := Lib.hid (show normR l = ([], 190) from if_pos (.inr ⟨x, by
            rw [HX.out]
            simp only [List.getD, List.getElem?_eq_getElem HI.out, Option.getD_some]
            exact List.getElem_mem HI.out, ho⟩))
          clear ho
          go_wp2
          go_ret2
          exact ⟨_, _, rfl, by rw [HA.out]; exact OwnR.nil _ _, by rw [HA.out], HB5.out⟩
      · have HA := Lib.hid (show normR l = (allP l, 0) from if_neg (by
          rintro (h | ⟨x, hx, h⟩)
          · exact H64.out h
          · obtain ⟨j, hj, rfl⟩ := List.getElem_of_mem hx
            have h2 := HJ.out j (by omega)
            rw [show l.getD j r0 = l[j] by simp [List.getD, hj]] at h2
            exact h h2))
        go_wp2_with fail
        refine (rall_walk l a _ c _ (HL.out.on HBr.out) (by have := H64.out; omega)).mono ?_
        rintro e w5 ⟨v5, rfl, hO5, hb5⟩
        have HB5 := Lib.hid (HBr.out.trans (hb5.mono HBr.out.size))
        have HO5 := Lib.hid (hO5.mono HBr.out.size)
        clear hO5 hb5
        go_wp2
        go_ret2
        exact ⟨_, _, rfl, by rw [HA.out]; exact HO5.out, by rw [HA.out], HB5.out⟩
set_option maxRecDepth 100000 in
set_option maxHeartbeats 1000000 in
theorem rcut_walk (l : List Rg) (m : Nat) (hm : m < 18446744073709551616) (a : Option Addr) (n c : Nat) (w : World) (hL : RgsIn w a n c l) :
    Calls Try.prog 62 #[.slice a n c, .int .u64 (m : Nat)] w fun e w' => ∃ v u, e = .returned (.tuple #[v, u]) ∧ OwnR w' w.heap.size v (cutR l m).1 ∧ OwnR w' w.heap.size u (cutR l m).2 ∧ Below w.heap.size w w' := by
  have HL := Lib.hid hL
  have Hm := Lib.hid hm
  obtain ⟨M1, h1⟩ := bool_of (MayP l)
  have H1 := Lib.hid h1
  clear hL h1 hm
  go_enter Try.func62, Try.ntmps62
  go_wp2_with fail
  refine (may_walkR l a n c _ HL.out M1 H1.out).mono ?_
  rintro e w2 ⟨rfl, hb2⟩
  have HB2 := Lib.hid hb2
  have HL2 := Lib.hid (HL.out.on hb2)
  clear hb2 HL
  cases M1 with
  | false =>
    have HA := Lib.hid (show cutR l m = ([], []) from if_neg (fun h => by have := H1.out.2 h; cases this))
    go_wp2
    go_ret2
    exact ⟨_, _, rfl, by rw [HA.out]; exact OwnR.nil _ _, by rw [HA.out]; exact OwnR.nil _ _, HB2.out⟩
  | true =>
    have HMAY := Lib.hid (H1.out.1 rfl)
    have HA := Lib.hid (show cutR l m = (bothP l [⟨0, m⟩], bothP l [⟨m, 18446744073709551615⟩]) by
      rw [← below_both HMAY.out.1 m, ← above_both HMAY.out.1 m (fun x hx => by have := HMAY.out.2.1 x hx; unfold maxIx at this; omega)]
      exact if_pos HMAY.out)
    have hb := below_one1 w2 (.cells #[.int .u64 0, .int .u64 (m : Nat)] 25)
    have HB3 := Lib.hid (HB2.out.trans (hb.mono HB2.out.size))
    have HL3 := Lib.hid (HL2.out.on hb)
    have HLr := Lib.hid (RgsIn.blk (l := [⟨0, m⟩]) (Blk.new w2 #[.int .u64 0, .int .u64 (m : Nat)] 25) (by simp [rcs, rcl]) 1 rfl (by simp [maxLen]) (by
      intro x hx; simp at hx; subst hx; have := Hm.out; simp; omega))
    clear hb
    go_wp2_with fail
    refine (rboth_walk l [⟨0, m⟩] a n c _ 1 1 _ HL3.out HLr.out HMAY.out.2.2 (by simp)).mono ?_
    rintro e w4 ⟨v4, rfl, hO4, hb4⟩
    have HB4 := Lib.hid (HB3.out.trans (hb4.mono HB3.out.size))
    have HL4 := Lib.hid (HL3.out.on hb4)
    have HO4 := Lib.hid (hO4.mono HB3.out.size)
    clear hO4 hb4 HLr HL3 HL2
    have hb := below_one1 w4 (.cells #[.int .u64 (m : Nat), .int .u64 18446744073709551615] 25)
    have HB5 := Lib.hid (HB4.out.trans (hb.mono HB4.out.size))
    have HL5 := Lib.hid (HL4.out.on hb)
    have HO5 := Lib.hid (HO4.out.on hb)
    have HLr := Lib.hid (RgsIn.blk (l := [⟨m, 18446744073709551615⟩]) (Blk.new w4 #[.int .u64 (m : Nat), .int .u64 18446744073709551615] 25) (by simp [rcs, rcl]) 1 rfl (by simp [maxLen]) (by
      intro x hx; simp at hx; subst hx; have := Hm.out; simp; omega))
    clear hb HO4 HL4
    go_wp2_with fail
    refine (rboth_walk l [⟨m, 18446744073709551615⟩] a n c _ 1 1 _ HL5.out HLr.out HMAY.out.2.2 (by simp)).mono ?_
    rintro e w6 ⟨v6, rfl, hO6, hb6⟩
    have HB6 := Lib.hid (HB5.out.trans (hb6.mono HB5.out.size))
    have HO7 := Lib.hid (HO5.out.on hb6)
    have HO6 := Lib.hid (hO6.mono HB5.out.size)
    clear hO6 hb6
    go_wp2
    go_ret2
    exact ⟨_, _, rfl, by rw [HA.out]; exact HO7.out, by rw [HA.out]; exact HO6.out, HB6.out⟩
end Go.Proofs.Ytajjbffppkpjpaa
