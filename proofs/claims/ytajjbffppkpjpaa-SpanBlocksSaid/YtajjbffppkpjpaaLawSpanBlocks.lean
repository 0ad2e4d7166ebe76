import Derived.Test.YtajjbffppkpjpaaSpanE
/-
  The walk of liverylaw19.SpanBlocks.
-/
namespace Go.Proofs.Ytajjbffppkpjpaa
open Go.RowKit
theorem pow_split (p : Nat) (h : p ≤ 60) : 1152921504606846976 / 2 ^ p = 2 ^ (60 - p) := by
  have : (1152921504606846976 : Nat) = 2 ^ p * 2 ^ (60 - p) := by rw [← Nat.pow_add, show p + (60 - p) = 60 by omega]
  rw [this, Nat.mul_div_cancel_left _ (Nat.two_pow_pos p)]
theorem pow_whole (p : Nat) (h : p ≤ 60) : 2 ^ (60 - p) * 2 ^ p = 1152921504606846976 := by
  rw [← Nat.pow_add, show 60 - p + p = 60 by omega]
set_option maxRecDepth 100000 in
set_option maxHeartbeats 2000000 in
theorem spanblocks_walk (l : List Rg) (m : Int) (k : Nat) (hk : k < 18446744073709551616) (a : Option Addr) (n c : Nat) (w : World) (hL : RgsIn w a n c l) :
    Calls Try.prog 8 #[.slice a n c, .int .i64 m, .int .u64 (k : Nat)] w fun e w' => e = .returned (.bool true) ∧ Below w.heap.size w w' := by
  have HL := Lib.hid hL
  obtain ⟨M, h1⟩ := bool_of (MayP l)
  have H1 := Lib.hid h1
  clear hL h1
  go_enter Try.func8, Try.ntmps8
  go_wp2_with fail
  refine (live19_walk _).mono ?_
  rintro e w2 ⟨rfl, hb2⟩
  have HB2 := Lib.hid hb2
  have HL2 := Lib.hid (HL.out.on hb2)
  clear hb2 HL
  go_wp2_with fail
  refine (may_walkR l a n c _ HL2.out M H1.out).mono ?_
  rintro e w3 ⟨rfl, hb3⟩
  have HB3 := Lib.hid (HB2.out.trans (hb3.mono HB2.out.size))
  have HL3 := Lib.hid (HL2.out.on hb3)
  clear hb3 HL2
  cases M with
  | false =>
    go_wp2_with fail
    refine (live19_walk _).mono ?_
    rintro e w4 ⟨rfl, hb4⟩
    have HB4 := Lib.hid (HB3.out.trans (hb4.mono HB3.out.size))
    clear hb4
    go_wp2
    go_ret
    exact ⟨rfl, HB4.out⟩
  | true =>
    have HMAY := Lib.hid (H1.out.1 rfl)
    by_cases g0 : m < 0
    · go_wp2_with fail
      refine (live19_walk _).mono ?_
      rintro e w4 ⟨rfl, hb4⟩
      have HB4 := Lib.hid (HB3.out.trans (hb4.mono HB3.out.size))
      clear hb4
      go_wp2
      go_ret
      exact ⟨rfl, HB4.out⟩
    by_cases g1 : 60 < m
    · go_wp2_with fail
      refine (live19_walk _).mono ?_
      rintro e w4 ⟨rfl, hb4⟩
      have HB4 := Lib.hid (HB3.out.trans (hb4.mono HB3.out.size))
      clear hb4
      go_wp2
      go_ret
      exact ⟨rfl, HB4.out⟩
    obtain ⟨p, rfl⟩ : ∃ p : Nat, m = p := ⟨m.toNat, by omega⟩
    have hp60 : p ≤ 60 := by omega
    have HP60 := Lib.hid hp60
    obtain ⟨s, hs⟩ : ∃ s, s = 2 ^ p := ⟨_, rfl⟩
    obtain ⟨q, hq⟩ : ∃ q, q = 2 ^ (60 - p) := ⟨_, rfl⟩
    have hs0 : 0 < s := by rw [hs]; exact Nat.two_pow_pos p
    have hq0 : 0 < q := by rw [hq]; exact Nat.two_pow_pos _
    have hqs : q * s = 1152921504606846976 := by rw [hq, hs]; exact pow_whole p hp60
    have hs1 : s ≤ 1152921504606846976 := by rw [← hqs]; exact Nat.le_mul_of_pos_left s hq0
    have hq1 : q ≤ 1152921504606846976 := by rw [← hqs]; exact Nat.le_mul_of_pos_right q hs0
    have f1 : IntKind.u64.wrap (p : Int) = (p : Int) := by rw [IntKind.wrap_u64]; omega
    have f2 : IntKind.u64.wrap ((2 : Int) ^ p) = (s : Int) := by
      have e : ((2 : Int) ^ p) = (s : Int) := by rw [hs]; simp
      rw [e, IntKind.wrap_u64]; omega
    have hdiv : 1152921504606846976 / s = q := by rw [hs, hq]; exact pow_split p hp60
    have f3 : (1152921504606846976 : Int) / (s : Int) = (q : Int) := by rw [← hdiv]; simp
    have f3' : (1152921504606846976 : Int).tdiv (s : Int) = (q : Int) := by rw [← hdiv]; exact (Int.ofNat_tdiv 1152921504606846976 s).symm
    have f4 : IntKind.u64.wrap (q : Int) = (q : Int) := by rw [IntKind.wrap_u64]; omega
    have f5 : ¬ (s : Int) = 0 := by omega
    have f6 : ¬ (q : Int) = 0 := by omega
    obtain ⟨j, hj⟩ : ∃ j, j = k % q := ⟨_, rfl⟩
    have hjq : j < q := by rw [hj]; exact Nat.mod_lt _ hq0
    have f7 : (k : Int) % (q : Int) = (j : Int) := by rw [hj]; simp
    have f7' : (k : Int).tmod (q : Int) = (j : Int) := by rw [hj]; exact (Int.ofNat_tmod k q).symm
    obtain ⟨t, ht⟩ : ∃ t, t = j * s := ⟨_, rfl⟩
    have hts : t + s ≤ 1152921504606846976 := by
      rw [ht, ← hqs, ← Nat.succ_mul]
      exact Nat.mul_le_mul_right s hjq
    have f8 : IntKind.u64.wrap ((j : Int) * (s : Int)) = (t : Int) := by rw [← Int.natCast_mul, ← ht, IntKind.wrap_u64]; omega
    have f9 : IntKind.u64.wrap ((t : Int) + (s : Int)) = ((t + s : Nat) : Int) := by rw [IntKind.wrap_u64]; omega
    have f10 : IntKind.u64.wrap (j : Int) = (j : Int) := by rw [IntKind.wrap_u64]; omega
    have HS := Lib.hid hs
    have HT := Lib.hid ht
    have HONE := Lib.hid (show oneP ⟨t, t + s⟩ from ⟨by show t < t + s; omega, hts⟩)
    have HS0 := Lib.hid hs0
    clear hs hq hqs hdiv hj hjq ht hts hk
    go_wp2_with fail
    refine (block_walk l p a n c _ HL3.out).mono ?_
    rintro e w4 ⟨rfl, hb4⟩
    have HB4 := Lib.hid (HB3.out.trans (hb4.mono HB3.out.size))
    have HL4 := Lib.hid (HL3.out.on hb4)
    clear hb4 HL3
    cases hbl : blockP s l with
    | none =>
      rw [blockR_none HP60.out HMAY.out (by rw [← HS.out]; exact hbl)]
      have hb := below_two2 w4 (.cells #[.int .u64 ((0 : Nat) : Int), .int .u64 ((0 : Nat) : Int)] 25) (.cells #[.int .u64 (t : Nat), .int .u64 ((t + s : Nat) : Int)] 25)
      have HB5 := Lib.hid (HB4.out.trans (hb.mono HB4.out.size))
      have HL5 := Lib.hid (HL4.out.on hb)
      have HNC := Lib.hid (show false = true ↔ MayP l ∧ oneP ⟨t, t + s⟩ ∧ covP l ⟨t, t + s⟩ from ⟨fun h => (by cases h), fun ⟨_, _, y, hy, h1, h2⟩ => absurd ⟨by rw [← HT.out]; exact h1, by rw [← HT.out]; exact h2⟩ (block_none HS0.out hbl j y hy)⟩)
      clear hb hbl
      go_wp2_with fail
      refine (covers_x l ⟨t, t + s⟩ a n c _ HL5.out false HNC.out).mono ?_
      rintro e w6 ⟨rfl, hb6⟩
      have HB6 := Lib.hid (HB5.out.trans (hb6.mono HB5.out.size))
      clear hb6
      go_wp2
      go_ret
      exact ⟨rfl, HB6.out⟩
    | some b =>
      rw [blockR_some HP60.out HMAY.out (by rw [← HS.out]; exact hbl)]
      obtain ⟨b1, b2, b3, b4⟩ := block_some HS0.out HMAY.out.1 hbl
      have HOB := Lib.hid (show oneP b from ⟨by omega, by
        obtain ⟨x, hx, _, h2⟩ := b1
        exact Nat.le_trans h2 (HMAY.out.2.1 x hx)⟩)
      have HC := Lib.hid (show MayP l ∧ oneP b ∧ covP l b from ⟨HMAY.out, HOB.out, b1⟩)
      have d1 : (b.lo : Int) % (s : Int) = 0 := by
        have := congrArg (fun x : Nat => (x : Int)) b2
        simpa using this
      have d1' : (b.lo : Int).tmod (s : Int) = 0 := by
        rw [← Int.ofNat_tmod b.lo s, b2]; rfl
      have d2 : IntKind.u64.wrap ((b.hi : Int) - (b.lo : Int)) = (s : Int) := by rw [IntKind.wrap_u64]; omega
      have HNC := Lib.hid (show ¬ t ≤ b.lo → (false = true ↔ MayP l ∧ oneP ⟨t, t + s⟩ ∧ covP l ⟨t, t + s⟩) from fun hlt => ⟨fun h => (by cases h), fun ⟨_, _, y, hy, h1, h2⟩ => absurd (by rw [HT.out]; exact b4 j y hy (by rw [← HT.out]; exact h1) (by rw [← HT.out]; exact h2)) hlt⟩)
      have hb := below_two2 w4 (.cells #[.int .u64 (b.lo : Nat), .int .u64 (b.hi : Nat)] 25) (.cells #[.int .u64 (t : Nat), .int .u64 ((t + s : Nat) : Int)] 25)
      have HB5 := Lib.hid (HB4.out.trans (hb.mono HB4.out.size))
      have HL5 := Lib.hid (HL4.out.on hb)
      have BB := Lib.hid ((Blk.new w4 #[.int .u64 (b.lo : Nat), .int .u64 (b.hi : Nat)] 25).alloc (.cells #[.int .u64 (t : Nat), .int .u64 ((t + s : Nat) : Int)] 25))
      have BO := Lib.hid (Blk.new' (w4.alloc (.cells #[.int .u64 (b.lo : Nat), .int .u64 (b.hi : Nat)] 25)) #[.int .u64 (t : Nat), .int .u64 ((t + s : Nat) : Int)] 25 (g := w4.heap.size + 1) (by simp))
      clear hb hbl b1 b2 b3 b4
      go_wp2_with fail
      refine (covers_x l b a n c _ HL5.out true ⟨fun _ => HC.out, fun _ => rfl⟩).mono ?_
      rintro e w6 ⟨rfl, hb6⟩
      have HB6 := Lib.hid (HB5.out.trans (hb6.mono HB5.out.size))
      have HL6 := Lib.hid (HL5.out.on hb6)
      have BB6 := BB.out.on hb6
      have BO6 := BO.out.on hb6
      have c0 := BB6.cell 0 rfl
      have c1 := BB6.cell 1 rfl
      have c2 := BO6.cell 0 rfl
      have c3 := BO6.cell 1 rfl
      clear hb6 BB6 BO6
      by_cases hlt : t ≤ b.lo
      · have g3 : (t : Int) ≤ (b.lo : Int) := by omega
        go_wp2
        go_ret
        exact ⟨rfl, HB6.out⟩
      · have g3 : ¬ (t : Int) ≤ (b.lo : Int) := by omega
        have HNN := Lib.hid (HNC.out hlt)
        go_wp2_with fail
        refine (covers_x l ⟨t, t + s⟩ a n c _ HL6.out false HNN.out).mono ?_
        rintro e w7 ⟨rfl, hb7⟩
        have HB7 := Lib.hid (HB6.out.trans (hb7.mono HB6.out.size))
        clear hb7
        go_wp2
        go_ret
        exact ⟨rfl, HB7.out⟩
end Go.Proofs.Ytajjbffppkpjpaa
