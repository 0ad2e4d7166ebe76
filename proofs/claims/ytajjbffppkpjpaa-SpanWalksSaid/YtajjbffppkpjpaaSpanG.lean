import Derived.Test.YtajjbffppkpjpaaSpanW
import Derived.Test.YtajjbffppkpjpaaSpanF
/-
  Of, Take, Count: span's and the reference's.
-/
namespace Go.Proofs.Ytajjbffppkpjpaa
open Go.RowKit
theorem Blk.on {w w' : World} {g : Nat} {cs : Array Value} {t : TypeId} (h : Blk w g cs t) (hb : Below w.heap.size w w') : Blk w' g cs t := h.below hb h.lt
theorem rcl_arr (r : Rg) : (rcl r).toArray = #[.int .u64 (r.lo : Nat), .int .u64 (r.hi : Nat)] := rfl
theorem RgsIn.head {w : World} {a : Option Addr} {n c : Nat} {x : Rg} {l : List Rg} (h : RgsIn w a n c (x :: l)) : ∃ g o, a = some ⟨g, o, none⟩ ∧ g < w.heap.size ∧ w.rangeAt g o (rcl x) := by
  obtain ⟨g, o, e, hg, hr⟩ := h.rd 0 (by simp)
  exact ⟨g, o, e, hg, by simpa using hr⟩
set_option maxRecDepth 100000 in
theorem of_walk (f m : Nat) (hf : f < 18446744073709551616) (hm : m < 18446744073709551616) (w : World) :
    Calls Try.prog 64 #[.int .u64 (f : Nat), .int .u64 (m : Nat)] w fun e w' => e = .returned (.tuple #[rag (ofR f m).1, .int .i64 (ofR f m).2]) ∧ Below w.heap.size w w' := by
  by_cases h0 : m = 0
  · have HA := Lib.hid (show ofR f m = (⟨0, 0⟩, 1) from if_pos h0)
    subst h0
    go_enter Try.func64, Try.ntmps64
    go_wp2
    refine bodyPost_ret (v := .tuple #[rag ⟨0, 0⟩, .int .i64 1]) ?_ rfl ⟨by first | (rw [HA.out]; done) | (rw [HA.out]; rfl), below_one1 w _⟩
    exact (results_ct rfl _ (Blk.new w #[.int .u64 ((0 : Nat) : Int), .int .u64 ((0 : Nat) : Int)] 25) (by rfl) Try.underlying25 rfl size_rg).trans rfl
  · have g0 : ¬ (m : Int) = 0 := by omega
    by_cases h1 : maxIx < f
    · have HA := Lib.hid (show ofR f m = (⟨0, 0⟩, 191) by unfold ofR; rw [if_neg h0, if_pos (.inl h1)]; rfl)
      have g1 : (1152921504606846976 : Int) < (f : Int) := by unfold maxIx at h1; omega
      go_enter Try.func64, Try.ntmps64
      go_wp2
      refine bodyPost_ret (v := .tuple #[rag ⟨0, 0⟩, .int .i64 191]) ?_ rfl ⟨by first | (rw [HA.out]; done) | (rw [HA.out]; rfl), below_one1 w _⟩
      exact (results_ct rfl _ (Blk.new w #[.int .u64 ((0 : Nat) : Int), .int .u64 ((0 : Nat) : Int)] 25) (by rfl) Try.underlying25 rfl size_rg).trans rfl
    · have g1 : ¬ (1152921504606846976 : Int) < (f : Int) := by unfold maxIx at h1; omega
      have gw : IntKind.u64.wrap (1152921504606846976 - (f : Int)) = 1152921504606846976 - (f : Int) := by unfold maxIx at h1; rw [IntKind.wrap_u64]; omega
      by_cases h2 : maxIx - f < m
      · have HA := Lib.hid (show ofR f m = (⟨0, 0⟩, 191) by unfold ofR; rw [if_neg h0, if_pos (.inr h2)]; rfl)
        have g2 : (1152921504606846976 - (f : Int)) < (m : Int) := by unfold maxIx at h1 h2; omega
        go_enter Try.func64, Try.ntmps64
        go_wp2
        refine bodyPost_ret (v := .tuple #[rag ⟨0, 0⟩, .int .i64 191]) ?_ rfl ⟨by first | (rw [HA.out]; done) | (rw [HA.out]; rfl), below_one1 w _⟩
        exact (results_ct rfl _ (Blk.new w #[.int .u64 ((0 : Nat) : Int), .int .u64 ((0 : Nat) : Int)] 25) (by rfl) Try.underlying25 rfl size_rg).trans rfl
      · have HA := Lib.hid (show ofR f m = (⟨f, f + m⟩, 0) by unfold ofR; rw [if_neg h0, if_neg (by rintro (h | h); exact h1 h; exact h2 h)])
        have g2 : ¬ (1152921504606846976 - (f : Int)) < (m : Int) := by unfold maxIx at h1 h2; omega
        have gs : IntKind.u64.wrap ((f : Int) + (m : Int)) = (f : Int) + (m : Int) := by unfold maxIx at h1 h2; rw [IntKind.wrap_u64]; omega
        go_enter Try.func64, Try.ntmps64
        go_wp2
        refine bodyPost_ret (v := .tuple #[rag ⟨f, f + m⟩, .int .i64 0]) ?_ rfl ⟨by first | (rw [HA.out]; done) | (rw [HA.out]; rfl), below_one1 w _⟩
        exact (results_ct rfl _ (Blk.new w #[.int .u64 (f : Nat), .int .u64 ((f + m : Nat) : Int)] 25) (by rfl) Try.underlying25 rfl size_rg).trans rfl
set_option maxRecDepth 100000 in
theorem rof_walk (f m : Nat) (hf : f < 18446744073709551616) (hm : m < 18446744073709551616) (w : World) :
    Calls Try.prog 65 #[.int .u64 (f : Nat), .int .u64 (m : Nat)] w fun e w' => e = .returned (.tuple #[rag (ofR f m).1, .int .i64 (ofR f m).2]) ∧ Below w.heap.size w w' := by
  by_cases h0 : m = 0
  · have HA := Lib.hid (show ofR f m = (⟨0, 0⟩, 1) from if_pos h0)
    subst h0
    go_enter Try.func65, Try.ntmps65
    go_wp2
    refine bodyPost_ret (v := .tuple #[rag ⟨0, 0⟩, .int .i64 1]) ?_ rfl ⟨by first | (rw [HA.out]; done) | (rw [HA.out]; rfl), below_one1 w _⟩
    exact (results_ct rfl _ (Blk.new w #[.int .u64 ((0 : Nat) : Int), .int .u64 ((0 : Nat) : Int)] 25) (by rfl) Try.underlying25 rfl size_rg).trans rfl
  · have g0 : ¬ (m : Int) = 0 := by omega
    by_cases h1 : maxIx < f
    · have HA := Lib.hid (show ofR f m = (⟨0, 0⟩, 191) by unfold ofR; rw [if_neg h0, if_pos (.inl h1)]; rfl)
      have g1 : (1152921504606846976 : Int) < (f : Int) := by unfold maxIx at h1; omega
      go_enter Try.func65, Try.ntmps65
      go_wp2
      refine bodyPost_ret (v := .tuple #[rag ⟨0, 0⟩, .int .i64 191]) ?_ rfl ⟨by first | (rw [HA.out]; done) | (rw [HA.out]; rfl), below_one1 w _⟩
      exact (results_ct rfl _ (Blk.new w #[.int .u64 ((0 : Nat) : Int), .int .u64 ((0 : Nat) : Int)] 25) (by rfl) Try.underlying25 rfl size_rg).trans rfl
    · have g1 : ¬ (1152921504606846976 : Int) < (f : Int) := by unfold maxIx at h1; omega
      have gw : IntKind.u64.wrap (1152921504606846976 - (f : Int)) = 1152921504606846976 - (f : Int) := by unfold maxIx at h1; rw [IntKind.wrap_u64]; omega
      by_cases h2 : maxIx - f < m
      · have HA := Lib.hid (show ofR f m = (⟨0, 0⟩, 191) by unfold ofR; rw [if_neg h0, if_pos (.inr h2)]; rfl)
        have g2 : (1152921504606846976 - (f : Int)) < (m : Int) := by unfold maxIx at h1 h2; omega
        go_enter Try.func65, Try.ntmps65
        go_wp2
        refine bodyPost_ret (v := .tuple #[rag ⟨0, 0⟩, .int .i64 191]) ?_ rfl ⟨by first | (rw [HA.out]; done) | (rw [HA.out]; rfl), below_one1 w _⟩
        exact (results_ct rfl _ (Blk.new w #[.int .u64 ((0 : Nat) : Int), .int .u64 ((0 : Nat) : Int)] 25) (by rfl) Try.underlying25 rfl size_rg).trans rfl
      · have HA := Lib.hid (show ofR f m = (⟨f, f + m⟩, 0) by unfold ofR; rw [if_neg h0, if_neg (by rintro (h | h); exact h1 h; exact h2 h)])
        have g2 : ¬ (1152921504606846976 - (f : Int)) < (m : Int) := by unfold maxIx at h1 h2; omega
        have gs : IntKind.u64.wrap ((f : Int) + (m : Int)) = (f : Int) + (m : Int) := by unfold maxIx at h1 h2; rw [IntKind.wrap_u64]; omega
        go_enter Try.func65, Try.ntmps65
        go_wp2
        refine bodyPost_ret (v := .tuple #[rag ⟨f, f + m⟩, .int .i64 0]) ?_ rfl ⟨by first | (rw [HA.out]; done) | (rw [HA.out]; rfl), below_one1 w _⟩
        exact (results_ct rfl _ (Blk.new w #[.int .u64 (f : Nat), .int .u64 ((f + m : Nat) : Int)] 25) (by rfl) Try.underlying25 rfl size_rg).trans rfl
set_option maxRecDepth 100000 in
set_option maxHeartbeats 1000000 in
theorem take_walk (l : List Rg) (m : Nat) (hm : m < 18446744073709551616) (a : Option Addr) (n c : Nat) (w : World) (hL : RgsIn w a n c l) :
    Calls Try.prog 59 #[.slice a n c, .int .u64 (m : Nat)] w fun e w' => e = .returned (.tuple #[rag (takeR l m).1, .int .i64 (takeR l m).2]) ∧ Below w.heap.size w w' := by
  have HL := Lib.hid (hL.on (below_one1 w (.cells #[.int .u64 0, .int .u64 0] 25)))
  have HB := Lib.hid (below_one1 w (.cells #[.int .u64 0, .int .u64 0] 25))
  have BZ := Lib.hid (Blk.new w #[.int .u64 ((0 : Nat) : Int), .int .u64 ((0 : Nat) : Int)] 25)
  obtain ⟨M, h1⟩ := bool_of (MayP l)
  have H1 := Lib.hid h1
  have HN := Lib.hid hL.len
  clear h1 hL
  by_cases h0 : m = 0
  · have HA := Lib.hid (show takeR l m = (⟨0, 0⟩, 1) from if_pos h0)
    subst h0
    go_enter Try.func59, Try.ntmps59
    go_wp2
    refine bodyPost_ret (v := .tuple #[rag ⟨0, 0⟩, .int .i64 1]) ?_ rfl ⟨by first | (rw [HA.out]; done) | (rw [HA.out]; rfl), below_one1 w _⟩
    exact (results_ct rfl _ (Blk.new w #[.int .u64 ((0 : Nat) : Int), .int .u64 ((0 : Nat) : Int)] 25) (by rfl) Try.underlying25 rfl size_rg).trans rfl
  · have g0 : ¬ (m : Int) = 0 := by omega
    go_enter Try.func59, Try.ntmps59
    go_wp2_with fail
    refine (may_walkS l a n c _ HL.out M H1.out).mono ?_
    rintro e w2 ⟨rfl, hb2⟩
    have HB2 := Lib.hid (HB.out.trans (hb2.mono HB.out.size))
    have HL2 := Lib.hid (HL.out.on hb2)
    have BZ2 := Lib.hid (BZ.out.on hb2)
    clear hb2 HL BZ HB
    cases M with
    | false =>
      have HA := Lib.hid (show takeR l m = (⟨0, 0⟩, 190) by unfold takeR; rw [if_neg h0, if_pos (fun h => by have := H1.out.2 h; cases this)]; rfl)
      go_wp2_with (refine wpList_store_abs rfl 25 (.tmp 4) (.tmp 15) (by rfl) w.heap.size #[.int .u64 ((0 : Nat) : Int), .int .u64 ((0 : Nat) : Int)] (by rfl) (by rfl) 25 _ BZ2.out size_rg (by rfl) (by simp [Value.oneCell']) ?_; intro W hW hp5; have HBW := Lib.hid (hW.below HB2.out (Nat.le_refl _)); have BZW := Lib.hid hp5; clear hW hp5)
      refine bodyPost_ret (v := .tuple #[rag ⟨0, 0⟩, .int .i64 190]) ?_ rfl ⟨by first | (rw [HA.out]; done) | (rw [HA.out]; rfl), HBW.out⟩
      exact (results_ct rfl _ (BZW.out) (by rfl) Try.underlying25 rfl size_rg).trans rfl
    | true =>
      have HMAY := Lib.hid (H1.out.1 rfl)
      cases l with
      | nil =>
        have HA := Lib.hid (show takeR [] m = (⟨0, 0⟩, 4) by unfold takeR; rw [if_neg h0, if_neg (not_not_intro HMAY.out), if_pos (by rfl)]; rfl)
        obtain rfl : n = 0 := HN.out
        go_wp2_with (refine wpList_store_abs rfl 25 (.tmp 4) (.tmp 20) (by rfl) w.heap.size #[.int .u64 ((0 : Nat) : Int), .int .u64 ((0 : Nat) : Int)] (by rfl) (by rfl) 25 _ BZ2.out size_rg (by rfl) (by simp [Value.oneCell']) ?_; intro W hW hp5; have HBW := Lib.hid (hW.below HB2.out (Nat.le_refl _)); have BZW := Lib.hid hp5; clear hW hp5)
        refine bodyPost_ret (v := .tuple #[rag ⟨0, 0⟩, .int .i64 4]) ?_ rfl ⟨by first | (rw [HA.out]; done) | (rw [HA.out]; rfl), HBW.out⟩
        exact (results_ct rfl _ (BZW.out) (by rfl) Try.underlying25 rfl size_rg).trans rfl
      | cons r l =>
        obtain ⟨g, o, rfl, hg, hr⟩ := HL2.out.head
        have HR := Lib.hid hr
        have HX : oneP r := ⟨HMAY.out.1.posAll r (by simp), HMAY.out.2.1 r (by simp)⟩
        have hx1 : (r.lo : Int) < (r.hi : Int) := by have := HX.1; omega
        have hx2 : (r.hi : Int) ≤ 1152921504606846976 := by have := HX.2; unfold maxIx at this; omega
        have gw : IntKind.u64.wrap ((r.hi : Int) - (r.lo : Int)) = (r.hi : Int) - (r.lo : Int) := by rw [IntKind.wrap_u64]; omega
        have hn0 : ¬ (n : Int) = 0 := by have := HN.out; simp at this; omega
        have hn1 : (0 : Int) < (n : Int) := by omega
        have hn2 : 0 < n := by omega
        clear hr
        by_cases hlt : m < r.hi - r.lo
        · have HA := Lib.hid (show takeR (r :: l) m = (⟨r.lo, r.lo + m⟩, 0) by unfold takeR; rw [if_neg h0, if_neg (not_not_intro HMAY.out), if_neg (by simp)]; simp [hlt])
          have g2 : (m : Int) < (r.hi : Int) - (r.lo : Int) := by omega
          have g3 : IntKind.u64.wrap ((r.lo : Int) + (m : Int)) = ((r.lo + m : Nat) : Int) := by rw [IntKind.wrap_u64]; omega
          go_wp2_with (first | (refine wpList_load_mid rfl 25 (.tmp 22) rfl g o rfl (rcl r) _ HR.out Try.underlying25 rfl size_rg ?_) | (refine wpList_store_abs rfl 25 (.tmp 6) (.tmp 23) (by rfl) w2.heap.size #[.int .u64 (r.lo : Nat), .int .u64 (r.hi : Nat)] (by rfl) (by rfl) 25 _ (Blk.new w2 _ _) size_rg (by rfl) (by simp [Value.oneCell']) ?_; intro W hW hp5; have hbW := hW.below ((Below.refl _ w2).alloc (Nat.le_refl _) _) (Nat.le_refl _); have HBW := Lib.hid (HB2.out.trans (hbW.mono HB2.out.size)); have BX := Lib.hid hp5; have b0 := hp5.cell 0 rfl; have b1 := hp5.cell 1 rfl; have b2 := hp5.free 1; have BZW := Lib.hid (BZ2.out.on hbW); have hne := Nat.ne_of_lt BZ2.out.lt; clear hW hbW hp5) | (refine wpList_load_mid rfl 25 (.tmp 6) rfl w2.heap.size 0 rfl [.int .u64 (r.lo : Nat), .int .u64 ((r.lo + m : Nat) : Int)] _ (range_blk (BX.out.set 1 _) 0 _ (fun j hj => by simp)) Try.underlying25 rfl size_rg ?_) | (refine wpList_store_abs rfl 25 (.tmp 4) (.tmp 36) (by rfl) w.heap.size #[.int .u64 (r.lo : Nat), .int .u64 ((r.lo + m : Nat) : Int)] (by rfl) (by rfl) 25 _ (BZW.out.set' 1 _ hne) size_rg (by rfl) (by simp [Value.oneCell']) ?_; intro W2 hW2 hp6; have HBV := Lib.hid (hW2.below (below_setCell HBW.out HB2.out.size _) (Nat.le_refl _)); have BV := Lib.hid hp6; clear hW2 hp6))
          refine bodyPost_ret (v := .tuple #[rag ⟨r.lo, r.lo + m⟩, .int .i64 0]) ?_ rfl ⟨by first | (rw [HA.out]; done) | (rw [HA.out]; rfl), HBV.out⟩
          exact (results_ct rfl _ (BV.out) (by rfl) Try.underlying25 rfl size_rg).trans rfl
        · have HA := Lib.hid (show takeR (r :: l) m = (⟨r.lo, r.hi⟩, 0) by unfold takeR; rw [if_neg h0, if_neg (not_not_intro HMAY.out), if_neg (by simp)]; simp [hlt])
          have g2 : ¬ (m : Int) < (r.hi : Int) - (r.lo : Int) := by omega
          go_wp2_with (first | (refine wpList_load_mid rfl 25 (.tmp 22) rfl g o rfl (rcl r) _ HR.out Try.underlying25 rfl size_rg ?_) | (refine wpList_store_abs rfl 25 (.tmp 6) (.tmp 23) (by rfl) w2.heap.size #[.int .u64 (r.lo : Nat), .int .u64 (r.hi : Nat)] (by rfl) (by rfl) 25 _ (Blk.new w2 _ _) size_rg (by rfl) (by simp [Value.oneCell']) ?_; intro W hW hp5; have hbW := hW.below ((Below.refl _ w2).alloc (Nat.le_refl _) _) (Nat.le_refl _); have HBW := Lib.hid (HB2.out.trans (hbW.mono HB2.out.size)); have BX := Lib.hid hp5; have b0 := hp5.cell 0 rfl; have b1 := hp5.cell 1 rfl; have BZW := Lib.hid (BZ2.out.on hbW); clear hW hbW hp5) | (refine wpList_load_mid rfl 25 (.tmp 6) rfl w2.heap.size 0 rfl [.int .u64 (r.lo : Nat), .int .u64 (r.hi : Nat)] _ (range_blk BX.out 0 _ (fun j hj => by simp)) Try.underlying25 rfl size_rg ?_) | (refine wpList_store_abs rfl 25 (.tmp 4) (.tmp 36) (by rfl) w.heap.size #[.int .u64 (r.lo : Nat), .int .u64 (r.hi : Nat)] (by rfl) (by rfl) 25 _ BZW.out size_rg (by rfl) (by simp [Value.oneCell']) ?_; intro W2 hW2 hp6; have HBV := Lib.hid (hW2.below HBW.out (Nat.le_refl _)); have BV := Lib.hid hp6; clear hW2 hp6))
          refine bodyPost_ret (v := .tuple #[rag ⟨r.lo, r.hi⟩, .int .i64 0]) ?_ rfl ⟨by first | (rw [HA.out]; done) | (rw [HA.out]; rfl), HBV.out⟩
          exact (results_ct rfl _ (BV.out) (by rfl) Try.underlying25 rfl size_rg).trans rfl
set_option maxRecDepth 100000 in
set_option maxHeartbeats 1000000 in
theorem rtake_walk (l : List Rg) (m : Nat) (hm : m < 18446744073709551616) (a : Option Addr) (n c : Nat) (w : World) (hL : RgsIn w a n c l) :
    Calls Try.prog 60 #[.slice a n c, .int .u64 (m : Nat)] w fun e w' => e = .returned (.tuple #[rag (takeR l m).1, .int .i64 (takeR l m).2]) ∧ Below w.heap.size w w' := by
  have HL := Lib.hid (hL.on (below_one1 w (.cells #[.int .u64 0, .int .u64 0] 25)))
  have HB := Lib.hid (below_one1 w (.cells #[.int .u64 0, .int .u64 0] 25))
  have BZ := Lib.hid (Blk.new w #[.int .u64 ((0 : Nat) : Int), .int .u64 ((0 : Nat) : Int)] 25)
  obtain ⟨M, h1⟩ := bool_of (MayP l)
  have H1 := Lib.hid h1
  have HN := Lib.hid hL.len
  clear h1 hL
  by_cases h0 : m = 0
  · have HA := Lib.hid (show takeR l m = (⟨0, 0⟩, 1) from if_pos h0)
    subst h0
    go_enter Try.func60, Try.ntmps60
    go_wp2
    refine bodyPost_ret (v := .tuple #[rag ⟨0, 0⟩, .int .i64 1]) ?_ rfl ⟨by first | (rw [HA.out]; done) | (rw [HA.out]; rfl), below_one1 w _⟩
    exact (results_ct rfl _ (Blk.new w #[.int .u64 ((0 : Nat) : Int), .int .u64 ((0 : Nat) : Int)] 25) (by rfl) Try.underlying25 rfl size_rg).trans rfl
  · have g0 : ¬ (m : Int) = 0 := by omega
    go_enter Try.func60, Try.ntmps60
    go_wp2_with fail
    refine (may_walkR l a n c _ HL.out M H1.out).mono ?_
    rintro e w2 ⟨rfl, hb2⟩
    have HB2 := Lib.hid (HB.out.trans (hb2.mono HB.out.size))
    have HL2 := Lib.hid (HL.out.on hb2)
    have BZ2 := Lib.hid (BZ.out.on hb2)
    clear hb2 HL BZ HB
    cases M with
    | false =>
      have HA := Lib.hid (show takeR l m = (⟨0, 0⟩, 190) by unfold takeR; rw [if_neg h0, if_pos (fun h => by have := H1.out.2 h; cases this)]; rfl)
      go_wp2_with (refine wpList_store_abs rfl 25 (.tmp 4) (.tmp 13) (by rfl) w.heap.size #[.int .u64 ((0 : Nat) : Int), .int .u64 ((0 : Nat) : Int)] (by rfl) (by rfl) 25 _ BZ2.out size_rg (by rfl) (by simp [Value.oneCell']) ?_; intro W hW hp5; have HBW := Lib.hid (hW.below HB2.out (Nat.le_refl _)); have BZW := Lib.hid hp5; clear hW hp5)
      refine bodyPost_ret (v := .tuple #[rag ⟨0, 0⟩, .int .i64 190]) ?_ rfl ⟨by first | (rw [HA.out]; done) | (rw [HA.out]; rfl), HBW.out⟩
      exact (results_ct rfl _ (BZW.out) (by rfl) Try.underlying25 rfl size_rg).trans rfl
    | true =>
      have HMAY := Lib.hid (H1.out.1 rfl)
      cases l with
      | nil =>
        have HA := Lib.hid (show takeR [] m = (⟨0, 0⟩, 4) by unfold takeR; rw [if_neg h0, if_neg (not_not_intro HMAY.out), if_pos (by rfl)]; rfl)
        obtain rfl : n = 0 := HN.out
        go_wp2_with (refine wpList_store_abs rfl 25 (.tmp 4) (.tmp 17) (by rfl) w.heap.size #[.int .u64 ((0 : Nat) : Int), .int .u64 ((0 : Nat) : Int)] (by rfl) (by rfl) 25 _ BZ2.out size_rg (by rfl) (by simp [Value.oneCell']) ?_; intro W hW hp5; have HBW := Lib.hid (hW.below HB2.out (Nat.le_refl _)); have BZW := Lib.hid hp5; clear hW hp5)
        refine bodyPost_ret (v := .tuple #[rag ⟨0, 0⟩, .int .i64 4]) ?_ rfl ⟨by first | (rw [HA.out]; done) | (rw [HA.out]; rfl), HBW.out⟩
        exact (results_ct rfl _ (BZW.out) (by rfl) Try.underlying25 rfl size_rg).trans rfl
      | cons r l =>
        obtain ⟨g, o, rfl, hg, hr⟩ := HL2.out.head
        have HR := Lib.hid hr
        have HX : oneP r := ⟨HMAY.out.1.posAll r (by simp), HMAY.out.2.1 r (by simp)⟩
        have hx1 : (r.lo : Int) < (r.hi : Int) := by have := HX.1; omega
        have hx2 : (r.hi : Int) ≤ 1152921504606846976 := by have := HX.2; unfold maxIx at this; omega
        have gw : IntKind.u64.wrap ((r.hi : Int) - (r.lo : Int)) = (r.hi : Int) - (r.lo : Int) := by rw [IntKind.wrap_u64]; omega
        have hn0 : ¬ (n : Int) = 0 := by have := HN.out; simp at this; omega
        have hn1 : (0 : Int) < (n : Int) := by omega
        have hn2 : 0 < n := by omega
        clear hr
        by_cases hlt : m < r.hi - r.lo
        · have HA := Lib.hid (show takeR (r :: l) m = (⟨r.lo, r.lo + m⟩, 0) by unfold takeR; rw [if_neg h0, if_neg (not_not_intro HMAY.out), if_neg (by simp)]; simp [hlt])
          have g2 : (m : Int) < (r.hi : Int) - (r.lo : Int) := by omega
          have g3 : IntKind.u64.wrap ((r.lo : Int) + (m : Int)) = ((r.lo + m : Nat) : Int) := by rw [IntKind.wrap_u64]; omega
          go_wp2_with (first | (refine wpList_load_mid rfl 25 (.tmp 19) rfl g o rfl (rcl r) _ HR.out Try.underlying25 rfl size_rg ?_) | (refine wpList_store_abs rfl 25 (.tmp 6) (.tmp 20) (by rfl) w2.heap.size #[.int .u64 (r.lo : Nat), .int .u64 (r.hi : Nat)] (by rfl) (by rfl) 25 _ (Blk.new w2 _ _) size_rg (by rfl) (by simp [Value.oneCell']) ?_; intro W hW hp5; have hbW := hW.below ((Below.refl _ w2).alloc (Nat.le_refl _) _) (Nat.le_refl _); have HBW := Lib.hid (HB2.out.trans (hbW.mono HB2.out.size)); have BX := Lib.hid hp5; have b0 := hp5.cell 0 rfl; have b1 := hp5.cell 1 rfl; have b2 := hp5.free 1; have BZW := Lib.hid (BZ2.out.on hbW); have hne := Nat.ne_of_lt BZ2.out.lt; clear hW hbW hp5) | (refine wpList_load_mid rfl 25 (.tmp 6) rfl w2.heap.size 0 rfl [.int .u64 (r.lo : Nat), .int .u64 ((r.lo + m : Nat) : Int)] _ (range_blk (BX.out.set 1 _) 0 _ (fun j hj => by simp)) Try.underlying25 rfl size_rg ?_) | (refine wpList_store_abs rfl 25 (.tmp 4) (.tmp 33) (by rfl) w.heap.size #[.int .u64 (r.lo : Nat), .int .u64 ((r.lo + m : Nat) : Int)] (by rfl) (by rfl) 25 _ (BZW.out.set' 1 _ hne) size_rg (by rfl) (by simp [Value.oneCell']) ?_; intro W2 hW2 hp6; have HBV := Lib.hid (hW2.below (below_setCell HBW.out HB2.out.size _) (Nat.le_refl _)); have BV := Lib.hid hp6; clear hW2 hp6))
          refine bodyPost_ret (v := .tuple #[rag ⟨r.lo, r.lo + m⟩, .int .i64 0]) ?_ rfl ⟨by first | (rw [HA.out]; done) | (rw [HA.out]; rfl), HBV.out⟩
          exact (results_ct rfl _ (BV.out) (by rfl) Try.underlying25 rfl size_rg).trans rfl
        · have HA := Lib.hid (show takeR (r :: l) m = (⟨r.lo, r.hi⟩, 0) by unfold takeR; rw [if_neg h0, if_neg (not_not_intro HMAY.out), if_neg (by simp)]; simp [hlt])
          have g2 : ¬ (m : Int) < (r.hi : Int) - (r.lo : Int) := by omega
          go_wp2_with (first | (refine wpList_load_mid rfl 25 (.tmp 19) rfl g o rfl (rcl r) _ HR.out Try.underlying25 rfl size_rg ?_) | (refine wpList_store_abs rfl 25 (.tmp 6) (.tmp 20) (by rfl) w2.heap.size #[.int .u64 (r.lo : Nat), .int .u64 (r.hi : Nat)] (by rfl) (by rfl) 25 _ (Blk.new w2 _ _) size_rg (by rfl) (by simp [Value.oneCell']) ?_; intro W hW hp5; have hbW := hW.below ((Below.refl _ w2).alloc (Nat.le_refl _) _) (Nat.le_refl _); have HBW := Lib.hid (HB2.out.trans (hbW.mono HB2.out.size)); have BX := Lib.hid hp5; have b0 := hp5.cell 0 rfl; have b1 := hp5.cell 1 rfl; have BZW := Lib.hid (BZ2.out.on hbW); clear hW hbW hp5) | (refine wpList_load_mid rfl 25 (.tmp 6) rfl w2.heap.size 0 rfl [.int .u64 (r.lo : Nat), .int .u64 (r.hi : Nat)] _ (range_blk BX.out 0 _ (fun j hj => by simp)) Try.underlying25 rfl size_rg ?_) | (refine wpList_store_abs rfl 25 (.tmp 4) (.tmp 33) (by rfl) w.heap.size #[.int .u64 (r.lo : Nat), .int .u64 (r.hi : Nat)] (by rfl) (by rfl) 25 _ BZW.out size_rg (by rfl) (by simp [Value.oneCell']) ?_; intro W2 hW2 hp6; have HBV := Lib.hid (hW2.below HBW.out (Nat.le_refl _)); have BV := Lib.hid hp6; clear hW2 hp6))
          refine bodyPost_ret (v := .tuple #[rag ⟨r.lo, r.hi⟩, .int .i64 0]) ?_ rfl ⟨by first | (rw [HA.out]; done) | (rw [HA.out]; rfl), HBV.out⟩
          exact (results_ct rfl _ (BV.out) (by rfl) Try.underlying25 rfl size_rg).trans rfl
end Go.Proofs.Ytajjbffppkpjpaa
