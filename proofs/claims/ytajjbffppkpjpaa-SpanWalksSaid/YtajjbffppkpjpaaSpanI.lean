import Derived.Test.YtajjbffppkpjpaaSpanH
/-
  Block: span's and the reference's.
-/
namespace Go.Proofs.Ytajjbffppkpjpaa
open Go.RowKit
theorem block_up (s : Nat) (l : List Rg) (b : Rg) : ∀ i, i ≤ l.length → blockP s (l.drop i) = some b → blockP s l = some b := by
  intro i
  induction i with
  | zero => intro _ h; simpa using h
  | succ i ih =>
    intro hi h
    refine ih (by omega) ?_
    rw [block_drop s l i (by omega), h]
    rfl
theorem blockR_not {l : List Rg} {p : Nat} (hp : p ≤ 60) (h : ¬ MayP l) : blockR l (p : Int) = (r0, 190) := by
  unfold blockR; rw [if_neg (show ¬ ((p : Int) < 0 ∨ 60 < (p : Int)) by omega), if_pos h]
theorem blockR_some {l : List Rg} {p : Nat} (hp : p ≤ 60) (h : MayP l) {b : Rg} (hb : blockP (2 ^ p) l = some b) : blockR l (p : Int) = (b, 0) := by
  unfold blockR; rw [if_neg (show ¬ ((p : Int) < 0 ∨ 60 < (p : Int)) by omega), Int.toNat_natCast, if_neg (not_not_intro h), hb]; simp
theorem blockR_none {l : List Rg} {p : Nat} (hp : p ≤ 60) (h : MayP l) (hb : blockP (2 ^ p) l = none) : blockR l (p : Int) = (r0, 4) := by
  unfold blockR; rw [if_neg (show ¬ ((p : Int) < 0 ∨ 60 < (p : Int)) by omega), Int.toNat_natCast, if_neg (not_not_intro h), hb]; simp
set_option maxRecDepth 100000 in
set_option maxHeartbeats 1000000 in
theorem block_walk (l : List Rg) (m : Int) (a : Option Addr) (n c : Nat) (w : World) (hL : RgsIn w a n c l) :
    Calls Try.prog 55 #[.slice a n c, .int .i64 m] w fun e w' => e = .returned (.tuple #[rag (blockR l m).1, .int .i64 (blockR l m).2]) ∧ Below w.heap.size w w' := by
  have HL := Lib.hid (hL.on (below_one1 w (.cells #[.int .u64 0, .int .u64 0] 25)))
  have HB := Lib.hid (below_one1 w (.cells #[.int .u64 0, .int .u64 0] 25))
  have BZ := Lib.hid (Blk.new w #[.int .u64 ((0 : Nat) : Int), .int .u64 ((0 : Nat) : Int)] 25)
  obtain ⟨M, h1⟩ := bool_of (MayP l)
  have H1 := Lib.hid h1
  have HN := Lib.hid hL.len
  clear h1 hL
  by_cases g0 : m < 0
  · have HA := Lib.hid (show blockR l m = (⟨0, 0⟩, 1) from if_pos (.inl g0))
    go_enter Try.func55, Try.ntmps55
    go_wp2; go_step3; go_wp2
    try rw [Exit.noGoto_ret]
    refine bodyPost_ret (v := .tuple #[rag ⟨0, 0⟩, .int .i64 1]) ?_ rfl ⟨by first | (rw [HA.out]; done) | (rw [HA.out]; rfl), below_one1 w _⟩
    exact (results_ct rfl _ (Blk.new w #[.int .u64 ((0 : Nat) : Int), .int .u64 ((0 : Nat) : Int)] 25) (by rfl) Try.underlying25 rfl size_rg).trans rfl
  by_cases g1 : 60 < m
  · have HA := Lib.hid (show blockR l m = (⟨0, 0⟩, 1) from if_pos (.inr g1))
    go_enter Try.func55, Try.ntmps55
    go_wp2; go_step3; go_wp2
    try rw [Exit.noGoto_ret]
    refine bodyPost_ret (v := .tuple #[rag ⟨0, 0⟩, .int .i64 1]) ?_ rfl ⟨by first | (rw [HA.out]; done) | (rw [HA.out]; rfl), below_one1 w _⟩
    exact (results_ct rfl _ (Blk.new w #[.int .u64 ((0 : Nat) : Int), .int .u64 ((0 : Nat) : Int)] 25) (by rfl) Try.underlying25 rfl size_rg).trans rfl
  obtain ⟨p, rfl⟩ : ∃ p : Nat, m = p := ⟨m.toNat, by omega⟩
  have hp60 : p ≤ 60 := by omega
  have HP60 := Lib.hid hp60
  obtain ⟨s, hs⟩ : ∃ s, s = 2 ^ p := ⟨_, rfl⟩
  have hs0 : 0 < s := by rw [hs]; exact Nat.two_pow_pos p
  have hs1 : s ≤ 1152921504606846976 := by
    rw [hs]
    exact Nat.pow_le_pow_right (n := 2) (by omega) hp60
  go_enter Try.func55, Try.ntmps55
  go_wp2; go_step3; go_wp2_with fail
  refine (may_walkS l a n c _ HL.out M H1.out).mono ?_
  rintro e w2 ⟨rfl, hb2⟩
  have HB2 := Lib.hid (HB.out.trans (hb2.mono HB.out.size))
  have HL2 := Lib.hid (HL.out.on hb2)
  have BZ2 := Lib.hid (BZ.out.on hb2)
  clear hb2 HL BZ HB
  cases M with
  | false =>
    have HA := Lib.hid (show blockR l p = (⟨0, 0⟩, 190) from blockR_not HP60.out (fun h => by have := H1.out.2 h; cases this))
    go_wp2_with (refine wpList_store_abs rfl 25 (.tmp 4) (.tmp 23) (by rfl) w.heap.size #[.int .u64 ((0 : Nat) : Int), .int .u64 ((0 : Nat) : Int)] (by rfl) (by rfl) 25 _ BZ2.out size_rg (by rfl) (by simp [Value.oneCell']) ?_; intro W hW hp5; have HBW := Lib.hid (hW.below HB2.out (Nat.le_refl _)); have BZW := Lib.hid hp5; clear hW hp5)
    try rw [Exit.noGoto_ret]
    refine bodyPost_ret (v := .tuple #[rag ⟨0, 0⟩, .int .i64 190]) ?_ rfl ⟨by first | (rw [HA.out]; done) | (rw [HA.out]; rfl), HBW.out⟩
    exact (results_ct rfl _ (BZW.out) (by rfl) Try.underlying25 rfl size_rg).trans rfl
  | true =>
    have HMAY := Lib.hid (H1.out.1 rfl)
    obtain rfl : n = l.length := HN.out
    have hl64 := HMAY.out.2.2
    have gsh : IntKind.u64.wrap ((2 : Int) ^ p) = (s : Int) := by
      have e : ((2 : Int) ^ p) = (s : Int) := by rw [hs]; simp
      rw [e, IntKind.wrap_u64]; omega
    have HS := Lib.hid hs
    clear hs
    go_wp2
    go_step3
    go_wp2
    have HW1 := Lib.hid (HL2.out.on (below_one1 w2 (.cells #[.int .u64 0, .int .u64 0] 25)))
    have HBW1 := Lib.hid (HB2.out.trans ((below_one1 w2 (.cells #[.int .u64 0, .int .u64 0] 25)).mono HB2.out.size))
    have BR1 := Lib.hid (Blk.new w2 #[.int .u64 0, .int .u64 0] 25)
    have BZ1 := Lib.hid (BZ2.out.alloc (.cells #[.int .u64 0, .int .u64 0] 25))
    have hne := Nat.ne_of_lt BZ2.out.lt
    go_loopw [9, 8] (fun x y wr => ∃ k : Nat, k ≤ l.length ∧ x = .int .i64 ((k : Int) - 1) ∧ y = .int .i64 4 ∧ Hid (blockP s (l.drop k) = none) ∧ wr = w2.alloc (.cells #[.int .u64 0, .int .u64 0] 25)) (fun x _ _ => ((intOf x) + 1).toNat)
    case atStart => exact ⟨l.length, Nat.le_refl _, rfl, rfl, by simp [Hid, blockP], rfl⟩
    case round =>
      obtain ⟨k, hk, rfl, rfl, HBN, rfl⟩ := hrel
      cases k with
      | zero =>
        have HA := Lib.hid (show blockR l p = (⟨0, 0⟩, 4) from blockR_none HP60.out HMAY.out (by rw [← HS.out]; simpa using HBN.out))
        go_wp2_with (first | (refine wpList_load_mid rfl 25 (.tmp 7) rfl w2.heap.size 0 rfl [.int .u64 (0 : Nat), .int .u64 (0 : Nat)] _ (range_blk BR1.out 0 _ (fun j hj => by simp)) Try.underlying25 rfl size_rg ?_) | (refine wpList_store_abs rfl 25 (.tmp 4) (.tmp 62) (by rfl) w.heap.size #[.int .u64 (0 : Nat), .int .u64 (0 : Nat)] (by rfl) (by rfl) 25 _ BZ1.out size_rg (by rfl) (by simp [Value.oneCell']) ?_; intro W hW hp5; have HBW := Lib.hid (hW.below HBW1.out (Nat.le_refl _)); have BZW := Lib.hid hp5; clear hW hp5))
        try rw [Exit.noGoto_ret]
        refine bodyPost_ret (v := .tuple #[rag ⟨0, 0⟩, .int .i64 4]) ?_ rfl ⟨by first | (rw [HA.out]; done) | (rw [HA.out]; rfl), HBW.out⟩
        exact (results_ct rfl _ (BZW.out) (by rfl) Try.underlying25 rfl size_rg).trans rfl
      | succ k =>
        have e1 : (((k + 1 : Nat) : Int) - 1) = (k : Int) := by omega
        rw [e1]
        have HK := Lib.hid hk
        have HDR := Lib.hid (block_drop s l k (by omega))
        rw [HBN.out] at HDR
        obtain ⟨g, o, rfl, hg, hr⟩ := HW1.out.rd k (by omega)
        have HONE := Lib.hid (HMAY.out.one (i := k) (by omega))
        obtain ⟨x, hx⟩ : ∃ x, x = l.getD k r0 := ⟨_, rfl⟩
        rw [← hx] at hr HONE
        have HDX := Lib.hid (show blockP s (l.drop k) = none.or (blk s x) by rw [hx]; exact HDR.out)
        have c0 : (w2.alloc (.cells #[.int .u64 0, .int .u64 0] 25)).cell? ⟨g, o + k * 2, none⟩ = some (.int .u64 (x.lo : Nat)) := hr 0 _ rfl
        have c1 : (w2.alloc (.cells #[.int .u64 0, .int .u64 0] 25)).cell? ⟨g, o + k * 2 + 1, none⟩ = some (.int .u64 (x.hi : Nat)) := hr 1 _ rfl
        have hx2 : x.hi ≤ 1152921504606846976 := HONE.out.2
        obtain ⟨q, hq⟩ : ∃ q, q = x.hi / s := ⟨_, rfl⟩
        obtain ⟨h, hh⟩ : ∃ h, h = q * s := ⟨_, rfl⟩
        have hhi : h ≤ x.hi := by rw [hh, hq]; exact Nat.div_mul_le_self _ _
        have HBK := Lib.hid (show blk s x = if h < s ∨ h - s < x.lo then none else some ⟨h - s, h⟩ by rw [hh, hq]; rfl)
        have d1 : ((x.hi : Int) / (s : Int)) = (q : Int) := by rw [hq]; simp
        have d2 : ((x.hi : Int).tdiv (s : Int)) = (q : Int) := by rw [hq]; simp
        have d3 : IntKind.u64.wrap ((q : Int) * (s : Int)) = (h : Int) := by rw [← Int.natCast_mul, ← hh, IntKind.wrap_u64]; omega
        have d4 : ¬ (s : Int) = 0 := by omega
        have hq2 : q ≤ x.hi := by rw [hq]; exact Nat.div_le_self _ _
        have d5 : IntKind.u64.wrap (q : Int) = (q : Int) := by rw [IntKind.wrap_u64]; omega
        have hk1 : (k : Int) < (l.length : Int) := by omega
        have hk2 : k < l.length := by omega
        clear hr hg hx hq hh HDR HBN hk
        by_cases ha : h < s
        · have ga : (h : Int) < (s : Int) := by omega
          have HNN := Lib.hid (show blockP s (l.drop k) = none by rw [HDX.out, HBK.out, if_pos (.inl ha)]; rfl)
          clear hhi hq2 hx2
          go_wp2
          go_roundw
          case rel => exact ⟨k, by omega, by go_num, rfl, HNN.out, trivial⟩
          case measure => simp [intOf]
        · have ga : ¬ (h : Int) < (s : Int) := by omega
          have gw : IntKind.u64.wrap ((h : Int) - (s : Int)) = ((h - s : Nat) : Int) := by rw [IntKind.wrap_u64]; omega
          by_cases hb : h - s < x.lo
          · have gb : ((h - s : Nat) : Int) < (x.lo : Int) := by omega
            have HNN := Lib.hid (show blockP s (l.drop k) = none by rw [HDX.out, HBK.out, if_pos (.inr hb)]; rfl)
            clear hhi hq2 hx2
            generalize h - s = hs at *
            go_wp2
            go_roundw
            case rel => exact ⟨k, by omega, by go_num, rfl, HNN.out, trivial⟩
            case measure => simp [intOf]
          · have gb : ¬ ((h - s : Nat) : Int) < (x.lo : Int) := by omega
            have HNN := Lib.hid (show blockP s (l.drop k) = some ⟨h - s, h⟩ by rw [HDX.out, HBK.out, if_neg (by omega)]; rfl)
            have HA := Lib.hid (show blockR l p = (⟨h - s, h⟩, 0) from blockR_some HP60.out HMAY.out (by rw [← HS.out]; exact block_up s l _ k (by omega) HNN.out))
            clear hhi hq2 hx2
            generalize h - s = hs at *
            go_wp2_with (first | (refine wpList_load_mid rfl 25 (.tmp 7) rfl w2.heap.size 0 rfl [.int .u64 (hs : Nat), .int .u64 (h : Nat)] _ (range_blk BR7.out 0 _ (fun j hj => by simp)) Try.underlying25 rfl size_rg ?_) | (refine wpList_store_abs rfl 25 (.tmp 7) (.tmp 61) (by rfl) w2.heap.size #[.int .u64 (hs : Nat), .int .u64 (h : Nat)] (by rfl) (by rfl) 25 _ BR1.out size_rg (by rfl) (by simp [Value.oneCell']) ?_; intro W7 hW7 hp7; have HB7 := Lib.hid (hW7.below HBW1.out HB2.out.size); have BR7 := Lib.hid hp7; have BZ7 := Lib.hid (hW7.blk BZ1.out hne); clear hW7 hp7) | (refine wpList_store_abs rfl 25 (.tmp 4) (.tmp 62) (by rfl) w.heap.size #[.int .u64 (hs : Nat), .int .u64 (h : Nat)] (by rfl) (by rfl) 25 _ BZ7.out size_rg (by rfl) (by simp [Value.oneCell']) ?_; intro W hW hp5; have HBW := Lib.hid (hW.below HB7.out (Nat.le_refl _)); have BZW := Lib.hid hp5; clear hW hp5))
            try rw [Exit.noGoto_ret]
            refine bodyPost_ret (v := .tuple #[rag ⟨hs, h⟩, .int .i64 0]) ?_ rfl ⟨by first | (rw [HA.out]; done) | (rw [HA.out]; rfl), HBW.out⟩
            exact (results_ct rfl _ (BZW.out) (by rfl) Try.underlying25 rfl size_rg).trans rfl
set_option maxRecDepth 100000 in
set_option maxHeartbeats 1000000 in
theorem rblock_walk (l : List Rg) (m : Int) (a : Option Addr) (n c : Nat) (w : World) (hL : RgsIn w a n c l) :
    Calls Try.prog 61 #[.slice a n c, .int .i64 m] w fun e w' => e = .returned (.tuple #[rag (blockR l m).1, .int .i64 (blockR l m).2]) ∧ Below w.heap.size w w' := by
  have HL := Lib.hid (hL.on (below_one1 w (.cells #[.int .u64 0, .int .u64 0] 25)))
  have HB := Lib.hid (below_one1 w (.cells #[.int .u64 0, .int .u64 0] 25))
  have BZ := Lib.hid (Blk.new w #[.int .u64 ((0 : Nat) : Int), .int .u64 ((0 : Nat) : Int)] 25)
  obtain ⟨M, h1⟩ := bool_of (MayP l)
  have H1 := Lib.hid h1
  have HN := Lib.hid hL.len
  clear h1 hL
  by_cases g0 : m < 0
  · have HA := Lib.hid (show blockR l m = (⟨0, 0⟩, 1) from if_pos (.inl g0))
    go_enter Try.func61, Try.ntmps61
    go_wp2
    try rw [Exit.noGoto_ret]
    refine bodyPost_ret (v := .tuple #[rag ⟨0, 0⟩, .int .i64 1]) ?_ rfl ⟨by first | (rw [HA.out]; done) | (rw [HA.out]; rfl), below_one1 w _⟩
    exact (results_ct rfl _ (Blk.new w #[.int .u64 ((0 : Nat) : Int), .int .u64 ((0 : Nat) : Int)] 25) (by rfl) Try.underlying25 rfl size_rg).trans rfl
  by_cases g1 : 60 < m
  · have HA := Lib.hid (show blockR l m = (⟨0, 0⟩, 1) from if_pos (.inr g1))
    go_enter Try.func61, Try.ntmps61
    go_wp2
    try rw [Exit.noGoto_ret]
    refine bodyPost_ret (v := .tuple #[rag ⟨0, 0⟩, .int .i64 1]) ?_ rfl ⟨by first | (rw [HA.out]; done) | (rw [HA.out]; rfl), below_one1 w _⟩
    exact (results_ct rfl _ (Blk.new w #[.int .u64 ((0 : Nat) : Int), .int .u64 ((0 : Nat) : Int)] 25) (by rfl) Try.underlying25 rfl size_rg).trans rfl
  obtain ⟨p, rfl⟩ : ∃ p : Nat, m = p := ⟨m.toNat, by omega⟩
  have hp60 : p ≤ 60 := by omega
  have HP60 := Lib.hid hp60
  obtain ⟨s, hs⟩ : ∃ s, s = 2 ^ p := ⟨_, rfl⟩
  have hs0 : 0 < s := by rw [hs]; exact Nat.two_pow_pos p
  have hs1 : s ≤ 1152921504606846976 := by
    rw [hs]
    exact Nat.pow_le_pow_right (n := 2) (by omega) hp60
  go_enter Try.func61, Try.ntmps61
  go_wp2_with fail
  refine (may_walkR l a n c _ HL.out M H1.out).mono ?_
  rintro e w2 ⟨rfl, hb2⟩
  have HB2 := Lib.hid (HB.out.trans (hb2.mono HB.out.size))
  have HL2 := Lib.hid (HL.out.on hb2)
  have BZ2 := Lib.hid (BZ.out.on hb2)
  clear hb2 HL BZ HB
  cases M with
  | false =>
    have HA := Lib.hid (show blockR l p = (⟨0, 0⟩, 190) from blockR_not HP60.out (fun h => by have := H1.out.2 h; cases this))
    go_wp2_with (refine wpList_store_abs rfl 25 (.tmp 4) (.tmp 19) (by rfl) w.heap.size #[.int .u64 ((0 : Nat) : Int), .int .u64 ((0 : Nat) : Int)] (by rfl) (by rfl) 25 _ BZ2.out size_rg (by rfl) (by simp [Value.oneCell']) ?_; intro W hW hp5; have HBW := Lib.hid (hW.below HB2.out (Nat.le_refl _)); have BZW := Lib.hid hp5; clear hW hp5)
    try rw [Exit.noGoto_ret]
    refine bodyPost_ret (v := .tuple #[rag ⟨0, 0⟩, .int .i64 190]) ?_ rfl ⟨by first | (rw [HA.out]; done) | (rw [HA.out]; rfl), HBW.out⟩
    exact (results_ct rfl _ (BZW.out) (by rfl) Try.underlying25 rfl size_rg).trans rfl
  | true =>
    have HMAY := Lib.hid (H1.out.1 rfl)
    obtain rfl : n = l.length := HN.out
    have hl64 := HMAY.out.2.2
    have HS := Lib.hid hs
    have hs64 : p ≤ 9223372036854775807 := by omega
    clear hs
    go_wp2
    go_loopw [21, 6] (fun x y wr => ∃ i : Nat, i ≤ p ∧ x = .int .i64 (i : Nat) ∧ Hid (y = .int .u64 ((2 ^ i : Nat) : Int)) ∧ wr = w2) (fun x _ _ => p - (intOf x).toNat)
    case atStart => exact ⟨0, Nat.zero_le _, rfl, rfl, rfl⟩
    case round =>
    obtain ⟨i, hi, rfl, hy, rfl⟩ := hrel
    obtain rfl := hy.out
    clear hy
    by_cases hip : i < p
    · have h2 : 2 ^ (i + 1) ≤ 1152921504606846976 := show 2 ^ (i + 1) ≤ 2 ^ 60 from Nat.pow_le_pow_right (by omega) (by omega)
      have hm : IntKind.u64.wrap (((2 ^ i : Nat) : Int) * 2) = ((2 ^ (i + 1) : Nat) : Int) := by rw [IntKind.wrap_u64, Nat.pow_succ]; rw [Nat.pow_succ] at h2; omega
      have HM := Lib.hid hm
      clear h2 hm
      generalize 2 ^ i = z at *
      have hm := HM.out
      go_wp2
      go_roundw
      case rel => exact ⟨i + 1, by omega, by go_num, by first | exact rfl | (rw [hm]; exact rfl), trivial⟩
      case measure => simp [intOf]; omega
    obtain rfl : p = i := by omega
    rw [← HS.out]
    clear hip
    have HBW1 := Lib.hid HB2.out
    have HW1 := Lib.hid HL2.out
    have BZ1 := Lib.hid BZ2.out
    go_wp2
    go_loopw [7] (fun x wr' => ∃ k : Nat, k ≤ l.length ∧ x = .int .i64 ((k : Int) - 1) ∧ Hid (blockP s (l.drop k) = none) ∧ wr' = wr) (fun x _ => ((intOf x) + 1).toNat)
    case atStart => exact ⟨l.length, Nat.le_refl _, rfl, by simp [Hid, blockP], rfl⟩
    case round =>
      obtain ⟨k, hk, rfl, HBN, rfl⟩ := hrel
      cases k with
      | zero =>
        have HA := Lib.hid (show blockR l p = (⟨0, 0⟩, 4) from blockR_none HP60.out HMAY.out (by rw [← HS.out]; simpa using HBN.out))
        go_wp2_with (first | (refine wpList_store_abs rfl 25 (.tmp 4) (.tmp 61) (by rfl) w.heap.size #[.int .u64 (0 : Nat), .int .u64 (0 : Nat)] (by rfl) (by rfl) 25 _ BZ1.out size_rg (by rfl) (by simp [Value.oneCell']) ?_; intro W hW hp5; have HBW := Lib.hid (hW.below HBW1.out (Nat.le_refl _)); have BZW := Lib.hid hp5; clear hW hp5))
        try rw [Exit.noGoto_ret]
        refine bodyPost_ret (v := .tuple #[rag ⟨0, 0⟩, .int .i64 4]) ?_ rfl ⟨by first | (rw [HA.out]; done) | (rw [HA.out]; rfl), HBW.out⟩
        exact (results_ct rfl _ (BZW.out) (by rfl) Try.underlying25 rfl size_rg).trans rfl
      | succ k =>
        have e1 : (((k + 1 : Nat) : Int) - 1) = (k : Int) := by omega
        rw [e1]
        have HK := Lib.hid hk
        have HDR := Lib.hid (block_drop s l k (by omega))
        rw [HBN.out] at HDR
        obtain ⟨g, o, rfl, hg, hr⟩ := HW1.out.rd k (by omega)
        have HONE := Lib.hid (HMAY.out.one (i := k) (by omega))
        obtain ⟨x, hx⟩ : ∃ x, x = l.getD k r0 := ⟨_, rfl⟩
        rw [← hx] at hr HONE
        have HDX := Lib.hid (show blockP s (l.drop k) = none.or (blk s x) by rw [hx]; exact HDR.out)
        have c0 := hr 0 _ rfl
        simp only [Nat.add_zero] at c0
        have c1 := hr 1 _ rfl
        have hx2 : x.hi ≤ 1152921504606846976 := HONE.out.2
        obtain ⟨q, hq⟩ : ∃ q, q = x.hi / s := ⟨_, rfl⟩
        obtain ⟨h, hh⟩ : ∃ h, h = q * s := ⟨_, rfl⟩
        have hhi : h ≤ x.hi := by rw [hh, hq]; exact Nat.div_mul_le_self _ _
        have HBK := Lib.hid (show blk s x = if h < s ∨ h - s < x.lo then none else some ⟨h - s, h⟩ by rw [hh, hq]; rfl)
        have d1 : ((x.hi : Int) / (s : Int)) = (q : Int) := by rw [hq]; simp
        have d2 : ((x.hi : Int).tdiv (s : Int)) = (q : Int) := by rw [hq]; simp
        have d3 : IntKind.u64.wrap ((q : Int) * (s : Int)) = (h : Int) := by rw [← Int.natCast_mul, ← hh, IntKind.wrap_u64]; omega
        have d4 : ¬ (s : Int) = 0 := by omega
        have hq2 : q ≤ x.hi := by rw [hq]; exact Nat.div_le_self _ _
        have d5 : IntKind.u64.wrap (q : Int) = (q : Int) := by rw [IntKind.wrap_u64]; omega
        have hk1 : (k : Int) < (l.length : Int) := by omega
        have hk2 : k < l.length := by omega
        clear hr hg hx hq hh HDR HBN hk
        by_cases ha : h < s
        · have ga : (h : Int) < (s : Int) := by omega
          have HNN := Lib.hid (show blockP s (l.drop k) = none by rw [HDX.out, HBK.out, if_pos (.inl ha)]; rfl)
          clear hhi hq2 hx2
          go_wp2
          go_roundw
          case rel => exact ⟨k, by omega, by go_num, HNN.out, trivial⟩
          case measure => simp [intOf]
        · have ga : ¬ (h : Int) < (s : Int) := by omega
          have gw : IntKind.u64.wrap ((h : Int) - (s : Int)) = ((h - s : Nat) : Int) := by rw [IntKind.wrap_u64]; omega
          by_cases hb : h - s < x.lo
          · have gb : ((h - s : Nat) : Int) < (x.lo : Int) := by omega
            have HNN := Lib.hid (show blockP s (l.drop k) = none by rw [HDX.out, HBK.out, if_pos (.inr hb)]; rfl)
            clear hhi hq2 hx2
            generalize h - s = hs at *
            go_wp2
            go_roundw
            case rel => exact ⟨k, by omega, by go_num, HNN.out, trivial⟩
            case measure => simp [intOf]
          · have gb : ¬ ((h - s : Nat) : Int) < (x.lo : Int) := by omega
            have HNN := Lib.hid (show blockP s (l.drop k) = some ⟨h - s, h⟩ by rw [HDX.out, HBK.out, if_neg (by omega)]; rfl)
            have HA := Lib.hid (show blockR l p = (⟨h - s, h⟩, 0) from blockR_some HP60.out HMAY.out (by rw [← HS.out]; exact block_up s l _ k (by omega) HNN.out))
            clear hhi hq2 hx2
            generalize h - s = hs at *
            go_wp2_with (first | (refine wpList_store_abs rfl 25 (.tmp 4) (.tmp 60) (by rfl) w.heap.size #[.int .u64 (hs : Nat), .int .u64 (h : Nat)] (by rfl) (by rfl) 25 _ BZ1.out size_rg (by rfl) (by simp [Value.oneCell']) ?_; intro W hW hp5; have HBW := Lib.hid (hW.below HBW1.out (Nat.le_refl _)); have BZW := Lib.hid hp5; clear hW hp5))
            try rw [Exit.noGoto_ret]
            refine bodyPost_ret (v := .tuple #[rag ⟨hs, h⟩, .int .i64 0]) ?_ rfl ⟨by first | (rw [HA.out]; done) | (rw [HA.out]; rfl), HBW.out⟩
            exact (results_ct rfl _ (BZW.out) (by rfl) Try.underlying25 rfl size_rg).trans rfl
end Go.Proofs.Ytajjbffppkpjpaa
