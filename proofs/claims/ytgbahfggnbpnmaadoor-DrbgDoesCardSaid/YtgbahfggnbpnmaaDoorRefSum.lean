import Derived.Test.YtgbahfggnbpnmaaDoorJoin
import Derived.Test.YtgbahfggnbpnmaaDoorBig
import Derived.Test.YtgbahfggnbpnmaaDoorLive
import Derived.Test.YtgbahfggnbpnmaaDoorRefc
/-
  The reference's Big, Start, Sum256.
-/
namespace Go.Proofs.YtgbahfggnbpnmaaDoor
open Go.RowKit

set_option maxRecDepth 100000 in
set_option maxHeartbeats 1000000 in
theorem rbig_walk (n size : Nat) (hn : n < 2 ^ 64) (hs : size ≤ 8) (w : World) :
    Calls Tryd.prog 102 #[.int .u64 n, .int .i64 size] w fun e w' => ∃ g, e = .returned (.slice (some ⟨g, 0, none⟩) size size) ∧ g = w.heap.size ∧ Blk w' g (barr (be size n)) 5 ∧ Below w.heap.size w w' := by
  have HN := Lib.hid hn
  have hn' : n < 18446744073709551616 := hn
  clear hn
  go_enter Tryd.func102, Tryd.ntmps102
  go_wp2_with (refine wpList_make_abs rfl 28 (.tmp 7) (.tmp 7) rfl 5 (.int .u8 0) 1 Tryd.underlying28 info_u8 rfl .i64 .i64 size size rfl rfl (Nat.le_refl _) (by omega) (by omega) ?_)
  rw [rep_bytes]
  go_loopw [0, 6] (fun x i wr => ∃ k m : Nat, k ≤ size ∧ m < 18446744073709551616 ∧ Hid (m = n / 256 ^ k) ∧ x = .int .u64 (m : Nat) ∧ i = .int .i64 ((size : Int) - 1 - (k : Int)) ∧ Blk wr w.heap.size (barr (bez size n k)) 5 ∧ Below w.heap.size w wr) (fun _ i _ => (intOf i + 1).toNat)
  case atStart =>
    obtain ⟨h0, h1⟩ := new1 w (barr (List.replicate size 0)) 5
    exact ⟨0, n, Nat.zero_le _, hn', by simp [Hid], rfl, by simp, by rw [bez_zero]; exact h0, h1⟩
  case round =>
    obtain ⟨k, m, hk, hm, HM, rfl, rfl, hB, hbel⟩ := hrel
    by_cases hlt : k < size
    · have f1 : IntKind.i64.wrap ((size : Int) - 1 - (k : Int) - 1) = (size : Int) - 1 - (k : Int) - 1 := IntWalk.i64_in _ (by omega)
      have n1 : ((size : Int) - 1 - (k : Int)).toNat = size - 1 - k := by omega
      have g1 : (0 : Int) ≤ (size : Int) - 1 - (k : Int) ∧ (size : Int) - 1 - (k : Int) < size := by omega
      have d1 : decide ((size : Int) - 1 - (k : Int) ≥ 0) = true := by simp; omega
      have c0 := hB.cell (size - 1 - k) (barr_get (bez size n k) _ (by rw [bez_len _ _ _ hk]; omega))
      have c1 := hB.free (size - 1 - k)
      go_wp2
      go_roundw
      case rel =>
        refine ⟨k + 1, m / 256, by omega, by omega, ?_, ?_, ?_, ?_, below_setCell hbel (Nat.le_refl _) _⟩
        · show m / 256 = _
          rw [HM.out, Nat.div_div_eq_div_mul, Nat.pow_succ]
        · exact congrArg (Value.int .u64) (by omega)
        · exact congrArg (Value.int .i64) (by omega)
        · have e : Value.int .u8 ((m : Int) % 256) = bv (UInt8.ofNat (n / 256 ^ k)) := barr_one _ _ (by rw [← HM.out]; simp)
          rw [e, ← bez_step size n k hlt, ← barr_set]
          exact hB.set _ _
      case measure => simp [intOf]; omega
    · have HK := Lib.hid (show k = size by omega)
      have d1 : decide ((size : Int) - 1 - (k : Int) ≥ 0) = false := by simp; omega
      go_wp2
      go_ret
      refine ⟨_, rfl, rfl, ?_, hbel⟩
      rw [← bez_full size n]
      have := HK.out
      subst this
      exact hB
set_option maxRecDepth 100000 in
theorem start_walk (w : World) : Calls Tryd.prog 103 #[] w fun e w' => e = .returned (.agg (warr start8)) ∧ Below w.heap.size w w' := by
  go_enter Tryd.func103, Tryd.ntmps103
  go_wp2
  refine bodyPost_ret (v := .agg (warr start8)) ?_ rfl ⟨rfl, (new1 w (warr start8) 23).2⟩
  exact results_blk (cs := warr start8) rfl _ (new1 w (warr start8) 23).1 rfl Tryd.underlying23 size_u32x8

/-- The first bytes of a row, zeros behind. -/
def fillz (X : List UInt8) (n j : Nat) : List UInt8 := X.take j ++ List.replicate (n - j) 0
theorem fillz_zero (X : List UInt8) (n : Nat) : fillz X n 0 = List.replicate n 0 := by simp [fillz]
theorem fillz_full (X : List UInt8) (n : Nat) (h : X.length = n) : fillz X n n = X := by simp [fillz, ← h]
theorem fillz_len (X : List UInt8) (n j : Nat) (h : X.length = n) (hj : j ≤ n) : (fillz X n j).length = n := by simp [fillz]; omega
theorem fillz_step (X : List UInt8) (n j : Nat) (h : X.length = n) (hj : j < n) : (fillz X n j).set j (X.getD j 0) = fillz X n (j + 1) := by
  have e : List.replicate (n - j) (0 : UInt8) = 0 :: List.replicate (n - (j + 1)) 0 := by
    rw [show n - j = (n - (j + 1)) + 1 by omega, List.replicate_succ]
  have hl : (X.take j).length = j := by simp; omega
  unfold fillz
  rw [e, List.set_append_right _ _ (by omega), hl, Nat.sub_self, List.set_cons_zero, List.take_succ_eq_append_getElem (by omega), List.append_assoc]
  simp [List.getD, show j < X.length by omega]
theorem row_of_wrote {w W : World} {g : Nat} (h : Wrote w W g) : w.grownBy W (some g) := h.grown (grownBy_refl w _)
theorem own_ne {w : World} {lo g : Nat} {v : Value} {l : List UInt8} (h : OwnB w lo v l) (hg : w.heap.size ≤ g := by exact Nat.le_refl _) : v.ownBlock = none ∨ v.ownBlock ≠ some g := by
  cases hv : v.ownBlock with
  | none => exact .inl rfl
  | some k => exact .inr (fun e => by have := (h.lt k hv).2; simp at e; omega)
theorem own_at {w : World} {lo g : Nat} {v : Value} {l : List UInt8} {cs : Array Value} {t : TypeId} (h : OwnB w lo v l) (hb : Blk w g cs t) (ht : 5 ≠ t) : v.ownBlock = none ∨ v.ownBlock ≠ some g := by
  rcases h.2 with ⟨rfl, _⟩ | ⟨g', cap, cur, rfl, _, hh, _⟩
  · exact .inl rfl
  · refine .inr (fun e => ?_)
    simp only [Value.ownBlock, Option.some.injEq] at e
    subst e
    unfold Blk at hb
    rw [hb] at hh
    simp only [Option.some.injEq, Obj.cells.injEq] at hh
    exact ht hh.2.1.symm
/-- One block more. -/
theorem comp_succ (q : Nat) (s : List UInt32) (m : List UInt8) : comp (q + 1) s m = compress (comp q s m) ((m.drop (64 * q)).take 64) := by
  induction q generalizing s m with
  | zero => simp [comp]
  | succ q ih =>
    have h : comp (q + 1 + 1) s m = comp (q + 1) (compress s (m.take 64)) (m.drop 64) := rfl
    rw [h, ih, show comp (q + 1) s m = comp q (compress s (m.take 64)) (m.drop 64) from rfl, List.drop_drop]
    rw [show 64 + 64 * q = 64 * (q + 1) by omega]
set_option maxRecDepth 100000 in
set_option maxHeartbeats 2000000 in
theorem rsum_walk (l : List UInt8) (n cap : Nat) (a : Option Addr) (w : World) (hX : Txt w a n cap l) (hlen : l.length ≤ 1152921504606) :
    Calls Tryd.prog 35 #[.slice a n cap] w fun e w' => ∃ a' c, e = .returned (.slice a' 32 c) ∧ OwnB w' w.heap.size (.slice a' 32 c) (sha l) ∧ Below w.heap.size w w' := by
  have HX := Lib.hid hX
  obtain rfl := hX.len
  clear hX
  have tx1 := Lib.hid (HX.out.alloc (.cells #[.int .u8 128] 5))
  have tx2 := Lib.hid (Txt.new w [128] 5 (0, 0) (n := 1) (g := w.heap.size) rfl rfl)
  go_enter Tryd.func35, Tryd.ntmps35
  go_wp2_with (go_at_call 36; refine (join2 (w.alloc (.cells #[.int .u8 128] 5)) 28 _ (by simp) tx1.out tx2.out (by simp; omega)).mono ?_; rintro e w1 ⟨a1, n1, c1, rfl, hO, hb⟩)
  have HO := Lib.hid (hO.mono (lo' := w.heap.size) (by simp))
  have HB := Lib.hid ((below_one' w (.cells #[.int .u8 128] 5)).trans (hb.mono (by simp)))
  clear hO hb tx1 tx2
  go_loopw [3] (fun x wr => ∃ k L a n c, k ≤ padz l.length ∧ Hid (L = l ++ 128 :: List.replicate k 0) ∧ x = .slice a n c ∧ OwnB wr w.heap.size (.slice a n c) L ∧ Below w.heap.size w wr) (fun x _ => l.length + 1 + padz l.length - slen x)
  case atStart => exact ⟨0, _, _, _, _, Nat.zero_le _, rfl, rfl, HO.out, HB.out⟩
  case round =>
    clear HO HB
    obtain ⟨k, L, a1, n1, c1, hk, HL, rfl, hO, hb⟩ := hrel
    have hn1 : n1 = l.length + 1 + k := by have h1 := hO.len; have h2 := HL.out; rw [h1, h2]; simp; omega
    have hp := padz_spec l.length
    by_cases hlt : k < padz l.length
    · have hd : (((n1 : Int) % 64) != 56) = true := by
        have : ¬ n1 % 64 = 56 := by omega
        simp; omega
      have hn2 : n1 + 1 ≤ 140737488355328 := by omega
      have HO := Lib.hid hO
      have HB := Lib.hid hb
      have HN := Lib.hid hn1
      have HP := Lib.hid hp
      have HO2 := Lib.hid (hO.below (below_one' wr (.cells #[.int .u8 0] 5)))
      have HT := Lib.hid (Txt.new wr [0] 5 (0, 0) (n := 1) (g := wr.heap.size) rfl rfl)
      have HLL := Lib.hid (show L.length + ([0] : List UInt8).length ≤ 140737488355328 by have := hO.len; simp; omega)
      clear hO hb hn1 hp
      go_wp2_with (refine wpList_append_txt rfl (.tmp 18) (.tmp 19) rfl w.heap.size _ L rfl HO2.out _ _ _ [0] rfl rfl HT.out.rd HLL.out (by have := HB.out.size; simp; omega) ?_; intro a' n' c' w1 hO1 hg1)
      go_roundw
      case rel =>
        refine ⟨k + 1, _, a', n', c', by omega, ?_, rfl, hO1, below_own (HB.out.trans ((below_one' wr _).mono HB.out.size)) HO2.out (by have := HB.out.size; simp; omega) hg1⟩
        show L ++ [0] = _
        rw [HL.out, List.replicate_succ']; simp
      case measure =>
        have h1 := hO1.len
        have h2 := HO.out.len
        have h3 := HN.out
        simp only [List.length_append, List.length_cons, List.length_nil] at h1
        simp only [slen]; omega
    · have hd : (((n1 : Int) % 64) != 56) = false := by
        have : n1 % 64 = 56 := by omega
        simp; omega
      obtain ⟨cnt, hcnt⟩ : ∃ c, c = 8 * l.length := ⟨_, rfl⟩
      have e8 : 8 * (l.length : Int) = (cnt : Int) := by omega
      have f8 : IntKind.u64.wrap (8 * (l.length : Int)) = (cnt : Int) := by rw [e8]; simp [IntKind.wrap, IntKind.bits, IntKind.signed]; omega
      have HLE : Hid (L ++ be 8 cnt = padded l) := by
        have : k = padz l.length := by omega
        show L ++ be 8 cnt = padded l
        rw [HL.out, this, hcnt]; rfl
      have hc64 : cnt < 2 ^ 64 := by omega
      have HC64 := Lib.hid hc64
      have HO := Lib.hid hO
      have HB := Lib.hid hb
      have HN := Lib.hid hn1
      have HP := Lib.hid hp
      have HX2 := Lib.hid (HX.out.below (hb.mono (Nat.le_refl _)))
      clear hO hb hn1 hp hcnt hc64 e8
      go_wp2_with (first | (go_at_call 102; refine (rbig_walk cnt 8 HC64.out (by omega) _).mono ?_; rintro e w2 ⟨g2, rfl, rfl, hb2, hbel2⟩; have tA := Lib.hid (HO.out.txt.below hbel2); have tB := Lib.hid (by have h := Txt.of_blk hb2; rw [be_len] at h; exact h : Txt w2 (some ⟨wr.heap.size, 0, none⟩) 8 8 (be 8 cnt)); have HB2 := Lib.hid (HB.out.trans (hbel2.mono HB.out.size)); have HLT := Lib.hid (by have h1 := HO.out.len; have h2 := HN.out; have h3 := HP.out; rw [be_len, ← h1]; omega : L.length + (be 8 cnt).length ≤ 140737488355328); clear hb2 hbel2) | (go_at_call 36; refine (join2 w2 28 _ rfl tA.out tB.out HLT.out).mono ?_; rintro e w3 ⟨a3, n3, c3, rfl, hO3, hb3⟩; rw [HLE.out] at hO3; have HO3 := Lib.hid (hO3.mono HB2.out.size); have HB3 := Lib.hid (HB2.out.trans (hb3.mono HB2.out.size)); clear hO3 hb3 tA tB) | (go_at_call 103; refine (start_walk _).mono ?_; rintro e w4 ⟨rfl, hb4⟩; have HO4 := Lib.hid (HO3.out.below hb4); have HB4 := Lib.hid (HB3.out.trans (hb4.mono HB3.out.size)); clear hb4) | (refine wpList_store_abs rfl 23 (.tmp 4) (.tmp 29) rfl w4.heap.size (warr start8) (by rfl) (by rfl) 23 _ (Blk.new w4 _ _) size_u32x8 rfl (warr_one_all _) ?_; intro W hW hbS; have HO5 := Lib.hid ((HO4.out.below (below_one' w4 _)).grown (row_of_wrote hW) (own_ne HO4.out)); have HB5 := Lib.hid (hW.below (HB4.out.trans ((below_one' w4 _).mono HB4.out.size)) HB4.out.size); clear hW))
      have HM := Lib.hid (padded_len l)
      have hn3 := HO5.out.len
      have h30 : n3 ≤ 9223372036854775000 := by
        have h1 := HN.out
        have h2 := HLT.out
        have h3 := HLE.out
        rw [hn3, ← h3, List.length_append]; omega
      have HN3 := Lib.hid hn3
      have HW4 := Lib.hid HB4.out.size
      clear hn3 hd f8 hlt
      go_loopw [5] (fun x wr => ∃ q i : Nat, Hid (i = 64 * q) ∧ i ≤ n3 ∧ x = .int .i64 (i : Nat) ∧ Blk wr w4.heap.size (warr (comp q start8 (padded l))) 23 ∧ OwnB wr w.heap.size (.slice a3 n3 c3) (padded l) ∧ Below w.heap.size w wr) (fun x _ => n3 - (intOf x).toNat)
      case atStart => exact ⟨0, 0, rfl, Nat.zero_le _, rfl, hbS, HO5.out, HB5.out⟩
      case round =>
        clear HO5 HB5 hbS
        obtain ⟨q, i, HI, hi, rfl, hbS, hO, hb⟩ := hrel
        by_cases hlt : i < n3
        · have h64 : i + 64 ≤ n3 := by have h1 := HI.out; have h2 := HN3.out; have h3 := HM.out; omega
          have HO5 := Lib.hid hO
          have HB5 := Lib.hid hb
          have HS5 := Lib.hid hbS
          clear hO hb hbS
          obtain ⟨g3, o3, rfl, _⟩ := HO5.out.txt.rd.at (i := i) (by have := HN3.out; omega)
          obtain ⟨X, hX⟩ : ∃ X, X = ((padded l).drop i).take 64 := ⟨_, rfl⟩
          have hXl : X.length = 64 := by rw [hX]; simp; have := HN3.out; omega
          have HXD := Lib.hid hX
          have HXL := Lib.hid hXl
          obtain ⟨qx, qb⟩ := new1 wr (barr (List.replicate 64 0)) 24
          have HQX := Lib.hid qx
          have HQB := Lib.hid qb
          have HSZ := Lib.hid (show (wr.alloc (.cells (barr (List.replicate 64 0)) 24)).heap.size = wr.heap.size + 1 by simp)
          clear hX hXl qx qb
          go_wp2
          go_loopw [36] (fun x wi => ∃ j : Nat, j ≤ 64 ∧ x = .int .i64 (j : Nat) ∧ Blk wi wr.heap.size (barr (fillz X 64 j)) 24 ∧ Below wr.heap.size wr wi) (fun x _ => 64 - (intOf x).toNat)
          case atStart => exact ⟨0, Nat.zero_le _, rfl, by rw [fillz_zero]; exact HQX.out, HQB.out⟩
          case round =>
            clear HQX HQB
            obtain ⟨j, hj, rfl, hbx, hb⟩ := hrel
            by_cases hj64 : j < 64
            · obtain ⟨x, hx⟩ : ∃ x, x = (padded l).getD (i + j) 0 := ⟨_, rfl⟩
              have hij : i + j < (padded l).length := by have := HN3.out; omega
              obtain ⟨g3', o3', e3, c0⟩ := (HO5.out.txt.rd.below hb).at hij
              simp only [Option.some.injEq, Addr.mk.injEq] at e3
              obtain ⟨rfl, rfl, _⟩ := e3
              rw [← hx] at c0
              have f1 : IntKind.i64.wrap ((i : Int) + (j : Int)) = (i : Int) + (j : Int) := IntWalk.i64_in _ (by omega)
              have n1 : ((i : Int) + (j : Int)).toNat = i + j := by omega
              have g1 : (0 : Int) ≤ (i : Int) + (j : Int) ∧ (i : Int) + (j : Int) < n3 := by omega
              have c1 := hbx.cell j (barr_get (fillz X 64 j) j (by rw [fillz_len X 64 j HXL.out hj]; exact hj64))
              have c2 := hbx.free j
              have HXX := Lib.hid hx
              have HB := Lib.hid hb
              have HBX := Lib.hid hbx
              clear hx hb hbx hij
              go_wp2
              go_roundw
              case rel =>
                refine ⟨j + 1, by omega, by go_num, ?_, below_setCell HB.out (Nat.le_refl _) _⟩
                have e : x = X.getD j 0 := by rw [HXX.out, HXD.out]; simp [List.getD, List.getElem?_take, hj64]
                rw [e, ← fillz_step X 64 j HXL.out hj64, ← barr_set]
                exact HBX.out.set _ _
              case measure => simp [intOf]; omega
            · have HJ := Lib.hid (show j = 64 by omega)
              have HSn := Lib.hid (HS5.out.below hb HS5.out.lt)
              have HOn := Lib.hid (HO5.out.below hb)
              have HBn := Lib.hid (HB5.out.trans (hb.mono HB5.out.size))
              have HXn := Lib.hid (by rw [HJ.out, fillz_full X 64 HXL.out] at hbx; exact hbx : Blk wr _ (barr X) 24)
              have HC8 := Lib.hid (comp_len q start8 (padded l) rfl)
              have f1 : IntKind.i64.wrap ((i : Int) + 64) = (i : Int) + 64 := IntWalk.i64_in _ (by omega)
              clear hb hbx
              go_wp2_with (first | (refine wpList_load_row rfl 23 (.tmp 4) rfl w4.heap.size rfl 23 _ _ _ HSn.out Tryd.underlying23 rfl (by rw [warr_size, HC8.out]; exact size_u32x8) ?_) | (refine wpList_load_row rfl 24 (.tmp 6) rfl _ rfl 24 _ _ _ HXn.out Tryd.underlying24 rfl (by rw [barr_size, HXL.out]; exact size_u8x64) ?_) | (go_at_call 28; refine (refcompress_walk _ X HC8.out HXL.out _).mono ?_; rintro e w6 ⟨rfl, hb6⟩; have HS6 := Lib.hid (HSn.out.below hb6 HSn.out.lt); have HO6 := Lib.hid (HOn.out.below hb6); have HB6 := Lib.hid (HBn.out.trans (hb6.mono HBn.out.size)); clear hb6) | (refine wpList_store_abs rfl 23 (.tmp 4) (.tmp 50) rfl w4.heap.size (warr (compress (comp q start8 (padded l)) X)) (by rfl) (by rfl) 23 _ HS6.out (by rw [warr_size, compress_len]; exact size_u32x8) (by rw [warr_size, warr_size, HC8.out, compress_len]) (warr_one_all _) ?_; intro W7 hW7 hS7; have HS7 := Lib.hid hS7; have HO7 := Lib.hid (HO6.out.grown (row_of_wrote hW7) (own_at HO6.out HS6.out (by decide))); have HB7 := Lib.hid (hW7.below HB6.out HW4.out); clear hW7 hS7))
              go_roundw
              case rel =>
                refine ⟨q + 1, i + 64, ?_, h64, by go_num, ?_, HO7.out, HB7.out⟩
                · show i + 64 = _
                  rw [HI.out]; omega
                · rw [comp_succ, ← HI.out, ← HXD.out]; exact HS7.out
              case measure => simp [intOf]; omega
        · obtain ⟨st, hst⟩ : ∃ st, st = comp q start8 (padded l) := ⟨_, rfl⟩
          have hs8 : st.length = 8 := by rw [hst]; exact comp_len q start8 (padded l) rfl
          have hsum : sha l = outb st := by
            have : q = (padded l).length / 64 := by have h1 := HI.out; have h2 := HN3.out; have h3 := HM.out; omega
            rw [hst, this]; rfl
          rw [← hst] at hbS
          have HST := Lib.hid hst
          have HS8 := Lib.hid hs8
          have HSUM := Lib.hid hsum
          have HS := Lib.hid hbS
          have HBo := Lib.hid hb
          clear hst hs8 hsum hbS hO hb
          go_wp2
          go_loopw [8, 52] (fun x y wr => ∃ (k : Nat) (a : Option Addr) (n c : Nat), k ≤ 8 ∧ x = .slice a n c ∧ y = .int .i64 (k : Nat) ∧ OwnB wr w.heap.size (.slice a n c) (outb (st.take k)) ∧ Blk wr w4.heap.size (warr st) 23 ∧ Below w.heap.size w wr) (fun _ y _ => 8 - (intOf y).toNat)
          case atStart => exact ⟨0, _, _, _, Nat.zero_le _, rfl, rfl, OwnB.made _ [] HBo.out.size (by simp [maxLen]), HS.out.alloc _, HBo.out.trans ((below_one' _ _).mono HBo.out.size)⟩
          case round =>
            clear HS HBo
            obtain ⟨k, a8, n8, c8, hk, rfl, rfl, hO, hS, hb⟩ := hrel
            by_cases hk8 : k < 8
            · obtain ⟨x, hx⟩ : ∃ x, x = st.getD k 0 := ⟨_, rfl⟩
              have c0 := hS.cell k (warr_get st k (by rw [HS8.out]; exact hk8))
              rw [← hx] at c0
              have hx32 := x.toNat_lt
              have HXX := Lib.hid hx
              have HO := Lib.hid hO
              have HS := Lib.hid hS
              have HB := Lib.hid hb
              clear hx hO hS hb
              go_wp2_with (first | (go_at_call 102; refine (rbig_walk x.toNat 4 (by omega) (by omega) _).mono ?_; rintro e w6 ⟨g6, rfl, rfl, hb6, hbel6⟩; have tA := Lib.hid (HO.out.txt.below hbel6); have tB := Lib.hid (by have h := Txt.of_blk hb6; rw [be_len] at h; exact h : Txt w6 (some ⟨_, 0, none⟩) 4 4 (be 4 x.toNat)); have HB6 := Lib.hid (HB.out.trans (hbel6.mono HB.out.size)); have HS6 := Lib.hid (HS.out.below hbel6 HS.out.lt); clear hb6 hbel6) | (go_at_call 36; refine (join2 w6 28 _ rfl tA.out tB.out (by rw [be_len, outb_len]; simp; omega)).mono ?_; rintro e w7 ⟨a7, n7, c7, rfl, hO7, hb7⟩; have HO7 := Lib.hid (hO7.mono HB6.out.size); have HB7 := Lib.hid (HB6.out.trans (hb7.mono HB6.out.size)); have HS7 := Lib.hid (HS6.out.below hb7 HS6.out.lt); clear hO7 hb7 tA tB))
              go_roundw
              case rel =>
                refine ⟨k + 1, a7, n7, c7, by omega, rfl, by go_num, ?_, HS7.out, HB7.out⟩
                have e : outb (st.take (k + 1)) = outb (st.take k) ++ be 4 x.toNat := by
                  have hk' : k < st.length := by rw [HS8.out]; exact hk8
                  unfold outb
                  rw [List.take_succ_eq_append_getElem hk', List.flatMap_append, HXX.out]
                  simp only [List.flatMap_cons, List.flatMap_nil, List.append_nil, List.getD, List.getElem?_eq_getElem hk', Option.getD_some]
                rw [e]; exact HO7.out
              case measure => simp [intOf]; omega
            · have HK := Lib.hid (show k = 8 by omega)
              have h32 : n8 = 32 := by rw [hO.len, HK.out, outb_len, List.length_take, HS8.out]; rfl
              subst h32
              go_wp2
              go_ret
              refine ⟨a8, c8, rfl, ?_, hb⟩
              have := hO
              rw [HK.out, List.take_of_length_le (by rw [HS8.out]; omega), ← HSUM.out] at this
              exact this
end Go.Proofs.YtgbahfggnbpnmaaDoor
