import Derived.Test.YtgbahfggnbpnmaaDoorMac2
/-
  Expand and the reference's Expand, Ask.
-/
namespace Go.Proofs.YtgbahfggnbpnmaaDoor
open Go.RowKit
theorem u8_next (x : UInt8) : Value.int .u8 (((x.toNat : Int) + 1) % 256) = bv (x + 1) := by
  refine congrArg (Value.int .u8) ?_
  simp
/-- A text elsewhere is as it was. -/
theorem Txt.far' {w w' : World} {a : Option Addr} {n c : Nat} {l : List UInt8} {r : Option Nat} (h : Txt w a n c l) (hg : w.grownBy w' r) (hne : ∀ b o, a = some ⟨b, o, none⟩ → some b ≠ r) : Txt w' a n c l :=
  ⟨h.len, h.fit, Rd.grown h.rd hg hne, fun b o e h0 => Nat.lt_of_lt_of_le (h.old b o e h0) hg.size⟩
theorem ne_own {w : World} {lo : Nat} {v : Value} {l : List UInt8} (h : OwnB w lo v l) : ∀ b o, (some (⟨w.heap.size, 0, none⟩ : Addr)) = some ⟨b, o, none⟩ → some b ≠ v.ownBlock := by
  intro b o e e2
  simp only [Option.some.injEq, Addr.mk.injEq] at e
  have := (h.lt b e2.symm).2
  omega
theorem expN_lt {n k : Nat} (h : k ≤ expN n) (hlt : 32 * k < n) : k < expN n := by unfold expN at *; omega
theorem expN_eq {n k : Nat} (h : k ≤ expN n) (hlt : ¬ 32 * k < n) : k = expN n := by unfold expN at *; omega
set_option maxRecDepth 100000 in
set_option maxHeartbeats 1000000 in
theorem expand_neg (v1 v2 : Value) (m : Int) (hm : m < 0) (w : World) : Calls Tryd.prog 41 #[v1, v2, .int .i64 m] w fun e w' => e = .returned (.tuple #[.slice none 0 0, .int .i64 1]) ∧ w = w' := by
  go_enter Tryd.func41, Tryd.ntmps41
  go_wp2
  go_ret2
  exact ⟨rfl, rfl⟩
set_option maxRecDepth 100000 in
set_option maxHeartbeats 1000000 in
theorem expand_long (v1 v2 : Value) (m : Int) (hm : 8160 < m) (w : World) : Calls Tryd.prog 41 #[v1, v2, .int .i64 m] w fun e w' => e = .returned (.tuple #[.slice none 0 0, .int .i64 3]) ∧ w = w' := by
  have h0 : 0 ≤ m := by omega
  go_enter Tryd.func41, Tryd.ntmps41
  go_wp2
  go_ret2
  exact ⟨rfl, rfl⟩
set_option maxRecDepth 100000 in
set_option maxHeartbeats 1000000 in
theorem expand_walk (prk info : List UInt8) (a b : Option Addr) (n c m d : Nat) (N : Nat) (hN : N ≤ 8160) (w : World) (hK : Txt w a n c prk) (hX : Txt w b m d info) (hT : Two w) (hlen : prk.length ≤ 1152921504606) (hl : info.length ≤ 1152921504000) :
    Calls Tryd.prog 41 #[.slice a n c, .slice b m d, .int .i64 N] w fun e w' => ∃ a' c', e = .returned (.tuple #[.slice a' N c', .int .i64 0]) ∧ Txt w' a' N c' (expand prk info N) ∧ (∀ b o, a' = some ⟨b, o, none⟩ → 0 < N → w.heap.size ≤ b) ∧ Below w.heap.size w w' := by
  have HK := Lib.hid hK
  have HX := Lib.hid hX
  have HT := Lib.hid hT
  have hN0 : ¬ (N : Int) < 0 := by omega
  have hN1 : (N : Int) ≤ 8160 := by omega
  clear hK hX hT
  go_enter Tryd.func41, Tryd.ntmps41
  go_wp2
  go_loopw [8, 9, 10] (fun x y z wr => ∃ (k : Nat) (q : UInt8) (ao : Option Addr) (no co : Nat) (al : Option Addr) (nl cl : Nat), k ≤ expN N ∧ x = .slice ao no co ∧ y = .slice al nl cl ∧ z = bv q ∧ Hid (q = UInt8.ofNat (k + 1)) ∧ Hid (no = 32 * k) ∧ OwnB wr w.heap.size (.slice ao no co) (expL prk info k).1 ∧ Txt wr al nl cl (expL prk info k).2 ∧ Below w.heap.size w wr) (fun x _ _ _ => N - slen x)
  case atStart => exact ⟨0, 1, none, 0, 0, none, 0, 0, Nat.zero_le _, rfl, rfl, rfl, rfl, rfl, OwnB.nil _ _, Txt.nil _ _, Below.refl _ _⟩
  case round =>
    obtain ⟨k, q, ao, no, co, al, nl, cl, hk, rfl, rfl, rfl, HQ, HN, hO, hL, hb⟩ := hrel
    by_cases hlt : no < N
    · have hk' := Lib.hid (expN_lt hk (by rw [← HN.out]; exact hlt))
      have HO := Lib.hid hO
      have HL := Lib.hid hL
      have HB := Lib.hid hb
      have TL1 := Lib.hid (hL.alloc (.cells #[bv q] 5))
      have TK1 := Lib.hid ((HK.out.below hb).alloc (.cells #[bv q] 5))
      have TX1 := Lib.hid ((HX.out.below hb).alloc (.cells #[bv q] 5))
      have TI1 := Lib.hid (Txt.new wr [q] 5 (0, 0) (n := 1) (g := wr.heap.size) rfl rfl)
      have HT1 := Lib.hid ((HT.out.below' hb).below' (below_one' wr (.cells #[bv q] 5)))
      have HB1 := Lib.hid (hb.trans ((below_one' wr (.cells #[bv q] 5)).mono hb.size))
      have HO1 := Lib.hid (hO.below (below_one' wr (.cells #[bv q] 5)))
      have HLL := Lib.hid (expL_last prk info k)
      have HLN := Lib.hid (expL_len prk info k)
      clear hO hL hb hk
      go_wp2_with fail
      refine (mac_three _ 28 (wr.heap.size + 1) (by simp) TK1.out TL1.out TX1.out TI1.out HT1.out hlen (by have := HLL.out; simp; omega)).mono ?_
      rintro e w2 ⟨rfl, hb2⟩
      obtain ⟨T, hT⟩ : ∃ T, T = macL prk ((expL prk info k).2 ++ (info ++ [q])) := ⟨_, rfl⟩
      rw [← hT]
      have HTl := Lib.hid (show T.length = 32 by rw [hT]; exact macL_len _ _)
      have HTe := Lib.hid hT
      have HB2 := Lib.hid (HB1.out.trans (hb2.mono HB1.out.size))
      have HO2 := Lib.hid (HO1.out.below hb2)
      clear hb2 hT
      go_wp2_with (first | (refine wpList_store_abs rfl 31 (.tmp 11) (.tmp 30) rfl w2.heap.size (barr T) (by rfl) (by rfl) 31 _ (Blk.new w2 _ _) (by rw [barr_size, HTl.out]; exact size_u8x32) (by rw [barr_size, HTl.out]; rfl) (barr_one_all _) ?_; intro W3 hW3 p3; have HB3 := Lib.hid (hW3.below (HB2.out.trans ((below_one' w2 _).mono HB2.out.size)) HB2.out.size); have T3 := Lib.hid (out32 p3 HTl.out (Below.refl _ _)); have HO3 := Lib.hid ((HO2.out.below (below_one' w2 _)).grown (row_of_wrote hW3) (own_ne HO2.out)); have HNE := Lib.hid (ne_own HO2.out); clear hW3 p3) | (refine wpList_append_txt rfl (.tmp 32) (.tmp 33) rfl w.heap.size _ (expL prk info k).1 rfl HO3.out _ _ _ T rfl T3.out.len T3.out.rd (by have := HLN.out; have := HTl.out; have := HN.out; omega) HB3.out.size ?_; intro a4 n4 c4 w4 hO4 hg4; have HB4 := Lib.hid (below_own HB3.out HO3.out HB3.out.size hg4); have T4 := Lib.hid (T3.out.far' hg4 HNE.out); have HO4 := Lib.hid hO4; clear hg4 hO4))
      go_roundw
      case rel =>
        refine ⟨k + 1, q + 1, a4, n4, c4, _, 32, 32, hk'.out, rfl, rfl, u8_next q, ?_, ?_, ?_, ?_, HB4.out⟩
        · show q + 1 = _
          rw [HQ.out]; simp [UInt8.ofNat_add]
        · show n4 = _
          have h1 := HO4.out.len
          have h2 := HLN.out
          have h3 := HTl.out
          rw [List.length_append] at h1; omega
        · have e : (expL prk info (k + 1)).1 = (expL prk info k).1 ++ T := by rw [HTe.out, HQ.out]; rfl
          rw [e]; exact HO4.out
        · have e : (expL prk info (k + 1)).2 = T := by rw [HTe.out, HQ.out]; rfl
          rw [e]; exact T4.out
      case measure =>
        have h1 := HO4.out.len
        have h2 := HLN.out
        have h3 := HTl.out
        have h4 := HN.out
        rw [List.length_append] at h1
        simp only [slen]; omega
    · have HK2 := Lib.hid (expN_eq hk (by rw [← HN.out]; exact hlt))
      have T1 := Lib.hid hO.txt
      have HO1 := Lib.hid hO.form
      have hcap : (N : Int) ≤ (co : Int) := by have h1 := hO.txt.fit; omega
      have HB := Lib.hid hb
      clear hO hL hb
      go_wp2
      go_ret2
      refine ⟨ao, co, rfl, ?_, ?_, HB.out⟩
      · have h := T1.out.cut (show N ≤ no by omega)
        rw [HK2.out] at h
        exact h
      · intro b o e _
        obtain ⟨a', c', e', _, _, _, h4, _⟩ := HO1.out
        simp only [Value.slice.injEq] at e'
        exact (h4 b o (e'.1.symm.trans e)).1
end Go.Proofs.YtgbahfggnbpnmaaDoor
