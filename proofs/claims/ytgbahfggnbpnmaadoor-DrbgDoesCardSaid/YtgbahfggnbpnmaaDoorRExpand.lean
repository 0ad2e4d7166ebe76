import Derived.Test.YtgbahfggnbpnmaaDoorExpand
/-
  The reference's Expand, Ask.
-/
namespace Go.Proofs.YtgbahfggnbpnmaaDoor
open Go.RowKit
set_option maxRecDepth 100000 in
set_option maxHeartbeats 1000000 in
theorem rexpand_walk (prk info : List UInt8) (a b : Option Addr) (n c m d : Nat) (N : Nat) (hN : N ≤ 8160) (w : World) (hK : Txt w a n c prk) (hX : Txt w b m d info) (hlen : prk.length ≤ 1152921504606) (hl : info.length ≤ 1152921500000) :
    Calls Tryd.prog 105 #[.slice a n c, .slice b m d, .int .i64 N] w fun e w' => ∃ a' c', e = .returned (.slice a' N c') ∧ Txt w' a' N c' (expand prk info N) ∧ (∀ b o, a' = some ⟨b, o, none⟩ → 0 < N → w.heap.size ≤ b) ∧ Below w.heap.size w w' := by
  have HK := Lib.hid hK
  have HX := Lib.hid hX
  have hN0 : (0 : Int) ≤ (N : Int) := by omega
  clear hK hX
  go_enter Tryd.func105, Tryd.ntmps105
  go_wp2
  go_loopw [7, 8, 9] (fun x y z wr => ∃ (k j : Nat) (ao : Option Addr) (no co : Nat) (al : Option Addr) (nl cl : Nat), k ≤ expN N ∧ x = .slice ao no co ∧ y = .slice al nl cl ∧ z = .int .i64 (j : Nat) ∧ Hid (j = k + 1) ∧ Hid (no = 32 * k) ∧ OwnB wr w.heap.size (.slice ao no co) (expL prk info k).1 ∧ Txt wr al nl cl (expL prk info k).2 ∧ Below w.heap.size w wr) (fun x _ _ _ => N - slen x)
  case atStart =>
    have h1 := OwnB.made w [] (Nat.le_refl _) (by simp [maxLen])
    have h2 := OwnB.made (w.alloc (.cells #[] 5)) [] (lo := 0) (Nat.zero_le _) (by simp [maxLen])
    refine ⟨0, 1, _, _, _, _, _, _, Nat.zero_le _, rfl, rfl, rfl, rfl, rfl, h1.below (below_one' _ _), (by have h := h2.txt; rw [World.size_alloc] at h; exact h), ?_⟩
    exact below_two w _ _
  case round =>
    obtain ⟨k, j, ao, no, co, al, nl, cl, hk, rfl, rfl, rfl, HJ, HN, hO, hL, hb⟩ := hrel
    by_cases hlt : no < N
    · have hk' := Lib.hid (expN_lt hk (by rw [← HN.out]; exact hlt))
      have hjb : j ≤ 256 := by have h1 := hk'.out; have h2 := HJ.out; unfold expN at h1; omega
      obtain ⟨q, hq⟩ : ∃ q, q = UInt8.ofNat j := ⟨_, rfl⟩
      have fq : IntKind.u8.wrap (j : Int) = (q.toNat : Int) := by rw [hq, IntKind.wrap_u8]; simp [UInt8.toNat_ofNat']
      have fq2 : (j : Int) % 256 = (q.toNat : Int) := by rw [hq]; simp [UInt8.toNat_ofNat']
      have HQ := Lib.hid hq
      have TL1 := Lib.hid (hL.alloc (.cells #[bv q] 5))
      have TX1 := Lib.hid ((HX.out.below hb).alloc (.cells #[bv q] 5))
      have TI1 := Lib.hid (Txt.new wr [q] 5 (0, 0) (n := 1) (g := wr.heap.size) rfl rfl)
      have HB1 := Lib.hid (hb.trans ((below_one' wr (.cells #[bv q] 5)).mono hb.size))
      have HO1 := Lib.hid (hO.below (below_one' wr (.cells #[bv q] 5)))
      have HLL := Lib.hid (expL_last prk info k)
      have HLN := Lib.hid (expL_len prk info k)
      clear hO hL hb hk hq
      go_wp2_with fail
      refine (join3 _ 28 (wr.heap.size + 1) (by simp) TL1.out TX1.out TI1.out (by have := HLL.out; simp; omega)).mono ?_
      rintro e w2 ⟨a2, n2, c2, rfl, hO2, hb2⟩
      have TJ2 := Lib.hid hO2.txt
      have HB2 := Lib.hid (HB1.out.trans (hb2.mono HB1.out.size))
      have HOO2 := Lib.hid (HO1.out.below hb2)
      have HK2 := Lib.hid (HK.out.below HB2.out)
      clear hO2 hb2
      go_wp2_with fail
      refine (rmac_walk prk _ _ _ _ _ _ _ w2 HK2.out TJ2.out hlen (by have := HLL.out; simp; omega)).mono ?_
      rintro e w3 ⟨a3, c3, rfl, hO3, hb3⟩
      have TT3 := Lib.hid hO3.txt
      have HB3 := Lib.hid (HB2.out.trans (hb3.mono HB2.out.size))
      have HOO3 := Lib.hid (HOO2.out.below hb3)
      have HO3T := Lib.hid HOO3.out.txt
      clear hO3 hb3
      go_wp2_with fail
      refine (join2 w3 28 _ rfl HO3T.out TT3.out (by have h1 := HLN.out; have h2 := HN.out; rw [macL_len]; omega)).mono ?_
      rintro e w4 ⟨a4, n4, c4, rfl, hO4, hb4⟩
      have HB4 := Lib.hid (HB3.out.trans (hb4.mono HB3.out.size))
      have TT4 := Lib.hid (TT3.out.below hb4)
      have HO4 := Lib.hid (hO4.mono HB3.out.size)
      clear hO4 hb4
      go_wp2
      go_roundw
      case rel =>
        have e : expL prk info (k + 1) = ((expL prk info k).1 ++ macL prk ((expL prk info k).2 ++ (info ++ [q])), macL prk ((expL prk info k).2 ++ (info ++ [q]))) := by rw [HQ.out, HJ.out]; rfl
        refine ⟨k + 1, j + 1, a4, n4, c4, a3, 32, c3, hk'.out, rfl, rfl, by go_num, ?_, ?_, ?_, ?_, HB4.out⟩
        · show j + 1 = _
          rw [HJ.out]
        · show n4 = _
          have h1 := HO4.out.len
          have h2 := HLN.out
          rw [List.length_append, macL_len] at h1; omega
        · rw [e]; exact HO4.out
        · rw [e]; exact TT4.out
      case measure =>
        have h1 := HO4.out.len
        have h2 := HLN.out
        have h4 := HN.out
        rw [List.length_append, macL_len] at h1
        simp only [slen]; omega
    · have HK2 := Lib.hid (expN_eq hk (by rw [← HN.out]; exact hlt))
      have T1 := Lib.hid hO.txt
      have HO1 := Lib.hid hO.form
      have hcap : (N : Int) ≤ (co : Int) := by have h1 := hO.txt.fit; omega
      have HB := Lib.hid hb
      clear hO hL hb
      go_wp2
      go_ret
      refine ⟨ao, co, rfl, ?_, ?_, HB.out⟩
      · have h := T1.out.cut (show N ≤ no by omega)
        rw [HK2.out] at h
        exact h
      · intro b o e _
        obtain ⟨a', c', e', _, _, _, h4, _⟩ := HO1.out
        simp only [Value.slice.injEq] at e'
        exact (h4 b o (e'.1.symm.trans e)).1
set_option maxRecDepth 100000 in
theorem ask_neg (v1 v2 : Value) (m : Int) (hm : m < 0) (w : World) : Calls Tryd.prog 43 #[v1, v2, .int .i64 m] w fun e w' => e = .returned (.tuple #[.slice none 0 0, .int .i64 1]) ∧ w = w' := by
  go_enter Tryd.func43, Tryd.ntmps43
  go_wp2
  go_ret2
  exact ⟨rfl, rfl⟩
set_option maxRecDepth 100000 in
theorem ask_long (v1 v2 : Value) (m : Int) (hm : 8160 < m) (w : World) : Calls Tryd.prog 43 #[v1, v2, .int .i64 m] w fun e w' => e = .returned (.tuple #[.slice none 0 0, .int .i64 3]) ∧ w = w' := by
  have h0 : 0 ≤ m := by omega
  go_enter Tryd.func43, Tryd.ntmps43
  go_wp2
  go_ret2
  exact ⟨rfl, rfl⟩
set_option maxRecDepth 100000 in
theorem ask_walk (prk info : List UInt8) (a b : Option Addr) (n c m d : Nat) (N : Nat) (hN : N ≤ 8160) (w : World) (hK : Txt w a n c prk) (hX : Txt w b m d info) (hlen : prk.length ≤ 1152921504606) (hl : info.length ≤ 1152921500000) :
    Calls Tryd.prog 43 #[.slice a n c, .slice b m d, .int .i64 N] w fun e w' => ∃ a' c', e = .returned (.tuple #[.slice a' N c', .int .i64 0]) ∧ Txt w' a' N c' (expand prk info N) ∧ Below w.heap.size w w' := by
  have HK := Lib.hid hK
  have HX := Lib.hid hX
  have hN0 : ¬ (N : Int) < 0 := by omega
  have hN1 : (N : Int) ≤ 8160 := by omega
  clear hK hX
  go_enter Tryd.func43, Tryd.ntmps43
  go_wp2_with (go_at_call 105; refine (rexpand_walk prk info _ _ _ _ _ _ N hN w HK.out HX.out hlen hl).mono ?_; rintro e w2 ⟨a2, c2, rfl, hT, _, hb⟩; have HT := Lib.hid hT; have HB := Lib.hid hb; clear hT hb)
  go_ret2
  exact ⟨a2, c2, rfl, HT.out, HB.out⟩
end Go.Proofs.YtgbahfggnbpnmaaDoor
