import Derived.Test.YtgbahfggnbpnmaaDoorCover
/-
  The reference's Keys, Stream, Ask, Tag (liveryref04).
-/
namespace Go.Proofs.YtgbahfggnbpnmaaDoor
open Go.RowKit
set_option maxRecDepth 100000 in
set_option maxHeartbeats 1000000 in
theorem rkeys_walk (key : List UInt8) (hk : key.length = 32) (p : Option Addr) (n c : Nat) (w : World) (hX : Txt w p n c key) :
    Calls Tryd.prog 53 #[.slice p n c] w fun e w' => ∃ a c b d, e = .returned (.tuple #[.slice a 32 c, .slice b 32 d]) ∧ Txt w' a 32 c (encK key) ∧ Txt w' b 32 d (macK key) ∧ Below w.heap.size w w' := by
  have HK0 := Lib.hid hX
  have HKL := Lib.hid hk
  have HC1 := Lib.hid (below_one' w (.cells (barr encT) 5 (10, 11)))
  have hcA := conv_const (P := Tryd.prog) w 28 5 #[.int .u8 108, .int .u8 105, .int .u8 118, .int .u8 101, .int .u8 114, .int .u8 121, .int .u8 32, .int .u8 101, .int .u8 110, .int .u8 99] 10 10 w.heap.size rfl Tryd.underlying28 Tryd.underlying5
  have TE := Lib.hid (Txt.new w encT 5 (10, 11) (n := 10) (g := w.heap.size) rfl rfl)
  clear hk hX
  go_enter Tryd.func53, Tryd.ntmps53
  go_wp2_with fail
  refine (rexpand_walk key encT _ _ _ _ _ _ 32 (by omega) _ (HK0.out.on HC1.out) TE.out (by have := HKL.out; omega) (by decide)).mono ?_
  rintro e w1 ⟨a1, c1, rfl, hT1, _, hb1⟩
  have HE1 := Lib.hid hT1
  have HB1 := Lib.hid (HC1.out.trans (hb1.mono HC1.out.size))
  have HK1 := Lib.hid ((HK0.out.on HC1.out).on hb1)
  clear hT1 hb1 hcA TE HC1
  have hcB := conv_const (P := Tryd.prog) w1 28 5 #[.int .u8 108, .int .u8 105, .int .u8 118, .int .u8 101, .int .u8 114, .int .u8 121, .int .u8 32, .int .u8 109, .int .u8 97, .int .u8 99] 10 10 w1.heap.size rfl Tryd.underlying28 Tryd.underlying5
  have HC2 := Lib.hid (below_one' w1 (.cells (barr macT) 5 (10, 11)))
  have TM := Lib.hid (Txt.new w1 macT 5 (10, 11) (n := 10) (g := w1.heap.size) rfl rfl)
  go_wp2_with fail
  refine (rexpand_walk key macT _ _ _ _ _ _ 32 (by omega) _ (HK1.out.on HC2.out) TM.out (by have := HKL.out; omega) (by decide)).mono ?_
  rintro e w2 ⟨a2, c2, rfl, hT2, _, hb2⟩
  have HM2 := Lib.hid hT2
  have HE2 := Lib.hid ((HE1.out.on HC2.out).on hb2)
  have HB2 := Lib.hid (HB1.out.trans ((HC2.out.mono HB1.out.size).trans (hb2.mono (Nat.le_trans HB1.out.size HC2.out.size))))
  clear hT2 hb2 hcB TM HC2
  go_wp2
  go_ret2
  exact ⟨a1, c1, a2, c2, rfl, HE2.out, HM2.out, HB2.out⟩
set_option maxRecDepth 100000 in
set_option maxHeartbeats 1000000 in
theorem rstream_walk (enc nonce : List UInt8) (hnon : nonce.length = 12) (a b : Option Addr) (n c m d N : Nat) (hN : N ≤ 1048576) (w : World) (hK : Txt w a n c enc) (hX : Txt w b m d nonce) (hlen : enc.length ≤ 1152921504606) :
    Calls Tryd.prog 108 #[.slice a n c, .slice b m d, .int .i64 N] w fun e w' => ∃ a' c', e = .returned (.slice a' N c') ∧ Txt w' a' N c' (streamL enc nonce N) ∧ Below w.heap.size w w' := by
  have HK := Lib.hid hK
  have HX := Lib.hid hX
  have HNL := Lib.hid hnon
  clear hK hX hnon
  go_enter Tryd.func108, Tryd.ntmps108
  go_wp2
  go_loopw [7, 8] (fun x y wr => ∃ (k : Nat) (ao : Option Addr) (no co : Nat), k ≤ (N + 31) / 32 ∧ x = .slice ao no co ∧ y = .int .i64 (k : Nat) ∧ Hid (no = 32 * k) ∧ Txt wr ao no co (strL enc nonce k) ∧ Below w.heap.size w wr) (fun x _ _ => N - slen x)
  case atStart =>
    have h1 := OwnB.made w [] (Nat.le_refl _) (by simp [maxLen])
    exact ⟨0, _, _, _, Nat.zero_le _, rfl, rfl, rfl, h1.txt, below_one' w _⟩
  case round =>
    obtain ⟨k, ao, no, co, hk, rfl, rfl, HN, hO, hb⟩ := hrel
    by_cases hlt : no < N
    · have hk' := Lib.hid (show k + 1 ≤ (N + 31) / 32 by have := HN.out; omega)
      have hkb : k ≤ 40000 := by have := HN.out; omega
      have fq : IntKind.u64.wrap (k : Int) = (k : Int) := by rw [IntKind.wrap_u64]; omega
      have HB := Lib.hid hb
      have HO := Lib.hid hO
      have HK1 := Lib.hid (HK.out.on hb)
      have HX1 := Lib.hid (HX.out.on hb)
      have HLN := Lib.hid (strL_len enc nonce k)
      clear hO hb hk
      go_wp2_with fail
      refine (rbig_walk k 4 (by omega) (by omega) wr).mono ?_
      rintro e w2 ⟨g2, rfl, hg2, hb2, hbel2⟩
      clear hg2
      have T2 := Lib.hid (by have h := Txt.of_blk hb2; rw [be_len] at h; exact h)
      have HO2 := Lib.hid (HO.out.on hbel2)
      have HK2 := Lib.hid (HK1.out.on hbel2)
      have HX2 := Lib.hid (HX1.out.on hbel2)
      have HB2 := Lib.hid (HB.out.trans (hbel2.mono HB.out.size))
      clear hb2 hbel2 HO HK1 HX1 HB
      go_wp2_with fail
      refine (join2 w2 28 _ rfl HX2.out T2.out (by rw [be_len, HNL.out]; omega)).mono ?_
      rintro e w3 ⟨a3, n3, c3, rfl, hO3, hb3⟩
      have TJ3 := Lib.hid hO3.txt
      have HO3 := Lib.hid (HO2.out.on hb3)
      have HK3 := Lib.hid (HK2.out.on hb3)
      have HB3 := Lib.hid (HB2.out.trans (hb3.mono HB2.out.size))
      clear hO3 hb3 HO2 HK2 HX2 HB2 T2
      go_wp2_with fail
      refine (rmac_walk enc _ _ _ _ _ _ _ w3 HK3.out TJ3.out hlen (by have := HNL.out; rw [List.length_append, be_len]; omega)).mono ?_
      rintro e w4 ⟨a4, c4, rfl, hO4, hb4⟩
      have TT4 := Lib.hid hO4.txt
      have HO4 := Lib.hid (HO3.out.on hb4)
      have HB4 := Lib.hid (HB3.out.trans (hb4.mono HB3.out.size))
      clear hO4 hb4 HO3 HK3 HB3 TJ3
      go_wp2_with fail
      refine (join2 w4 28 _ rfl HO4.out TT4.out (by have h1 := HLN.out; have h2 := HN.out; rw [macL_len]; omega)).mono ?_
      rintro e w5 ⟨a5, n5, c5, rfl, hO5, hb5⟩
      have HO5 := Lib.hid hO5.txt
      have HB5 := Lib.hid (HB4.out.trans (hb5.mono HB4.out.size))
      clear hO5 hb5 HO4 HB4 TT4
      go_wp2
      go_roundw
      case rel =>
        refine ⟨k + 1, a5, n5, c5, hk'.out, rfl, by go_num, ?_, ?_, HB5.out⟩
        · show n5 = _
          have h1 := HO5.out.len
          have h2 := HLN.out
          rw [List.length_append, macL_len] at h1; omega
        · exact HO5.out
      case measure =>
        have h1 := HO5.out.len
        have h2 := HLN.out
        have h4 := HN.out
        rw [List.length_append, macL_len] at h1
        simp only [slen]; omega
    · have HK2 := Lib.hid (show k = (N + 31) / 32 by have := HN.out; omega)
      have HO := Lib.hid hO
      have hcap : (N : Int) ≤ (co : Int) := by have h1 := hO.fit; omega
      have HB := Lib.hid hb
      have hle := Lib.hid (show N ≤ no by omega)
      clear hO hb
      go_wp2
      go_ret
      refine ⟨ao, co, rfl, ?_, HB.out⟩
      have h := HO.out.cut hle.out
      rw [HK2.out] at h
      exact h
set_option maxRecDepth 100000 in
theorem rask_neg (v1 v2 : Value) (m : Int) (hm : m < 0) (w : World) : Calls Tryd.prog 55 #[v1, v2, .int .i64 m] w fun e w' => e = .returned (.tuple #[.slice none 0 0, .int .i64 1]) ∧ w = w' := by
  go_enter Tryd.func55, Tryd.ntmps55
  go_wp2
  go_ret2
  exact ⟨rfl, rfl⟩
set_option maxRecDepth 100000 in
theorem rask_long (v1 v2 : Value) (m : Int) (hm : 1048576 < m) (w : World) : Calls Tryd.prog 55 #[v1, v2, .int .i64 m] w fun e w' => e = .returned (.tuple #[.slice none 0 0, .int .i64 3]) ∧ w = w' := by
  have h0 : 0 ≤ m := by omega
  go_enter Tryd.func55, Tryd.ntmps55
  go_wp2
  go_ret2
  exact ⟨rfl, rfl⟩
set_option maxRecDepth 100000 in
set_option maxHeartbeats 1000000 in
theorem rask_walk (enc nonce : List UInt8) (hnon : nonce.length = 12) (a b : Option Addr) (n c m d N : Nat) (hN : N ≤ 1048576) (w : World) (hK : Txt w a n c enc) (hX : Txt w b m d nonce) (hlen : enc.length ≤ 1152921504606) :
    Calls Tryd.prog 55 #[.slice a n c, .slice b m d, .int .i64 N] w fun e w' => ∃ a' c', e = .returned (.tuple #[.slice a' N c', .int .i64 0]) ∧ Txt w' a' N c' (streamL enc nonce N) ∧ Below w.heap.size w w' := by
  have HK := Lib.hid hK
  have HX := Lib.hid hX
  have g1 : ¬ (N : Int) < 0 := by omega
  have g2 : (N : Int) ≤ 1048576 := by omega
  clear hK hX
  go_enter Tryd.func55, Tryd.ntmps55
  go_wp2_with fail
  refine (rstream_walk enc nonce hnon a b n c m d N (by omega) w HK.out HX.out hlen).mono ?_
  rintro e w2 ⟨a2, c2, rfl, hT2, hb2⟩
  have HT2 := Lib.hid hT2
  have HB2 := Lib.hid hb2
  clear hT2 hb2
  go_wp2
  go_ret2
  exact ⟨a2, c2, rfl, HT2.out, HB2.out⟩
theorem join5 (X : World) (t : TypeId) (g : Nat) (hg : g = X.heap.size) {a a' a2 a3 a4 : Option Addr} {n c n' c' n2 c2 n3 c3 n4 c4 : Nat} {l l' l2 l3 l4 : List UInt8} (h : Txt X a n c l) (h' : Txt X a' n' c' l') (h2 : Txt X a2 n2 c2 l2) (h3 : Txt X a3 n3 c3 l3) (h4 : Txt X a4 n4 c4 l4) (hlen : l.length + (l'.length + (l2.length + (l3.length + l4.length))) ≤ 140737488355328) :
    Calls Tryd.prog 36 #[.slice (some ⟨g, 0, none⟩) 5 5] (X.alloc (.cells #[.slice a n c, .slice a' n' c', .slice a2 n2 c2, .slice a3 n3 c3, .slice a4 n4 c4] t)) fun e w' => ∃ a' n' c', e = .returned (.slice a' n' c') ∧ OwnB w' X.heap.size (.slice a' n' c') (l ++ (l' ++ (l2 ++ (l3 ++ l4)))) ∧ Below X.heap.size X w' := by
  subst hg
  refine (join_walk [l, l', l2, l3, l4] 5 5 rfl (some ⟨X.heap.size, 0, none⟩) _ ((h.alloc _).parts5 (h'.alloc _) (h2.alloc _) (h3.alloc _) (h4.alloc _) (Blk.new X _ t)) (by simpa using hlen) (by simp)).mono ?_
  rintro e w' ⟨a', n', c', he, h2, h3⟩
  simp only [List.flatten_cons, List.flatten_nil, List.append_nil] at h2
  exact ⟨a', n', c', he, h2.mono (by simp), (below_one' X _).trans (h3.mono (by simp))⟩
set_option maxRecDepth 100000 in
set_option maxHeartbeats 1000000 in
theorem rtag_walk (mac nonce ad text : List UInt8) (hnon : nonce.length = 12) (a a1 a2 a3 : Option Addr) (n c n1 c1 n2 c2 n3 c3 : Nat) (w : World) (hK : Txt w a n c mac) (h1 : Txt w a1 n1 c1 nonce) (h2 : Txt w a2 n2 c2 ad) (h3 : Txt w a3 n3 c3 text) (hlen : mac.length ≤ 1152921504606) (hl2 : ad.length ≤ 1048576) (hl3 : text.length ≤ 1048576) :
    Calls Tryd.prog 57 #[.slice a n c, .slice a1 n1 c1, .slice a2 n2 c2, .slice a3 n3 c3] w fun e w' => ∃ a' c', e = .returned (.slice a' 32 c') ∧ Txt w' a' 32 c' (tagL mac nonce ad text) ∧ Below w.heap.size w w' := by
  have HK := Lib.hid hK
  have H1 := Lib.hid h1
  have H2 := Lib.hid h2
  have H3 := Lib.hid h3
  have HNL := Lib.hid hnon
  have HL2 := Lib.hid hl2
  have HL3 := Lib.hid hl3
  have e2 := Lib.hid h2.len
  have e3 := Lib.hid h3.len
  have f1 : IntKind.u64.wrap (n2 : Int) = (n2 : Int) := by rw [IntKind.wrap_u64]; have := h2.len; omega
  have f2 : IntKind.u64.wrap (n3 : Int) = (n3 : Int) := by rw [IntKind.wrap_u64]; have := h3.len; omega
  clear hK h1 h2 h3 hnon hl2 hl3
  go_enter Tryd.func57, Tryd.ntmps57
  go_wp2_with fail
  refine (rbig_walk n2 8 (by have := e2.out; have := HL2.out; omega) (by omega) w).mono ?_
  rintro e w2 ⟨g2, rfl, hg2, hb2, hbel2⟩
  clear hg2
  have T2 := Lib.hid (by have h := Txt.of_blk hb2; rw [be_len] at h; exact h)
  have HK2 := Lib.hid (HK.out.on hbel2)
  have H12 := Lib.hid (H1.out.on hbel2)
  have H22 := Lib.hid (H2.out.on hbel2)
  have H32 := Lib.hid (H3.out.on hbel2)
  have HB2 := Lib.hid hbel2
  clear hb2 hbel2 HK H1 H2 H3
  go_wp2_with fail
  refine (rbig_walk n3 8 (by have := e3.out; have := HL3.out; omega) (by omega) w2).mono ?_
  rintro e w3 ⟨g3, rfl, hg3, hb3, hbel3⟩
  clear hg3
  have U3 := Lib.hid (by have h := Txt.of_blk hb3; rw [be_len] at h; exact h)
  have T3 := Lib.hid (T2.out.on hbel3)
  have HK3 := Lib.hid (HK2.out.on hbel3)
  have H13 := Lib.hid (H12.out.on hbel3)
  have H23 := Lib.hid (H22.out.on hbel3)
  have H33 := Lib.hid (H32.out.on hbel3)
  have HB3 := Lib.hid (HB2.out.trans (hbel3.mono HB2.out.size))
  clear hb3 hbel3 HK2 H12 H22 H32 HB2 T2
  go_wp2_with fail
  refine (join5 w3 28 _ rfl H13.out T3.out H23.out U3.out H33.out (by rw [be_len, be_len, HNL.out]; have := HL2.out; have := HL3.out; omega)).mono ?_
  rintro e w4 ⟨a4, n4, c4, rfl, hO4, hb4⟩
  have TJ := Lib.hid hO4.txt
  have HK4 := Lib.hid (HK3.out.on hb4)
  have HB4 := Lib.hid (HB3.out.trans (hb4.mono HB3.out.size))
  clear hO4 hb4 HK3 H13 H23 H33 HB3 T3 U3
  go_wp2_with fail
  refine (rmac_walk mac _ _ _ _ _ _ _ w4 HK4.out TJ.out hlen (by simp only [List.length_append, be_len]; have := HL2.out; have := HL3.out; have := HNL.out; omega)).mono ?_
  rintro e w5 ⟨a5, c5, rfl, hO5, hb5⟩
  have TT := Lib.hid hO5.txt
  have HB5 := Lib.hid (HB4.out.trans (hb5.mono HB4.out.size))
  clear hO5 hb5
  go_wp2
  go_ret
  refine ⟨a5, c5, rfl, ?_, HB5.out⟩
  have h := TT.out
  rw [e2.out, e3.out] at h
  exact h
end Go.Proofs.YtgbahfggnbpnmaaDoor
