import Derived.Test.YtajjbffppkpjpaaSpanG
/-
  Count: span's and the reference's.
-/
namespace Go.Proofs.Ytajjbffppkpjpaa
open Go.RowKit
theorem count_succ (l : List Rg) (i : Nat) (h : i < l.length) : count (l.take (i + 1)) = count (l.take i) + ((l.getD i r0).hi - (l.getD i r0).lo) := by
  rw [List.take_add_one, count, List.map_append, List.sum_append]
  simp [count, List.getD, h]
theorem count_take_le (l : List Rg) (i : Nat) : count (l.take i) ≤ count l := by
  conv => rhs; rw [← List.take_append_drop i l]
  simp only [count, List.map_append, List.sum_append]
  omega
theorem MayP.count_le {l : List Rg} (h : MayP l) : count l ≤ 1152921504606846976 := Go.Proofs.Ytajjbffppkpjpaa.count_le h.1 h.2.1
theorem MayP.one {l : List Rg} (h : MayP l) {i : Nat} (hi : i < l.length) : oneP (l.getD i r0) := by
  have hm : l.getD i r0 ∈ l := by
    simp only [List.getD, List.getElem?_eq_getElem hi, Option.getD_some]
    exact List.getElem_mem hi
  exact ⟨h.1.posAll _ hm, h.2.1 _ hm⟩
set_option maxRecDepth 100000 in
set_option maxHeartbeats 1000000 in
theorem rcount_walk (l : List Rg) (a : Option Addr) (n c : Nat) (w : World) (hL : RgsIn w a n c l) (hM : MayP l) :
    Calls Try.prog 71 #[.slice a n c] w fun e w' => e = .returned (.int .u64 (count l : Nat)) ∧ Below w.heap.size w w' := by
  have HL := Lib.hid hL
  have HMAY := Lib.hid hM
  have hn63 : l.length ≤ 9223372036854775807 := by have := hM.2.2; omega
  obtain rfl : n = l.length := hL.len
  clear hL hM
  go_enter Try.func71, Try.ntmps71
  go_wp2
  go_loopw [8, 3] (fun x s wr => ∃ i : Nat, i ≤ l.length ∧ x = .int .i64 (i : Nat) ∧ Hid (s = .int .u64 (count (l.take i) : Nat)) ∧ Below w.heap.size w wr) (fun x _ _ => l.length - (intOf x).toNat)
  case atStart => exact ⟨0, Nat.zero_le _, rfl, rfl, Below.refl _ _⟩
  case round =>
    obtain ⟨i, hi, rfl, hsum, hb⟩ := hrel
    obtain rfl := hsum.out
    have HBr := Lib.hid hb
    by_cases hlt : i < l.length
    · obtain ⟨g, o, rfl, hg, hr⟩ := HL.out.rd i hlt
      have HONE := Lib.hid (HMAY.out.one hlt)
      have HSu := Lib.hid (count_succ l i hlt)
      have HLe := Lib.hid (count_take_le l (i + 1))
      have HR := Lib.hid (rng_on hr hb)
      obtain ⟨r, hre⟩ : ∃ r, r = l.getD i r0 := ⟨_, rfl⟩
      rw [← hre] at HR HONE HSu
      clear hr hg hre hb
      generalize count (l.take i) = q at *
      have HI := Lib.hid hlt
      have hx1 : (r.lo : Int) < (r.hi : Int) := by have := HONE.out.1; omega
      have hx2 : (r.hi : Int) ≤ 1152921504606846976 := by have := HONE.out.2; unfold maxIx at this; omega
      have hq2 : q + (r.hi - r.lo) ≤ 1152921504606846976 := by have h1 := HMAY.out.count_le; have h2 := HLe.out; have h3 := HSu.out; omega
      have gw : IntKind.u64.wrap ((r.hi : Int) - (r.lo : Int)) = ((r.hi - r.lo : Nat) : Int) := by rw [IntKind.wrap_u64]; omega
      have gs : IntKind.u64.wrap ((q : Int) + ((r.hi - r.lo : Nat) : Int)) = ((q + (r.hi - r.lo) : Nat) : Int) := by rw [IntKind.wrap_u64]; omega
      clear hq2
      go_wp2_with (first | (refine wpList_load_mid rfl 25 (.tmp 10) rfl g (o + i * 2) rfl (rcl r) _ HR.out Try.underlying25 rfl size_rg ?_) | (refine wpList_store_abs rfl 25 (.tmp 5) (.tmp 11) (by rfl) wr.heap.size #[.int .u64 (r.lo : Nat), .int .u64 (r.hi : Nat)] (by rfl) (by rfl) 25 _ (Blk.new wr _ _) size_rg (by rfl) (by simp [Value.oneCell']) ?_; intro W hW hp5; have hbW := hW.below ((Below.refl _ wr).alloc (Nat.le_refl _) _) (Nat.le_refl _); have HBW := Lib.hid (HBr.out.trans (hbW.mono HBr.out.size)); have b0 := hp5.cell 0 rfl; have b1 := hp5.cell 1 rfl; clear hW hbW hp5))
      go_roundw
      case rel => exact ⟨i + 1, by have := HI.out; omega, by go_num, by rw [HSu.out]; exact rfl, HBW.out⟩
      case measure => simp [intOf]; omega
    · have HF := Lib.hid (show count (l.take i) = count l by rw [List.take_of_length_le (by omega)])
      rw [HF.out]
      go_wp2
      go_ret
      exact ⟨rfl, HBr.out⟩
set_option maxRecDepth 100000 in
set_option maxHeartbeats 1000000 in
theorem count_walk (l : List Rg) (a : Option Addr) (n c : Nat) (w : World) (hL : RgsIn w a n c l) :
    Calls Try.prog 19 #[.slice a n c] w fun e w' => e = .returned (.int .u64 (countR l : Nat)) ∧ Below w.heap.size w w' := by
  have HL := Lib.hid hL
  obtain ⟨M, h1⟩ := bool_of (MayP l)
  have H1 := Lib.hid h1
  obtain rfl : n = l.length := hL.len
  clear h1 hL
  go_enter Try.func19, Try.ntmps19
  go_wp2_with fail
  refine (may_walkS l a _ c _ HL.out M H1.out).mono ?_
  rintro e w2 ⟨rfl, hb2⟩
  have HB2 := Lib.hid hb2
  have HL2 := Lib.hid (HL.out.on hb2)
  clear hb2 HL
  cases M with
  | false =>
    have HA := Lib.hid (show countR l = 0 from if_neg (fun h => by have := H1.out.2 h; cases this))
    go_wp2
    go_ret
    exact ⟨by rw [HA.out]; rfl, HB2.out⟩
  | true =>
    have HMAY := Lib.hid (H1.out.1 rfl)
    have HA := Lib.hid (show countR l = count l from if_pos HMAY.out)
    have hn63 : l.length ≤ 9223372036854775807 := by have := HMAY.out.2.2; omega
    go_wp2
    go_loopw [10, 3] (fun x s wr => ∃ i : Nat, i ≤ l.length ∧ x = .int .i64 (i : Nat) ∧ Hid (s = .int .u64 (count (l.take i) : Nat)) ∧ Below w2.heap.size w2 wr) (fun x _ _ => l.length - (intOf x).toNat)
    case atStart => exact ⟨0, Nat.zero_le _, rfl, rfl, Below.refl _ _⟩
    case round =>
      obtain ⟨i, hi, rfl, hsum, hb⟩ := hrel
      obtain rfl := hsum.out
      have HBr := Lib.hid hb
      by_cases hlt : i < l.length
      · obtain ⟨g, o, rfl, hg, hr⟩ := HL2.out.rd i hlt
        have HONE := Lib.hid (HMAY.out.one hlt)
        have HSu := Lib.hid (count_succ l i hlt)
        have HLe := Lib.hid (count_take_le l (i + 1))
        have HR := Lib.hid (rng_on hr hb)
        obtain ⟨r, hre⟩ : ∃ r, r = l.getD i r0 := ⟨_, rfl⟩
        rw [← hre] at HR HONE HSu
        clear hr hg hre hb
        generalize count (l.take i) = q at *
        have HI := Lib.hid hlt
        have hx1 : (r.lo : Int) < (r.hi : Int) := by have := HONE.out.1; omega
        have hx2 : (r.hi : Int) ≤ 1152921504606846976 := by have := HONE.out.2; unfold maxIx at this; omega
        have hq2 : q + (r.hi - r.lo) ≤ 1152921504606846976 := by have h1 := HMAY.out.count_le; have h2 := HLe.out; have h3 := HSu.out; omega
        have gw : IntKind.u64.wrap ((r.hi : Int) - (r.lo : Int)) = ((r.hi - r.lo : Nat) : Int) := by rw [IntKind.wrap_u64]; omega
        have gs : IntKind.u64.wrap ((q : Int) + ((r.hi - r.lo : Nat) : Int)) = ((q + (r.hi - r.lo) : Nat) : Int) := by rw [IntKind.wrap_u64]; omega
        clear hq2
        go_wp2_with (first | (refine wpList_load_mid rfl 25 (.tmp 12) rfl g (o + i * 2) rfl (rcl r) _ HR.out Try.underlying25 rfl size_rg ?_) | (refine wpList_store_abs rfl 25 (.tmp 5) (.tmp 13) (by rfl) wr.heap.size #[.int .u64 (r.lo : Nat), .int .u64 (r.hi : Nat)] (by rfl) (by rfl) 25 _ (Blk.new wr _ _) size_rg (by rfl) (by simp [Value.oneCell']) ?_; intro W hW hp5; have hbW := hW.below ((Below.refl _ wr).alloc (Nat.le_refl _) _) (Nat.le_refl _); have HBW := Lib.hid (HBr.out.trans (hbW.mono HBr.out.size)); have b0 := hp5.cell 0 rfl; have b1 := hp5.cell 1 rfl; clear hW hbW hp5))
        go_roundw
        case rel => exact ⟨i + 1, by have := HI.out; omega, by go_num, by rw [HSu.out]; exact rfl, HBW.out⟩
        case measure => simp [intOf]; omega
      · have HF := Lib.hid (show count (l.take i) = count l by rw [List.take_of_length_le (by omega)])
        rw [HF.out]
        go_wp2
        go_ret
        exact ⟨by rw [HA.out]; rfl, HB2.out.trans (HBr.out.mono HB2.out.size)⟩
end Go.Proofs.Ytajjbffppkpjpaa
