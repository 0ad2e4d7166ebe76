import Derived.Test.YtajjbffppkpjpaaJn
import Derived.WalkKit
import Derived.Deep.QuietTactic
import Derived.BigQuiet
/-
  octet.Same (over Jn alone).
-/
namespace Go.Proofs.Ytajjbffppkpjpaa
set_option linter.unusedSimpArgs false
set_option linter.unusedVariables false
open Go.RowKit
theorem take_snoc8 (l : List UInt8) (k : Nat) (h : k < l.length) : l.take (k + 1) = l.take k ++ [l.getD k 0] := by
  rw [List.take_succ_eq_append_getElem h]; simp [h]
theorem ofInt_u8 (x : UInt8) : BitVec.ofInt 8 (x.toNat : Int) = x.toBitVec := by
  apply BitVec.eq_of_toNat_eq; simp [BitVec.toNat_ofInt]
theorem wrap_bv8 (x : BitVec 8) : IntKind.u8.wrap (x.toNat : Int) = (x.toNat : Int) := by
  have := x.isLt
  simp [IntKind.wrap, IntKind.bits, IntKind.signed]; omega
theorem u8_xor (x y : UInt8) : bits .xor .u8 (x.toNat : Int) (y.toNat : Int) = ((x ^^^ y).toNat : Int) := by
  show IntKind.u8.wrap ((BitVec.ofInt 8 (x.toNat : Int) ^^^ BitVec.ofInt 8 (y.toNat : Int)).toNat : Int) = _
  rw [wrap_bv8, ofInt_u8, ofInt_u8]; simp
theorem u8_or (x y : UInt8) : bits .or .u8 (x.toNat : Int) (y.toNat : Int) = ((x ||| y).toNat : Int) := by
  show IntKind.u8.wrap ((BitVec.ofInt 8 (x.toNat : Int) ||| BitVec.ofInt 8 (y.toNat : Int)).toNat : Int) = _
  rw [wrap_bv8, ofInt_u8, ofInt_u8]; simp
/-- What tells the first k bytes of two texts apart. -/
def apart (a b : List UInt8) : Nat → UInt8
  | 0 => 0
  | k + 1 => apart a b k ||| (a.getD k 0 ^^^ b.getD k 0)
theorem apart_zero (a b : List UInt8) (k : Nat) (ha : k ≤ a.length) (hb : k ≤ b.length) : apart a b k = 0 ↔ a.take k = b.take k := by
  induction k with
  | zero => simp [apart]
  | succ k ih =>
    simp only [apart, UInt8.or_eq_zero_iff, UInt8.xor_eq_zero_iff, ih (by omega) (by omega)]
    rw [take_snoc8 a k (by omega), take_snoc8 b k (by omega)]
    constructor
    · rintro ⟨h1, h2⟩; rw [h1, h2]
    · intro h
      have h1 := List.append_inj h (by simp; omega)
      exact ⟨h1.1, by simpa using h1.2⟩
set_option maxRecDepth 100000 in
set_option maxHeartbeats 1000000 in
theorem same_walk (l l2 : List UInt8) (a b : Option Addr) (n c m d : Nat) (w : World) (hA : Txt w a n c l) (hB : Txt w b m d l2) (hn : n ≤ 1152921504606846976) :
    Calls Try.prog 94 #[.slice a n c, .slice b m d] w fun e w' => e = .returned (.bool (decide (l = l2))) ∧ Below w.heap.size w w' := by
  have hl1 := hA.len
  have hl2 := hB.len
  have HA := Lib.hid hA
  have HB := Lib.hid hB
  clear hA hB
  by_cases hnm : n = m
  · have HLL := Lib.hid (show l.length = l2.length by omega)
    have HL1 := Lib.hid hl1
    clear hl1 hl2
    subst hnm
    go_enter Try.func94, Try.ntmps94
    go_wp2
    go_loopw [5, 14] (fun x i wr => ∃ k q, k ≤ n ∧ i = .int .i64 (k : Nat) ∧ x = bv q ∧ Hid (q = apart l l2 k) ∧ Below w.heap.size w wr) (fun _ i _ => n - (intOf i).toNat)
    case atStart => exact ⟨0, 0, Nat.zero_le _, rfl, rfl, rfl, Below.refl _ _⟩
    case round =>
      obtain ⟨k, q, hk, rfl, rfl, HQ, hb⟩ := hrel
      by_cases hlt : k < n
      · obtain ⟨g, o, rfl, hc⟩ := ((HA.out.below hb).rd).at (i := k) (by have := HL1.out; omega)
        obtain ⟨g2, o2, rfl, hc2⟩ := ((HB.out.below hb).rd).at (i := k) (by have := HL1.out; have := HLL.out; omega)
        obtain ⟨x, hx⟩ : ∃ x, x = l.getD k 0 := ⟨_, rfl⟩
        obtain ⟨y, hy⟩ : ∃ y, y = l2.getD k 0 := ⟨_, rfl⟩
        rw [← hx] at hc
        rw [← hy] at hc2
        replace hx := Lib.hid hx
        replace hy := Lib.hid hy
        obtain ⟨p, hp⟩ : ∃ p, p = x ^^^ y := ⟨_, rfl⟩
        obtain ⟨r, hr⟩ : ∃ r, r = q ||| p := ⟨_, rfl⟩
        have f1 := u8_xor x y
        rw [← hp] at f1
        have f2 := u8_or q p
        rw [← hr] at f2
        replace hp := Lib.hid hp
        replace hr := Lib.hid hr
        go_wp2
        go_quiet (fail)
        go_wp2
        go_roundw
        case rel => exact ⟨k + 1, r, by omega, by go_num, rfl, by rw [hr.out, hp.out, HQ.out, hx.out, hy.out]; rfl, below_drewN hb nq⟩
        case measure => simp [intOf]; omega
      · have HK := Lib.hid (show k = n by omega)
        by_cases hz : q = 0
        · subst hz
          go_wp2
          go_ret
          refine ⟨?_, hb⟩
          have h1 := (apart_zero l l2 k (by have := HL1.out; omega) (by have := HL1.out; have := HLL.out; omega)).1 HQ.out.symm
          rw [List.take_of_length_le (by have := HL1.out; have := HK.out; omega), List.take_of_length_le (by have := HL1.out; have := HK.out; have := HLL.out; omega)] at h1
          simp [h1]
        · have hz' : ¬ (q.toNat : Int) = 0 := by
            intro h; apply hz
            apply UInt8.toNat_inj.1; simpa using h
          go_wp2
          go_ret
          refine ⟨?_, hb⟩
          have h1 : l ≠ l2 := by
            intro h
            subst h
            exact hz (by rw [HQ.out]; exact (apart_zero l l k (by have := HL1.out; omega) (by have := HL1.out; omega)).2 rfl)
          have h2 : ¬ q.toNat = 0 := by omega
          simp [h1, h2]
  · have hd : ¬ (n : Int) = (m : Int) := by omega
    have HNE := Lib.hid (show l ≠ l2 by rintro rfl; omega)
    clear hl1 hl2
    go_enter Try.func94, Try.ntmps94
    go_wp2
    go_ret
    refine ⟨?_, Below.refl _ _⟩
    have := HNE.out
    simp [this]
end Go.Proofs.Ytajjbffppkpjpaa
