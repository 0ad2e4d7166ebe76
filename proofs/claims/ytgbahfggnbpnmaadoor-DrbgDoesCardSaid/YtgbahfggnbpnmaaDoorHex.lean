import Derived.Test.YtgbahfggnbpnmaaDoorSum256
import Derived.Test.YtgbahfggnbpnmaaDoorRefc
/-
  The walk of the reference's Hex.
-/
namespace Go.Proofs.YtgbahfggnbpnmaaDoor
open Go.RowKit

def hexd (n : Nat) : UInt8 := UInt8.ofNat (if n < 10 then 48 + n else 87 + n)
def hexb (x : UInt8) : List UInt8 := [hexd (x.toNat / 16), hexd (x.toNat % 16)]
def hexs (l : List UInt8) : List UInt8 := l.flatMap hexb
theorem hexs_len (l : List UInt8) : (hexs l).length = 2 * l.length := by
  induction l with
  | nil => rfl
  | cons x l ih => simp [hexs, hexb] at *; omega
theorem hexs_snoc (l : List UInt8) (x : UInt8) : hexs (l ++ [x]) = hexs l ++ hexb x := by simp [hexs]
abbrev sv (l : List UInt8) : Value := .string ⟨l.toArray⟩

theorem hexd_slice (p : Nat) (hp : p < 16) (W : World) :
    (Instr.sliceAt 9 (.string { data := #[48, 49, 50, 51, 52, 53, 54, 55, 56, 57, 97, 98, 99, 100, 101, 102] }) (some (.int .u8 p)) (some (.int .u8 ((p : Int) + 1))) none).run Tryd.prog W = .ok (sv [hexd p]) W := by
  have h : ∀ p, p < 16 → (([48, 49, 50, 51, 52, 53, 54, 55, 56, 57, 97, 98, 99, 100, 101, 102] : List UInt8).drop p).take 1 = [hexd p] := by decide
  rw [run_sliceAt_string _ _ _ _ _ _ Tryd.underlying9, run_slice_string _ _ _ _ _ _ _ Tryd.underlying9 (by omega) (by omega) (by show (p : Int) + 1 ≤ 16; omega)]
  have e := ByteArray.extract_mk [48, 49, 50, 51, 52, 53, 54, 55, 56, 57, 97, 98, 99, 100, 101, 102] p (p + 1)
  rw [Nat.add_sub_cancel_left, h p hp] at e
  rw [show ((p : Int)).toNat = p by omega, show ((p : Int) + 1).toNat = p + 1 by omega]
  exact congrArg (fun z => Result.ok (Value.string z) W) e
set_option maxRecDepth 100000 in
set_option maxHeartbeats 800000 in
theorem hex_walk (l : List UInt8) (n cap : Nat) (hn : n = l.length) (hlen : l.length ≤ 1152921504606846976) (a : Option Addr) (w : World) (hr : RdB w a l) :
    Calls Tryd.prog 92 #[.slice a n cap] w fun e w' => e = .returned (sv (hexs l)) ∧ Below w.heap.size w w' := by
  subst hn
  have hr' := Lib.hid hr
  clear hr
  go_enter Tryd.func92, Tryd.ntmps92
  go_wp2
  go_loopw [3, 8] (fun x c wr => ∃ k : Nat, k ≤ l.length ∧ c = .int .i64 k ∧ x = sv (hexs (l.take k)) ∧ Below w.heap.size w wr) (fun _ c _ => l.length - (intOf c).toNat)
  case atStart => exact ⟨0, Nat.zero_le _, rfl, rfl, Below.refl _ _⟩
  case round =>
    obtain ⟨k, hk, rfl, rfl, hb⟩ := hrel
    by_cases hlt : k < l.length
    · obtain ⟨g, o, rfl, hc⟩ := (hr'.out.below hb).at hlt
      obtain ⟨x, hx⟩ : ∃ x, x = l.getD k 0 := ⟨_, rfl⟩
      rw [← hx] at hc
      replace hx := Lib.hid hx
      have hx8 : x.toNat < 256 := x.toNat_lt
      obtain ⟨p, hp⟩ : ∃ p, p = x.toNat / 16 := ⟨_, rfl⟩
      obtain ⟨q, hq⟩ : ∃ q, q = x.toNat % 16 := ⟨_, rfl⟩
      have f1 : IntKind.u8.wrap ((x.toNat : Int) / 16) = (p : Int) := by rw [IntKind.wrap_u8]; omega
      have f2 : IntKind.u8.wrap ((p : Int) + 1) = (p : Int) + 1 := by rw [IntKind.wrap_u8]; omega
      have f3 : IntKind.u8.wrap ((x.toNat : Int) % 16) = (q : Int) := by rw [IntKind.wrap_u8]; omega
      have f4 : IntKind.u8.wrap ((q : Int) + 1) = (q : Int) + 1 := by rw [IntKind.wrap_u8]; omega
      have f5 : (x.toNat : Int).tmod 16 = (q : Int) := by rw [Int.tmod_eq_emod_of_nonneg (by omega)]; omega
      have s1 := hexd_slice p (by omega)
      have s2 := hexd_slice q (by omega)
      have hcat : ∀ W : World, (Op.stringOp .add ⟨(hexs (l.take k)).toArray⟩ ({ data := #[hexd p] } ++ { data := #[hexd q] })).run Tryd.prog W = .ok (sv (hexs (l.take k) ++ [hexd p, hexd q])) W := fun W => by
        have e : (({ data := #[hexd p] } : ByteArray) ++ { data := #[hexd q] }) = ⟨[hexd p, hexd q].toArray⟩ := rfl
        rw [e, run_string_add_sum W _ _ (by have := hexs_len (l.take k); simp [ByteArray.size, this]; omega)]
        congr 2
      have hcat' : ∀ (t : TypeId) (W : World), (binOp .add t (sv (hexs (l.take k))) (.string ({ data := #[hexd p] } ++ { data := #[hexd q] }))).run Tryd.prog W = .ok (sv (hexs (l.take k) ++ [hexd p, hexd q])) W := fun t W => by simp [binOp, hcat W]
      replace hp := Lib.hid hp
      replace hq := Lib.hid hq
      go_wp2
      go_quiet (fail)
      go_wp2
      go_roundw
      case rel =>
        refine ⟨k + 1, by omega, by go_num, ?_, below_drewN hb nq⟩
        rw [take_snoc8 l k hlt, hexs_snoc, ← hx.out, hexb, ← hp.out, ← hq.out]
      case measure => simp [intOf]; omega
    · have HK := Lib.hid (show k = l.length by omega)
      go_wp2
      go_ret
      refine ⟨?_, hb⟩
      show Ending.returned (sv (hexs (l.take k))) = _
      rw [HK.out, List.take_length]
end Go.Proofs.YtgbahfggnbpnmaaDoor
