import Derived.Test.YtgbahfggnbpnmaaRfP
/-
  The reference's fuse: burnt, Arm.
-/
namespace Go.Proofs.Ytgbahfggnbpnmaa
open Go.RowKit
theorem fz_none {f : Option Nat} (h : f = none) : fz f = -1 := by rw [h]; rfl
theorem fz_some {f : Option Nat} {k : Nat} (h : f = some k) : fz f = (k : Int) := by rw [h]; rfl
set_option maxRecDepth 100000 in
set_option maxHeartbeats 1000000 in
theorem burnt_at {av : Nat → Prop} {b n : Nat} {u v : Value} {S : DS} (w : World) (h : RefAt w av b n u v S) (hops : S.ops ≤ 4611686018427387904) :
    Calls Try.prog 48 #[.pointer (some ⟨b, 0, none⟩)] w fun e w' => e = .returned (.bool (!S.goes.1)) ∧ RefAt w' av b n u v S.goes.2 ∧ Only (· = b) w w' := by
  have H := Lib.hid h
  have HB := Lib.hid h.blk
  have c2 := h.c2
  have c3 := h.c3
  have c4 := h.c4
  have f2 := h.blk.free 2
  have f3 := h.blk.free 3
  have f4 := h.blk.free 4
  obtain ⟨ops, ho⟩ : ∃ x, x = S.ops := ⟨_, rfl⟩
  have HO := Lib.hid ho
  have hb5 : ops ≤ 4611686018427387904 := by rw [ho]; exact hops
  have hw5 : IntKind.i64.wrap ((ops : Int) + 1) = ((ops + 1 : Nat) : Int) := by simp [IntKind.wrap, IntKind.bits, IntKind.signed]; omega
  rw [← ho] at c4
  cases hf : S.fuse with
  | none =>
    have HG := Lib.hid (goes_none hf)
    rw [fz_none hf] at c3
    have HF := Lib.hid (fz_none hf)
    clear h ho hops hf
    go_enter Try.func48, Try.ntmps48
    go_wp2
    go_ret
    have e : ((ops : Int) + 1) = ((S.ops + 1 : Nat) : Int) := by rw [HO.out]; rfl
    refine ⟨by rw [HG.out]; rfl, ?_, Only.cell w _ rfl⟩
    rw [HG.out, e]
    exact H.out.scal (Only.cell w _ rfl) (HB.out.set 4 _) H.out.fit rfl rfl
  | some k =>
    rw [fz_some hf] at c3
    cases k with
    | zero =>
      have HG := Lib.hid (goes_zero hf)
      clear h ho hops hf
      go_enter Try.func48, Try.ntmps48
      go_wp2
      go_ret
      refine ⟨by rw [HG.out]; rfl, ?_, only2 w b _ _ _ _⟩
      rw [HG.out]
      exact H.out.scal (only2 w b _ _ _ _) ((HB.out.set 2 _).set 3 _) (fun f e => by cases e) rfl rfl
    | succ k =>
      have HG := Lib.hid (goes_succ hf)
      have HK := Lib.hid (H.out.fit _ hf)
      have hk := H.out.fit _ hf
      have hk0 : (((k + 1 : Nat) : Int) == 0) = false := by simp; omega
      have hk1 : (0 : Int) < ((k + 1 : Nat) : Int) := by omega
      have hkw : wrap64 (k : Int) = (k : Int) := by unfold wrap64; omega
      clear h ho hops hf hk
      go_enter Try.func48, Try.ntmps48
      go_wp2
      go_ret
      have e : ((ops : Int) + 1) = ((S.ops + 1 : Nat) : Int) := by rw [HO.out]; rfl
      refine ⟨by rw [HG.out]; rfl, ?_, only2 w b _ _ _ _⟩
      rw [HG.out, e]
      exact H.out.scal (only2 w b _ _ _ _) ((HB.out.set 3 _).set 4 _) (fun f e => by cases e; have := HK.out; omega) rfl rfl
set_option maxRecDepth 100000 in
set_option maxHeartbeats 1000000 in
theorem rarm_at {av : Nat → Prop} {b n : Nat} {u v : Value} {S : DS} (k : Int) (hk : k ≤ 9223372036854775807) (w : World) (h : RefAt w av b n u v S) :
    Calls Try.prog 45 #[.pointer (some ⟨b, 0, none⟩), .int .i64 k] w fun e w' => e = .returned (.int .i64 (S.arm k).1) ∧ RefAt w' av b n u v (S.arm k).2 ∧ Only (· = b) w w' := by
  have H := Lib.hid h
  have HB := Lib.hid h.blk
  have c2 := h.c2
  have c3 := h.c3
  have f3 := h.blk.free 3
  have HK := Lib.hid hk
  clear h
  go_enter Try.func45, Try.ntmps45
  by_cases h1 : k < 0
  · have HE := Lib.hid (show S.arm k = (1, S) from if_pos h1)
    go_wp2
    go_ret
    exact ⟨by rw [HE.out]; rfl, by rw [HE.out]; exact H.out, Only.refl _ _⟩
  · cases hg : S.gone with
    | true =>
      have HE := Lib.hid (show S.arm k = (5, S) by unfold DS.arm; rw [if_neg h1, if_pos hg])
      rw [hg] at c2
      clear hg
      go_wp2
      go_ret
      exact ⟨by rw [HE.out]; rfl, by rw [HE.out]; exact H.out, Only.refl _ _⟩
    | false =>
      have HE := Lib.hid (show S.arm k = (0, { S with fuse := some k.toNat }) by unfold DS.arm; rw [if_neg h1, if_neg (by rw [hg]; decide)])
      have HT := Lib.hid (show (k.toNat : Int) = k by omega)
      rw [hg] at c2
      clear hg
      go_wp2
      go_ret
      refine ⟨by rw [HE.out]; rfl, ?_, Only.cell _ _ rfl⟩
      rw [HE.out]
      refine H.out.scal (Only.cell _ _ rfl) ?_ (fun f e => by cases e; have := HT.out; have := HK.out; omega) rfl rfl
      have := HB.out.set 3 (.int .i64 k)
      show Blk _ b #[u, v, .bool S.gone, .int .i64 ((k.toNat : Nat) : Int), .int .i64 (S.ops : Nat)] _
      rw [HT.out]
      exact this
end Go.Proofs.Ytgbahfggnbpnmaa
