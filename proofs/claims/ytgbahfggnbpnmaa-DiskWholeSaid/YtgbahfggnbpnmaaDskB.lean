import Derived.Test.YtgbahfggnbpnmaaDskA
/-
  The fuse: goes, Arm, Calm.
-/
namespace Go.Proofs.Ytgbahfggnbpnmaa
open Go.RowKit
theorem goes_zero {S : DS} (h : S.fuse = some 0) : S.goes = (false, { S with gone := true, fuse := none }) := by unfold DS.goes; rw [h]
theorem goes_succ {S : DS} {k : Nat} (h : S.fuse = some (k + 1)) : S.goes = (true, { S with fuse := some k, ops := S.ops + 1 }) := by unfold DS.goes; rw [h]
theorem goes_none {S : DS} (h : S.fuse = none) : S.goes = (true, { S with ops := S.ops + 1 }) := by unfold DS.goes; rw [h]
theorem only2 (w : World) (b i j : Nat) (u v : Value) : Only (· = b) w ((w.setCell ⟨b, i, none⟩ u).setCell ⟨b, j, none⟩ v) := (Only.cell (S := (· = b)) w u rfl).trans (Only.cell _ v rfl)
set_option maxRecDepth 100000 in
set_option maxHeartbeats 1000000 in
theorem goes_at {b g n : Nat} {v : Value} {S : DS} (w : World) (h : DiskAt w b g n v S) (hops : S.ops ≤ 4611686018427387904) :
    Calls Try.prog 37 #[.pointer (some ⟨b, 0, none⟩)] w fun e w' => e = .returned (.bool S.goes.1) ∧ DiskAt w' b g n v S.goes.2 ∧ Only (· = b) w w' := by
  have H := Lib.hid h
  obtain ⟨z, hb, hz⟩ := h.blk
  have HB := Lib.hid hb
  have c2 := hb.cell 2 rfl
  have c3 := hb.cell 3 rfl
  have c4 := hb.cell 4 rfl
  have c5 := hb.cell 5 rfl
  have f2 := hb.free 2
  have f3 := hb.free 3
  have f4 := hb.free 4
  have f5 := hb.free 5
  obtain ⟨ops, ho⟩ : ∃ x, x = S.ops := ⟨_, rfl⟩
  have HO := Lib.hid ho
  have hb5 : ops ≤ 4611686018427387904 := by rw [ho]; exact hops
  have hw5 : IntKind.i64.wrap ((ops : Int) + 1) = ((ops + 1 : Nat) : Int) := by simp [IntKind.wrap, IntKind.bits, IntKind.signed]; omega
  simp only [List.getElem_toArray, List.getElem_cons_succ, List.getElem_cons_zero] at c2 c3 c4 c5
  rw [← ho] at c5
  cases hf : S.fuse with
  | none =>
    have HG := Lib.hid (goes_none hf)
    have HZ := Lib.hid hz
    rw [hf] at c3
    simp only [Option.isSome_none] at c3
    clear h hb hz ho hops hf
    go_enter Try.func37, Try.ntmps37
    go_wp2
    go_ret
    have e : ((ops : Int) + 1) = ((S.ops + 1 : Nat) : Int) := by rw [HO.out]; rfl
    refine ⟨by rw [HG.out]; rfl, ?_, Only.cell w _ rfl⟩
    rw [HG.out, e]
    exact H.out.scal (Only.cell w _ rfl) z (HB.out.set 5 _) HZ.out H.out.fz rfl rfl
  | some k =>
    have hzk := hz k hf
    subst hzk
    rw [hf] at c3
    simp only [Option.isSome_some] at c3
    cases k with
    | zero =>
      have HG := Lib.hid (goes_zero hf)
      clear h hb hz ho hops hf
      go_enter Try.func37, Try.ntmps37
      go_wp2
      go_ret
      refine ⟨by rw [HG.out]; rfl, ?_, only2 w b _ _ _ _⟩
      rw [HG.out]
      exact H.out.scal (only2 w b _ _ _ _) _ ((HB.out.set 2 _).set 3 _) (fun f e => by cases e) (fun f e => by cases e) rfl rfl
    | succ k =>
      have HG := Lib.hid (goes_succ hf)
      have HK := Lib.hid (H.out.fz _ hf)
      have HF := Lib.hid (show S.fuse.isSome = true by rw [hf]; rfl)
      have hk := H.out.fz _ hf
      have hk0 : (((k + 1 : Nat) : Int) == 0) = false := by simp; omega
      have hkw : wrap64 (k : Int) = (k : Int) := by unfold wrap64; omega
      clear h hb hz ho hops hf hk
      go_enter Try.func37, Try.ntmps37
      go_wp2
      go_ret
      have e : ((ops : Int) + 1) = ((S.ops + 1 : Nat) : Int) := by rw [HO.out]; rfl
      refine ⟨by rw [HG.out]; rfl, ?_, only2 w b _ _ _ _⟩
      rw [HG.out, e]
      have hB := HB.out
      rw [HF.out] at hB
      exact H.out.scal (only2 w b _ _ _ _) _ ((hB.set 4 _).set 5 _) (fun f e => by cases e; rfl) (fun f e => by cases e; have := HK.out; omega) rfl rfl
set_option maxRecDepth 100000 in
theorem darm_nil (k : Int) (w : World) : Calls Try.prog 35 #[.pointer none, .int .i64 k] w fun e w' => e = .returned (.int .i64 2) ∧ w' = w := by
  go_enter Try.func35, Try.ntmps35
  go_wp2_with fail
  refine (dnone_nil _).mono ?_
  rintro e w2 ⟨rfl, rfl⟩
  go_wp2
  go_ret
  exact ⟨rfl, rfl⟩
set_option maxRecDepth 100000 in
set_option maxHeartbeats 1000000 in
theorem darm_at {b g n : Nat} {v : Value} {S : DS} (k : Int) (hk : k ≤ 9223372036854775807) (w : World) (h : DiskAt w b g n v S) :
    Calls Try.prog 35 #[.pointer (some ⟨b, 0, none⟩), .int .i64 k] w fun e w' => e = .returned (.int .i64 (S.arm k).1) ∧ DiskAt w' b g n v (S.arm k).2 ∧ Only (· = b) w w' := by
  have H := Lib.hid h
  obtain ⟨z, hb, hz⟩ := h.blk
  have HB := Lib.hid hb
  have c2 := hb.cell 2 rfl
  have c3 := hb.cell 3 rfl
  have c4 := hb.cell 4 rfl
  have f3 := hb.free 3
  have f4 := hb.free 4
  simp only [List.getElem_toArray, List.getElem_cons_succ, List.getElem_cons_zero] at c2 c3 c4
  have HK := Lib.hid hk
  clear h hb hz
  go_enter Try.func35, Try.ntmps35
  go_wp2_with fail
  refine (dnone_at _ H.out).mono ?_
  rintro e w2 ⟨rfl, rfl⟩
  by_cases h1 : k < 0
  · have HE := Lib.hid (show S.arm k = (1, S) from if_pos h1)
    go_wp2
    go_ret
    exact ⟨by rw [HE.out]; rfl, by rw [HE.out]; exact H.out, Only.refl _ _⟩
  · cases hg : S.gone with
    | true =>
      have HE := Lib.hid (show S.arm k = (5, S) by unfold DS.arm; rw [if_neg h1, if_pos hg])
      rw [hg] at c2
      clear hg
      go_wp2
      go_ret
      exact ⟨by rw [HE.out]; rfl, by rw [HE.out]; exact H.out, Only.refl _ _⟩
    | false =>
      have HE := Lib.hid (show S.arm k = (0, { S with fuse := some k.toNat }) by unfold DS.arm; rw [if_neg h1, if_neg (by rw [hg]; decide)])
      have HT := Lib.hid (show (k.toNat : Int) = k by omega)
      rw [hg] at c2
      clear hg
      go_wp2
      go_ret
      refine ⟨by rw [HE.out]; rfl, ?_, only2 _ b _ _ _ _⟩
      rw [HE.out]
      exact H.out.scal (only2 _ b _ _ _ _) _ ((HB.out.set 3 _).set 4 _) (fun f e => by cases e; exact HT.out.symm) (fun f e => by cases e; have := HT.out; have := HK.out; omega) rfl rfl
set_option maxRecDepth 100000 in
theorem dcalm_nil (w : World) : Calls Try.prog 34 #[.pointer none] w fun e w' => (∃ u, e = .returned u) ∧ w' = w := by
  go_enter Try.func34, Try.ntmps34
  go_wp2_with fail
  refine (dnone_nil _).mono ?_
  rintro e w2 ⟨rfl, rfl⟩
  go_wp2
  go_end0
  exact ⟨⟨_, rfl⟩, rfl⟩
set_option maxRecDepth 100000 in
set_option maxHeartbeats 1000000 in
theorem dcalm_at {b g n : Nat} {v : Value} {S : DS} (w : World) (h : DiskAt w b g n v S) :
    Calls Try.prog 34 #[.pointer (some ⟨b, 0, none⟩)] w fun e w' => (∃ u, e = .returned u) ∧ DiskAt w' b g n v S.calm ∧ Only (· = b) w w' := by
  have H := Lib.hid h
  obtain ⟨z, hb, hz⟩ := h.blk
  have HB := Lib.hid hb
  have c3 := hb.cell 3 rfl
  have f3 := hb.free 3
  simp only [List.getElem_toArray, List.getElem_cons_succ, List.getElem_cons_zero] at c3
  clear h hb hz
  go_enter Try.func34, Try.ntmps34
  go_wp2_with fail
  refine (dnone_at _ H.out).mono ?_
  rintro e w2 ⟨rfl, rfl⟩
  go_wp2
  go_end0
  exact ⟨⟨_, rfl⟩, H.out.scal (Only.cell _ _ rfl) _ (HB.out.set 3 _) (fun f e => by cases e) (fun f e => by cases e) rfl rfl, Only.cell _ _ rfl⟩
end Go.Proofs.Ytgbahfggnbpnmaa
