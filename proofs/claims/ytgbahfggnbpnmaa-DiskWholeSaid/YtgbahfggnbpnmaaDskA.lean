import Derived.Test.YtgbahfggnbpnmaaDskM
/-
  The smaller methods of a disk.
-/
namespace Go.Proofs.Ytgbahfggnbpnmaa
open Go.RowKit
theorem DiskAt.c0 {w : World} {b g n : Nat} {v : Value} {S : DS} (h : DiskAt w b g n v S) : w.cell? ⟨b, 0, none⟩ = some (.slice (some ⟨g, 0, none⟩) n n) := by obtain ⟨z, hb, _⟩ := h.blk; exact hb.cell 0 rfl
theorem DiskAt.c1 {w : World} {b g n : Nat} {v : Value} {S : DS} (h : DiskAt w b g n v S) : w.cell? ⟨b, 1, none⟩ = some v := by obtain ⟨z, hb, _⟩ := h.blk; exact hb.cell 1 rfl
theorem DiskAt.c2 {w : World} {b g n : Nat} {v : Value} {S : DS} (h : DiskAt w b g n v S) : w.cell? ⟨b, 2, none⟩ = some (.bool S.gone) := by obtain ⟨z, hb, _⟩ := h.blk; exact hb.cell 2 rfl
theorem DiskAt.c3 {w : World} {b g n : Nat} {v : Value} {S : DS} (h : DiskAt w b g n v S) : w.cell? ⟨b, 3, none⟩ = some (.bool S.fuse.isSome) := by obtain ⟨z, hb, _⟩ := h.blk; exact hb.cell 3 rfl
theorem DiskAt.c5 {w : World} {b g n : Nat} {v : Value} {S : DS} (h : DiskAt w b g n v S) : w.cell? ⟨b, 5, none⟩ = some (.int .i64 (S.ops : Nat)) := by obtain ⟨z, hb, _⟩ := h.blk; exact hb.cell 5 rfl
theorem DiskAt.fr {w : World} {b g n : Nat} {v : Value} {S : DS} (h : DiskAt w b g n v S) (i : Nat) : w.frozen? ⟨b, i, none⟩ = false := by obtain ⟨z, hb, _⟩ := h.blk; exact hb.free i
theorem DiskAt.nz {w : World} {b g n : Nat} {v : Value} {S : DS} (h : DiskAt w b g n v S) : ((n : Int) == 0) = false := by have := h.pos.1; simp; omega
set_option maxRecDepth 100000 in
theorem dnone_nil (w : World) : Calls Try.prog 36 #[.pointer none] w fun e w' => e = .returned (.bool true) ∧ w' = w := by
  go_enter Try.func36, Try.ntmps36
  go_wp2
  go_ret
  exact ⟨rfl, rfl⟩
set_option maxRecDepth 100000 in
theorem dnone_at {b g n : Nat} {v : Value} {S : DS} (w : World) (h : DiskAt w b g n v S) : Calls Try.prog 36 #[.pointer (some ⟨b, 0, none⟩)] w fun e w' => e = .returned (.bool false) ∧ w' = w := by
  have c0 := h.c0
  have hz := h.nz
  clear h
  go_enter Try.func36, Try.ntmps36
  go_wp2
  go_ret
  exact ⟨rfl, rfl⟩
def DS.mayE (S : DS) (i : Int) : Int := if S.out i then 1 else 0
set_option maxRecDepth 100000 in
theorem dmay_nil (i : Int) (w : World) : Calls Try.prog 40 #[.pointer none, .int .i64 i] w fun e w' => e = .returned (.int .i64 2) ∧ w' = w := by
  go_enter Try.func40, Try.ntmps40
  go_wp2_with fail
  refine (dnone_nil _).mono ?_
  rintro e w2 ⟨rfl, rfl⟩
  go_wp2
  go_ret
  exact ⟨rfl, rfl⟩
set_option maxRecDepth 100000 in
theorem dmay_at {b g n : Nat} {v : Value} {S : DS} (i : Int) (w : World) (h : DiskAt w b g n v S) : Calls Try.prog 40 #[.pointer (some ⟨b, 0, none⟩), .int .i64 i] w fun e w' => e = .returned (.int .i64 (S.mayE i)) ∧ w' = w := by
  have H := Lib.hid h
  have hl := h.ok.len
  have c0 := h.c0
  clear h
  go_enter Try.func40, Try.ntmps40
  go_wp2_with fail
  refine (dnone_at _ H.out).mono ?_
  rintro e w2 ⟨rfl, rfl⟩
  by_cases h1 : i < 0
  · have HE := Lib.hid (show S.mayE i = 1 from if_pos (.inl h1))
    clear hl
    go_wp2
    go_ret
    exact ⟨by rw [HE.out]; rfl, rfl⟩
  · by_cases h2 : (n : Int) ≤ i
    · have HE := Lib.hid (show S.mayE i = 1 from if_pos (.inr (by rw [hl]; exact h2)))
      clear hl
      go_wp2
      go_ret
      exact ⟨by rw [HE.out]; rfl, rfl⟩
    · have HE := Lib.hid (show S.mayE i = 0 from if_neg (by unfold DS.out; rw [hl]; omega))
      clear hl
      go_wp2
      go_ret
      exact ⟨by rw [HE.out]; rfl, rfl⟩
/-! What a disk tells. -/
set_option maxRecDepth 100000 in
theorem dsec_nil (w : World) : Calls Try.prog 18 #[.pointer none] w fun e w' => e = .returned (.int .i64 0) ∧ w' = w := by
  go_enter Try.func18, Try.ntmps18
  go_wp2_with fail
  refine (dnone_nil _).mono ?_
  rintro e w2 ⟨rfl, rfl⟩
  go_wp2
  go_ret
  exact ⟨rfl, rfl⟩
set_option maxRecDepth 100000 in
theorem dsec_at {b g n : Nat} {v : Value} {S : DS} (w : World) (h : DiskAt w b g n v S) : Calls Try.prog 18 #[.pointer (some ⟨b, 0, none⟩)] w fun e w' => e = .returned (.int .i64 (n : Nat)) ∧ w' = w := by
  have H := Lib.hid h
  have c0 := h.c0
  clear h
  go_enter Try.func18, Try.ntmps18
  go_wp2_with fail
  refine (dnone_at _ H.out).mono ?_
  rintro e w2 ⟨rfl, rfl⟩
  go_wp2
  go_ret
  exact ⟨rfl, rfl⟩
set_option maxRecDepth 100000 in
theorem dops_nil (w : World) : Calls Try.prog 25 #[.pointer none] w fun e w' => e = .returned (.int .i64 0) ∧ w' = w := by
  go_enter Try.func25, Try.ntmps25
  go_wp2_with fail
  refine (dnone_nil _).mono ?_
  rintro e w2 ⟨rfl, rfl⟩
  go_wp2
  go_ret
  exact ⟨rfl, rfl⟩
set_option maxRecDepth 100000 in
theorem dops_at {b g n : Nat} {v : Value} {S : DS} (w : World) (h : DiskAt w b g n v S) : Calls Try.prog 25 #[.pointer (some ⟨b, 0, none⟩)] w fun e w' => e = .returned (.int .i64 (S.ops : Nat)) ∧ w' = w := by
  have H := Lib.hid h
  have c5 := h.c5
  clear h
  go_enter Try.func25, Try.ntmps25
  go_wp2_with fail
  refine (dnone_at _ H.out).mono ?_
  rintro e w2 ⟨rfl, rfl⟩
  go_wp2
  go_ret
  exact ⟨rfl, rfl⟩
set_option maxRecDepth 100000 in
theorem don_nil (w : World) : Calls Try.prog 21 #[.pointer none] w fun e w' => e = .returned (.bool false) ∧ w' = w := by
  go_enter Try.func21, Try.ntmps21
  go_wp2_with fail
  refine (dnone_nil _).mono ?_
  rintro e w2 ⟨rfl, rfl⟩
  go_wp2
  go_ret
  exact ⟨rfl, rfl⟩
set_option maxRecDepth 100000 in
theorem don_at {b g n : Nat} {v : Value} {S : DS} (w : World) (h : DiskAt w b g n v S) : Calls Try.prog 21 #[.pointer (some ⟨b, 0, none⟩)] w fun e w' => e = .returned (.bool (!S.gone)) ∧ w' = w := by
  have H := Lib.hid h
  have c2 := h.c2
  clear h
  go_enter Try.func21, Try.ntmps21
  go_wp2_with fail
  refine (dnone_at _ H.out).mono ?_
  rintro e w2 ⟨rfl, rfl⟩
  go_wp2
  go_ret
  exact ⟨rfl, rfl⟩
set_option maxRecDepth 100000 in
theorem dwaits_nil (w : World) : Calls Try.prog 20 #[.pointer none] w fun e w' => e = .returned (.int .i64 0) ∧ w' = w := by
  go_enter Try.func20, Try.ntmps20
  go_wp2_with fail
  refine (dnone_nil _).mono ?_
  rintro e w2 ⟨rfl, rfl⟩
  go_wp2
  go_ret
  exact ⟨rfl, rfl⟩
set_option maxRecDepth 100000 in
theorem dwaits_at {b g n : Nat} {v : Value} {S : DS} (w : World) (h : DiskAt w b g n v S) : Calls Try.prog 20 #[.pointer (some ⟨b, 0, none⟩)] w fun e w' => e = .returned (.int .i64 (S.wait.length : Nat)) ∧ w' = w := by
  have H := Lib.hid h
  obtain ⟨va, vc, rfl, _⟩ := row_form h.wait
  have c1 := h.c1
  clear h
  go_enter Try.func20, Try.ntmps20
  go_wp2_with fail
  refine (dnone_at _ H.out).mono ?_
  rintro e w2 ⟨rfl, rfl⟩
  go_wp2
  go_ret
  exact ⟨rfl, rfl⟩
end Go.Proofs.Ytgbahfggnbpnmaa
