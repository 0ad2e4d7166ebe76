import Derived.Test.YtajjbffppkpjpaaNetP
/-
  The smaller methods of a net.
-/
namespace Go.Proofs.Ytajjbffppkpjpaa
set_option linter.unusedSimpArgs false
set_option linter.unusedVariables false
open Go.RowKit
theorem NetAt.c0 {w : World} {av : Nat → Prop} {b : Nat} {v1 v2 v3 : Value} {S : NS} (h : NetAt w av b v1 v2 v3 S) : w.cell? ⟨b, 0, none⟩ = some (.bool true) := h.blk.cell 0 rfl
theorem NetAt.c1 {w : World} {av : Nat → Prop} {b : Nat} {v1 v2 v3 : Value} {S : NS} (h : NetAt w av b v1 v2 v3 S) : w.cell? ⟨b, 1, none⟩ = some v1 := h.blk.cell 1 rfl
theorem NetAt.c2 {w : World} {av : Nat → Prop} {b : Nat} {v1 v2 v3 : Value} {S : NS} (h : NetAt w av b v1 v2 v3 S) : w.cell? ⟨b, 2, none⟩ = some v2 := h.blk.cell 2 rfl
theorem NetAt.c3 {w : World} {av : Nat → Prop} {b : Nat} {v1 v2 v3 : Value} {S : NS} (h : NetAt w av b v1 v2 v3 S) : w.cell? ⟨b, 3, none⟩ = some v3 := h.blk.cell 3 rfl
theorem SRow.form {w : World} {av : Nat → Prop} {v : Value} {L : List Snt} (h : SRow w av v L) : ∃ a c, v = .slice a L.length c ∧ L.length ≤ c ∧ c ≤ maxLen := by
  obtain ⟨ls, h1, _⟩ := h
  rcases h1.2 with ⟨rfl, h0⟩ | ⟨g, cap, cur, rfl, _, _, h4, h5, _⟩
  · exact ⟨none, 0, by rw [h0], by omega, by simp [maxLen]⟩
  · exact ⟨_, cap, rfl, h4, h5⟩
set_option maxRecDepth 100000 in
theorem nnone_nil (w : World) : Calls Try.prog 86 #[.pointer none] w fun e w' => e = .returned (.bool true) ∧ w' = w := by
  go_enter Try.func86, Try.ntmps86
  go_wp2
  go_ret
  exact ⟨rfl, rfl⟩
set_option maxRecDepth 100000 in
theorem nnone_zero {b : Nat} (w : World) (hc : w.cell? ⟨b, 0, none⟩ = some (.bool false)) : Calls Try.prog 86 #[.pointer (some ⟨b, 0, none⟩)] w fun e w' => e = .returned (.bool true) ∧ w' = w := by
  go_enter Try.func86, Try.ntmps86
  go_wp2
  go_ret
  exact ⟨rfl, rfl⟩
set_option maxRecDepth 100000 in
theorem nnone_at {av : Nat → Prop} {b : Nat} {v1 v2 v3 : Value} {S : NS} (w : World) (h : NetAt w av b v1 v2 v3 S) : Calls Try.prog 86 #[.pointer (some ⟨b, 0, none⟩)] w fun e w' => e = .returned (.bool false) ∧ w' = w := by
  have c0 := h.c0
  clear h
  go_enter Try.func86, Try.ntmps86
  go_wp2
  go_ret
  exact ⟨rfl, rfl⟩
set_option maxRecDepth 100000 in
theorem isdev_walk (n : Int) (w : World) : Calls Try.prog 88 #[.int .i64 n] w fun e w' => e = .returned (.bool (decide (devP n))) ∧ w' = w := by
  by_cases h1 : 0 ≤ n
  · by_cases h2 : n < 16
    · have HE := Lib.hid (show decide (devP n) = true from decide_eq_true ⟨h1, h2⟩)
      go_enter Try.func88, Try.ntmps88
      go_wp2
      go_ret
      exact ⟨by rw [HE.out]; simp [h2], rfl⟩
    · have HE := Lib.hid (show decide (devP n) = false from decide_eq_false (fun q => h2 q.2))
      go_enter Try.func88, Try.ntmps88
      go_wp2
      go_ret
      exact ⟨by rw [HE.out]; simp [h2], rfl⟩
  · have HE := Lib.hid (show decide (devP n) = false from decide_eq_false (fun q => h1 q.1))
    go_enter Try.func88, Try.ntmps88
    go_wp2
    go_ret
    exact ⟨by rw [HE.out]; rfl, rfl⟩
/-- A net that no call made: nil, or one of noughts. -/
def NoNet (w : World) (p : Option Addr) : Prop := p = none ∨ ∃ b, p = some ⟨b, 0, none⟩ ∧ w.cell? ⟨b, 0, none⟩ = some (.bool false)
theorem nnone_no {p : Option Addr} (w : World) (h : NoNet w p) : Calls Try.prog 86 #[.pointer p] w fun e w' => e = .returned (.bool true) ∧ w' = w := by
  rcases h with rfl | ⟨b, rfl, hc⟩
  · exact nnone_nil w
  · exact nnone_zero w hc
theorem NoNet.on {w w' : World} {p : Option Addr} (h : NoNet w p) (hb : Below w.heap.size w w') : NoNet w' p :=
  h.imp id fun ⟨b, e, hc⟩ => ⟨b, e, (hb.cell (p := ⟨b, 0, none⟩) (block_lt_of_cell hc)).trans hc⟩
set_option maxRecDepth 100000 in
theorem nlen_no {p : Option Addr} (w : World) (h : NoNet w p) : Calls Try.prog 32 #[.pointer p] w fun e w' => e = .returned (.int .i64 0) ∧ w' = w := by
  have H := Lib.hid h
  clear h
  go_enter Try.func32, Try.ntmps32
  go_wp2_with fail
  refine (nnone_no _ H.out).mono ?_
  rintro e w2 ⟨rfl, rfl⟩
  go_wp2
  go_ret
  exact ⟨rfl, rfl⟩
set_option maxRecDepth 100000 in
theorem nlen_at {av : Nat → Prop} {b : Nat} {v1 v2 v3 : Value} {S : NS} (w : World) (h : NetAt w av b v1 v2 v3 S) : Calls Try.prog 32 #[.pointer (some ⟨b, 0, none⟩)] w fun e w' => e = .returned (.int .i64 (S.way.length : Nat)) ∧ w' = w := by
  have H := Lib.hid h
  obtain ⟨a, c, rfl, _⟩ := h.way.form
  have c1 := h.c1
  clear h
  go_enter Try.func32, Try.ntmps32
  go_wp2_with fail
  refine (nnone_at _ H.out).mono ?_
  rintro e w2 ⟨rfl, rfl⟩
  go_wp2
  go_ret
  exact ⟨rfl, rfl⟩
set_option maxRecDepth 100000 in
theorem nat_no {p : Option Addr} (i : Int) (w : World) (h : NoNet w p) : Calls Try.prog 82 #[.pointer p, .int .i64 i] w fun e w' => e = .returned (.int .i64 2) ∧ w' = w := by
  have H := Lib.hid h
  clear h
  go_enter Try.func82, Try.ntmps82
  go_wp2_with fail
  refine (nnone_no _ H.out).mono ?_
  rintro e w2 ⟨rfl, rfl⟩
  go_wp2
  go_ret
  exact ⟨rfl, rfl⟩
def NS.atE (S : NS) (i : Int) : Int := if S.out i then 4 else 0
set_option maxRecDepth 100000 in
theorem nat_at {av : Nat → Prop} {b : Nat} {v1 v2 v3 : Value} {S : NS} (i : Int) (w : World) (h : NetAt w av b v1 v2 v3 S) : Calls Try.prog 82 #[.pointer (some ⟨b, 0, none⟩), .int .i64 i] w fun e w' => e = .returned (.int .i64 (S.atE i)) ∧ w' = w := by
  have H := Lib.hid h
  obtain ⟨a, c, rfl, _⟩ := h.way.form
  obtain ⟨n, hn⟩ : ∃ n, n = S.way.length := ⟨_, rfl⟩
  have c1 := h.c1
  rw [← hn] at c1
  clear h
  go_enter Try.func82, Try.ntmps82
  go_wp2_with fail
  refine (nnone_at _ H.out).mono ?_
  rintro e w2 ⟨rfl, rfl⟩
  by_cases h1 : i < 0
  · have HE := Lib.hid (show S.atE i = 4 from if_pos (.inl h1))
    clear hn
    go_wp2
    go_ret
    exact ⟨by rw [HE.out]; rfl, rfl⟩
  · by_cases h2 : (n : Int) ≤ i
    · have HE := Lib.hid (show S.atE i = 4 from if_pos (.inr (by rw [← hn]; exact h2)))
      clear hn
      go_wp2
      go_ret
      exact ⟨by rw [HE.out]; rfl, rfl⟩
    · have HE := Lib.hid (show S.atE i = 0 from if_neg (by unfold NS.out; rw [← hn]; omega))
      clear hn
      go_wp2
      go_ret
      exact ⟨by rw [HE.out]; rfl, rfl⟩
set_option maxRecDepth 100000 in
theorem nnew_walk (w : World) : Calls Try.prog 39 #[] w fun e w' => ∃ b, e = .returned (.pointer (some ⟨b, 0, none⟩)) ∧ NetAt w' (fun _ => False) b (.slice none 0 0) (.slice none 0 0) (.slice none 0 0) newN ∧ w.heap.size ≤ b ∧ Below w.heap.size w w' := by
  have HN := Lib.hid (Blk.new w #[.bool true, .slice none 0 0, .slice none 0 0, .slice none 0 0] 43)
  have HB := Lib.hid (below_one' w (.cells #[.bool true, .slice none 0 0, .slice none 0 0, .slice none 0 0] 43))
  go_enter Try.func39, Try.ntmps39
  go_wp2
  go_ret
  exact ⟨w.heap.size, rfl, ⟨HN.out, SRow.nil _ _, SRow.nil _ _, SRow.nil _ _, (fun k e => by cases e), (fun k e => by cases e), (fun k e => by cases e)⟩, Nat.le_refl _, HB.out⟩
end Go.Proofs.Ytajjbffppkpjpaa
