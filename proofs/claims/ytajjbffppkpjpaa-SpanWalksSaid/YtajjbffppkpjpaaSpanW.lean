import Derived.Test.YtajjbffppkpjpaaSpanC
/-
  span.meets, Covers, Has, sized.
-/
namespace Go.Proofs.Ytajjbffppkpjpaa
open Go.RowKit
set_option maxRecDepth 100000 in
theorem meets_walk (l : List Rg) (r : Rg) (a : Option Addr) (n c : Nat) (w : World) (hL : RgsIn w a n c l) (M : Bool) (hM : M = true ↔ ∃ x, x ∈ l ∧ (decide ((inter x r).lo < (inter x r).hi)) = true) :
    Calls Try.prog 75 #[.slice a n c, rag r] w fun e w' => e = .returned (.bool M) ∧ Below w.heap.size w w' := by
  have hb := below_one1 w (.cells (rcb r) 25)
  have HL := Lib.hid (hL.on hb)
  have BG := Lib.hid (Blk.new w (rcb r) 25)
  have HB := Lib.hid hb
  have HM := Lib.hid hM
  clear hL hb hM
  go_enter Try.func75, Try.ntmps75
  go_wp2_with fail
  refine (contains_meets r w.heap.size l a n c _ HL.out BG.out M HM.out).mono ?_
  rintro e w2 ⟨rfl, hb2⟩
  have HB2 := Lib.hid (HB.out.trans (hb2.mono HB.out.size))
  clear hb2
  go_wp2
  go_ret
  exact ⟨rfl, HB2.out⟩
set_option maxRecDepth 100000 in
theorem sized_walk (l : List Rg) (a : Option Addr) (n c : Nat) (hn : n = l.length) (w : World) :
    Calls Try.prog 76 #[.slice a n c] w fun e w' => e = .returned (if 64 < l.length then .tuple #[.slice none 0 0, .int .i64 6] else .tuple #[.slice a n c, .int .i64 0]) ∧ w = w' := by
  subst hn
  by_cases h : 64 < l.length
  · rw [if_pos h]
    have g : (64 : Int) < (l.length : Int) := by omega
    go_enter Try.func76, Try.ntmps76
    go_wp2
    go_ret2
    exact ⟨rfl, rfl⟩
  · rw [if_neg h]
    have g : ¬ (64 : Int) < (l.length : Int) := by omega
    go_enter Try.func76, Try.ntmps76
    go_wp2
    go_ret2
    exact ⟨rfl, rfl⟩
set_option maxRecDepth 100000 in
theorem covers_walk (l : List Rg) (r : Rg) (a : Option Addr) (n c : Nat) (w : World) (hL : RgsIn w a n c l) (M1 M2 : Bool) (h1 : M1 = true ↔ MayP l) (h2 : M2 = true ↔ ∃ x, x ∈ l ∧ (decide ((inter x r).lo < (inter x r).hi) && decide (inter x r = r)) = true) :
    Calls Try.prog 23 #[.slice a n c, rag r] w fun e w' => e = .returned (.bool (M1 && (decide (oneP r) && M2))) ∧ Below w.heap.size w w' := by
  have hb := below_one1 w (.cells (rcb r) 25)
  have HL := Lib.hid (hL.on hb)
  have BG := Lib.hid (Blk.new w (rcb r) 25)
  have HB := Lib.hid hb
  have H1 := Lib.hid h1
  have H2 := Lib.hid h2
  clear hL hb h1 h2
  go_enter Try.func23, Try.ntmps23
  go_wp2_with fail
  refine (may_walkS l a n c _ HL.out M1 H1.out).mono ?_
  rintro e w2 ⟨rfl, hb2⟩
  have HB2 := Lib.hid (HB.out.trans (hb2.mono HB.out.size))
  have HL2 := Lib.hid (HL.out.on hb2)
  have BG2 := Lib.hid (BG.out.below hb2 BG.out.lt)
  have b0 := BG2.out.cell 0 rfl
  have b1 := BG2.out.cell 1 rfl
  clear hb2 HL BG HB
  cases M1 with
  | false =>
    go_wp2
    go_ret
    exact ⟨rfl, HB2.out⟩
  | true =>
    by_cases ho : oneP r
    · have HO := Lib.hid ho
      clear ho
      go_wp2_with fail
      refine (one_walk r _).mono ?_
      rintro e w3 ⟨he, hb3⟩
      rw [decide_eq_true HO.out] at he
      subst he
      have HB3 := Lib.hid (HB2.out.trans (hb3.mono HB2.out.size))
      have HL3 := Lib.hid (HL2.out.on hb3)
      have BG3 := Lib.hid (BG2.out.below hb3 BG2.out.lt)
      clear hb3 b0 b1
      go_wp2_with fail
      refine (contains_covers r w.heap.size l a n c _ HL3.out BG3.out M2 H2.out).mono ?_
      rintro e w4 ⟨rfl, hb4⟩
      have HB4 := Lib.hid (HB3.out.trans (hb4.mono HB3.out.size))
      clear hb4
      go_wp2
      go_ret
      refine ⟨?_, HB4.out⟩
      show Ending.returned (.bool M2) = .returned (.bool (true && (decide (oneP r) && M2)))
      rw [decide_eq_true HO.out]
      simp
    · have HO := Lib.hid ho
      clear ho
      go_wp2_with fail
      refine (one_walk r _).mono ?_
      rintro e w3 ⟨he, hb3⟩
      rw [decide_eq_false HO.out] at he
      subst he
      have HB3 := Lib.hid (HB2.out.trans (hb3.mono HB2.out.size))
      clear hb3
      go_wp2
      go_ret
      refine ⟨?_, HB3.out⟩
      show Ending.returned (.bool false) = .returned (.bool (true && (decide (oneP r) && M2)))
      rw [decide_eq_false HO.out]
      simp
set_option maxRecDepth 100000 in
theorem has_walk (l : List Rg) (i : Nat) (a : Option Addr) (n c : Nat) (w : World) (hL : RgsIn w a n c l) (M1 M2 : Bool) (h1 : M1 = true ↔ MayP l) (h2 : M2 = true ↔ ∃ x, x ∈ l ∧ (decide (x.lo ≤ i ∧ i < x.hi)) = true) :
    Calls Try.prog 72 #[.slice a n c, .int .u64 (i : Nat)] w fun e w' => e = .returned (.bool (M1 && M2)) ∧ Below w.heap.size w w' := by
  have hb := below_one1 w (.cells #[.int .u64 (i : Nat)] 23)
  have HL := Lib.hid (hL.on hb)
  have BG := Lib.hid (Blk.new w #[.int .u64 (i : Nat)] 23)
  have HB := Lib.hid hb
  have H1 := Lib.hid h1
  have H2 := Lib.hid h2
  clear hL hb h1 h2
  go_enter Try.func72, Try.ntmps72
  go_wp2_with fail
  refine (may_walkS l a n c _ HL.out M1 H1.out).mono ?_
  rintro e w2 ⟨rfl, hb2⟩
  have HB2 := Lib.hid (HB.out.trans (hb2.mono HB.out.size))
  have HL2 := Lib.hid (HL.out.on hb2)
  have BG2 := Lib.hid (BG.out.below hb2 BG.out.lt)
  clear hb2 HL BG HB
  cases M1 with
  | false =>
    go_wp2
    go_ret
    exact ⟨rfl, HB2.out⟩
  | true =>
    go_wp2_with fail
    refine (contains_has i w.heap.size l a n c _ HL2.out BG2.out M2 H2.out).mono ?_
    rintro e w4 ⟨rfl, hb4⟩
    have HB4 := Lib.hid (HB2.out.trans (hb4.mono HB2.out.size))
    clear hb4
    go_wp2
    go_ret
    refine ⟨?_, HB4.out⟩
    show Ending.returned (.bool M2) = _
    simp
end Go.Proofs.Ytajjbffppkpjpaa
