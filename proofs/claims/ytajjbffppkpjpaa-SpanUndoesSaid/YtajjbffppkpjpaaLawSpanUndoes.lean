import Derived.Test.YtajjbffppkpjpaaSpanE
/-
  The walk of liverylaw19.SpanUndoes.
-/
namespace Go.Proofs.Ytajjbffppkpjpaa
open Go.RowKit
set_option maxRecDepth 100000 in
set_option maxHeartbeats 2000000 in
theorem spanundoes_walk (l : List Rg) (r : Rg) (a : Option Addr) (n c : Nat) (w : World) (hL : RgsIn w a n c l) :
    Calls Try.prog 13 #[.slice a n c, rag r] w fun e w' => e = .returned (.bool true) ∧ Below w.heap.size w w' := by
  have hb := below_one1 w (.cells (rcb r) 25)
  have HL := Lib.hid (hL.on hb)
  have BG := Lib.hid (Blk.new w (rcb r) 25)
  have HB := Lib.hid hb
  have HLN := Lib.hid (show l.length ≤ 9223372036854775807 by have h1 := hL.len; have h2 := hL.fit; have h3 := hL.top; unfold maxLen at h3; omega)
  clear hL hb
  go_enter Try.func13, Try.ntmps13
  go_wp2_with fail
  refine (live19_walk _).mono ?_
  rintro e w2 ⟨rfl, hb2⟩
  have HB2 := Lib.hid (HB.out.trans (hb2.mono HB.out.size))
  have HL2 := Lib.hid (HL.out.on hb2)
  have BG2 := Lib.hid (BG.out.on hb2)
  clear hb2 HL BG HB
  go_wp2_with fail
  refine (few19_walk a n c _).mono ?_
  rintro e w3 ⟨he, rfl⟩
  by_cases hf : n ≤ 300
  · rw [decide_eq_true hf] at he
    subst he
    have b0 := BG2.out.cell 0 rfl
    have b1 := BG2.out.cell 1 rfl
    go_wp2_with fail
    refine (add_walk l r a n c _ HL2.out).mono ?_
    rintro e w4 ⟨v4, z4, rfl, hO4, hz4, hb4⟩
    have HB4 := Lib.hid (HB2.out.trans (hb4.mono HB2.out.size))
    have HL4 := Lib.hid (HL2.out.on hb4)
    have BG4 := Lib.hid (BG2.out.on hb4)
    have HO4 := Lib.hid hO4
    obtain ⟨pa4, ca4, rfl, _⟩ := hO4.form
    clear hO4 hb4 b0 b1
    have b0 := BG4.out.cell 0 rfl
    have b1 := BG4.out.cell 1 rfl
    by_cases hz : (addR l r).2 = 0
    · have hs := pair_eta hz
      have HD := Lib.hid (undo1 hs)
      have HM := Lib.hid (addR_may l r)
      rw [hz] at hz4
      subst hz4
      have HL4v := Lib.hid (HO4.out.set HM.out)
      clear hs hz
      go_wp2_with fail
      refine (sub_walk (addR l r).1 r pa4 _ ca4 _ HL4v.out).mono ?_
      rintro e w5 ⟨v5, z5, rfl, hO5, hz5, hb5⟩
      rw [HD.out] at hO5 hz5
      obtain ⟨pa5, ca5, rfl, _⟩ := hO5.form
      obtain rfl : z5 = 0 := hz5
      have HB5 := Lib.hid (HB4.out.trans (hb5.mono HB4.out.size))
      have HL5 := Lib.hid (HL4.out.on hb5)
      have BG5 := Lib.hid (BG4.out.on hb5)
      have HO5 := Lib.hid hO5
      have HL5v := Lib.hid (HL4v.out.on hb5)
      clear hO5 hb5 b0 b1
      go_wp2_with fail
      refine (same_walk l l pa5 _ ca5 a n c _ rfl HL5.out.len HLN.out (HO5.out.rgs HL5.out.b64).rd HL5.out.rd).mono ?_
      rintro e w8 ⟨he, hb8⟩
      rw [decide_eq_true rfl] at he
      subst he
      have HB8 := Lib.hid (HB5.out.trans (hb8.mono HB5.out.size))
      have HL8v := Lib.hid (HL5v.out.on hb8)
      have HL8 := Lib.hid (HL5.out.on hb8)
      have BG8 := Lib.hid (BG5.out.on hb8)
      clear hb8
      go_wp2_with fail
      refine (may_walkS (addR l r).1 pa4 _ ca4 _ HL8v.out true ⟨fun _ => HM.out, fun _ => rfl⟩).mono ?_
      rintro e w9 ⟨rfl, hb9⟩
      have HB9 := Lib.hid (HB8.out.trans (hb9.mono HB8.out.size))
      have HL9 := Lib.hid (HL8.out.on hb9)
      have BG9 := Lib.hid (BG8.out.on hb9)
      clear hb9 HL5v HL8v HL4v HO4 HO5 HD HM
      have b0 := BG9.out.cell 0 rfl
      have b1 := BG9.out.cell 1 rfl
      go_wp2_with fail
      refine (sub_walk l r a n c _ HL9.out).mono ?_
      rintro e w6 ⟨v6, z6, rfl, hO6, hz6, hb6⟩
      have HB6 := Lib.hid (HB9.out.trans (hb6.mono HB9.out.size))
      have HL6 := Lib.hid (HL9.out.on hb6)
      have BG6 := Lib.hid (BG9.out.on hb6)
      have HO6 := Lib.hid hO6
      obtain ⟨pa6, ca6, rfl, _⟩ := hO6.form
      by_cases hz : (subR l r).2 = 0
      · have hs := pair_eta hz
        have HD := Lib.hid (undo2 hs)
        have HM := Lib.hid (subR_may l r)
        rw [hz] at hz6
        subst hz6
        have HL6v := Lib.hid (HO6.out.set HM.out)
        have b0 := BG6.out.cell 0 rfl
        have b1 := BG6.out.cell 1 rfl
        clear hs hz hO6 hb6
        go_wp2_with fail
        refine (add_walk (subR l r).1 r pa6 _ ca6 _ HL6v.out).mono ?_
        rintro e w7 ⟨v7, z7, rfl, hO7, hz7, hb7⟩
        rw [HD.out] at hO7 hz7
        obtain ⟨pa7, ca7, rfl, _⟩ := hO7.form
        obtain rfl : z7 = 0 := hz7
        have HB7 := Lib.hid (HB6.out.trans (hb7.mono HB6.out.size))
        have HL7 := Lib.hid (HL6.out.on hb7)
        have HO7 := Lib.hid hO7
        have HL7v := Lib.hid (HL6v.out.on hb7)
        clear hO7 hb7 b0 b1
        go_wp2_with fail
        refine (same_walk l l pa7 _ ca7 a n c _ rfl HL7.out.len HLN.out (HO7.out.rgs HL7.out.b64).rd HL7.out.rd).mono ?_
        rintro e w8 ⟨he, hb8⟩
        rw [decide_eq_true rfl] at he
        subst he
        have HB8 := Lib.hid (HB7.out.trans (hb8.mono HB7.out.size))
        have HL8v := Lib.hid (HL7v.out.on hb8)
        clear hb8
        go_wp2_with fail
        refine (may_walkS (subR l r).1 pa6 _ ca6 _ HL8v.out true ⟨fun _ => HM.out, fun _ => rfl⟩).mono ?_
        rintro e w9 ⟨rfl, hb9⟩
        have HB9 := Lib.hid (HB8.out.trans (hb9.mono HB8.out.size))
        clear hb9
        go_wp2
        go_ret
        exact ⟨rfl, HB9.out⟩
      · have g0 : ¬ z6 = 0 := by rw [hz6]; exact hz
        have e0 := subR_err hz
        rw [e0]
        clear hz hz6 hb6 hO6
        go_wp2
        go_ret
        exact ⟨rfl, HB6.out⟩
    · have g0 : ¬ z4 = 0 := by rw [hz4]; exact hz
      clear hz hz4
      go_wp2_with fail
      refine (sub_walk l r a n c _ HL4.out).mono ?_
      rintro e w6 ⟨v6, z6, rfl, hO6, hz6, hb6⟩
      have HB6 := Lib.hid (HB4.out.trans (hb6.mono HB4.out.size))
      have HL6 := Lib.hid (HL4.out.on hb6)
      have BG6 := Lib.hid (BG4.out.on hb6)
      have HO6 := Lib.hid hO6
      obtain ⟨pa6, ca6, rfl, _⟩ := hO6.form
      by_cases hz : (subR l r).2 = 0
      · have hs := pair_eta hz
        have HD := Lib.hid (undo2 hs)
        have HM := Lib.hid (subR_may l r)
        rw [hz] at hz6
        subst hz6
        have HL6v := Lib.hid (HO6.out.set HM.out)
        have b0 := BG6.out.cell 0 rfl
        have b1 := BG6.out.cell 1 rfl
        clear hs hz hO6 hb6
        go_wp2_with fail
        refine (add_walk (subR l r).1 r pa6 _ ca6 _ HL6v.out).mono ?_
        rintro e w7 ⟨v7, z7, rfl, hO7, hz7, hb7⟩
        rw [HD.out] at hO7 hz7
        obtain ⟨pa7, ca7, rfl, _⟩ := hO7.form
        obtain rfl : z7 = 0 := hz7
        have HB7 := Lib.hid (HB6.out.trans (hb7.mono HB6.out.size))
        have HL7 := Lib.hid (HL6.out.on hb7)
        have HO7 := Lib.hid hO7
        have HL7v := Lib.hid (HL6v.out.on hb7)
        clear hO7 hb7 b0 b1
        go_wp2_with fail
        refine (same_walk l l pa7 _ ca7 a n c _ rfl HL7.out.len HLN.out (HO7.out.rgs HL7.out.b64).rd HL7.out.rd).mono ?_
        rintro e w8 ⟨he, hb8⟩
        rw [decide_eq_true rfl] at he
        subst he
        have HB8 := Lib.hid (HB7.out.trans (hb8.mono HB7.out.size))
        have HL8v := Lib.hid (HL7v.out.on hb8)
        clear hb8
        go_wp2_with fail
        refine (may_walkS (subR l r).1 pa6 _ ca6 _ HL8v.out true ⟨fun _ => HM.out, fun _ => rfl⟩).mono ?_
        rintro e w9 ⟨rfl, hb9⟩
        have HB9 := Lib.hid (HB8.out.trans (hb9.mono HB8.out.size))
        clear hb9
        go_wp2
        go_ret
        exact ⟨rfl, HB9.out⟩
      · have g0 : ¬ z6 = 0 := by rw [hz6]; exact hz
        have e0 := subR_err hz
        rw [e0]
        clear hz hz6 hb6 hO6
        go_wp2
        go_ret
        exact ⟨rfl, HB6.out⟩
  · rw [decide_eq_false hf] at he
    subst he
    go_wp2_with fail
    refine (live19_walk _).mono ?_
    rintro e w4 ⟨rfl, hb4⟩
    have HB4 := Lib.hid (HB2.out.trans (hb4.mono HB2.out.size))
    clear hb4
    go_wp2
    go_ret
    exact ⟨rfl, HB4.out⟩
end Go.Proofs.Ytajjbffppkpjpaa
