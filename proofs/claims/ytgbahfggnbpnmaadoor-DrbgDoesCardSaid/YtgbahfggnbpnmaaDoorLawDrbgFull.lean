import Derived.Test.YtgbahfggnbpnmaaDoorDrbgA
/-
  The walk of liverylaw05.DrbgFull.
-/
namespace Go.Proofs.YtgbahfggnbpnmaaDoor
open Go.RowKit
theorem mayE_not {l : List UInt8} {ls : List (List UInt8)} (h : mayE l ls ≠ 0) (hs : ∀ x ∈ ls, x = []) : l.length < 32 ∨ 4096 < l.length := by
  unfold mayE at h
  by_cases h1 : l.length < 32
  · exact .inl h1
  · rw [if_neg h1] at h
    refine .inr (Nat.lt_of_not_le fun h2 => h ?_)
    rw [if_pos]
    simp only [fewOf, List.all_eq_true, decide_eq_true_eq]
    intro x hx
    rcases List.mem_append.1 hx with hx | hx
    · rw [hs x hx]; simp
    · simp only [List.mem_singleton] at hx; rw [hx]; exact h2
theorem mayE_ok {l : List UInt8} {ls : List (List UInt8)} (h1 : 32 ≤ l.length) (h2 : l.length ≤ 4096) (hs : ∀ x ∈ ls, x.length ≤ 4096) : mayE l ls = 0 := by
  unfold mayE
  rw [if_neg (by omega), if_pos]
  simp only [fewOf, List.all_eq_true, decide_eq_true_eq]
  intro x hx
  rcases List.mem_append.1 hx with hx | hx
  · exact hs x hx
  · simp only [List.mem_singleton] at hx; rw [hx]; exact h2
theorem long_walk (l : List UInt8) (a : Option Addr) (n c : Nat) (hn : n = l.length) (w : World) : Calls Tryd.prog 60 #[.slice a n c] w fun e w' => e = .returned (.bool (decide (500 < l.length ∧ l.length ≤ 4096 ∨ 9000 < l.length))) ∧ w = w' := by
  subst hn
  by_cases h1 : 500 < l.length
  · by_cases h2 : l.length ≤ 4096
    · rw [decide_eq_true (.inl ⟨h1, h2⟩)]
      have g1 : (500 : Int) < (l.length : Int) := by omega
      have g2 : (l.length : Int) ≤ 4096 := by omega
      go_enter Tryd.func60, Tryd.ntmps60
      go_wp2
      go_ret
      exact ⟨rfl, rfl⟩
    · by_cases h3 : 9000 < l.length
      · rw [decide_eq_true (.inr h3)]
        have g1 : (500 : Int) < (l.length : Int) := by omega
        have g2 : ¬ (l.length : Int) ≤ 4096 := by omega
        have g3 : (9000 : Int) < (l.length : Int) := by omega
        go_enter Tryd.func60, Tryd.ntmps60
        go_wp2
        go_ret
        exact ⟨rfl, rfl⟩
      · rw [decide_eq_false (by omega)]
        have g1 : (500 : Int) < (l.length : Int) := by omega
        have g2 : ¬ (l.length : Int) ≤ 4096 := by omega
        have g3 : ¬ (9000 : Int) < (l.length : Int) := by omega
        go_enter Tryd.func60, Tryd.ntmps60
        go_wp2
        go_ret
        exact ⟨rfl, rfl⟩
  · rw [decide_eq_false (by omega)]
    have g1 : ¬ (500 : Int) < (l.length : Int) := by omega
    have g3 : ¬ (9000 : Int) < (l.length : Int) := by omega
    go_enter Tryd.func60, Tryd.ntmps60
    go_wp2
    go_ret
    exact ⟨rfl, rfl⟩
set_option maxRecDepth 100000 in
set_option maxHeartbeats 2000000 in
theorem drbgfull_walk (l : List UInt8) (a : Option Addr) (n c : Nat) (ag : Bool) (more : Int) (w : World) (hA : Txt w a n c l) (hT : Two w) :
    Calls Tryd.prog 17 #[.slice a n c, .bool ag, .int .i64 more] w fun e w' => e = .returned (.bool true) ∧ Below w.heap.size w w' := by
  have hn := hA.len
  have HN := Lib.hid hn
  have HA := Lib.hid hA
  have HT := Lib.hid hT
  clear hT hA
  by_cases he : mayE l [[], []] = 0
  · obtain ⟨r1, r2, _⟩ := mayE_len he
    have HE0 := Lib.hid he
    have HE1 := Lib.hid (show mayE l [[]] = 0 from mayE_ok r1 r2 (by simp))
    have g1 : ¬ (n : Int) < 32 := by omega
    have g2 : ¬ (4096 : Int) < (n : Int) := by omega
    clear he hn
    go_enter Tryd.func17, Tryd.ntmps17
    go_wp2_with fail
    refine (dnew_walk l [] [] a none none n c 0 0 0 0 _ HA.out (Txt.nil _ 0) (Txt.nil _ 0) HT.out HE0.out).mono ?_
    rintro e w1 ⟨G, rfl, hG, hD, hb1⟩
    obtain ⟨K1, V1, hD⟩ : ∃ K V, DAt w1 G K V 1 := ⟨_, _, hD⟩
    have HGw := Lib.hid hG
    have HGd := Lib.hid (dtab HT.out hG)
    have HFA := Lib.hid (HA.out.offG hG)
    have HB1 := Lib.hid hb1
    have HD1 := Lib.hid hD
    clear hG hb1 hD
    go_wp2_with fail
    refine (live5_walk w1 (HT.out.on HB1.out)).mono ?_
    rintro e w2 ⟨rfl, hb2⟩
    have HB2 := Lib.hid (HB1.out.trans (hb2.mono HB1.out.size))
    have HD2 := Lib.hid (HD1.out.on hb2)
    clear hb2 HD1 HB1
    by_cases h5 : 500 < l.length
    · go_wp2_with (first | (go_at_call 60; refine (long_walk l a n c HN.out _).mono ?_; rintro e w' ⟨he9, rfl⟩; rw [decide_eq_true (show 500 < l.length ∧ l.length ≤ 4096 ∨ 9000 < l.length from .inl ⟨h5, r2⟩)] at he9; subst he9))
      refine (live5_walk w2 (HT.out.below' HB2.out)).mono ?_
      rintro e w3 ⟨rfl, hb3⟩
      have HB3 := Lib.hid (HB2.out.trans (hb3.mono HB2.out.size))
      clear hb3
      go_wp2
      go_ret
      refine ⟨?_, HB3.out⟩
      show Ending.returned (.bool (!decide ((n : Int) < 32) && !decide ((4096 : Int) < (n : Int)))) = _
      rw [decide_eq_false (show ¬ (n : Int) < 32 by omega), decide_eq_false (show ¬ (4096 : Int) < (n : Int) by omega)]
      rfl
    · cases ag with
      | true =>
        go_wp2_with (first | (go_at_call 60; refine (long_walk l a n c HN.out _).mono ?_; rintro e w' ⟨he9, rfl⟩; rw [decide_eq_false (show ¬ (500 < l.length ∧ l.length ≤ 4096 ∨ 9000 < l.length) by omega)] at he9; subst he9))
        refine (reseed_walk K1 V1 1 G l [] a none n c 0 0 _ HD2.out (HA.out.below HB2.out) (Txt.nil _ 0) HFA.out (fun _ _ e => by cases e) (HT.out.below' HB2.out) HGd.out.1 HGd.out.2 HE1.out).mono ?_
        rintro e w3 ⟨rfl, hg3, hD3⟩
        obtain ⟨K3, V3, hD3⟩ : ∃ K V, DAt w3 G K V 1 := ⟨_, _, hD3⟩
        have HB3 := Lib.hid (HB2.out.trans (below_of_grownBy hg3 HGw.out HB2.out.size))
        have HD3 := Lib.hid hD3
        clear hg3 hD3 HD2 HB2
        go_wp2_with (go_at_call 62; refine (count_at HD3.out).mono ?_; rintro e w' ⟨rfl, rfl⟩)
        go_loopw [62] (fun x wr => ∃ (i : Nat) (K V : List UInt8), i ≤ 1024 ∧ x = .int .i64 (i : Nat) ∧ DAt wr G K V (1 + (i : Int)) ∧ Below w.heap.size w wr) (fun x _ => 1024 - (intOf x).toNat)
        case atStart => exact ⟨0, _, _, by omega, rfl, HD3.out, HB3.out⟩
        case round =>
          obtain ⟨i, K, V, hi, rfl, hD, hb⟩ := hrel
          have HD := Lib.hid hD
          have HBr := Lib.hid hb
          have HTr := Lib.hid (HT.out.below' hb)
          clear hD hb
          by_cases hlt : i < 1024
          · have f1 : IntKind.i64.wrap (1023 - (i : Int)) = 1023 - (i : Int) := IntWalk.i64_in _ (by omega)
            go_wp2_with fail
            refine (draw_walk K V (1 + (i : Int)) G [] none 0 0 0 wr HD.out (Txt.nil _ 0) (fun _ _ e => by cases e) HTr.out HGd.out.1 HGd.out.2 (by omega) (by unfold drawE; rw [if_neg (by omega), if_neg (by simp), if_neg (by omega)])).mono ?_
            rintro e w4 ⟨a4, c4, rfl, _, _, hg4, hD4⟩
            have HB4 := Lib.hid (HBr.out.trans (below_of_grownBy hg4 HGw.out HBr.out.size))
            have HD4 := Lib.hid hD4
            clear hD4 hg4
            go_wp2_with (go_at_call 64; refine (left_at HD4.out (by omega) (by omega)).mono ?_; rintro e w' ⟨he9, rfl⟩; rw [show (1025 : Int) - (1 + (i : Int) + 1) = 1023 - (i : Int) by omega] at he9; subst he9)
            go_roundw
            case rel =>
              have h := HD4.out
              rw [show (1 + (i : Int) + 1) = 1 + ((i + 1 : Nat) : Int) by omega] at h
              exact ⟨i + 1, _, _, by omega, by go_num, h, HB4.out⟩
            case measure => simp [intOf]; omega
          · obtain rfl : i = 1024 := by omega
            have HD' := Lib.hid (show DAt wr G K V 1025 from HD.out)
            clear HD HD3 HB3
            have hbx := below_one' wr (.cells #[.int .u8 1] 5)
            have HD5 := Lib.hid (HD'.out.on hbx)
            have HB5 := Lib.hid (HBr.out.trans (hbx.mono HBr.out.size))
            have HT5 := Lib.hid (HTr.out.on hbx)
            have HA5 := Lib.hid (HA.out.below HB5.out)
            clear hbx HTr HBr
            by_cases q1 : more < 0
            · have HE := Lib.hid (show drawE more 1 1025 = 1 by unfold drawE; rw [if_pos q1])
              have q2 : ¬ 65536 < more := by omega
              go_wp2_with fail
              refine (draw_err K V 1025 G none 7 0 0 _ HD'.out (by decide)).mono ?_
              rintro e w' ⟨he9, rfl⟩
              rw [show drawE 7 0 1025 = 51 by decide] at he9
              subst he9
              go_wp2_with fail
              refine (draw_err K V 1025 G _ more 1 1 _ HD5.out (by rw [HE.out]; omega)).mono ?_
              rintro e w' ⟨he9, rfl⟩
              rw [HE.out] at he9
              subst he9
              go_wp2_with (first | (go_at_call 62; refine (count_at HD5.out).mono ?_; rintro e w' ⟨rfl, rfl⟩) | (go_at_call 64; refine (left_at HD5.out (by omega) (by omega)).mono ?_; rintro e w' ⟨he9, rfl⟩; rw [show (1025 : Int) - 1025 = 0 from rfl] at he9; subst he9))
              refine (reseed_walk K V 1025 G l [] a none n c 0 0 _ HD5.out HA5.out (Txt.nil _ 0) HFA.out (fun _ _ e => by cases e) HT5.out HGd.out.1 HGd.out.2 HE1.out).mono ?_
              rintro e w6 ⟨rfl, hg6, hD6⟩
              have HB6 := Lib.hid (HB5.out.trans (below_of_grownBy hg6 HGw.out HB5.out.size))
              have HD6 := Lib.hid hD6
              clear hD6 hg6
              go_wp2_with (go_at_call 64; refine (left_at HD6.out (by omega) (by omega)).mono ?_; rintro e w' ⟨he9, rfl⟩; rw [show (1025 : Int) - 1 = 1024 from rfl] at he9; subst he9)
              go_ret
              exact ⟨rfl, HB6.out⟩
            · by_cases q2 : 65536 < more
              · have HE := Lib.hid (show drawE more 1 1025 = 3 by unfold drawE; rw [if_neg q1, if_pos (.inl q2)])
                go_wp2_with fail
                refine (draw_err K V 1025 G none 7 0 0 _ HD'.out (by decide)).mono ?_
                rintro e w' ⟨he9, rfl⟩
                rw [show drawE 7 0 1025 = 51 by decide] at he9
                subst he9
                go_wp2_with fail
                refine (draw_err K V 1025 G _ more 1 1 _ HD5.out (by rw [HE.out]; omega)).mono ?_
                rintro e w' ⟨he9, rfl⟩
                rw [HE.out] at he9
                subst he9
                go_wp2_with (first | (go_at_call 62; refine (count_at HD5.out).mono ?_; rintro e w' ⟨rfl, rfl⟩) | (go_at_call 64; refine (left_at HD5.out (by omega) (by omega)).mono ?_; rintro e w' ⟨he9, rfl⟩; rw [show (1025 : Int) - 1025 = 0 from rfl] at he9; subst he9))
                refine (reseed_walk K V 1025 G l [] a none n c 0 0 _ HD5.out HA5.out (Txt.nil _ 0) HFA.out (fun _ _ e => by cases e) HT5.out HGd.out.1 HGd.out.2 HE1.out).mono ?_
                rintro e w6 ⟨rfl, hg6, hD6⟩
                have HB6 := Lib.hid (HB5.out.trans (below_of_grownBy hg6 HGw.out HB5.out.size))
                have HD6 := Lib.hid hD6
                clear hD6 hg6
                go_wp2_with (go_at_call 64; refine (left_at HD6.out (by omega) (by omega)).mono ?_; rintro e w' ⟨he9, rfl⟩; rw [show (1025 : Int) - 1 = 1024 from rfl] at he9; subst he9)
                go_ret
                exact ⟨rfl, HB6.out⟩
              · have HE := Lib.hid (show drawE more 1 1025 = 51 by unfold drawE; rw [if_neg q1, if_neg (by omega), if_pos (by omega)])
                go_wp2_with fail
                refine (draw_err K V 1025 G none 7 0 0 _ HD'.out (by decide)).mono ?_
                rintro e w' ⟨he9, rfl⟩
                rw [show drawE 7 0 1025 = 51 by decide] at he9
                subst he9
                go_wp2_with fail
                refine (draw_err K V 1025 G _ more 1 1 _ HD5.out (by rw [HE.out]; omega)).mono ?_
                rintro e w' ⟨he9, rfl⟩
                rw [HE.out] at he9
                subst he9
                go_wp2_with (first | (go_at_call 62; refine (count_at HD5.out).mono ?_; rintro e w' ⟨rfl, rfl⟩) | (go_at_call 64; refine (left_at HD5.out (by omega) (by omega)).mono ?_; rintro e w' ⟨he9, rfl⟩; rw [show (1025 : Int) - 1025 = 0 from rfl] at he9; subst he9))
                refine (reseed_walk K V 1025 G l [] a none n c 0 0 _ HD5.out HA5.out (Txt.nil _ 0) HFA.out (fun _ _ e => by cases e) HT5.out HGd.out.1 HGd.out.2 HE1.out).mono ?_
                rintro e w6 ⟨rfl, hg6, hD6⟩
                have HB6 := Lib.hid (HB5.out.trans (below_of_grownBy hg6 HGw.out HB5.out.size))
                have HD6 := Lib.hid hD6
                clear hD6 hg6
                go_wp2_with (go_at_call 64; refine (left_at HD6.out (by omega) (by omega)).mono ?_; rintro e w' ⟨he9, rfl⟩; rw [show (1025 : Int) - 1 = 1024 from rfl] at he9; subst he9)
                go_ret
                exact ⟨rfl, HB6.out⟩
      | false =>
        have HD3 := HD2
        have HB3 := HB2
        clear HD2 HB2
        go_wp2_with (first | (go_at_call 60; refine (long_walk l a n c HN.out _).mono ?_; rintro e w' ⟨he9, rfl⟩; rw [decide_eq_false (show ¬ (500 < l.length ∧ l.length ≤ 4096 ∨ 9000 < l.length) by omega)] at he9; subst he9))
        go_loopw [62] (fun x wr => ∃ (i : Nat) (K V : List UInt8), i ≤ 1024 ∧ x = .int .i64 (i : Nat) ∧ DAt wr G K V (1 + (i : Int)) ∧ Below w.heap.size w wr) (fun x _ => 1024 - (intOf x).toNat)
        case atStart => exact ⟨0, _, _, by omega, rfl, HD3.out, HB3.out⟩
        case round =>
          obtain ⟨i, K, V, hi, rfl, hD, hb⟩ := hrel
          have HD := Lib.hid hD
          have HBr := Lib.hid hb
          have HTr := Lib.hid (HT.out.below' hb)
          clear hD hb
          by_cases hlt : i < 1024
          · have f1 : IntKind.i64.wrap (1023 - (i : Int)) = 1023 - (i : Int) := IntWalk.i64_in _ (by omega)
            go_wp2_with fail
            refine (draw_walk K V (1 + (i : Int)) G [] none 0 0 0 wr HD.out (Txt.nil _ 0) (fun _ _ e => by cases e) HTr.out HGd.out.1 HGd.out.2 (by omega) (by unfold drawE; rw [if_neg (by omega), if_neg (by simp), if_neg (by omega)])).mono ?_
            rintro e w4 ⟨a4, c4, rfl, _, _, hg4, hD4⟩
            have HB4 := Lib.hid (HBr.out.trans (below_of_grownBy hg4 HGw.out HBr.out.size))
            have HD4 := Lib.hid hD4
            clear hD4 hg4
            go_wp2_with (go_at_call 64; refine (left_at HD4.out (by omega) (by omega)).mono ?_; rintro e w' ⟨he9, rfl⟩; rw [show (1025 : Int) - (1 + (i : Int) + 1) = 1023 - (i : Int) by omega] at he9; subst he9)
            go_roundw
            case rel =>
              have h := HD4.out
              rw [show (1 + (i : Int) + 1) = 1 + ((i + 1 : Nat) : Int) by omega] at h
              exact ⟨i + 1, _, _, by omega, by go_num, h, HB4.out⟩
            case measure => simp [intOf]; omega
          · obtain rfl : i = 1024 := by omega
            have HD' := Lib.hid (show DAt wr G K V 1025 from HD.out)
            clear HD HD3 HB3
            have hbx := below_one' wr (.cells #[.int .u8 1] 5)
            have HD5 := Lib.hid (HD'.out.on hbx)
            have HB5 := Lib.hid (HBr.out.trans (hbx.mono HBr.out.size))
            have HT5 := Lib.hid (HTr.out.on hbx)
            have HA5 := Lib.hid (HA.out.below HB5.out)
            clear hbx HTr HBr
            by_cases q1 : more < 0
            · have HE := Lib.hid (show drawE more 1 1025 = 1 by unfold drawE; rw [if_pos q1])
              have q2 : ¬ 65536 < more := by omega
              go_wp2_with fail
              refine (draw_err K V 1025 G none 7 0 0 _ HD'.out (by decide)).mono ?_
              rintro e w' ⟨he9, rfl⟩
              rw [show drawE 7 0 1025 = 51 by decide] at he9
              subst he9
              go_wp2_with fail
              refine (draw_err K V 1025 G _ more 1 1 _ HD5.out (by rw [HE.out]; omega)).mono ?_
              rintro e w' ⟨he9, rfl⟩
              rw [HE.out] at he9
              subst he9
              go_wp2_with (first | (go_at_call 62; refine (count_at HD5.out).mono ?_; rintro e w' ⟨rfl, rfl⟩) | (go_at_call 64; refine (left_at HD5.out (by omega) (by omega)).mono ?_; rintro e w' ⟨he9, rfl⟩; rw [show (1025 : Int) - 1025 = 0 from rfl] at he9; subst he9))
              refine (reseed_walk K V 1025 G l [] a none n c 0 0 _ HD5.out HA5.out (Txt.nil _ 0) HFA.out (fun _ _ e => by cases e) HT5.out HGd.out.1 HGd.out.2 HE1.out).mono ?_
              rintro e w6 ⟨rfl, hg6, hD6⟩
              have HB6 := Lib.hid (HB5.out.trans (below_of_grownBy hg6 HGw.out HB5.out.size))
              have HD6 := Lib.hid hD6
              clear hD6 hg6
              go_wp2_with (go_at_call 64; refine (left_at HD6.out (by omega) (by omega)).mono ?_; rintro e w' ⟨he9, rfl⟩; rw [show (1025 : Int) - 1 = 1024 from rfl] at he9; subst he9)
              go_ret
              exact ⟨rfl, HB6.out⟩
            · by_cases q2 : 65536 < more
              · have HE := Lib.hid (show drawE more 1 1025 = 3 by unfold drawE; rw [if_neg q1, if_pos (.inl q2)])
                go_wp2_with fail
                refine (draw_err K V 1025 G none 7 0 0 _ HD'.out (by decide)).mono ?_
                rintro e w' ⟨he9, rfl⟩
                rw [show drawE 7 0 1025 = 51 by decide] at he9
                subst he9
                go_wp2_with fail
                refine (draw_err K V 1025 G _ more 1 1 _ HD5.out (by rw [HE.out]; omega)).mono ?_
                rintro e w' ⟨he9, rfl⟩
                rw [HE.out] at he9
                subst he9
                go_wp2_with (first | (go_at_call 62; refine (count_at HD5.out).mono ?_; rintro e w' ⟨rfl, rfl⟩) | (go_at_call 64; refine (left_at HD5.out (by omega) (by omega)).mono ?_; rintro e w' ⟨he9, rfl⟩; rw [show (1025 : Int) - 1025 = 0 from rfl] at he9; subst he9))
                refine (reseed_walk K V 1025 G l [] a none n c 0 0 _ HD5.out HA5.out (Txt.nil _ 0) HFA.out (fun _ _ e => by cases e) HT5.out HGd.out.1 HGd.out.2 HE1.out).mono ?_
                rintro e w6 ⟨rfl, hg6, hD6⟩
                have HB6 := Lib.hid (HB5.out.trans (below_of_grownBy hg6 HGw.out HB5.out.size))
                have HD6 := Lib.hid hD6
                clear hD6 hg6
                go_wp2_with (go_at_call 64; refine (left_at HD6.out (by omega) (by omega)).mono ?_; rintro e w' ⟨he9, rfl⟩; rw [show (1025 : Int) - 1 = 1024 from rfl] at he9; subst he9)
                go_ret
                exact ⟨rfl, HB6.out⟩
              · have HE := Lib.hid (show drawE more 1 1025 = 51 by unfold drawE; rw [if_neg q1, if_neg (by omega), if_pos (by omega)])
                go_wp2_with fail
                refine (draw_err K V 1025 G none 7 0 0 _ HD'.out (by decide)).mono ?_
                rintro e w' ⟨he9, rfl⟩
                rw [show drawE 7 0 1025 = 51 by decide] at he9
                subst he9
                go_wp2_with fail
                refine (draw_err K V 1025 G _ more 1 1 _ HD5.out (by rw [HE.out]; omega)).mono ?_
                rintro e w' ⟨he9, rfl⟩
                rw [HE.out] at he9
                subst he9
                go_wp2_with (first | (go_at_call 62; refine (count_at HD5.out).mono ?_; rintro e w' ⟨rfl, rfl⟩) | (go_at_call 64; refine (left_at HD5.out (by omega) (by omega)).mono ?_; rintro e w' ⟨he9, rfl⟩; rw [show (1025 : Int) - 1025 = 0 from rfl] at he9; subst he9))
                refine (reseed_walk K V 1025 G l [] a none n c 0 0 _ HD5.out HA5.out (Txt.nil _ 0) HFA.out (fun _ _ e => by cases e) HT5.out HGd.out.1 HGd.out.2 HE1.out).mono ?_
                rintro e w6 ⟨rfl, hg6, hD6⟩
                have HB6 := Lib.hid (HB5.out.trans (below_of_grownBy hg6 HGw.out HB5.out.size))
                have HD6 := Lib.hid hD6
                clear hD6 hg6
                go_wp2_with (go_at_call 64; refine (left_at HD6.out (by omega) (by omega)).mono ?_; rintro e w' ⟨he9, rfl⟩; rw [show (1025 : Int) - 1 = 1024 from rfl] at he9; subst he9)
                go_ret
                exact ⟨rfl, HB6.out⟩
  · have hq := mayE_not he (by simp)
    obtain ⟨er, her⟩ : ∃ z, z = mayE l [[], []] := ⟨_, rfl⟩
    have HER := Lib.hid her
    have hne : ¬ er = 0 := by rw [her]; exact he
    have HE := Lib.hid he
    clear he her
    by_cases h32 : l.length < 32
    · have g1 : (n : Int) < 32 := by omega
      clear hq hn
      go_enter Tryd.func17, Tryd.ntmps17
      go_wp2_with fail
      refine (dnew_err l [] [] a none none n c 0 0 0 0 _ HA.out (Txt.nil _ 0) (Txt.nil _ 0) HE.out).mono ?_
      rintro e w1 ⟨he1, hb1⟩
      rw [← HER.out] at he1
      subst he1
      have HB1 := Lib.hid hb1
      clear hb1
      go_wp2_with fail
      refine (live5_walk w1 (HT.out.on HB1.out)).mono ?_
      rintro e w2 ⟨rfl, hb2⟩
      have HB2 := Lib.hid (HB1.out.trans (hb2.mono HB1.out.size))
      clear hb2 HB1
      go_wp2_with fail
      refine (live5_walk w2 (HT.out.below' HB2.out)).mono ?_
      rintro e w3 ⟨rfl, hb3⟩
      have HB3 := Lib.hid (HB2.out.trans (hb3.mono HB2.out.size))
      clear hb3
      go_wp2
      go_ret
      refine ⟨?_, HB3.out⟩
      show Ending.returned (.bool (er != 0)) = _
      rw [show (er != 0) = true by simpa using hne]
    · have g1 : ¬ (n : Int) < 32 := by omega
      have g2 : (4096 : Int) < (n : Int) := by omega
      clear hq hn
      go_enter Tryd.func17, Tryd.ntmps17
      go_wp2_with fail
      refine (dnew_err l [] [] a none none n c 0 0 0 0 _ HA.out (Txt.nil _ 0) (Txt.nil _ 0) HE.out).mono ?_
      rintro e w1 ⟨he1, hb1⟩
      rw [← HER.out] at he1
      subst he1
      have HB1 := Lib.hid hb1
      clear hb1
      go_wp2_with fail
      refine (live5_walk w1 (HT.out.on HB1.out)).mono ?_
      rintro e w2 ⟨rfl, hb2⟩
      have HB2 := Lib.hid (HB1.out.trans (hb2.mono HB1.out.size))
      clear hb2 HB1
      go_wp2_with fail
      refine (live5_walk w2 (HT.out.below' HB2.out)).mono ?_
      rintro e w3 ⟨rfl, hb3⟩
      have HB3 := Lib.hid (HB2.out.trans (hb3.mono HB2.out.size))
      clear hb3
      go_wp2
      go_ret
      refine ⟨?_, HB3.out⟩
      show Ending.returned (.bool (er != 0)) = _
      rw [show (er != 0) = true by simpa using hne]
end Go.Proofs.YtgbahfggnbpnmaaDoor
