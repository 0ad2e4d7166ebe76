import Derived.Test.YtajjbffppkpjpaaSpanD2
/-
  The walk of liverylaw19.SpanTakes.
-/
namespace Go.Proofs.Ytajjbffppkpjpaa
open Go.RowKit
theorem cutR_may (l : List Rg) (m : Nat) : MayP (cutR l m).1 ∧ MayP (cutR l m).2 := by
  unfold cutR
  by_cases h : MayP l
  · rw [if_pos h]; exact ⟨below_hi h m, above_hi h m⟩
  · rw [if_neg h]; exact ⟨mayP_nil, mayP_nil⟩
set_option maxRecDepth 100000 in
set_option maxHeartbeats 2000000 in
theorem spantakes_walk (l : List Rg) (m : Nat) (hm : m < 18446744073709551616) (z : Int) (a : Option Addr) (n c : Nat) (w : World) (hL : RgsIn w a n c l) :
    Calls Try.prog 10 #[.slice a n c, .int .u64 (m : Nat), .int .i64 z] w fun e w' => e = .returned (.bool true) ∧ Below w.heap.size w w' := by
  have HL := Lib.hid hL
  have Hm := Lib.hid hm
  obtain ⟨tk, htk⟩ : ∃ t, t = takeR l m := ⟨_, rfl⟩
  obtain ⟨bk, hbk⟩ : ∃ t, t = blockR l z := ⟨_, rfl⟩
  have HTK := Lib.hid htk
  have HBK := Lib.hid hbk
  have HM1 := Lib.hid (cutR_may l m).1
  have HM2 := Lib.hid (cutR_may l m).2
  clear hL hm htk hbk
  go_enter Try.func10, Try.ntmps10
  go_wp2_with fail
  refine (live19_walk _).mono ?_
  rintro e w1 ⟨rfl, hb2⟩
  have HB2 := Lib.hid hb2
  have HL2 := Lib.hid (HL.out.on hb2)
  clear hb2 HL
  go_wp2_with fail
  refine (few19_walk a n c _).mono ?_
  rintro e w2 ⟨he, rfl⟩
  by_cases hf : n ≤ 300
  · rw [decide_eq_true hf] at he
    subst he
    clear hf
    go_wp2_with fail
    refine (take_walk l m Hm.out a n c _ HL2.out).mono ?_
    rintro e w4 ⟨rfl, hb4⟩
    rw [← HTK.out]
    have HB4 := Lib.hid (HB2.out.trans (hb4.mono HB2.out.size))
    have HL4 := Lib.hid (HL2.out.on hb4)
    clear hb4
    have hb := below_one1 w4 (.cells #[.int .u64 (tk.1.lo : Nat), .int .u64 (tk.1.hi : Nat)] 25)
    have HBx4 := Lib.hid (HB4.out.trans (hb.mono HB4.out.size))
    have HLx4 := Lib.hid (HL4.out.on hb)
    have X1 := Lib.hid (Blk.new w4 #[.int .u64 (tk.1.lo : Nat), .int .u64 (tk.1.hi : Nat)] 25)
    clear hb
    go_wp2_with fail
    refine (rtake_walk l m Hm.out a n c _ HLx4.out).mono ?_
    rintro e w5 ⟨rfl, hb5⟩
    rw [← HTK.out]
    have HB5 := Lib.hid (HBx4.out.trans (hb5.mono HBx4.out.size))
    have HL5 := Lib.hid (HLx4.out.on hb5)
    have X1 := Lib.hid (X1.out.on hb5)
    clear hb5
    have hb := below_one1 w5 (.cells #[.int .u64 (tk.1.lo : Nat), .int .u64 (tk.1.hi : Nat)] 25)
    have HBx5 := Lib.hid (HB5.out.trans (hb.mono HB5.out.size))
    have HLx5 := Lib.hid (HL5.out.on hb)
    have X2 := Lib.hid (Blk.new w5 #[.int .u64 (tk.1.lo : Nat), .int .u64 (tk.1.hi : Nat)] 25)
    have X1 := Lib.hid (X1.out.on hb)
    clear hb
    go_wp2_with fail
    refine (block_walk l z a n c _ HLx5.out).mono ?_
    rintro e w6 ⟨rfl, hb6⟩
    rw [← HBK.out]
    have HB6 := Lib.hid (HBx5.out.trans (hb6.mono HBx5.out.size))
    have HL6 := Lib.hid (HLx5.out.on hb6)
    have X1 := Lib.hid (X1.out.on hb6)
    have X2 := Lib.hid (X2.out.on hb6)
    clear hb6
    have hb := below_one1 w6 (.cells #[.int .u64 (bk.1.lo : Nat), .int .u64 (bk.1.hi : Nat)] 25)
    have HBx6 := Lib.hid (HB6.out.trans (hb.mono HB6.out.size))
    have HLx6 := Lib.hid (HL6.out.on hb)
    have X3 := Lib.hid (Blk.new w6 #[.int .u64 (bk.1.lo : Nat), .int .u64 (bk.1.hi : Nat)] 25)
    have X1 := Lib.hid (X1.out.on hb)
    have X2 := Lib.hid (X2.out.on hb)
    clear hb
    go_wp2_with fail
    refine (rblock_walk l z a n c _ HLx6.out).mono ?_
    rintro e w7 ⟨rfl, hb7⟩
    rw [← HBK.out]
    have HB7 := Lib.hid (HBx6.out.trans (hb7.mono HBx6.out.size))
    have HL7 := Lib.hid (HLx6.out.on hb7)
    have X1 := Lib.hid (X1.out.on hb7)
    have X2 := Lib.hid (X2.out.on hb7)
    have X3 := Lib.hid (X3.out.on hb7)
    clear hb7
    have hb := below_one1 w7 (.cells #[.int .u64 (bk.1.lo : Nat), .int .u64 (bk.1.hi : Nat)] 25)
    have HBx7 := Lib.hid (HB7.out.trans (hb.mono HB7.out.size))
    have HLx7 := Lib.hid (HL7.out.on hb)
    have X4 := Lib.hid (Blk.new w7 #[.int .u64 (bk.1.lo : Nat), .int .u64 (bk.1.hi : Nat)] 25)
    have X1 := Lib.hid (X1.out.on hb)
    have X2 := Lib.hid (X2.out.on hb)
    have X3 := Lib.hid (X3.out.on hb)
    clear hb
    go_wp2_with fail
    refine (cut_walk l m a n c _ HLx7.out).mono ?_
    rintro e w8 ⟨v8, u8, rfl, hV, hU, hb8⟩
    obtain ⟨pv, cv, rfl, _⟩ := hV.form
    obtain ⟨pu, cu, rfl, _⟩ := hU.form
    have HB8 := Lib.hid (HBx7.out.trans (hb8.mono HBx7.out.size))
    have HL8 := Lib.hid (HLx7.out.on hb8)
    have HV := Lib.hid (hV.set HM1.out)
    have HU := Lib.hid (hU.set HM2.out)
    have X1 := Lib.hid (X1.out.on hb8)
    have X2 := Lib.hid (X2.out.on hb8)
    have X3 := Lib.hid (X3.out.on hb8)
    have X4 := Lib.hid (X4.out.on hb8)
    clear hV hU hb8
    go_wp2_with fail
    refine (rcut_walk l m Hm.out a n c _ HL8.out).mono ?_
    rintro e w9 ⟨v9, u9, rfl, hV, hU, hb9⟩
    obtain ⟨qv, dv, rfl, _⟩ := hV.form
    obtain ⟨qu, du, rfl, _⟩ := hU.form
    have HB9 := Lib.hid (HB8.out.trans (hb9.mono HB8.out.size))
    have HV9 := Lib.hid (HV.out.on hb9)
    have HU9 := Lib.hid (HU.out.on hb9)
    have GV9 := Lib.hid (hV.set HM1.out)
    have GU9 := Lib.hid (hU.set HM2.out)
    have X1 := Lib.hid (X1.out.on hb9)
    have X2 := Lib.hid (X2.out.on hb9)
    have X3 := Lib.hid (X3.out.on hb9)
    have X4 := Lib.hid (X4.out.on hb9)
    clear hV hU hb9 HV HU
    have c10 := X1.out.cell 0 rfl
    have c11 := X1.out.cell 1 rfl
    have c20 := X2.out.cell 0 rfl
    have c21 := X2.out.cell 1 rfl
    have c30 := X3.out.cell 0 rfl
    have c31 := X3.out.cell 1 rfl
    have c40 := X4.out.cell 0 rfl
    have c41 := X4.out.cell 1 rfl
    go_wp2_with fail
    refine (same_walk (cutR l m).1 (cutR l m).1 _ _ _ _ _ _ _ HV9.out.len GV9.out.len (by have := HM1.out.2.2; omega) HV9.out.rd GV9.out.rd).mono ?_
    rintro e w10 ⟨he, hb10⟩
    rw [decide_eq_true rfl] at he
    subst he
    have HB10 := Lib.hid (HB9.out.trans (hb10.mono HB9.out.size))
    have HU10 := Lib.hid (HU9.out.on hb10)
    have GU10 := Lib.hid (GU9.out.on hb10)
    clear hb10 c10 c11 c20 c21 c30 c31 c40 c41
    go_wp2_with fail
    refine (same_walk (cutR l m).2 (cutR l m).2 _ _ _ _ _ _ _ HU10.out.len GU10.out.len (by have := HM2.out.2.2; omega) HU10.out.rd GU10.out.rd).mono ?_
    rintro e w11 ⟨he, hb11⟩
    rw [decide_eq_true rfl] at he
    subst he
    have HB11 := Lib.hid (HB10.out.trans (hb11.mono HB10.out.size))
    clear hb11
    go_wp2
    go_ret
    exact ⟨rfl, HB11.out⟩
  · rw [decide_eq_false hf] at he
    subst he
    go_wp2_with fail
    refine (live19_walk _).mono ?_
    rintro e w4 ⟨rfl, hb4⟩
    have HB4 := Lib.hid (HB2.out.trans (hb4.mono HB2.out.size))
    clear hb4
    go_wp2
    go_ret
    exact ⟨rfl, HB4.out⟩
end Go.Proofs.Ytajjbffppkpjpaa
