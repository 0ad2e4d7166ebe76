import Derived.Test.YtajjbffppkpjpaaSpanD2
/-
  The walk of liverylaw19.SpanAdds.
-/
namespace Go.Proofs.Ytajjbffppkpjpaa
open Go.RowKit
set_option maxRecDepth 100000 in
set_option maxHeartbeats 2000000 in
theorem spanadds_walk (l : List Rg) (r : Rg) (hr64 : b64r r) (a : Option Addr) (n c : Nat) (w : World) (hL : RgsIn w a n c l) :
    Calls Try.prog 12 #[.slice a n c, rag r] w fun e w' => e = .returned (.bool true) ∧ Below w.heap.size w w' := by
  have hb := below_one1 w (.cells (rcb r) 25)
  have HL := Lib.hid (hL.on hb)
  have BG := Lib.hid (Blk.new w (rcb r) 25)
  have HB := Lib.hid hb
  have HR64 := Lib.hid hr64
  clear hL hb hr64
  go_enter Try.func12, Try.ntmps12
  go_wp2_with fail
  refine (live19_walk _).mono ?_
  rintro e w1 ⟨rfl, hb2⟩
  have HB2 := Lib.hid (HB.out.trans (hb2.mono HB.out.size))
  have HL2 := Lib.hid (HL.out.on hb2)
  have BG2 := Lib.hid (BG.out.on hb2)
  clear hb2 HL BG HB
  go_wp2_with fail
  refine (few19_walk a n c _).mono ?_
  rintro e w2 ⟨he, rfl⟩
  by_cases hf : n ≤ 300
  · rw [decide_eq_true hf] at he
    subst he
    have HLN := Lib.hid (show ([] : List Rg).length + l.length ≤ 1000000000000 by have := HL2.out.len; simp; omega)
    have H300 := Lib.hid (show l.length ≤ 9223372036854775807 by have := HL2.out.len; omega)
    have hbe := below_one1 w2 (.cells #[] 25)
    have HE := Lib.hid (OwnR.empty w2 (lo := w2.heap.size) (Nat.le_refl _))
    have HBE := Lib.hid hbe
    have HLE := Lib.hid (HL2.out.on hbe)
    clear hbe hf
    go_wp2_with (refine wpList_append_rgs rfl (.tmp 22) (.tmp 23) (by rfl) w2.heap.size _ [] (by rfl) HE.out _ _ _ l (by rfl) HLE.out.len HLE.out.rd HLN.out HBE.out.size ?_; intro a3 n3 c3 w3 hO hg; have HB3 := Lib.hid (HB2.out.trans ((below_ownR HBE.out HE.out HBE.out.size hg).mono HB2.out.size)); have HL3 := Lib.hid (HL2.out.on (below_ownR HBE.out HE.out HBE.out.size hg)); have HOW := Lib.hid hO; have BG3 := Lib.hid (BG2.out.on (below_ownR HBE.out HE.out HBE.out.size hg)); have b0 := BG3.out.cell 0 rfl; have b1 := BG3.out.cell 1 rfl; clear hO hg)
    obtain ⟨po, co, eo, _⟩ := HOW.out.form
    simp only [Value.slice.injEq] at eo
    obtain ⟨rfl, rfl, rfl⟩ := eo
    simp only [List.nil_append] at *
    have HOS3 := Lib.hid (HOW.out.rgs HL2.out.b64)
    go_wp2_with fail
    refine (add_walk l r a3 _ c3 _ HOS3.out).mono ?_
    rintro e w4 ⟨v4, z4, rfl, hO, rfl, hb4⟩
    have HB4 := Lib.hid (HB3.out.trans (hb4.mono HB3.out.size))
    have HL4 := Lib.hid (HL3.out.on hb4)
    have BG4 := Lib.hid (BG3.out.on hb4)
    have HOS4 := Lib.hid (HOS3.out.on hb4)
    obtain ⟨p4, k4, rfl, _⟩ := hO.form
    have HV4 := Lib.hid (hO.set (addR_may l r))
    clear b0 b1
    have b0 := BG4.out.cell 0 rfl
    have b1 := BG4.out.cell 1 rfl
    clear hb4 hO
    go_wp2_with fail
    refine (radd_walk l r HR64.out a n c _ HL4.out).mono ?_
    rintro e w5 ⟨v5, z5, rfl, hO, rfl, hb5⟩
    have HB5 := Lib.hid (HB4.out.trans (hb5.mono HB4.out.size))
    have HL5 := Lib.hid (HL4.out.on hb5)
    have BG5 := Lib.hid (BG4.out.on hb5)
    have HOS5 := Lib.hid (HOS4.out.on hb5)
    obtain ⟨p5, k5, rfl, _⟩ := hO.form
    have HV5 := Lib.hid (hO.set (addR_may l r))
    clear b0 b1
    have b0 := BG5.out.cell 0 rfl
    have b1 := BG5.out.cell 1 rfl
    have HV4 := Lib.hid (HV4.out.on hb5)
    clear hb5 hO
    go_wp2_with fail
    refine (sub_walk l r a3 _ c3 _ HOS5.out).mono ?_
    rintro e w6 ⟨v6, z6, rfl, hO, rfl, hb6⟩
    have HB6 := Lib.hid (HB5.out.trans (hb6.mono HB5.out.size))
    have HL6 := Lib.hid (HL5.out.on hb6)
    have BG6 := Lib.hid (BG5.out.on hb6)
    have HOS6 := Lib.hid (HOS5.out.on hb6)
    obtain ⟨p6, k6, rfl, _⟩ := hO.form
    have HV6 := Lib.hid (hO.set (subR_may l r))
    clear b0 b1
    have b0 := BG6.out.cell 0 rfl
    have b1 := BG6.out.cell 1 rfl
    have HV4 := Lib.hid (HV4.out.on hb6)
    have HV5 := Lib.hid (HV5.out.on hb6)
    clear hb6 hO
    go_wp2_with fail
    refine (rsub_walk l r HR64.out a n c _ HL6.out).mono ?_
    rintro e w7 ⟨v7, z7, rfl, hO, rfl, hb7⟩
    have HB7 := Lib.hid (HB6.out.trans (hb7.mono HB6.out.size))
    have HL7 := Lib.hid (HL6.out.on hb7)
    have BG7 := Lib.hid (BG6.out.on hb7)
    have HOS7 := Lib.hid (HOS6.out.on hb7)
    obtain ⟨p7, k7, rfl, _⟩ := hO.form
    have HV7 := Lib.hid (hO.set (subR_may l r))
    clear b0 b1
    have b0 := BG7.out.cell 0 rfl
    have b1 := BG7.out.cell 1 rfl
    have HV4 := Lib.hid (HV4.out.on hb7)
    have HV5 := Lib.hid (HV5.out.on hb7)
    have HV6 := Lib.hid (HV6.out.on hb7)
    clear hb7 hO
    go_wp2_with fail
    refine (same_walk (addR l r).1 (addR l r).1 _ _ _ _ _ _ _ HV4.out.len HV5.out.len (by have := HV4.out.len; have := H300.out; first | omega | (have := addR_may l r; have := this.2.2; omega) | (have := subR_may l r; have := this.2.2; omega)) HV4.out.rd HV5.out.rd).mono ?_
    rintro e w8 ⟨he, hb8⟩
    rw [decide_eq_true rfl] at he
    subst he
    have HB8 := Lib.hid (HB7.out.trans (hb8.mono HB7.out.size))
    have HV6 := Lib.hid (HV6.out.on hb8)
    have HV7 := Lib.hid (HV7.out.on hb8)
    have HOS7 := Lib.hid (HOS7.out.on hb8)
    have HL7 := Lib.hid (HL7.out.on hb8)
    clear hb8
    go_wp2_with fail
    refine (same_walk (subR l r).1 (subR l r).1 _ _ _ _ _ _ _ HV6.out.len HV7.out.len (by have := HV6.out.len; have := H300.out; first | omega | (have := addR_may l r; have := this.2.2; omega) | (have := subR_may l r; have := this.2.2; omega)) HV6.out.rd HV7.out.rd).mono ?_
    rintro e w9 ⟨he, hb9⟩
    rw [decide_eq_true rfl] at he
    subst he
    have HB9 := Lib.hid (HB8.out.trans (hb9.mono HB8.out.size))
    have HOS7 := Lib.hid (HOS7.out.on hb9)
    have HL7 := Lib.hid (HL7.out.on hb9)
    clear hb9
    go_wp2_with fail
    refine (same_walk l l _ _ _ _ _ _ _ HOS7.out.len HL7.out.len (by have := HOS7.out.len; have := H300.out; first | omega | (have := addR_may l r; have := this.2.2; omega) | (have := subR_may l r; have := this.2.2; omega)) HOS7.out.rd HL7.out.rd).mono ?_
    rintro e w10 ⟨he, hb10⟩
    rw [decide_eq_true rfl] at he
    subst he
    have HB10 := Lib.hid (HB9.out.trans (hb10.mono HB9.out.size))

    clear hb10
    go_wp2
    go_ret
    exact ⟨rfl, HB10.out⟩
  · rw [decide_eq_false hf] at he
    subst he
    go_wp2_with fail
    refine (live19_walk _).mono ?_
    rintro e w4 ⟨rfl, hb4⟩
    have HB4 := Lib.hid (HB2.out.trans (hb4.mono HB2.out.size))
    clear hb4
    go_wp2
    go_ret
    exact ⟨rfl, HB4.out⟩
end Go.Proofs.Ytajjbffppkpjpaa
