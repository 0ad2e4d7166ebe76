import Derived.Test.YtajjbffppkpjpaaSpanD2
/-
  The walk of liverylaw19.SpanNorms.
-/
namespace Go.Proofs.Ytajjbffppkpjpaa
open Go.RowKit
/-- What the stored elements of an own slice allow. -/
def Writable (w : World) (a : Option Addr) (n : Nat) : Prop := ∀ g o, a = some ⟨g, o, none⟩ → o = 0 ∧ ∃ cur, Blk w g cur 25 ∧ n * 2 ≤ cur.size
theorem OwnR.writable {w : World} {lo n c : Nat} {a : Option Addr} {l : List Rg} (h : OwnR w lo (.slice a n c) l) : Writable w a l.length := fun g o e => by
  subst e
  rcases h.2 with ⟨e, _⟩ | ⟨g', cap, cur, e, h2, h3, h4, h5, h6, h7⟩
  · cases e
  · simp only [Value.slice.injEq, Option.some.injEq, Addr.mk.injEq] at e
    obtain ⟨⟨rfl, rfl, _⟩, rfl, rfl⟩ := e
    have h7l := congrArg List.length h7
    rw [rcs_len, List.length_take] at h7l
    exact ⟨rfl, cur, h3, by simp only [Array.length_toList] at h7l; omega⟩
theorem OwnR.past {w w' : World} {lo : Nat} {u v : Value} {l : List Rg} (h : OwnR w lo v l) (hg : w.grownBy w' u.ownBlock) (hu : ∀ k, u.ownBlock = some k → k < lo) : OwnR w' lo v l := by
  refine h.grown hg ?_
  cases hk : v.ownBlock with
  | none => exact .inl rfl
  | some k => exact .inr (fun e => Nat.lt_irrefl _ (Nat.lt_of_lt_of_le (hu k e.symm) (h.lt k hk).1))
set_option maxRecDepth 100000 in
set_option maxHeartbeats 2000000 in
theorem spannorms_walk (l : List Rg) (f m : Nat) (hf : f < 18446744073709551616) (hm : m < 18446744073709551616) (a : Option Addr) (n c : Nat) (w : World) (hL : RgsIn w a n c l) :
    Calls Try.prog 11 #[.slice a n c, .int .u64 (f : Nat), .int .u64 (m : Nat)] w fun e w' => e = .returned (.bool true) ∧ Below w.heap.size w w' := by
  have HL := Lib.hid hL
  have Hf := Lib.hid hf
  have Hm := Lib.hid hm
  obtain ⟨tk, htk⟩ : ∃ t, t = ofR f m := ⟨_, rfl⟩
  have HOF := Lib.hid htk
  obtain ⟨z, hz⟩ : ∃ z, z = (normR l).2 := ⟨_, rfl⟩
  have HZ := Lib.hid hz
  clear hL hm htk hz hf
  go_enter Try.func11, Try.ntmps11
  go_wp2_with fail
  refine (live19_walk _).mono ?_
  rintro e w1 ⟨rfl, hb2⟩
  have HB2 := Lib.hid hb2
  have HL2 := Lib.hid (HL.out.on hb2)
  clear hb2 HL
  go_wp2_with fail
  refine (few19_walk a n c _).mono ?_
  rintro e w2 ⟨he, rfl⟩
  by_cases hf : n ≤ 300
  · rw [decide_eq_true hf] at he
    subst he
    have HLN := Lib.hid (show ([] : List Rg).length + l.length ≤ 1000000000000 by have := HL2.out.len; simp; omega)
    have H300 := Lib.hid (show l.length ≤ 9223372036854775807 by have := HL2.out.len; omega)
    have hbe := below_one1 w2 (.cells #[] 25)
    have HE := Lib.hid (OwnR.empty w2 (lo := w2.heap.size) (Nat.le_refl _))
    have HBE := Lib.hid hbe
    have HLE := Lib.hid (HL2.out.on hbe)
    have HLOW := Lib.hid (show w.heap.size ≤ w2.heap.size from HB2.out.size)
    clear hbe hf
    go_wp2_with (refine wpList_append_rgs rfl (.tmp 25) (.tmp 26) (by rfl) w2.heap.size _ [] (by rfl) HE.out _ _ _ l (by rfl) HLE.out.len HLE.out.rd HLN.out HBE.out.size ?_; intro a3 n3 c3 w3 hO hg; have HB3 := Lib.hid (HB2.out.trans ((below_ownR HBE.out HE.out HBE.out.size hg).mono HB2.out.size)); have HL3 := Lib.hid (HL2.out.on (below_ownR HBE.out HE.out HBE.out.size hg)); have HOW := Lib.hid hO; clear hO hg)
    obtain ⟨po, co, eo, _⟩ := HOW.out.form
    simp only [Value.slice.injEq] at eo
    obtain ⟨rfl, rfl, rfl⟩ := eo
    simp only [List.nil_append] at *
    have HOS3 := Lib.hid (HOW.out.rgs HL2.out.b64)
    have HLO4 := Lib.hid (show ∀ k, (Value.slice a3 l.length c3).ownBlock = some k → k < w3.heap.size from fun k hk => (HOW.out.lt k hk).2)
    go_wp2_with fail
    refine (norm_walk l a3 _ c3 _ HOS3.out).mono ?_
    rintro e w4 ⟨v4, z4, rfl, hO4, hz4, hb4⟩
    obtain ⟨pa4, ca4, rfl, _⟩ := hO4.form
    obtain rfl : z4 = z := by rw [hz4, HZ.out]
    have HB4 := Lib.hid (HB3.out.trans (hb4.mono HB3.out.size))
    have HL4 := Lib.hid (HL3.out.on hb4)
    have HOW4 := Lib.hid (HOW.out.on hb4)
    have HV4 := Lib.hid hO4
    have HLT4 := Lib.hid hb4.size
    clear hO4 hb4 hz4
    go_wp2_with fail
    refine (rnorm_walk l a n c _ HL4.out).mono ?_
    rintro e w5 ⟨v5, z5, rfl, hO5, hz5, hb5⟩
    obtain ⟨pa5, ca5, rfl, _⟩ := hO5.form
    obtain rfl : z5 = z4 := by rw [hz5, HZ.out]
    obtain ⟨z, rfl⟩ : ∃ t : Int, t = z5 := ⟨_, rfl⟩
    have HB5 := Lib.hid (HB4.out.trans (hb5.mono HB4.out.size))
    have HL5 := Lib.hid (HL4.out.on hb5)
    have HOW5 := Lib.hid (HOW4.out.on hb5)
    have HV5 := Lib.hid (HV4.out.on hb5)
    have HU5 := Lib.hid (hO5.mono HLT4.out)
    clear hO5 hb5 hz5 HV4 HOW4 HL4
    obtain ⟨M, hM⟩ := bool_of (MayP l)
    have HM := Lib.hid hM
    clear hM
    go_wp2_with fail
    refine (may_walkS l a3 _ c3 _ (HOW5.out.rgs HL2.out.b64) M HM.out).mono ?_
    rintro e w6 ⟨rfl, hb6⟩
    have HB6 := Lib.hid (HB5.out.trans (hb6.mono HB5.out.size))
    have HL6 := Lib.hid (HL5.out.on hb6)
    have HOW6 := Lib.hid (HOW5.out.on hb6)
    have HV6 := Lib.hid (HV5.out.on hb6)
    have HU6 := Lib.hid (HU5.out.on hb6)
    clear hb6 HL5 HOW5 HV5 HU5
    go_wp2_with fail
    refine (may_walkR l a n c _ HL6.out M HM.out).mono ?_
    rintro e w7 ⟨rfl, hb7⟩
    have HB7 := Lib.hid (HB6.out.trans (hb7.mono HB6.out.size))
    have HL7 := Lib.hid (HL6.out.on hb7)
    have HOW7 := Lib.hid (HOW6.out.on hb7)
    have HV7 := Lib.hid (HV6.out.on hb7)
    have HU7 := Lib.hid (HU6.out.on hb7)
    clear hb7 HL6 HOW6 HV6 HU6
    have hMM : (M != M) = false := by cases M <;> rfl
    go_wp2_with fail
    refine (same_walk l l a3 _ c3 a n c _ rfl HL7.out.len H300.out (HOW7.out.rgs HL2.out.b64).rd HL7.out.rd).mono ?_
    rintro e w8 ⟨he, hb8⟩
    rw [decide_eq_true rfl] at he
    subst he
    have HB8 := Lib.hid (HB7.out.trans (hb8.mono HB7.out.size))
    have HOW8 := Lib.hid (HOW7.out.on hb8)
    have HV8 := Lib.hid (HV7.out.on hb8)
    have HU8 := Lib.hid (HU7.out.on hb8)
    have HOB := Lib.hid (HOW8.out.writable)
    clear hb8 HL7 HOW7 HV7 HU7 hMM
    have h63 := H300.out
    go_wp2
    go_loopw [51] (fun x wr => ∃ i : Nat, i ≤ l.length ∧ x = .int .i64 (i : Nat) ∧ Hid (Writable wr a3 l.length) ∧ w8.grownBy wr (Value.slice a3 l.length c3).ownBlock) (fun x _ => l.length - (intOf x).toNat)
    case atStart => exact ⟨0, Nat.zero_le _, rfl, HOB.out, grownBy_refl _ _⟩
    case round =>
      obtain ⟨i, hi, rfl, HWR, hg⟩ := hrel
      have HGR := Lib.hid hg
      by_cases hlt : i < l.length
      · obtain ⟨g, o, e3, _, _⟩ := (HOW8.out.rgs HL2.out.b64).rd i hlt
        obtain ⟨e0, cur, hB, hs⟩ := HWR.out g o e3
        subst e0
        subst e3
        have c0 := hB.cell (i * 2) (v := cur[i * 2]'(by omega)) (by simp [show i * 2 < cur.size by omega])
        have c1 := hB.free (i * 2)
        have HWR2 := Lib.hid (show Writable (wr.setCell ⟨g, i * 2, none⟩ (.int .u64 77)) (some ⟨g, 0, none⟩) l.length from fun g' o' e => by
          simp only [Option.some.injEq, Addr.mk.injEq] at e
          obtain ⟨rfl, rfl, _⟩ := e
          exact ⟨rfl, _, hB.set _ _, by simpa using hs⟩)
        have HG2 := Lib.hid (grownBy_set (show w8.grownBy wr (some g) from HGR.out) (i * 2) (.int .u64 77))
        have HI := Lib.hid hlt
        generalize cur[i * 2] = old at *
        clear hB hs hg
        go_wp2
        go_roundw
        case rel => exact ⟨i + 1, by have := HI.out; omega, by go_num, HWR2.out, HG2.out⟩
        case measure => have := HI.out; simp [intOf]; omega
      · have HV9 := Lib.hid (HV8.out.past HGR.out HLO4.out)
        have HU9 := Lib.hid (HU8.out.past HGR.out HLO4.out)
        have HB9 := Lib.hid (below_grownO HB8.out HOW8.out HGR.out HLOW.out HB8.out.size)
        obtain ⟨w9, rfl⟩ : ∃ x : World, x = wr := ⟨_, rfl⟩
        clear hg HWR HGR
        go_wp2_with fail
        refine (of_walk f m Hf.out Hm.out _).mono ?_
        rintro e w10 ⟨rfl, hb10⟩
        rw [← HOF.out]
        have HB10 := Lib.hid (HB9.out.trans (hb10.mono HB9.out.size))
        have HV10 := Lib.hid (HV9.out.on hb10)
        have HU10 := Lib.hid (HU9.out.on hb10)
        clear hb10 HV9 HU9
        have hb := below_one1 w10 (.cells #[.int .u64 (tk.1.lo : Nat), .int .u64 (tk.1.hi : Nat)] 25)
        have HBx10 := Lib.hid (HB10.out.trans (hb.mono HB10.out.size))
        have X1 := Lib.hid (Blk.new w10 #[.int .u64 (tk.1.lo : Nat), .int .u64 (tk.1.hi : Nat)] 25)
        have HV10 := Lib.hid (HV10.out.on hb)
        have HU10 := Lib.hid (HU10.out.on hb)
        clear hb
        go_wp2_with fail
        refine (rof_walk f m Hf.out Hm.out _).mono ?_
        rintro e w11 ⟨rfl, hb11⟩
        rw [← HOF.out]
        have HB11 := Lib.hid (HBx10.out.trans (hb11.mono HBx10.out.size))
        have HV11 := Lib.hid (HV10.out.on hb11)
        have HU11 := Lib.hid (HU10.out.on hb11)
        have X1 := Lib.hid (X1.out.on hb11)
        clear hb11 HV10 HU10
        have hb := below_one1 w11 (.cells #[.int .u64 (tk.1.lo : Nat), .int .u64 (tk.1.hi : Nat)] 25)
        have HBx11 := Lib.hid (HB11.out.trans (hb.mono HB11.out.size))
        have X2 := Lib.hid (Blk.new w11 #[.int .u64 (tk.1.lo : Nat), .int .u64 (tk.1.hi : Nat)] 25)
        have HV11 := Lib.hid (HV11.out.on hb)
        have HU11 := Lib.hid (HU11.out.on hb)
        have X1 := Lib.hid (X1.out.on hb)
        clear hb
        go_wp2_with fail
        refine (same_walk (normR l).1 (normR l).1 _ _ _ _ _ _ _ rfl rfl (by have := (normR_may l).2.2; omega) (HV11.out.set (normR_may l)).rd (HU11.out.set (normR_may l)).rd).mono ?_
        rintro e w12 ⟨he, hb12⟩
        rw [decide_eq_true rfl] at he
        subst he
        have HB12 := Lib.hid (HBx11.out.trans (hb12.mono HBx11.out.size))
        have X1 := Lib.hid (X1.out.on hb12)
        have X2 := Lib.hid (X2.out.on hb12)
        have c10 := X1.out.cell 0 rfl
        have c11 := X1.out.cell 1 rfl
        have c20 := X2.out.cell 0 rfl
        have c21 := X2.out.cell 1 rfl
        clear hb12
        go_wp2
        go_ret
        exact ⟨rfl, HB12.out⟩
  · rw [decide_eq_false hf] at he
    subst he
    go_wp2_with fail
    refine (live19_walk _).mono ?_
    rintro e w4 ⟨rfl, hb4⟩
    have HB4 := Lib.hid (HB2.out.trans (hb4.mono HB2.out.size))
    clear hb4
    go_wp2
    go_ret
    exact ⟨rfl, HB4.out⟩
end Go.Proofs.Ytajjbffppkpjpaa
