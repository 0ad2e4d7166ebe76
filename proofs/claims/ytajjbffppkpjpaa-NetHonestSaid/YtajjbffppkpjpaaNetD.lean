import Derived.Test.YtajjbffppkpjpaaNetC
/-
  net.Inject; slices.ContainsFunc over letters at Send's closure.
-/
namespace Go.Proofs.Ytajjbffppkpjpaa
set_option linter.unusedSimpArgs false
set_option linter.unusedVariables false
open Go.RowKit
set_option maxRecDepth 100000 in
theorem ninject_no {p : Option Addr} (t : Int) (pb : Option Addr) (m c : Nat) (w : World) (h : NoNet w p) : Calls Try.prog 28 #[.pointer p, .int .i64 t, .slice pb m c] w fun e w' => e = .returned (.int .i64 2) ∧ w' = w := by
  have H := Lib.hid h
  clear h
  go_enter Try.func28, Try.ntmps28
  go_wp2_with fail
  refine (nnone_no _ H.out).mono ?_
  rintro e w2 ⟨rfl, rfl⟩
  go_wp2
  go_ret
  exact ⟨rfl, rfl⟩
set_option maxRecDepth 100000 in
set_option maxHeartbeats 2000000 in
theorem ninject_at {av : Nat → Prop} {b : Nat} {v1 v2 v3 : Value} {S : NS} {K : Nat} (t : Int) (pb : Option Addr) (m c : Nat) (l : List UInt8) (w : World) (h : NetAt w av b v1 v2 v3 S) (hT : Txt w pb m c l) (hF : ∀ g o, pb = some ⟨g, o, none⟩ → 0 < l.length → ¬ NFoot b v1 v2 v3 g)
    (hL : S.Lim K) (hl : l.length ≤ 1000000) (hK : K + 1 ≤ 1000000) :
    Calls Try.prog 28 #[.pointer (some ⟨b, 0, none⟩), .int .i64 t, .slice pb m c] w fun e w' => e = .returned (.int .i64 (S.inject t l).1) ∧ ∃ x1 x2, NetAt w' (fun k => av k ∨ w.heap.size ≤ k) b x1 x2 v3 (S.inject t l).2 ∧ Only (NFoot b v1 v2 v3) w w' ∧ ∀ k, NFoot b x1 x2 v3 k → NFoot b v1 v2 v3 k ∨ w.heap.size ≤ k := by
  have H := Lib.hid h
  have HLT := Lib.hid (fun k hk => h.lt (k := k) hk)
  have HT := Lib.hid hT
  have HF := Lib.hid hF
  have HLI := Lib.hid hL
  have HLL := Lib.hid hl
  have HK := Lib.hid hK
  clear h hT hF hL hl hK
  go_enter Try.func28, Try.ntmps28
  go_wp2_with fail
  refine (nnone_at _ H.out).mono ?_
  rintro e w2 ⟨rfl, rfl⟩
  go_wp2_with fail
  refine (isdev_walk t _).mono ?_
  rintro e w3 ⟨rfl, rfl⟩
  by_cases hd : devP t
  · have HE := Lib.hid (show S.inject t l = S.put [⟨-1, t, l⟩] from if_neg (fun q => q hd))
    rw [decide_eq_true hd]
    clear hd
    have hb := below_one' w3 (.cells #[.int .i64 (-1), .int .i64 t, .slice pb m c] 47)
    have HB := Lib.hid hb
    have BX := Lib.hid (Blk.new w3 #[.int .i64 (-1), .int .i64 t, .slice pb m c] 47)
    have HI := Lib.hid (show LIn (w3.alloc (.cells #[.int .i64 (-1), .int .i64 t, .slice pb m c] 47)) (fun k => k < (w3.alloc (.cells #[.int .i64 (-1), .int .i64 t, .slice pb m c] 47)).heap.size ∧ ¬ NFoot b v1 v2 v3 k) (some ⟨w3.heap.size, 0, none⟩) [⟨-1, t, l⟩] from fun i hi => by
      have : i = 0 := by simp at hi; omega
      subst this
      refine ⟨w3.heap.size, 0, m, c, pb, rfl, ⟨BX.out.lt, fun q => by have := HLT.out _ q; omega⟩, BX.out.lt, range_blk BX.out 0 _ (fun i _ => by simp), HT.out.below hb, fun g o e h0 => ⟨?_, HF.out g o e h0⟩⟩
      exact Nat.lt_of_lt_of_le (HT.out.old g o e h0) hb.size)
    clear hb
    go_wp2_with fail
    refine (nput_walk [⟨-1, t, l⟩] _ 1 1 rfl _ (H.out.on HB.out) HI.out (fun k hk => hk) HLI.out (fun s hs => by rw [List.mem_singleton.1 hs]; exact HLL.out) HK.out).mono ?_
    rintro e w4 ⟨rfl, x1, x2, hN, hO, hG⟩
    have HN := Lib.hid (hN.mono (av' := fun k => av k ∨ w3.heap.size ≤ k) fun k e _ => e.imp id (fun q => Nat.le_trans HB.out.size q))
    have HO := Lib.hid ((Only.of_below (S := NFoot b v1 v2 v3) HB.out).trans hO)
    have HG := Lib.hid (show ∀ k, NFoot b x1 x2 v3 k → NFoot b v1 v2 v3 k ∨ w3.heap.size ≤ k from fun k e => (hG k e).imp id (fun q => Nat.le_trans HB.out.size q))
    clear hN hO hG
    go_wp2
    go_ret
    exact ⟨by rw [HE.out]; rfl, x1, x2, by rw [HE.out]; exact HN.out, HO.out, HG.out⟩
  · have HE := Lib.hid (show S.inject t l = (1, S) from if_pos hd)
    rw [decide_eq_false hd]
    clear hd
    go_wp2
    go_ret
    exact ⟨by rw [HE.out]; rfl, v1, v2, by rw [HE.out]; exact H.out.mono (fun k e _ => .inl e), Only.refl _ _, fun k e => .inl e⟩
abbrev Ltr := Int × List UInt8
def ltr0 : Ltr := (0, [])
/-- Letters to send that came in. -/
structure LtIn (w : World) (na : Nat → Prop) (a : Option Addr) (n c : Nat) (L : List Ltr) : Prop where
  len : n = L.length
  fit : n ≤ c
  top : c ≤ maxLen
  rd : ∀ i, i < L.length → ∃ g o px nx cx, a = some ⟨g, o, none⟩ ∧ g < w.heap.size ∧ w.rangeAt g (o + i * 2) [.int .i64 (L.getD i ltr0).1, .slice px nx cx] ∧ Txt w px nx cx (L.getD i ltr0).2 ∧ na g ∧ ∀ b o, px = some ⟨b, o, none⟩ → 0 < (L.getD i ltr0).2.length → na b
theorem LtIn.only {w w' : World} {na F : Nat → Prop} {a : Option Addr} {n c : Nat} {L : List Ltr} (h : LtIn w na a n c L) (hO : Only F w w') (hF : ∀ k, na k → ¬ F k) : LtIn w' na a n c L :=
  ⟨h.len, h.fit, h.top, fun i hi => by
    obtain ⟨g, o, px, nx, cx, h1, h2, h3, h4, h5, h6⟩ := h.rd i hi
    refine ⟨g, o, px, nx, cx, h1, Nat.lt_of_lt_of_le h2 hO.size, fun j v hj => ?_, h4.onlyT hO (fun b o e h0 => hF b (h6 b o e h0)), h5, h6⟩
    rw [← h3 j v hj]
    exact World.cell?_of_block (a := ⟨g, o + i * 2 + j, none⟩) (hO.same g h2 (hF g h5))⟩
theorem LtIn.on {w w' : World} {na : Nat → Prop} {a : Option Addr} {n c : Nat} {L : List Ltr} (h : LtIn w na a n c L) (hb : Below w.heap.size w w') : LtIn w' na a n c L := h.only (F := fun _ => False) (Only.of_below hb) (fun _ _ q => q)
theorem LtIn.mono {w : World} {na nb : Nat → Prop} {a : Option Addr} {n c : Nat} {L : List Ltr} (h : LtIn w na a n c L) (hv : ∀ k, na k → nb k) : LtIn w nb a n c L :=
  ⟨h.len, h.fit, h.top, fun i hi => by
    obtain ⟨g, o, px, nx, cx, h1, h2, h3, h4, h5, h6⟩ := h.rd i hi
    exact ⟨g, o, px, nx, cx, h1, h2, h3, h4, hv g h5, fun b o e h0 => hv b (h6 b o e h0)⟩⟩
theorem size_ltr : (Try.prog.info? 70).map (·.size) = some 2 := by kernel_rfl
set_option maxRecDepth 100000 in
theorem strange_walk (t : Int) (px : Option Addr) (nx cx : Nat) (w : World) : Calls Try.prog 87 #[.agg #[.int .i64 t, .slice px nx cx]] w fun e w' => e = .returned (.bool (!decide (devP t))) ∧ Below w.heap.size w w' := by
  have HB := Lib.hid (below_one' w (.cells #[.int .i64 t, .slice px nx cx] 70))
  obtain ⟨q, hq⟩ : ∃ q, q = decide (devP t) := ⟨_, rfl⟩
  rw [← hq]
  have HQ := Lib.hid hq
  clear hq
  go_enter Try.func87, Try.ntmps87
  go_wp2_with fail
  refine (isdev_walk t _).mono ?_
  rintro e w2 ⟨rfl, rfl⟩
  rw [← HQ.out]
  go_wp2
  go_ret
  exact ⟨rfl, HB.out⟩
set_option maxRecDepth 100000 in
theorem idxl_walk {na : Nat → Prop} (L : List Ltr) (a : Option Addr) (n c : Nat) (w : World) (hL : LtIn w na a n c L) :
    Calls Try.prog 116 #[.slice a n c, .func (.func 87) #[] #[]] w fun e w' => ∃ z : Int, e = .returned (.int .i64 z) ∧ (0 ≤ z ↔ ∃ x, x ∈ L ∧ ¬ devP x.1) ∧ Below w.heap.size w w' := by
  have HL := Lib.hid hL
  have HN := Lib.hid hL.len
  have hn63 : n ≤ 9223372036854775807 := by have h1 := hL.fit; have h2 := hL.top; unfold maxLen at h2; omega
  clear hL
  go_enter Try.func116, Try.ntmps116
  go_wp2
  go_loopw [8] (fun y wr => ∃ k : Nat, k ≤ n ∧ y = .int .i64 (k : Nat) ∧ Below w.heap.size w wr ∧ Hid (∀ j, j < k → devP (L.getD j ltr0).1)) (fun y _ => n - (intOf y).toNat)
  case atStart => exact ⟨0, Nat.zero_le _, rfl, Below.refl _ _, fun j hj => by omega⟩
  case round =>
    obtain ⟨k, hk, rfl, hb, HJ⟩ := hrel
    have HBr := Lib.hid hb
    by_cases hlt : k < n
    · obtain ⟨g, o, px, nx, cx, rfl, hg, hr, _, _, _⟩ := (HL.out.on hb).rd k (by have := HN.out; omega)
      obtain ⟨x, hx⟩ : ∃ x, x = L.getD k ltr0 := ⟨_, rfl⟩
      rw [← hx] at hr
      have HX := Lib.hid hx
      have HR := Lib.hid hr
      have HKL := Lib.hid (show k < L.length by have := HN.out; omega)
      clear hx hr hb hg
      go_wp2_with (refine wpList_load_mid rfl 70 (.tmp 14) rfl g (o + k * 2) rfl [.int .i64 x.1, .slice px nx cx] _ HR.out Try.underlying70 rfl size_ltr ?_)
      refine (strange_walk x.1 px nx cx _).mono ?_
      rintro e w2 ⟨he, hb⟩
      have HB2 := Lib.hid (HBr.out.trans (hb.mono HBr.out.size))
      clear hb
      by_cases hp : devP x.1
      · rw [decide_eq_true hp] at he
        subst he
        have HP := Lib.hid hp
        clear hp
        go_wp2
        go_roundw
        case rel =>
          refine ⟨k + 1, by omega, by go_num, HB2.out, fun j hj => ?_⟩
          rcases Nat.lt_or_ge j k with h | h
          · exact HJ.out j h
          · obtain rfl : j = k := by omega
            rw [← HX.out]; exact HP.out
        case measure => simp [intOf]; omega
      · rw [decide_eq_false hp] at he
        subst he
        have HP := Lib.hid hp
        clear hp
        go_wp2
        go_ret
        refine ⟨k, rfl, ⟨fun _ => ⟨x, ?_, HP.out⟩, fun _ => by omega⟩, HB2.out⟩
        rw [HX.out, List.getD, List.getElem?_eq_getElem HKL.out]
        exact List.getElem_mem _
    · have HK := Lib.hid (show k = n by omega)
      clear hb
      go_wp2
      go_ret
      refine ⟨-1, rfl, ⟨fun h => by omega, ?_⟩, HBr.out⟩
      rintro ⟨x, hx, hp⟩
      obtain ⟨j, hj, rfl⟩ := List.getElem_of_mem hx
      have h := HJ.out j (by have := HK.out; have := HN.out; omega)
      rw [show L.getD j ltr0 = L[j] by simp [List.getD, hj]] at h
      exact absurd h hp
set_option maxRecDepth 100000 in
theorem containsl_walk {na : Nat → Prop} (L : List Ltr) (a : Option Addr) (n c : Nat) (w : World) (hL : LtIn w na a n c L) (M : Bool) (hM : M = true ↔ ∃ x, x ∈ L ∧ ¬ devP x.1) :
    Calls Try.prog 89 #[.slice a n c, .func (.func 87) #[] #[]] w fun e w' => e = .returned (.bool M) ∧ Below w.heap.size w w' := by
  have HL := Lib.hid hL
  have HM := Lib.hid hM
  clear hL hM
  go_enter Try.func89, Try.ntmps89
  go_wp2_with fail
  refine (idxl_walk L a n c w HL.out).mono ?_
  rintro e w2 ⟨z, rfl, hz, hb⟩
  have HZ := Lib.hid (show M = decide (0 ≤ z) by
    by_cases q : 0 ≤ z
    · rw [decide_eq_true q]; exact HM.out.2 (hz.1 q)
    · rw [decide_eq_false q]; exact Bool.eq_false_iff.2 fun h => q (hz.2 (HM.out.1 h)))
  have HB := Lib.hid hb
  clear hz hb
  go_wp2
  go_ret
  exact ⟨by show Ending.returned (.bool (decide (0 ≤ z))) = _; rw [HZ.out], HB.out⟩
end Go.Proofs.Ytajjbffppkpjpaa
