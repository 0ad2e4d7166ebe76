import Derived.Test.YtajjbffppkpjpaaNetU
import Derived.Test.YtajjbffppkpjpaaNetW
/-
  slices.ContainsFunc over letters at NetHonest's closure.
-/
namespace Go.Proofs.Ytajjbffppkpjpaa
set_option linter.unusedSimpArgs false
set_option linter.unusedVariables false
open Go.RowKit
set_option maxRecDepth 100000 in
set_option maxHeartbeats 1000000 in
theorem honest1_walk (x s : Snt) (px ps : Option Addr) (nx cx ns cs b1 : Nat) (w : World) (hB : Blk w b1 #[.int .i64 s.f, .int .i64 s.t, .slice ps ns cs] 47) (hS : Txt w ps ns cs s.d) (hX : Txt w px nx cx x.d) :
    Calls Try.prog 51 #[sag x.f x.t px nx cx, .pointer (some ⟨b1, 0, none⟩)] w fun e w' => e = .returned (.bool (seq x s)) ∧ Below w.heap.size w w' := by
  have hb := below_one' w (.cells #[.int .i64 x.f, .int .i64 x.t, .slice px nx cx] 47)
  have HB := Lib.hid hb
  have HS := Lib.hid (hS.below hb)
  have HX := Lib.hid (hX.below hb)
  have HBS := Lib.hid (hB.on hb)
  have HBX := Lib.hid (Blk.new w #[.int .i64 x.f, .int .i64 x.t, .slice px nx cx] 47)
  obtain ⟨M, hM⟩ : ∃ M, M = seq x s := ⟨_, rfl⟩
  rw [← hM]
  have HM := Lib.hid hM
  clear hB hS hX hb hM
  go_enter Try.func51, Try.ntmps51
  go_wp2_with (first | (refine wpList_load_sub rfl 47 (.tmp 2) (by rfl) w.heap.size 0 (by rfl) HBX.out [.int .i64 x.f, .int .i64 x.t, .slice px nx cx] (by intro i hi; simp at hi ⊢) _ Try.underlying47 rfl size_sent ?_) | (refine wpList_load_sub rfl 47 (.tmp 1) (by rfl) b1 0 (by rfl) HBS.out [.int .i64 s.f, .int .i64 s.t, .slice ps ns cs] (by intro i hi; simp at hi ⊢) _ Try.underlying47 rfl size_sent ?_))
  refine (rsame_walk x s px ps nx cx ns cs _ HX.out HS.out M HM.out).mono ?_
  rintro e w2 ⟨rfl, hb⟩
  have HB2 := Lib.hid (HB.out.trans (hb.mono HB.out.size))
  clear hb
  go_wp2
  go_ret
  exact ⟨rfl, HB2.out⟩
set_option maxRecDepth 100000 in
set_option maxHeartbeats 2000000 in
theorem idxh_walk {av : Nat → Prop} (p : Snt → Bool) (L : List Snt) (v : Value) (b1 : Nat) (w : World) (hR : SRow w av v L) (hcl : ∀ (x : Snt) px nx cx (W : World), x ∈ L → Below w.heap.size w W → Txt W px nx cx x.d → Calls Try.prog 51 #[sag x.f x.t px nx cx, .pointer (some ⟨b1, 0, none⟩)] W fun e w' => e = .returned (.bool (p x)) ∧ Below W.heap.size W w') :
    Calls Try.prog 100 #[v, .func (.func 51) #[] #[.pointer (some ⟨b1, 0, none⟩)]] w fun e w' => ∃ z : Int, e = .returned (.int .i64 z) ∧ (0 ≤ z ↔ ∃ x, x ∈ L ∧ p x = true) ∧ Below w.heap.size w w' := by
  obtain ⟨a, c, rfl, _, hc⟩ := hR.form
  obtain ⟨n, hn⟩ : ∃ n, n = L.length := ⟨_, rfl⟩
  rw [← hn]
  have hn63 : n ≤ 9223372036854775807 := by unfold maxLen at hc; omega
  have HL := Lib.hid hR
  have HN := Lib.hid hn
  have HC := Lib.hid hcl
  clear hR hn hc hcl
  go_enter Try.func100, Try.ntmps100
  go_wp2
  go_loopw [8] (fun y wr => ∃ k : Nat, k ≤ n ∧ y = .int .i64 (k : Nat) ∧ Below w.heap.size w wr ∧ Hid (∀ j, j < k → p (L.getD j snt0) = false)) (fun y _ => n - (intOf y).toNat)
  case atStart => exact ⟨0, Nat.zero_le _, rfl, Below.refl _ _, fun j hj => by omega⟩
  case round =>
    obtain ⟨k, hk, rfl, hb, HJ⟩ := hrel
    have HBr := Lib.hid hb
    by_cases hlt : k < n
    · obtain ⟨g, c', cur, px, nx, cx, ha, _, _, _, _, hr, ht⟩ := (HL.out.on hb).at_i (i := k) (by have := HN.out; omega)
      rw [← HN.out] at ha
      obtain ⟨x, hx⟩ : ∃ x, x = L.getD k snt0 := ⟨_, rfl⟩
      rw [← hx] at hr ht
      rw [Nat.zero_add] at hr
      cases ha
      have HX := Lib.hid hx
      have HR := Lib.hid hr
      obtain ⟨qa, qn, qc, qe, ht, _⟩ := ht
      cases qe
      have HT := Lib.hid ht
      have HKL := Lib.hid (show k < L.length by have := HN.out; omega)
      have HXM := Lib.hid (show x ∈ L by rw [hx, List.getD, List.getElem?_eq_getElem HKL.out]; exact List.getElem_mem _)
      clear hx hr hb ht
      go_wp2_with (refine wpList_load_mid rfl 47 (.tmp 14) (by rfl) g (k * 3) (by rfl) [.int .i64 x.f, .int .i64 x.t, .slice px nx cx] _ HR.out Try.underlying47 rfl size_sent ?_)
      refine (HC.out x px nx cx _ HXM.out HBr.out HT.out).mono ?_
      rintro e w2 ⟨he, hb⟩
      have HB2 := Lib.hid (HBr.out.trans (hb.mono HBr.out.size))
      clear hb
      cases hp : p x with
      | false =>
        rw [hp] at he
        subst he
        have HP := Lib.hid hp
        clear hp
        go_wp2
        go_roundw
        case rel =>
          refine ⟨k + 1, by omega, by go_num, HB2.out, fun j hj => ?_⟩
          rcases Nat.lt_or_ge j k with h | h
          · exact HJ.out j h
          · obtain rfl : j = k := by omega
            rw [← HX.out]; exact HP.out
        case measure => simp [intOf]; omega
      | true =>
        rw [hp] at he
        subst he
        have HP := Lib.hid hp
        clear hp
        go_wp2
        go_ret
        exact ⟨k, rfl, ⟨fun _ => ⟨x, HXM.out, HP.out⟩, fun _ => by omega⟩, HB2.out⟩
    · have HK := Lib.hid (show k = n by omega)
      go_wp2
      go_ret
      refine ⟨-1, rfl, ⟨fun h => by omega, fun ⟨x, hx, hp⟩ => ?_⟩, HBr.out⟩
      obtain ⟨j, hj, rfl⟩ := List.mem_iff_getElem.1 hx
      have := HJ.out j (by have := HK.out; have := HN.out; omega)
      rw [List.getD, List.getElem?_eq_getElem hj] at this
      simp only [Option.getD_some] at this
      rw [hp] at this; cases this
set_option maxRecDepth 100000 in
theorem containsh_walk {av : Nat → Prop} (p : Snt → Bool) (L : List Snt) (v : Value) (b1 : Nat) (w : World) (hR : SRow w av v L) (hcl : ∀ (x : Snt) px nx cx (W : World), x ∈ L → Below w.heap.size w W → Txt W px nx cx x.d → Calls Try.prog 51 #[sag x.f x.t px nx cx, .pointer (some ⟨b1, 0, none⟩)] W fun e w' => e = .returned (.bool (p x)) ∧ Below W.heap.size W w') (M : Bool) (hM : M = true ↔ ∃ x, x ∈ L ∧ p x = true) :
    Calls Try.prog 50 #[v, .func (.func 51) #[] #[.pointer (some ⟨b1, 0, none⟩)]] w fun e w' => e = .returned (.bool M) ∧ Below w.heap.size w w' := by
  have HR := Lib.hid hR
  have HC := Lib.hid hcl
  have HM := Lib.hid hM
  clear hR hM hcl
  go_enter Try.func50, Try.ntmps50
  go_wp2_with fail
  refine (idxh_walk p L v b1 w HR.out HC.out).mono ?_
  rintro e w2 ⟨z, rfl, hz, hb⟩
  have HZ := Lib.hid (show M = decide (0 ≤ z) by
    by_cases q : 0 ≤ z
    · rw [decide_eq_true q]; exact HM.out.2 (hz.1 q)
    · rw [decide_eq_false q]; exact Bool.eq_false_iff.2 fun h => q (hz.2 (HM.out.1 h)))
  have HB := Lib.hid hb
  clear hz hb
  go_wp2
  go_ret
  exact ⟨by show Ending.returned (.bool (decide (0 ≤ z))) = _; rw [HZ.out], HB.out⟩
end Go.Proofs.Ytajjbffppkpjpaa
