import Derived.Test.YtajjbffppkpjpaaNetJ
import Derived.Test.YtajjbffppkpjpaaOct
/-
  slices.ContainsFunc over letters that were sent; net.Said.
-/
namespace Go.Proofs.Ytajjbffppkpjpaa
set_option linter.unusedSimpArgs false
set_option linter.unusedVariables false
open Go.RowKit
set_option maxRecDepth 100000 in
set_option maxHeartbeats 1000000 in
theorem saidc_walk (f : Int) (pb : Option Addr) (m c : Nat) (l : List UInt8) (b1 b2 : Nat) (x : Snt) (px : Option Addr) (nx cx : Nat) (w : World) (h1 : w.cell? ⟨b1, 0, none⟩ = some (.int .i64 f)) (h2 : w.cell? ⟨b2, 0, none⟩ = some (.slice pb m c)) (hT : Txt w pb m c l) (hX : Txt w px nx cx x.d) (hn : x.d.length ≤ 1000000) (M : Bool) (hM : M = decide (x.f = f ∧ x.d = l)) :
    Calls Try.prog 93 #[sag x.f x.t px nx cx, .pointer (some ⟨b1, 0, none⟩), .pointer (some ⟨b2, 0, none⟩)] w fun e w' => e = .returned (.bool M) ∧ Below w.heap.size w w' := by
  obtain ⟨xf, xt, xd⟩ := x
  have HM := Lib.hid hM
  clear hM
  have hb := below_one' w (.cells #[.int .i64 xf, .int .i64 xt, .slice px nx cx] 47)
  have HB := Lib.hid hb
  have HT := Lib.hid (hT.below hb)
  have HX := Lib.hid (hX.below hb)
  have HNX := Lib.hid (show nx ≤ 1152921504606846976 by have := hX.len; simp only at this hn; omega)
  have c1 := (hb.cell (p := ⟨b1, 0, none⟩) (block_lt_of_cell h1)).trans h1
  have c2 := (hb.cell (p := ⟨b2, 0, none⟩) (block_lt_of_cell h2)).trans h2
  have d0 := (Blk.new w #[.int .i64 xf, .int .i64 xt, .slice px nx cx] 47).cell 0 rfl
  have d2 := (Blk.new w #[.int .i64 xf, .int .i64 xt, .slice px nx cx] 47).cell 2 rfl
  clear h1 h2 hT hX hb hn
  simp only
  by_cases hf : xf = f
  · have hf2 : (xf == f) = true := by simp [hf]
    have HE := Lib.hid (show M = decide (xd = l) by rw [HM.out]; simp [hf])
    clear hf
    go_enter Try.func93, Try.ntmps93
    go_wp2_with fail
    refine (same_walk xd l px pb nx cx m c _ HX.out HT.out HNX.out).mono ?_
    rintro e w2 ⟨rfl, hb⟩
    have HB2 := Lib.hid (HB.out.trans (hb.mono HB.out.size))
    obtain ⟨q, hq⟩ : ∃ q, q = decide (xd = l) := ⟨_, rfl⟩
    rw [← hq]
    have HQ := Lib.hid hq
    clear hq hb
    go_wp2
    go_ret
    exact ⟨by rw [HE.out, ← HQ.out]; rfl, HB2.out⟩
  · have hf2 : (xf == f) = false := by simp [hf]
    have HE := Lib.hid (show M = false by rw [HM.out]; simp [hf])
    clear hf
    go_enter Try.func93, Try.ntmps93
    go_wp2
    go_ret
    exact ⟨by rw [HE.out]; rfl, HB.out⟩
set_option maxRecDepth 100000 in
set_option maxHeartbeats 2000000 in
theorem idxs_walk {av : Nat → Prop} (p : Snt → Bool) (L : List Snt) (v : Value) (b1 b2 : Nat) (w : World) (hR : SRow w av v L) (hcl : ∀ (x : Snt) px nx cx (W : World), x ∈ L → Below w.heap.size w W → Txt W px nx cx x.d → Calls Try.prog 93 #[sag x.f x.t px nx cx, .pointer (some ⟨b1, 0, none⟩), .pointer (some ⟨b2, 0, none⟩)] W fun e w' => e = .returned (.bool (p x)) ∧ Below W.heap.size W w') :
    Calls Try.prog 100 #[v, .func (.func 93) #[] #[.pointer (some ⟨b1, 0, none⟩), .pointer (some ⟨b2, 0, none⟩)]] w fun e w' => ∃ z : Int, e = .returned (.int .i64 z) ∧ (0 ≤ z ↔ ∃ x, x ∈ L ∧ p x = true) ∧ Below w.heap.size w w' := by
  obtain ⟨a, c, rfl, _, hc⟩ := hR.form
  obtain ⟨n, hn⟩ : ∃ n, n = L.length := ⟨_, rfl⟩
  rw [← hn]
  have hn63 : n ≤ 9223372036854775807 := by unfold maxLen at hc; omega
  have HL := Lib.hid hR
  have HN := Lib.hid hn
  have HC := Lib.hid hcl
  clear hR hn hc hcl
  go_enter Try.func100, Try.ntmps100
  go_wp2
  go_loopw [8] (fun y wr => ∃ k : Nat, k ≤ n ∧ y = .int .i64 (k : Nat) ∧ Below w.heap.size w wr ∧ Hid (∀ j, j < k → p (L.getD j snt0) = false)) (fun y _ => n - (intOf y).toNat)
  case atStart => exact ⟨0, Nat.zero_le _, rfl, Below.refl _ _, fun j hj => by omega⟩
  case round =>
    obtain ⟨k, hk, rfl, hb, HJ⟩ := hrel
    have HBr := Lib.hid hb
    by_cases hlt : k < n
    · obtain ⟨g, c', cur, px, nx, cx, ha, _, _, _, _, hr, ht⟩ := (HL.out.on hb).at_i (i := k) (by have := HN.out; omega)
      rw [← HN.out] at ha
      obtain ⟨x, hx⟩ : ∃ x, x = L.getD k snt0 := ⟨_, rfl⟩
      rw [← hx] at hr ht
      rw [Nat.zero_add] at hr
      cases ha
      have HX := Lib.hid hx
      have HR := Lib.hid hr
      obtain ⟨qa, qn, qc, qe, ht, _⟩ := ht
      cases qe
      have HT := Lib.hid ht
      have HKL := Lib.hid (show k < L.length by have := HN.out; omega)
      have HXM := Lib.hid (show x ∈ L by rw [hx, List.getD, List.getElem?_eq_getElem HKL.out]; exact List.getElem_mem _)
      clear hx hr hb ht
      go_wp2_with (refine wpList_load_mid rfl 47 (.tmp 14) (by rfl) g (k * 3) (by rfl) [.int .i64 x.f, .int .i64 x.t, .slice px nx cx] _ HR.out Try.underlying47 rfl size_sent ?_)
      refine (HC.out x px nx cx _ HXM.out HBr.out HT.out).mono ?_
      rintro e w2 ⟨he, hb⟩
      have HB2 := Lib.hid (HBr.out.trans (hb.mono HBr.out.size))
      clear hb
      cases hp : p x with
      | false =>
        rw [hp] at he
        subst he
        have HP := Lib.hid hp
        clear hp
        go_wp2
        go_roundw
        case rel =>
          refine ⟨k + 1, by omega, by go_num, HB2.out, fun j hj => ?_⟩
          rcases Nat.lt_or_ge j k with h | h
          · exact HJ.out j h
          · obtain rfl : j = k := by omega
            rw [← HX.out]; exact HP.out
        case measure => simp [intOf]; omega
      | true =>
        rw [hp] at he
        subst he
        have HP := Lib.hid hp
        clear hp
        go_wp2
        go_ret
        exact ⟨k, rfl, ⟨fun _ => ⟨x, HXM.out, HP.out⟩, fun _ => by omega⟩, HB2.out⟩
    · have HK := Lib.hid (show k = n by omega)
      go_wp2
      go_ret
      refine ⟨-1, rfl, ⟨fun h => by omega, fun ⟨x, hx, hp⟩ => ?_⟩, HBr.out⟩
      obtain ⟨j, hj, rfl⟩ := List.mem_iff_getElem.1 hx
      have := HJ.out j (by have := HK.out; have := HN.out; omega)
      rw [List.getD, List.getElem?_eq_getElem hj] at this
      simp only [Option.getD_some] at this
      rw [hp] at this; cases this
set_option maxRecDepth 100000 in
theorem containss_walk {av : Nat → Prop} (p : Snt → Bool) (L : List Snt) (v : Value) (b1 b2 : Nat) (w : World) (hR : SRow w av v L) (hcl : ∀ (x : Snt) px nx cx (W : World), x ∈ L → Below w.heap.size w W → Txt W px nx cx x.d → Calls Try.prog 93 #[sag x.f x.t px nx cx, .pointer (some ⟨b1, 0, none⟩), .pointer (some ⟨b2, 0, none⟩)] W fun e w' => e = .returned (.bool (p x)) ∧ Below W.heap.size W w') (M : Bool) (hM : M = true ↔ ∃ x, x ∈ L ∧ p x = true) :
    Calls Try.prog 50 #[v, .func (.func 93) #[] #[.pointer (some ⟨b1, 0, none⟩), .pointer (some ⟨b2, 0, none⟩)]] w fun e w' => e = .returned (.bool M) ∧ Below w.heap.size w w' := by
  have HR := Lib.hid hR
  have HC := Lib.hid hcl
  have HM := Lib.hid hM
  clear hR hM hcl
  go_enter Try.func50, Try.ntmps50
  go_wp2_with fail
  refine (idxs_walk p L v b1 b2 w HR.out HC.out).mono ?_
  rintro e w2 ⟨z, rfl, hz, hb⟩
  have HZ := Lib.hid (show M = decide (0 ≤ z) by
    by_cases q : 0 ≤ z
    · rw [decide_eq_true q]; exact HM.out.2 (hz.1 q)
    · rw [decide_eq_false q]; exact Bool.eq_false_iff.2 fun h => q (hz.2 (HM.out.1 h)))
  have HB := Lib.hid hb
  clear hz hb
  go_wp2
  go_ret
  exact ⟨by show Ending.returned (.bool (decide (0 ≤ z))) = _; rw [HZ.out], HB.out⟩
theorem bool_ofP (p : Prop) : ∃ M : Bool, M = true ↔ p := by
  by_cases h : p
  · exact ⟨true, fun _ => h, fun _ => rfl⟩
  · exact ⟨false, (fun e => by cases e), fun e => absurd e h⟩
set_option maxRecDepth 100000 in
theorem nsaid_at {av : Nat → Prop} {b : Nat} {vx vy vz : Value} {S : NS} {K : Nat} (f : Int) (pb : Option Addr) (m c : Nat) (l : List UInt8) (w : World) (h : NetAt w av b vx vy vz S) (hL : S.Lim K) (hT : Txt w pb m c l) (M : Bool) (hM : M = true ↔ S.said f l) :
    Calls Try.prog 36 #[.pointer (some ⟨b, 0, none⟩), .int .i64 f, .slice pb m c] w fun e w' => e = .returned (.bool M) ∧ Below w.heap.size w w' := by
  have hb := below_boxes w (.cells #[.int .i64 f] 3) (.cells #[.slice pb m c] 45)
  have H := Lib.hid (h.on hb)
  have HB := Lib.hid hb
  have HL := Lib.hid (fun s (hs : s ∈ S.ever) => hL.txt s (.inr (.inl hs)))
  have HT := Lib.hid (hT.below hb)
  have HM := Lib.hid (show M = true ↔ ∃ x, x ∈ S.ever ∧ decide (x.f = f ∧ x.d = l) = true by rw [hM]; unfold NS.said; simp)
  have B1 := Lib.hid ((Blk.new w #[.int .i64 f] 3).alloc (.cells #[.slice pb m c] 45))
  have B2 := Lib.hid (Blk.new' (w.alloc (.cells #[.int .i64 f] 3)) #[.slice pb m c] 45 (g := w.heap.size + 1) (by simp))
  clear h hb hL hT hM
  go_enter Try.func36, Try.ntmps36
  go_wp2_with fail
  refine (nnone_at _ H.out).mono ?_
  rintro e w2 ⟨rfl, rfl⟩
  have c2 := H.out.c2
  go_wp2_with fail
  refine (containss_walk (fun x => decide (x.f = f ∧ x.d = l)) S.ever vy w.heap.size (w.heap.size + 1) _ H.out.ever (fun x px nx cx W hx hb ht => saidc_walk f pb m c l w.heap.size (w.heap.size + 1) x px nx cx W ((hb.cell (p := ⟨w.heap.size, 0, none⟩) B1.out.lt).trans (B1.out.cell 0 rfl)) ((hb.cell (p := ⟨w.heap.size + 1, 0, none⟩) B2.out.lt).trans (B2.out.cell 0 rfl)) (HT.out.below hb) ht (HL.out x hx) _ rfl) M HM.out).mono ?_
  rintro e w3 ⟨rfl, hb⟩
  have HB3 := Lib.hid (HB.out.trans (hb.mono HB.out.size))
  clear hb
  go_wp2
  go_ret
  exact ⟨rfl, HB3.out⟩
end Go.Proofs.Ytajjbffppkpjpaa
