import Derived.Test.YtajjbffppkpjpaaNetV
/-
  liverylaw26.few.
-/
namespace Go.Proofs.Ytajjbffppkpjpaa
set_option linter.unusedSimpArgs false
set_option linter.unusedVariables false
open Go.RowKit
def cost (L : List Ltr) : Nat := (L.map fun x => 1 + x.2.length).sum
def tot (os : List NOp) : Nat := (os.map fun o => cost o.l).sum
theorem cost_snoc (L : List Ltr) (k : Nat) (h : k < L.length) : cost (L.take (k + 1)) = cost (L.take k) + (1 + (L.getD k ltr0).2.length) := by
  rw [List.take_succ_eq_append_getElem h]
  unfold cost
  rw [List.map_append, List.sum_append]
  simp [List.getD, h]
theorem tot_snoc (os : List NOp) (k : Nat) (h : k < os.length) : tot (os.take (k + 1)) = tot (os.take k) + cost (os.getD k nop0).l := by
  rw [List.take_succ_eq_append_getElem h]
  unfold tot
  rw [List.map_append, List.sum_append]
  simp [List.getD, h]
theorem size_nop : (Try.prog.info? 39).map (·.size) = some 4 := by kernel_rfl
theorem NOsIn.at_ {w0 : World} {a : Option Addr} {n c : Nat} {os : List NOp} (h : NOsIn w0 a n c os) {k : Nat} (hk : k < n) {w : World} (hb : Below w0.heap.size w0 w) : ∃ g o oa on oc op, a = some ⟨g, o, none⟩ ∧ op = os.getD k nop0 ∧ op ∈ os ∧ w.rangeAt g (o + k * 4) (ocl op oa on oc) ∧ LtIn w (· < w0.heap.size) oa on oc op.l := by
  have hk2 : k < os.length := by have := h.1; omega
  obtain ⟨g, o, e, hg, oa, on, oc, h1, h2⟩ := h.2.2.2 k hk2
  exact ⟨g, o, oa, on, oc, _, e, rfl, by rw [List.getD, List.getElem?_eq_getElem hk2]; exact List.getElem_mem _, range_below h1 hg hb, h2.on hb⟩
set_option maxRecDepth 100000 in
set_option maxHeartbeats 4000000 in
theorem few26_walk (os : List NOp) (a : Option Addr) (n c : Nat) (w : World) (hO : NOsIn w a n c os) (hL : ∀ o, o ∈ os → LtLen o.l) :
    Calls Try.prog 40 #[.slice a n c] w fun e w' => ∃ m, e = .returned (.slice a m c) ∧ m ≤ n ∧ m ≤ 100 ∧ tot (os.take m) ≤ 20000 ∧ Below w.heap.size w w' := by
  have HO := Lib.hid hO
  have HN := Lib.hid hO.1
  have HFC := Lib.hid hO.2.1
  have HL := Lib.hid hL
  have hn63 : n ≤ 9223372036854775807 := by have h1 := hO.2.1; have h2 := hO.2.2.1; unfold maxLen at h2; omega
  have hc63 : c ≤ 9223372036854775807 := by have h2 := hO.2.2.1; unfold maxLen at h2; omega
  have hnc : n ≤ c := hO.2.1
  clear hO hL
  go_enter Try.func40, Try.ntmps40
  go_wp2
  go_loopw [3, 10] (fun z y wr => ∃ k Z : Nat, k ≤ n ∧ k ≤ 100 ∧ Z ≤ 20000 ∧ y = .int .i64 (k : Nat) ∧ z = .int .i64 (Z : Nat) ∧ Hid (Z = tot (os.take k)) ∧ Hid (Below w.heap.size w wr)) (fun _ y _ => n - (intOf y).toNat)
  case atStart => exact ⟨0, 0, Nat.zero_le _, by omega, by omega, rfl, rfl, rfl, Below.refl _ _⟩
  case round =>
    obtain ⟨k, Z, hk, hk100, hZ, rfl, rfl, HZ, HB⟩ := hrel
    obtain ⟨wo, rfl⟩ : ∃ wo : World, wo = wr := ⟨_, rfl⟩
    by_cases hlt : k < n
    · obtain ⟨g, o, oa, on, oc, op, ha, hop, hmem, hr, hl⟩ := HO.out.at_ hlt HB.out
      subst ha
      have HR := Lib.hid hr
      have HLI := Lib.hid hl
      have HON := Lib.hid hl.len
      have HLL := Lib.hid (HL.out op hmem)
      have HTS := Lib.hid (show tot (os.take (k + 1)) = tot (os.take k) + cost op.l by rw [hop]; exact tot_snoc os k (by have := HN.out; omega))
      have hon63 : on ≤ 9223372036854775807 := by have h1 := hl.fit; have h2 := hl.top; unfold maxLen at h2; omega
      have d0 := hr 0 _ rfl
      have d1 := hr 1 _ rfl
      have d2 := hr 2 _ rfl
      have d3 := hr 3 _ rfl
      simp only [Nat.add_zero] at d0
      have HLT := Lib.hid hlt
      have HK1 := Lib.hid hk100
      have HZ2 := Lib.hid hZ
      have hkc : k ≤ c := by omega
      clear hr hl hop hmem
      go_wp2
      have hb1 := below_one' wo (.cells #[.int .i64 op.act, .int .i64 op.f, .int .i64 op.i, .slice oa on oc] 39)
      have HB1 := Lib.hid (HB.out.trans (hb1.mono HB.out.size))
      have HLI := Lib.hid (HLI.out.on hb1)
      have HBo := Lib.hid hb1
      clear hb1 d0 d1 d2 d3
      generalize World.alloc wo _ = w1 at *
      go_loopw [3, 18] (fun z y wq => ∃ q Y : Nat, q ≤ on ∧ Y ≤ 20000 ∧ y = .int .i64 (q : Nat) ∧ z = .int .i64 (Y : Nat) ∧ Hid (Y = tot (os.take k) + cost (op.l.take q)) ∧ Hid (Below w1.heap.size w1 wq)) (fun _ y _ => on - (intOf y).toNat)
      case atStart => exact ⟨0, Z, Nat.zero_le _, by omega, rfl, rfl, (show Z = tot (os.take k) + cost (op.l.take 0) by rw [HZ.out]; simp [cost]), Below.refl _ _⟩
      case round =>
        obtain ⟨q, Y, hq, hY, rfl, rfl, HY, HBq⟩ := hrel
        obtain ⟨wp, rfl⟩ : ∃ wp : World, wp = wr := ⟨_, rfl⟩
        by_cases hqt : q < on
        · obtain ⟨gl, ol, px, nx, cx, ha, hg, hr, ht, _, _⟩ := (HLI.out.on HBq.out).rd q (by have := HON.out; omega)
          subst ha
          have hxl : nx ≤ 140737488355328 := by
            rw [ht.len]
            exact HLL.out _ (by rw [List.getD, List.getElem?_eq_getElem (show q < op.l.length by have := HON.out; omega)]; exact List.getElem_mem _)
          have HCS := Lib.hid (show cost (op.l.take (q + 1)) = cost (op.l.take q) + (1 + nx) by rw [ht.len]; exact cost_snoc _ _ (by have := HON.out; omega))
          have e0 := hr 0 _ rfl
          have e1 := hr 1 _ rfl
          simp only [Nat.add_zero] at e0
          have HQ := Lib.hid hqt
          clear hr ht hg
          by_cases hbig : 20000 < Y + (1 + nx)
          · have g1 : (20000 : Int) < (Y : Int) + (1 + (nx : Int)) := by omega
            go_wp2
            have hb2 := below_one' wp (.cells #[.int .i64 (op.l.getD q ltr0).1, .slice px nx cx] 70)
            have HB3 := Lib.hid (HB1.out.trans ((HBq.out.trans (hb2.mono HBq.out.size)).mono HB1.out.size))
            clear hb2
            go_ret
            exact ⟨k, rfl, by have := HLT.out; omega, HK1.out, by rw [← HZ.out]; exact HZ2.out, HB3.out⟩
          · have g1 : ¬ (20000 : Int) < (Y : Int) + (1 + (nx : Int)) := by omega
            go_wp2
            have hb2 := below_one' wp (.cells #[.int .i64 (op.l.getD q ltr0).1, .slice px nx cx] 70)
            have HB3 := Lib.hid (HBq.out.trans (hb2.mono HBq.out.size))
            clear hb2
            go_roundw
            case rel => exact ⟨q + 1, Y + (1 + nx), by have := HQ.out; omega, by omega, by go_num, by go_num, (show Y + (1 + nx) = tot (os.take k) + cost (op.l.take (q + 1)) by have h1 := HCS.out; have h2 := HY.out; omega), HB3.out⟩
            case measure => have := HQ.out; simp [intOf]; omega
        · have HE := Lib.hid (show op.l.take q = op.l from List.take_of_length_le (by have := HON.out; omega))
          have HB3 := Lib.hid (HB1.out.trans (HBq.out.mono HB1.out.size))
          by_cases h100 : 100 ≤ k
          · have g1 : (100 : Int) ≤ (k : Int) := by omega
            go_wp2
            go_ret
            exact ⟨k, rfl, by have := HLT.out; omega, HK1.out, by rw [← HZ.out]; exact HZ2.out, HB3.out⟩
          · have g1 : ¬ (100 : Int) ≤ (k : Int) := by omega
            go_wp2
            go_roundw
            case rel => exact ⟨k + 1, Y, by have := HLT.out; omega, by omega, by omega, by go_num, rfl, (show Y = tot (os.take (k + 1)) by rw [HTS.out, HY.out, HE.out]), HB3.out⟩
            case measure => have := HLT.out; simp [intOf]; omega
    · go_wp2
      go_ret
      exact ⟨n, rfl, Nat.le_refl _, by omega, by rw [show os.take n = os.take k by congr 1; omega, ← HZ.out]; exact hZ, HB.out⟩
end Go.Proofs.Ytajjbffppkpjpaa
