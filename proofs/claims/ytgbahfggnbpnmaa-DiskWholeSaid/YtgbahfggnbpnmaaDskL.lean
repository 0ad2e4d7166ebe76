import Derived.Test.YtgbahfggnbpnmaaRange
/-
  latest and its closure.
-/
namespace Go.Proofs.Ytgbahfggnbpnmaa
open Go.RowKit Go.Shelf
attribute [local go_sem] Oper.semAt_some
theorem latest_walk (p : Option Addr) (w : World) :
    Calls Try.prog 47 #[.pointer p] w fun e w' => e = .returned (.func (.func 49) #[] #[.pointer (some ⟨w.heap.size, 0, none⟩)]) ∧ w' = w.alloc (.cells #[.pointer p] 24) := by
  go_enter Try.func47, Try.ntmps47
  go_wp2
  go_ret
  exact ⟨rfl, rfl⟩
theorem rev_take {l : List Wt} {k : Nat} (h : k < l.length) : l.reverse.take (k + 1) = l.reverse.take k ++ [l.getD (l.length - 1 - k) (0, [])] := by
  rw [List.take_add_one]
  congr 1
  rw [List.getElem?_reverse h, getD_of (show l.length - 1 - k < l.length by omega), List.getElem?_eq_getElem (by omega)]
  rfl
theorem DiskAt.belowF {w w' : World} {b g n n₀ : Nat} {v : Value} {S : DS} (h : DiskAt w b g n v S) (hb : Below n₀ w w') (hF : ∀ k, Foot b g v k → k < n₀) : DiskAt w' b g n v S := by
  obtain ⟨z, hB, hz⟩ := h.blk
  exact ⟨h.ok, h.pos, h.fz, ⟨z, hB.below hb (hF _ (.inl rfl)), hz⟩, h.good.below hb (hF _ (.inr (.inl rfl))), row_same h.wait fun k e => hb.block k (hF k (.inr (.inr e)))⟩
set_option maxRecDepth 100000 in
set_option maxHeartbeats 2000000 in
theorem latest1_in (m L bd : Nat) (Wr : Nat → Prop) {b g n : Nat} {v : Value} {S : DS} (hlen : S.wait.length ≤ 1000000) (J Jx : List Wt → World → Prop)
    (hY : ∀ pre x W, pre ++ [x] <+: S.wait.reverse → J pre W → YieldAt Fence.wide (m - 1) Try.prog L #[.agg (wcell x).toArray] W fun e W' =>
      (e = .returned (.bool true) ∧ J (pre ++ [x]) W' ∧ Only Wr W W') ∨ (e = .returned (.bool false) ∧ Jx (pre ++ [x]) W'))
    (W : World) (hB : W.cell? ⟨bd, 0, none⟩ = some (.pointer (some ⟨b, 0, none⟩))) (hbd : ¬ Wr bd) (hD : DiskAt W b g n v S) (hF : ∀ k, Foot b g v k → ¬ Wr k) (h0 : J [] W) :
    CallsIn Fence.wide m Try.prog 49 #[.func (.yield L) #[] #[], .pointer (some ⟨bd, 0, none⟩)] W fun e W' => (∃ u, e = .returned u) ∧
      (J S.wait.reverse W' ∨ (∃ k, k <+: S.wait.reverse ∧ Jx k W')) := by
  obtain ⟨va, vc, rfl, _⟩ := row_form hD.wait
  obtain ⟨wn, hwn⟩ : ∃ x, x = S.wait.length := ⟨_, rfl⟩
  rw [← hwn] at hD hF
  have HWN := Lib.hid hwn
  have hw6 : wn ≤ 1000000 := by rw [hwn]; exact hlen
  have H := Lib.hid hD
  have HF := Lib.hid hF
  have HB := Lib.hid hB
  have c1 := hD.c1
  have h1 : IntKind.i64.wrap ((wn : Int) - 1) = (wn : Int) - 1 := IntWalk.i64_in _ (by omega)
  clear hlen hD hF hwn
  refine callsIn_of_wp Try.func49 rfl trivial ?_ rfl
  simp only [Try.ntmps49, List.size_toArray, List.length_cons, List.length_nil, Nat.reduceAdd, Nat.reduceSub, Array.replicate_succ, Array.replicate_zero, List.push_toArray, List.append_toArray, List.nil_append, List.cons_append]
  gi_wp2
  gi_loopw [3] (fun x wr => ∃ k : Nat, k ≤ wn ∧ x = .int .i64 ((wn : Int) - 1 - (k : Nat)) ∧ J (S.wait.reverse.take k) wr ∧ Hid (DiskAt wr b g n (.slice va wn vc) S) ∧ wr.cell? ⟨bd, 0, none⟩ = some (.pointer (some ⟨b, 0, none⟩))) (fun x _ => (intOf x + 1).toNat)
  case atStart => exact ⟨0, Nat.zero_le _, by simp, h0, H.out, HB.out⟩
  case round =>
    obtain ⟨k, hk, rfl, hJk, HD, hBr⟩ := hrel
    by_cases hlt : k < wn
    · obtain ⟨gw, cur, rfl, hcB, hcs, hct, hcn⟩ := row_at (by have q := HD.out.wait; rw [HWN.out] at q; exact q : wr.ownsRow 0 67 257 (.slice va S.wait.length vc) S.wait.length (wcells S.wait)) (by rw [← HWN.out]; omega)
      obtain ⟨j, hj⟩ : ∃ j, j = wn - 1 - k := ⟨_, rfl⟩
      have hjl : j < S.wait.length := by rw [← HWN.out]; omega
      obtain ⟨p, hp⟩ : ∃ p, p = S.wait.getD j (0, []) := ⟨_, rfl⟩
      have hpm : p ∈ S.wait := by rw [hp, getD_of hjl]; exact List.getElem_mem _
      have hwt := H.out.ok.wt p hpm
      have HCS := Lib.hid (show ∀ i, i < (wcell p).length → cur[j * 257 + i]? = (wcell p)[i]? by rw [hp]; exact wait_elem (fun p hp => (H.out.ok.wt p hp).2) hct j hjl)
      have HCB := Lib.hid hcB
      have HWL := Lib.hid (show (Try.prog.info? 67).map (·.size) = some (wcell p).length by rw [wcell_len hwt.2]; exact size_wr)
      have HTS := Lib.hid (show S.wait.reverse.take (k + 1) = S.wait.reverse.take k ++ [p] by rw [rev_take (by rw [← HWN.out]; exact hlt), hp, hj, HWN.out])
      have e1 : (wn : Int) - 1 - (k : Int) = (j : Int) := by omega
      have HE1 := Lib.hid (show (j : Int) - 1 = (wn : Int) - 1 - ((k + 1 : Nat) : Int) by omega)
      have HK := Lib.hid hlt
      have hj1 : (j : Int) < (wn : Int) := by omega
      have hw1 : IntKind.i64.wrap ((j : Int) - 1) = (j : Int) - 1 := IntWalk.i64_in _ (by omega)
      have c1 := HD.out.c1
      rw [e1]
      obtain ⟨fn, tmps, assign, body, hy, hR⟩ := hY (S.wait.reverse.take k) p wr (by rw [← HTS.out]; exact List.take_prefix _ _) hJk
      clear hj hjl hp hpm hwt hcB hct hcs hcn hlt e1 hJk hY
      gi_wp2_with (refine wpListIn_load_sub rfl 67 (.tmp 20) rfl gw (j * 257) rfl HCB.out (wcell p) HCS.out _ Try.underlying67 rfl HWL.out ?_)
      refine ⟨fun h => (by cases h), hR.mono ?_⟩
      rintro e W3 (⟨rfl, hJ3, hk3⟩ | ⟨rfl, hJx3⟩)
      · rw [← HTS.out] at hJ3
        have HD3 := Lib.hid (HD.out.keep hk3 HF.out)
        have HB3 := Lib.hid ((World.cell?_of_block (a := ⟨bd, 0, none⟩) (hk3.same bd (block_lt_of_cell hBr) hbd)).trans hBr)
        clear hk3 hR hy c1 hBr
        gi_wp2
        go_roundw
        case rel => exact ⟨k + 1, by have := HK.out; omega, by rw [HE1.out], hJ3, HD3.out, HB3.out⟩
        case measure => simp [intOf]
      · rw [← HTS.out] at hJx3
        clear hR hy c1 hBr
        gi_wp2
        refine bodyPost_ret (results_none rfl _ _ _) rfl ?_
        exact ⟨⟨_, rfl⟩, .inr ⟨_, List.take_prefix _ _, hJx3⟩⟩
    · obtain rfl : k = wn := by omega
      have hk1 : (k : Int) - 1 - (k : Int) = -1 := by omega
      rw [show S.wait.reverse.take k = S.wait.reverse by rw [HWN.out, List.take_of_length_le (by simp)]] at hJk
      gi_wp2
      go_end0
      exact ⟨⟨_, rfl⟩, .inl hJk⟩
end Go.Proofs.Ytgbahfggnbpnmaa
