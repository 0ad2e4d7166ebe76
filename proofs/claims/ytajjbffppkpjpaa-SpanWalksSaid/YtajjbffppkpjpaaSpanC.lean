import Derived.Test.YtajjbffppkpjpaaSpanO
/-
  The closures of span that tell a property of a range; slices.ContainsFunc at each.
-/
namespace Go.Proofs.Ytajjbffppkpjpaa
open Go.RowKit
abbrev rcb (r : Rg) : Array Value := #[.int .u64 (r.lo : Nat), .int .u64 (r.hi : Nat)]
set_option maxRecDepth 100000 in
theorem norm1_walk (r : Rg) (w : World) : Calls Try.prog 103 #[rag r] w fun e w' => e = .returned (.bool (!decide (oneP r))) ∧ Below w.heap.size w w' := by
  have HB := Lib.hid (below_one1 w (.cells (rcb r) 25))
  obtain ⟨q, hq⟩ : ∃ q, q = decide (oneP r) := ⟨_, rfl⟩
  rw [← hq]
  have HQ := Lib.hid hq
  clear hq
  go_enter Try.func103, Try.ntmps103
  go_wp2_with fail
  refine (one_walk r _).mono ?_
  rintro e w2 ⟨he, hb⟩
  rw [← HQ.out] at he
  subst he
  have HB2 := Lib.hid (HB.out.trans (hb.mono HB.out.size))
  clear hb
  go_wp2
  go_ret
  exact ⟨rfl, HB2.out⟩
set_option maxRecDepth 100000 in
theorem meets1_walk (x r : Rg) (g : Nat) (w : World) (hB : Blk w g (rcb r) 25) : Calls Try.prog 110 #[rag x, .pointer (some ⟨g, 0, none⟩)] w fun e w' => e = .returned (.bool (decide ((inter x r).lo < (inter x r).hi))) ∧ Below w.heap.size w w' := by
  have hb1 := below_one1 w (.cells (rcb x) 25)
  have HB := Lib.hid hb1
  have BG := Lib.hid (hB.below hb1 hB.lt)
  have b0 := BG.out.cell 0 rfl
  have b1 := BG.out.cell 1 rfl
  obtain ⟨q, hq⟩ : ∃ q, q = decide ((inter x r).lo < (inter x r).hi) := ⟨_, rfl⟩
  rw [← hq]
  have HQ := Lib.hid hq
  clear hq hB hb1
  go_enter Try.func110, Try.ntmps110
  go_wp2_with fail
  refine (both_walk x r _).mono ?_
  rintro e w2 ⟨he, hb⟩
  rw [← HQ.out] at he
  subst he
  have HB2 := Lib.hid (HB.out.trans (hb.mono HB.out.size))
  have HB3 := Lib.hid (HB2.out.trans ((below_one1 w2 (.cells (rcb (inter x r)) 25)).mono HB2.out.size))
  clear hb b0 b1
  go_wp2
  go_ret
  exact ⟨rfl, HB3.out⟩
set_option maxRecDepth 100000 in
theorem covers1_walk (x r : Rg) (g : Nat) (w : World) (hB : Blk w g (rcb r) 25) : Calls Try.prog 81 #[rag x, .pointer (some ⟨g, 0, none⟩)] w fun e w' => e = .returned (.bool (decide ((inter x r).lo < (inter x r).hi) && decide (inter x r = r))) ∧ Below w.heap.size w w' := by
  have hb1 := below_one1 w (.cells (rcb x) 25)
  have HB := Lib.hid hb1
  have BG := Lib.hid (hB.below hb1 hB.lt)
  have b0 := BG.out.cell 0 rfl
  have b1 := BG.out.cell 1 rfl
  obtain ⟨q, hq⟩ : ∃ q, q = decide ((inter x r).lo < (inter x r).hi) := ⟨_, rfl⟩
  obtain ⟨y, hy⟩ : ∃ y, y = inter x r := ⟨_, rfl⟩
  rw [← hq, ← hy]
  have HQ := Lib.hid hq
  have HY := Lib.hid hy
  clear hq hB hb1 hy
  go_enter Try.func81, Try.ntmps81
  go_wp2_with fail
  refine (both_walk x r _).mono ?_
  rintro e w2 ⟨he, hb⟩
  rw [← HQ.out, ← HY.out] at he
  subst he
  have HB2 := Lib.hid (HB.out.trans (hb.mono HB.out.size))
  have hb3 := below_one1 w2 (.cells (rcb y) 25)
  have HB3 := Lib.hid (HB2.out.trans (hb3.mono HB2.out.size))
  have BG2 := Lib.hid ((BG.out.below hb BG.out.lt).below hb3 (Nat.lt_of_lt_of_le BG.out.lt hb.size))
  have b0 := BG2.out.cell 0 rfl
  have b1 := BG2.out.cell 1 rfl
  clear hb hb3
  cases q with
  | true =>
    clear HQ HY
    obtain ⟨yl, yh⟩ := y
    obtain ⟨rl, rh⟩ := r
    by_cases e1 : yl = rl
    · subst e1
      by_cases e2 : yh = rh
      · subst e2
        go_wp2
        go_ret
        exact ⟨by show Ending.returned (.bool true) = _; simp, HB3.out⟩
      · have e2i : ¬ (yh : Int) = (rh : Int) := by omega
        go_wp2
        go_ret
        refine ⟨?_, HB3.out⟩
        show Ending.returned (.bool false) = _
        rw [decide_eq_false (show ¬ (⟨yl, yh⟩ : Rg) = ⟨yl, rh⟩ by simpa using e2)]
        rfl
    · have e1i : ¬ (yl : Int) = (rl : Int) := by omega
      go_wp2
      go_ret
      refine ⟨?_, HB3.out⟩
      show Ending.returned (.bool false) = _
      rw [decide_eq_false (show ¬ (⟨yl, yh⟩ : Rg) = ⟨rl, rh⟩ by simp [e1])]
      rfl
  | false =>
    go_wp2
    go_ret
    exact ⟨rfl, HB3.out⟩
set_option maxRecDepth 100000 in
theorem has1_walk (x : Rg) (i : Nat) (g : Nat) (w : World) (hB : Blk w g #[.int .u64 (i : Nat)] 23) : Calls Try.prog 109 #[rag x, .pointer (some ⟨g, 0, none⟩)] w fun e w' => e = .returned (.bool (decide (x.lo ≤ i ∧ i < x.hi))) ∧ Below w.heap.size w w' := by
  have hb1 := below_one1 w (.cells (rcb x) 25)
  have HB := Lib.hid hb1
  have b0 := (hB.below hb1 hB.lt).cell 0 rfl
  clear hB hb1
  by_cases h1 : x.lo ≤ i
  · have g1 : (x.lo : Int) ≤ (i : Int) := by omega
    by_cases h2 : i < x.hi
    · rw [decide_eq_true (show x.lo ≤ i ∧ i < x.hi from ⟨h1, h2⟩)]
      have g2 : (i : Int) < (x.hi : Int) := by omega
      go_enter Try.func109, Try.ntmps109
      go_wp2
      go_ret
      exact ⟨rfl, HB.out⟩
    · rw [decide_eq_false (show ¬ (x.lo ≤ i ∧ i < x.hi) from fun h => h2 h.2)]
      have g2 : ¬ (i : Int) < (x.hi : Int) := by omega
      go_enter Try.func109, Try.ntmps109
      go_wp2
      go_ret
      exact ⟨rfl, HB.out⟩
  · rw [decide_eq_false (show ¬ (x.lo ≤ i ∧ i < x.hi) from fun h => h1 h.1)]
    have g1 : ¬ (x.lo : Int) ≤ (i : Int) := by omega
    go_enter Try.func109, Try.ntmps109
    go_wp2
    go_ret
    exact ⟨rfl, HB.out⟩
set_option maxRecDepth 100000 in
theorem idx_norm (l : List Rg) (a : Option Addr) (n c : Nat) (w : World) (hL : RgsIn w a n c l) :
    Calls Try.prog 113 #[.slice a n c, .func (.func 103) #[] #[]] w fun e w' => ∃ z : Int, e = .returned (.int .i64 z) ∧ (0 ≤ z ↔ ∃ x, x ∈ l ∧ (!decide (oneP x)) = true) ∧ Below w.heap.size w w' := by
  have HL := Lib.hid hL
  have HN := Lib.hid hL.len
  have hn63 : n ≤ 9223372036854775807 := by have h1 := hL.fit; have h2 := hL.top; unfold maxLen at h2; omega
  clear hL
  go_enter Try.func113, Try.ntmps113
  go_wp2
  go_loopw [8] (fun y wr => ∃ k : Nat, k ≤ n ∧ y = .int .i64 (k : Nat) ∧ Below w.heap.size w wr ∧ Hid (∀ j, j < k → (fun x => (!decide (oneP x))) (l.getD j r0) = false)) (fun y _ => n - (intOf y).toNat)
  case atStart => exact ⟨0, Nat.zero_le _, rfl, Below.refl _ _, fun j hj => by omega⟩
  case round =>
    obtain ⟨k, hk, rfl, hb, HJ⟩ := hrel
    have HBr := Lib.hid hb
    by_cases hlt : k < n
    · obtain ⟨g, o, rfl, hg, hr⟩ := HL.out.rd k (by have := HN.out; omega)
      obtain ⟨x, hx⟩ : ∃ x, x = l.getD k r0 := ⟨_, rfl⟩
      rw [← hx] at hr
      have HX := Lib.hid hx
      have HR := Lib.hid (rng_on hr hb)
      have HKL := Lib.hid (show k < l.length by have := HN.out; omega)
      clear hx hr hb hg
      go_wp2_with (refine wpList_load_mid rfl 25 (.tmp 14) rfl g (o + k * 2) rfl (rcl x) _ HR.out Try.underlying25 rfl size_rg ?_)
      refine (norm1_walk x _).mono ?_
      rintro e w2 ⟨he, hb⟩
      have HB2 := Lib.hid (HBr.out.trans (hb.mono HBr.out.size))
      clear hb
      cases hp : (!decide (oneP x)) with
      | true =>
        rw [hp] at he
        subst he
        have HP := Lib.hid hp
        clear hp
        go_wp2
        go_ret
        refine ⟨k, rfl, ⟨fun _ => ⟨x, ?_, HP.out⟩, fun _ => by omega⟩, HB2.out⟩
        rw [HX.out, List.getD, List.getElem?_eq_getElem HKL.out]
        exact List.getElem_mem _
      | false =>
        rw [hp] at he
        subst he
        have HP := Lib.hid hp
        clear hp
        go_wp2
        go_roundw
        case rel =>
          refine ⟨k + 1, by omega, by go_num, HB2.out, fun j hj => ?_⟩
          rcases Nat.lt_or_ge j k with h | h
          · exact HJ.out j h
          · obtain rfl : j = k := by omega
            show (fun x => (!decide (oneP x))) (l.getD j r0) = false
            rw [← HX.out]; exact HP.out
        case measure => simp [intOf]; omega
    · have HK := Lib.hid (show k = n by omega)
      clear hb
      go_wp2
      go_ret
      refine ⟨-1, rfl, ⟨fun h => by omega, ?_⟩, HBr.out⟩
      rintro ⟨x, hx, hp⟩
      obtain ⟨j, hj, rfl⟩ := List.getElem_of_mem hx
      have h := HJ.out j (by have := HK.out; have := HN.out; omega)
      rw [show l.getD j r0 = l[j] by simp [List.getD, hj]] at h
      exact absurd h (by simpa using hp)
set_option maxRecDepth 100000 in
theorem contains_norm (l : List Rg) (a : Option Addr) (n c : Nat) (w : World) (hL : RgsIn w a n c l) (M : Bool) (hM : M = true ↔ ∃ x, x ∈ l ∧ (!decide (oneP x)) = true) :
    Calls Try.prog 80 #[.slice a n c, .func (.func 103) #[] #[]] w fun e w' => e = .returned (.bool M) ∧ Below w.heap.size w w' := by
  have HL := Lib.hid hL
  have HM := Lib.hid hM
  clear hL hM
  go_enter Try.func80, Try.ntmps80
  go_wp2_with fail
  refine (idx_norm l a n c w HL.out ).mono ?_
  rintro e w2 ⟨z, rfl, hz, hb⟩
  have HZ := Lib.hid (show M = decide (0 ≤ z) by
    by_cases q : 0 ≤ z
    · rw [decide_eq_true q]; exact HM.out.2 (hz.1 q)
    · rw [decide_eq_false q]; exact Bool.eq_false_iff.2 fun h => q (hz.2 (HM.out.1 h)))
  have HB := Lib.hid hb
  clear hz hb
  go_wp2
  go_ret
  exact ⟨by show Ending.returned (.bool (decide (0 ≤ z))) = _; rw [HZ.out], HB.out⟩
set_option maxRecDepth 100000 in
theorem idx_meets (r : Rg) (gr : Nat) (l : List Rg) (a : Option Addr) (n c : Nat) (w : World) (hL : RgsIn w a n c l) (hB : Blk w gr (rcb r) 25) :
    Calls Try.prog 113 #[.slice a n c, .func (.func 110) #[] #[.pointer (some ⟨gr, 0, none⟩)]] w fun e w' => ∃ z : Int, e = .returned (.int .i64 z) ∧ (0 ≤ z ↔ ∃ x, x ∈ l ∧ (decide ((inter x r).lo < (inter x r).hi)) = true) ∧ Below w.heap.size w w' := by
  have HL := Lib.hid hL
  have HN := Lib.hid hL.len
  have hn63 : n ≤ 9223372036854775807 := by have h1 := hL.fit; have h2 := hL.top; unfold maxLen at h2; omega
  have BG := Lib.hid hB
  clear hB
  clear hL
  go_enter Try.func113, Try.ntmps113
  go_wp2
  go_loopw [8] (fun y wr => ∃ k : Nat, k ≤ n ∧ y = .int .i64 (k : Nat) ∧ Below w.heap.size w wr ∧ Hid (∀ j, j < k → (fun x => (decide ((inter x r).lo < (inter x r).hi))) (l.getD j r0) = false)) (fun y _ => n - (intOf y).toNat)
  case atStart => exact ⟨0, Nat.zero_le _, rfl, Below.refl _ _, fun j hj => by omega⟩
  case round =>
    obtain ⟨k, hk, rfl, hb, HJ⟩ := hrel
    have HBr := Lib.hid hb
    by_cases hlt : k < n
    · obtain ⟨g, o, rfl, hg, hr⟩ := HL.out.rd k (by have := HN.out; omega)
      obtain ⟨x, hx⟩ : ∃ x, x = l.getD k r0 := ⟨_, rfl⟩
      rw [← hx] at hr
      have HX := Lib.hid hx
      have HR := Lib.hid (rng_on hr hb)
      have HKL := Lib.hid (show k < l.length by have := HN.out; omega)
      clear hx hr hb hg
      go_wp2_with (refine wpList_load_mid rfl 25 (.tmp 14) rfl g (o + k * 2) rfl (rcl x) _ HR.out Try.underlying25 rfl size_rg ?_)
      refine (meets1_walk x r gr _ (BG.out.below HBr.out BG.out.lt)).mono ?_
      rintro e w2 ⟨he, hb⟩
      have HB2 := Lib.hid (HBr.out.trans (hb.mono HBr.out.size))
      clear hb
      cases hp : (decide ((inter x r).lo < (inter x r).hi)) with
      | true =>
        rw [hp] at he
        subst he
        have HP := Lib.hid hp
        clear hp
        go_wp2
        go_ret
        refine ⟨k, rfl, ⟨fun _ => ⟨x, ?_, HP.out⟩, fun _ => by omega⟩, HB2.out⟩
        rw [HX.out, List.getD, List.getElem?_eq_getElem HKL.out]
        exact List.getElem_mem _
      | false =>
        rw [hp] at he
        subst he
        have HP := Lib.hid hp
        clear hp
        go_wp2
        go_roundw
        case rel =>
          refine ⟨k + 1, by omega, by go_num, HB2.out, fun j hj => ?_⟩
          rcases Nat.lt_or_ge j k with h | h
          · exact HJ.out j h
          · obtain rfl : j = k := by omega
            show (fun x => (decide ((inter x r).lo < (inter x r).hi))) (l.getD j r0) = false
            rw [← HX.out]; exact HP.out
        case measure => simp [intOf]; omega
    · have HK := Lib.hid (show k = n by omega)
      clear hb
      go_wp2
      go_ret
      refine ⟨-1, rfl, ⟨fun h => by omega, ?_⟩, HBr.out⟩
      rintro ⟨x, hx, hp⟩
      obtain ⟨j, hj, rfl⟩ := List.getElem_of_mem hx
      have h := HJ.out j (by have := HK.out; have := HN.out; omega)
      rw [show l.getD j r0 = l[j] by simp [List.getD, hj]] at h
      exact absurd h (by simpa using hp)
set_option maxRecDepth 100000 in
theorem contains_meets (r : Rg) (gr : Nat) (l : List Rg) (a : Option Addr) (n c : Nat) (w : World) (hL : RgsIn w a n c l) (hB : Blk w gr (rcb r) 25) (M : Bool) (hM : M = true ↔ ∃ x, x ∈ l ∧ (decide ((inter x r).lo < (inter x r).hi)) = true) :
    Calls Try.prog 80 #[.slice a n c, .func (.func 110) #[] #[.pointer (some ⟨gr, 0, none⟩)]] w fun e w' => e = .returned (.bool M) ∧ Below w.heap.size w w' := by
  have HL := Lib.hid hL
  have BG := Lib.hid hB
  clear hB
  have HM := Lib.hid hM
  clear hL hM
  go_enter Try.func80, Try.ntmps80
  go_wp2_with fail
  refine (idx_meets r gr l a n c w HL.out BG.out).mono ?_
  rintro e w2 ⟨z, rfl, hz, hb⟩
  have HZ := Lib.hid (show M = decide (0 ≤ z) by
    by_cases q : 0 ≤ z
    · rw [decide_eq_true q]; exact HM.out.2 (hz.1 q)
    · rw [decide_eq_false q]; exact Bool.eq_false_iff.2 fun h => q (hz.2 (HM.out.1 h)))
  have HB := Lib.hid hb
  clear hz hb
  go_wp2
  go_ret
  exact ⟨by show Ending.returned (.bool (decide (0 ≤ z))) = _; rw [HZ.out], HB.out⟩
set_option maxRecDepth 100000 in
theorem idx_has (i gr : Nat) (l : List Rg) (a : Option Addr) (n c : Nat) (w : World) (hL : RgsIn w a n c l) (hB : Blk w gr #[.int .u64 (i : Nat)] 23) :
    Calls Try.prog 113 #[.slice a n c, .func (.func 109) #[] #[.pointer (some ⟨gr, 0, none⟩)]] w fun e w' => ∃ z : Int, e = .returned (.int .i64 z) ∧ (0 ≤ z ↔ ∃ x, x ∈ l ∧ (decide (x.lo ≤ i ∧ i < x.hi)) = true) ∧ Below w.heap.size w w' := by
  have HL := Lib.hid hL
  have HN := Lib.hid hL.len
  have hn63 : n ≤ 9223372036854775807 := by have h1 := hL.fit; have h2 := hL.top; unfold maxLen at h2; omega
  have BG := Lib.hid hB
  clear hB
  clear hL
  go_enter Try.func113, Try.ntmps113
  go_wp2
  go_loopw [8] (fun y wr => ∃ k : Nat, k ≤ n ∧ y = .int .i64 (k : Nat) ∧ Below w.heap.size w wr ∧ Hid (∀ j, j < k → (fun x => (decide (x.lo ≤ i ∧ i < x.hi))) (l.getD j r0) = false)) (fun y _ => n - (intOf y).toNat)
  case atStart => exact ⟨0, Nat.zero_le _, rfl, Below.refl _ _, fun j hj => by omega⟩
  case round =>
    obtain ⟨k, hk, rfl, hb, HJ⟩ := hrel
    have HBr := Lib.hid hb
    by_cases hlt : k < n
    · obtain ⟨g, o, rfl, hg, hr⟩ := HL.out.rd k (by have := HN.out; omega)
      obtain ⟨x, hx⟩ : ∃ x, x = l.getD k r0 := ⟨_, rfl⟩
      rw [← hx] at hr
      have HX := Lib.hid hx
      have HR := Lib.hid (rng_on hr hb)
      have HKL := Lib.hid (show k < l.length by have := HN.out; omega)
      clear hx hr hb hg
      go_wp2_with (refine wpList_load_mid rfl 25 (.tmp 14) rfl g (o + k * 2) rfl (rcl x) _ HR.out Try.underlying25 rfl size_rg ?_)
      refine (has1_walk x i gr _ (BG.out.below HBr.out BG.out.lt)).mono ?_
      rintro e w2 ⟨he, hb⟩
      have HB2 := Lib.hid (HBr.out.trans (hb.mono HBr.out.size))
      clear hb
      cases hp : (decide (x.lo ≤ i ∧ i < x.hi)) with
      | true =>
        rw [hp] at he
        subst he
        have HP := Lib.hid hp
        clear hp
        go_wp2
        go_ret
        refine ⟨k, rfl, ⟨fun _ => ⟨x, ?_, HP.out⟩, fun _ => by omega⟩, HB2.out⟩
        rw [HX.out, List.getD, List.getElem?_eq_getElem HKL.out]
        exact List.getElem_mem _
      | false =>
        rw [hp] at he
        subst he
        have HP := Lib.hid hp
        clear hp
        go_wp2
        go_roundw
        case rel =>
          refine ⟨k + 1, by omega, by go_num, HB2.out, fun j hj => ?_⟩
          rcases Nat.lt_or_ge j k with h | h
          · exact HJ.out j h
          · obtain rfl : j = k := by omega
            show (fun x => (decide (x.lo ≤ i ∧ i < x.hi))) (l.getD j r0) = false
            rw [← HX.out]; exact HP.out
        case measure => simp [intOf]; omega
    · have HK := Lib.hid (show k = n by omega)
      clear hb
      go_wp2
      go_ret
      refine ⟨-1, rfl, ⟨fun h => by omega, ?_⟩, HBr.out⟩
      rintro ⟨x, hx, hp⟩
      obtain ⟨j, hj, rfl⟩ := List.getElem_of_mem hx
      have h := HJ.out j (by have := HK.out; have := HN.out; omega)
      rw [show l.getD j r0 = l[j] by simp [List.getD, hj]] at h
      exact absurd h (by simpa using hp)
set_option maxRecDepth 100000 in
theorem contains_has (i gr : Nat) (l : List Rg) (a : Option Addr) (n c : Nat) (w : World) (hL : RgsIn w a n c l) (hB : Blk w gr #[.int .u64 (i : Nat)] 23) (M : Bool) (hM : M = true ↔ ∃ x, x ∈ l ∧ (decide (x.lo ≤ i ∧ i < x.hi)) = true) :
    Calls Try.prog 80 #[.slice a n c, .func (.func 109) #[] #[.pointer (some ⟨gr, 0, none⟩)]] w fun e w' => e = .returned (.bool M) ∧ Below w.heap.size w w' := by
  have HL := Lib.hid hL
  have BG := Lib.hid hB
  clear hB
  have HM := Lib.hid hM
  clear hL hM
  go_enter Try.func80, Try.ntmps80
  go_wp2_with fail
  refine (idx_has i gr l a n c w HL.out BG.out).mono ?_
  rintro e w2 ⟨z, rfl, hz, hb⟩
  have HZ := Lib.hid (show M = decide (0 ≤ z) by
    by_cases q : 0 ≤ z
    · rw [decide_eq_true q]; exact HM.out.2 (hz.1 q)
    · rw [decide_eq_false q]; exact Bool.eq_false_iff.2 fun h => q (hz.2 (HM.out.1 h)))
  have HB := Lib.hid hb
  clear hz hb
  go_wp2
  go_ret
  exact ⟨by show Ending.returned (.bool (decide (0 ≤ z))) = _; rw [HZ.out], HB.out⟩
set_option maxRecDepth 100000 in
theorem idx_covers (r : Rg) (gr : Nat) (l : List Rg) (a : Option Addr) (n c : Nat) (w : World) (hL : RgsIn w a n c l) (hB : Blk w gr (rcb r) 25) :
    Calls Try.prog 113 #[.slice a n c, .func (.func 81) #[] #[.pointer (some ⟨gr, 0, none⟩)]] w fun e w' => ∃ z : Int, e = .returned (.int .i64 z) ∧ (0 ≤ z ↔ ∃ x, x ∈ l ∧ (decide ((inter x r).lo < (inter x r).hi) && decide (inter x r = r)) = true) ∧ Below w.heap.size w w' := by
  have HL := Lib.hid hL
  have HN := Lib.hid hL.len
  have hn63 : n ≤ 9223372036854775807 := by have h1 := hL.fit; have h2 := hL.top; unfold maxLen at h2; omega
  have BG := Lib.hid hB
  clear hB
  clear hL
  go_enter Try.func113, Try.ntmps113
  go_wp2
  go_loopw [8] (fun y wr => ∃ k : Nat, k ≤ n ∧ y = .int .i64 (k : Nat) ∧ Below w.heap.size w wr ∧ Hid (∀ j, j < k → (fun x => (decide ((inter x r).lo < (inter x r).hi) && decide (inter x r = r))) (l.getD j r0) = false)) (fun y _ => n - (intOf y).toNat)
  case atStart => exact ⟨0, Nat.zero_le _, rfl, Below.refl _ _, fun j hj => by omega⟩
  case round =>
    obtain ⟨k, hk, rfl, hb, HJ⟩ := hrel
    have HBr := Lib.hid hb
    by_cases hlt : k < n
    · obtain ⟨g, o, rfl, hg, hr⟩ := HL.out.rd k (by have := HN.out; omega)
      obtain ⟨x, hx⟩ : ∃ x, x = l.getD k r0 := ⟨_, rfl⟩
      rw [← hx] at hr
      have HX := Lib.hid hx
      have HR := Lib.hid (rng_on hr hb)
      have HKL := Lib.hid (show k < l.length by have := HN.out; omega)
      clear hx hr hb hg
      go_wp2_with (refine wpList_load_mid rfl 25 (.tmp 14) rfl g (o + k * 2) rfl (rcl x) _ HR.out Try.underlying25 rfl size_rg ?_)
      refine (covers1_walk x r gr _ (BG.out.below HBr.out BG.out.lt)).mono ?_
      rintro e w2 ⟨he, hb⟩
      have HB2 := Lib.hid (HBr.out.trans (hb.mono HBr.out.size))
      clear hb
      cases hp : (decide ((inter x r).lo < (inter x r).hi) && decide (inter x r = r)) with
      | true =>
        rw [hp] at he
        subst he
        have HP := Lib.hid hp
        clear hp
        go_wp2
        go_ret
        refine ⟨k, rfl, ⟨fun _ => ⟨x, ?_, HP.out⟩, fun _ => by omega⟩, HB2.out⟩
        rw [HX.out, List.getD, List.getElem?_eq_getElem HKL.out]
        exact List.getElem_mem _
      | false =>
        rw [hp] at he
        subst he
        have HP := Lib.hid hp
        clear hp
        go_wp2
        go_roundw
        case rel =>
          refine ⟨k + 1, by omega, by go_num, HB2.out, fun j hj => ?_⟩
          rcases Nat.lt_or_ge j k with h | h
          · exact HJ.out j h
          · obtain rfl : j = k := by omega
            show (fun x => (decide ((inter x r).lo < (inter x r).hi) && decide (inter x r = r))) (l.getD j r0) = false
            rw [← HX.out]; exact HP.out
        case measure => simp [intOf]; omega
    · have HK := Lib.hid (show k = n by omega)
      clear hb
      go_wp2
      go_ret
      refine ⟨-1, rfl, ⟨fun h => by omega, ?_⟩, HBr.out⟩
      rintro ⟨x, hx, hp⟩
      obtain ⟨j, hj, rfl⟩ := List.getElem_of_mem hx
      have h := HJ.out j (by have := HK.out; have := HN.out; omega)
      rw [show l.getD j r0 = l[j] by simp [List.getD, hj]] at h
      exact absurd h (by simpa using hp)
set_option maxRecDepth 100000 in
theorem contains_covers (r : Rg) (gr : Nat) (l : List Rg) (a : Option Addr) (n c : Nat) (w : World) (hL : RgsIn w a n c l) (hB : Blk w gr (rcb r) 25) (M : Bool) (hM : M = true ↔ ∃ x, x ∈ l ∧ (decide ((inter x r).lo < (inter x r).hi) && decide (inter x r = r)) = true) :
    Calls Try.prog 80 #[.slice a n c, .func (.func 81) #[] #[.pointer (some ⟨gr, 0, none⟩)]] w fun e w' => e = .returned (.bool M) ∧ Below w.heap.size w w' := by
  have HL := Lib.hid hL
  have BG := Lib.hid hB
  clear hB
  have HM := Lib.hid hM
  clear hL hM
  go_enter Try.func80, Try.ntmps80
  go_wp2_with fail
  refine (idx_covers r gr l a n c w HL.out BG.out).mono ?_
  rintro e w2 ⟨z, rfl, hz, hb⟩
  have HZ := Lib.hid (show M = decide (0 ≤ z) by
    by_cases q : 0 ≤ z
    · rw [decide_eq_true q]; exact HM.out.2 (hz.1 q)
    · rw [decide_eq_false q]; exact Bool.eq_false_iff.2 fun h => q (hz.2 (HM.out.1 h)))
  have HB := Lib.hid hb
  clear hz hb
  go_wp2
  go_ret
  exact ⟨by show Ending.returned (.bool (decide (0 ≤ z))) = _; rw [HZ.out], HB.out⟩
end Go.Proofs.Ytajjbffppkpjpaa
