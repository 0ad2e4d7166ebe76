import Derived.Test.YtajjbffppkpjpaaSpanL
/-
  Two ranges compared; Same.
-/
namespace Go.Proofs.Ytajjbffppkpjpaa
open Go.RowKit
theorem run_eq_rg (x y : Rg) (w : World) : (binOp .eql 25 (rag x) (rag y)).run Try.prog w = .ok (.bool (decide (x = y))) w := by
  obtain ⟨a, b⟩ := x
  obtain ⟨c, d⟩ := y
  by_cases h1 : a = c
  · subst h1
    by_cases h2 : b = d
    · subst h2
      go_simp
    · have g2 : ¬ (b : Int) = (d : Int) := by omega
      rw [decide_eq_false (show ¬ (⟨a, b⟩ : Rg) = ⟨a, d⟩ by simpa using h2)]
      go_simp
  · have g1 : ¬ (a : Int) = (c : Int) := by omega
    rw [decide_eq_false (show ¬ (⟨a, b⟩ : Rg) = ⟨c, d⟩ by simp [h1])]
    go_simp
theorem run_ne_rg (x y : Rg) (w : World) : (binOp .neq 25 (rag x) (rag y)).run Try.prog w = .ok (.bool (!decide (x = y))) w := by
  obtain ⟨a, b⟩ := x
  obtain ⟨c, d⟩ := y
  by_cases h1 : a = c
  · subst h1
    by_cases h2 : b = d
    · subst h2
      go_simp
    · have g2 : ¬ (b : Int) = (d : Int) := by omega
      rw [decide_eq_false (show ¬ (⟨a, b⟩ : Rg) = ⟨a, d⟩ by simpa using h2)]
      go_simp
  · have g1 : ¬ (a : Int) = (c : Int) := by omega
    rw [decide_eq_false (show ¬ (⟨a, b⟩ : Rg) = ⟨c, d⟩ by simp [h1])]
    go_simp
theorem list_ext_getD {l k : List Rg} (hl : l.length = k.length) (h : ∀ j, j < l.length → l.getD j r0 = k.getD j r0) : l = k := by
  apply List.ext_getElem hl
  intro j h1 h2
  have := h j h1
  simpa [List.getD, h1, h2] using this
theorem yields_rg {o : Oper} {a : Act} {w : World} (x : Operand) (ho : o.op = .load 25 x) (g k : Nat) (hx : a.eval x = .pointer (some ⟨g, k, none⟩)) (r : Rg) (hr : w.rangeAt g k (rcl r)) : (execOp a.eval o).run Try.prog w = .ok (.value (rag r)) w := by
  unfold execOp
  have := run_loadVar_mid w g k 25 (rcl r) _ hr Try.underlying25 rfl size_rg
  simp [ho, hx, Instr.loadAt, Instr.sureAddr, this, rcl]
theorem yields_ne {o : Oper} {a : Act} (x y : Rg) (w : World) (u v : Operand) {t : TypeId} (ho : o.op = .binOp .neq 25 u v t) (hu : a.eval u = rag x) (hv : a.eval v = rag y) : (execOp a.eval o).run Try.prog w = .ok (.value (.bool (!decide (x = y)))) w := by
  unfold execOp
  simp only [ho, hu, hv]
  obtain ⟨a1, b⟩ := x
  obtain ⟨c, d⟩ := y
  by_cases h1 : a1 = c
  · subst h1
    by_cases h2 : b = d
    · subst h2
      go_simp
    · have g2 : ¬ (b : Int) = (d : Int) := by omega
      rw [decide_eq_false (show ¬ (⟨a1, b⟩ : Rg) = ⟨a1, d⟩ by simpa using h2)]
      clear ho hu hv
      go_simp
  · have g1 : ¬ (a1 : Int) = (c : Int) := by omega
    rw [decide_eq_false (show ¬ (⟨a1, b⟩ : Rg) = ⟨c, d⟩ by simp [h1])]
    clear ho hu hv
    go_simp
theorem few19_walk (a : Option Addr) (n c : Nat) (w : World) : Calls Try.prog 52 #[.slice a n c] w fun e w' => e = .returned (.bool (decide (n ≤ 300))) ∧ w' = w := by
  by_cases h : n ≤ 300
  · have g : (n : Int) ≤ 300 := by omega
    rw [decide_eq_true h]
    go_enter Try.func52, Try.ntmps52
    go_wp2
    go_ret
    exact ⟨rfl, rfl⟩
  · have g : ¬ (n : Int) ≤ 300 := by omega
    rw [decide_eq_false h]
    go_enter Try.func52, Try.ntmps52
    go_wp2
    go_ret
    exact ⟨rfl, rfl⟩
set_option maxRecDepth 100000 in
set_option maxHeartbeats 1000000 in
theorem same_walk (l k : List Rg) (pa : Option Addr) (n ca : Nat) (pb : Option Addr) (m cb : Nat) (w : World) (hn : n = l.length) (hm : m = k.length) (h63 : n ≤ 9223372036854775807) (hR1 : RgR w pa l) (hR2 : RgR w pb k) :
    Calls Try.prog 57 #[.slice pa n ca, .slice pb m cb] w fun e w' => e = .returned (.bool (decide (l = k))) ∧ Below w.heap.size w w' := by
  by_cases he : n = m
  · subst he
    have HN := Lib.hid hn
    have HM := Lib.hid hm
    have HR1 := Lib.hid hR1
    have HR2 := Lib.hid hR2
    clear hn hm hR1 hR2
    go_enter Try.func57, Try.ntmps57
    go_wp2
    go_loopw [13] (fun x wr => ∃ i : Nat, i ≤ n ∧ x = .int .i64 (i : Nat) ∧ Hid (∀ j, j < i → l.getD j r0 = k.getD j r0) ∧ Below w.heap.size w wr) (fun x _ => n - (intOf x).toNat)
    case atStart => exact ⟨0, Nat.zero_le _, rfl, fun j hj => (by omega), Below.refl _ _⟩
    case round =>
      obtain ⟨i, hi, rfl, HJ, hb⟩ := hrel
      have HBr := Lib.hid hb
      by_cases hlt : i < n
      · obtain ⟨g, o, rfl, hg, hr⟩ := HR1.out i (by have := HN.out; omega)
        obtain ⟨g2, o2, rfl, hg2, hr2⟩ := HR2.out i (by have := HM.out; omega)
        have HR := Lib.hid (rng_on hr hb)
        have HR2 := Lib.hid (rng_on hr2 hb)
        obtain ⟨x, hx⟩ : ∃ x, x = l.getD i r0 := ⟨_, rfl⟩
        obtain ⟨y, hy⟩ : ∃ y, y = k.getD i r0 := ⟨_, rfl⟩
        rw [← hx] at HR
        rw [← hy] at HR2
        have HX := Lib.hid hx
        have HY := Lib.hid hy
        have hlt2 : (i : Int) < (n : Int) := by omega
        clear hr hr2 hx hy hg hg2 hb
        go_wp2
        refine wp_region_held_drew (S := fun w' => Below wr.heap.size wr w') (by kernel_rfl) (Below.refl _ _).drew (fun _ => ?_)
        have HS := Lib.hid ((Below.refl wr.heap.size wr).drew)
        generalize World.drew wr = v0 at *
        try simp only [Act.put, List.setIfInBounds_toArray, List.set_cons_succ, List.set_cons_zero]
        refine wpAnyH_take (i := 0) (oi := ⟨some 16, .move (.tmp 0), 22, _, _, none⟩) (v := .slice (some ⟨g, o, none⟩) n ca) rfl (by kernel_rfl) (by kernel_rfl) (by kernel_rfl) (fun _ _ _ h => h) (Or.inl ⟨by rfl, fun _ _ => by go_simp⟩) HS.out ?_
        try simp only [Act.put, List.setIfInBounds_toArray, List.set_cons_succ, List.set_cons_zero]
        refine wpAnyH_take (i := 1) (oi := ⟨some 17, .move (.tmp 5), 3, _, _, none⟩) (v := .int .i64 (i : Nat)) rfl (by kernel_rfl) (by kernel_rfl) (by kernel_rfl) (fun _ _ _ h => h) (Or.inl ⟨by rfl, fun _ _ => by go_simp⟩) HS.out ?_
        try simp only [Act.put, List.setIfInBounds_toArray, List.set_cons_succ, List.set_cons_zero]
        refine wpAnyH_take (i := 2) (oi := ⟨some 18, .indexAddr 22 (.tmp 16) (.tmp 17), _, _, _, none⟩) (v := .pointer (some ⟨g, o + i * 2, none⟩)) rfl (by kernel_rfl) (by kernel_rfl) (by kernel_rfl) (fun _ _ _ h => h) (Or.inl ⟨by rfl, fun _ _ => by go_simp⟩) HS.out ?_
        try simp only [Act.put, List.setIfInBounds_toArray, List.set_cons_succ, List.set_cons_zero]
        refine wpAnyH_take (i := 3) (oi := ⟨some 19, .load 25 (.tmp 18), 25, _, _, none⟩) (v := rag x) rfl (by kernel_rfl) (by kernel_rfl) (by kernel_rfl) (fun _ _ _ h => h) (Or.inl ⟨by rfl, fun vv hvv => yields_rg (.tmp 18) rfl g (o + i * 2) rfl x (rng_on HR.out hvv)⟩) HS.out ?_
        try simp only [Act.put, List.setIfInBounds_toArray, List.set_cons_succ, List.set_cons_zero]
        refine wpAnyH_take (i := 4) (oi := ⟨some 20, .move (.tmp 1), 22, _, _, none⟩) (v := .slice (some ⟨g2, o2, none⟩) n cb) rfl (by kernel_rfl) (by kernel_rfl) (by kernel_rfl) (fun _ _ _ h => h) (Or.inl ⟨by rfl, fun _ _ => by go_simp⟩) HS.out ?_
        try simp only [Act.put, List.setIfInBounds_toArray, List.set_cons_succ, List.set_cons_zero]
        refine wpAnyH_take (i := 5) (oi := ⟨some 21, .move (.tmp 5), 3, _, _, none⟩) (v := .int .i64 (i : Nat)) rfl (by kernel_rfl) (by kernel_rfl) (by kernel_rfl) (fun _ _ _ h => h) (Or.inl ⟨by rfl, fun _ _ => by go_simp⟩) HS.out ?_
        try simp only [Act.put, List.setIfInBounds_toArray, List.set_cons_succ, List.set_cons_zero]
        refine wpAnyH_take (i := 6) (oi := ⟨some 22, .indexAddr 22 (.tmp 20) (.tmp 21), _, _, _, none⟩) (v := .pointer (some ⟨g2, o2 + i * 2, none⟩)) rfl (by kernel_rfl) (by kernel_rfl) (by kernel_rfl) (fun _ _ _ h => h) (Or.inl ⟨by rfl, fun _ _ => by go_simp⟩) HS.out ?_
        try simp only [Act.put, List.setIfInBounds_toArray, List.set_cons_succ, List.set_cons_zero]
        refine wpAnyH_take (i := 7) (oi := ⟨some 23, .load 25 (.tmp 22), 25, _, _, none⟩) (v := rag y) rfl (by kernel_rfl) (by kernel_rfl) (by kernel_rfl) (fun _ _ _ h => h) (Or.inl ⟨by rfl, fun vv hvv => yields_rg (.tmp 22) rfl g2 (o2 + i * 2) rfl y (rng_on HR2.out hvv)⟩) HS.out ?_
        try simp only [Act.put, List.setIfInBounds_toArray, List.set_cons_succ, List.set_cons_zero]
        refine wpAnyH_take (i := 8) (oi := ⟨some 24, .binOp .neq 25 (.tmp 19) (.tmp 23) 25, 4, _, _, none⟩) (v := .bool (!decide (x = y))) rfl (by kernel_rfl) (by kernel_rfl) (by kernel_rfl) (fun _ _ _ h => h) (Or.inl ⟨by rfl, fun _ _ => by (exact yields_ne x y _ _ _ rfl rfl rfl)⟩) HS.out ?_
        try simp only [Act.put, List.setIfInBounds_toArray, List.set_cons_succ, List.set_cons_zero]
        refine wpAnyH_done (by kernel_rfl) ?_ _
        by_cases hxy : x = y
        · have e1 : (!decide (x = y)) = false := by simp [hxy]
          rw [e1]
          have HXY := Lib.hid hxy
          clear hxy e1
          go_wp2
          go_roundw
          case rel =>
            refine ⟨i + 1, by omega, by go_num, fun j hj => ?_, HBr.out.trans (HS.out.mono HBr.out.size)⟩
            rcases Nat.lt_or_ge j i with h | h
            · exact HJ.out j h
            · obtain rfl : j = i := by omega
              rw [← HX.out, ← HY.out]; exact HXY.out
          case measure => simp [intOf]; omega
        · have e1 : (!decide (x = y)) = true := by simp [hxy]
          rw [e1]
          have HD := Lib.hid (show decide (l = k) = false from decide_eq_false (fun e => hxy (by rw [HX.out, HY.out, e])))
          clear hxy e1
          go_wp2
          go_ret
          exact ⟨by rw [HD.out]; rfl, HBr.out.trans (HS.out.mono HBr.out.size)⟩
      · have HD := Lib.hid (show decide (l = k) = true from decide_eq_true (list_ext_getD (by rw [← HN.out, ← HM.out]) (fun j hj => HJ.out j (by have := HN.out; omega))))
        go_wp2
        go_ret
        exact ⟨by rw [HD.out]; rfl, HBr.out⟩
  · have g : ¬ (n : Int) = (m : Int) := by omega
    have HD := Lib.hid (show decide (l = k) = false from decide_eq_false (fun e => he (by rw [hn, hm, e])))
    clear hR1 hR2 hn hm
    go_enter Try.func57, Try.ntmps57
    go_wp2
    go_ret
    exact ⟨by rw [HD.out]; rfl, Below.refl _ _⟩
end Go.Proofs.Ytajjbffppkpjpaa
