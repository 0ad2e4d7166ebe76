import Derived.Test.YtgbahfggnbpnmaaDoorDrbgM
/-
  append of a row of texts that came in.
-/
namespace Go.Proofs.YtgbahfggnbpnmaaDoor
open Go.RowKit
/-- The row's values. -/
def rowVals (w : World) (pa : Option Addr) (n : Nat) : List Value := (List.range n).map fun i => match pa with | some a => (w.cell? (a.add i)).getD undef | none => undef
theorem rowVals_len (w : World) (pa : Option Addr) (n : Nat) : (rowVals w pa n).length = n := by simp [rowVals]
theorem Parts.vals {w : World} {pa : Option Addr} {ls : List (List UInt8)} (h : Parts w (· < w.heap.size) pa ls) : Pcs w (rowVals w pa ls.length) ls := by
  refine ⟨rowVals_len _ _ _, fun i hi => ?_⟩
  obtain ⟨b, o, a, n, cap, rfl, h2, h3, h4, h5, h6, h7⟩ := h i hi
  refine ⟨a, n, cap, ?_, h4, h5, h6, h7⟩
  simp [rowVals, hi, Addr.add_mid, h3]
theorem Parts.reads {w : World} {av : Nat → Prop} {pa : Option Addr} {ls : List (List UInt8)} (h : Parts w av pa ls) (i : Nat) (hi : i < ls.length) : ∃ p y, pa = some p ∧ w.cell? (p.add i) = some y ∧ (rowVals w pa ls.length)[i]? = some y ∧ y.oneCell' = true := by
  obtain ⟨b, o, a, n, cap, rfl, h2, h3, _⟩ := h i hi
  refine ⟨⟨b, o, none⟩, .slice a n cap, rfl, by rw [Addr.add_mid]; exact h3, ?_, rfl⟩
  simp [rowVals, hi, Addr.add_mid, h3]
theorem run_append_row (w : World) (lo : Nat) (ty : TypeId) (v : Value) (xs : List Value) (hown : OwnS w lo v xs) (pa : Option Addr) (n c : Nat) (ls : List (List UInt8)) (hn : n = ls.length) (hr : Parts w (· < w.heap.size) pa ls)
    (hlen : xs.length + ls.length ≤ 1000000) (hbase : lo ≤ w.heap.size) :
    ∃ a' n' cap' w', (Builtin.append_ #[35, 35] ty #[v, .slice pa n c]).run Tryd.prog w = .ok (.slice a' n' cap') w' ∧ OwnS w' lo (.slice a' n' cap') (xs ++ rowVals w pa ls.length) ∧ w.grownBy w' v.ownBlock := by
  obtain ⟨i, i1, i2, i3, i4⟩ := info_parts info_u8s
  subst hn
  have fin : ∀ v' w', (Builtin.append_ #[35, 35] ty #[v, .slice pa ls.length c]).run Tryd.prog w = .ok v' w' → w'.ownsRow lo 28 1 v' (xs.length + (rowVals w pa ls.length).length) (xs ++ rowVals w pa ls.length) → w.grownBy w' v.ownBlock →
      ∃ a' n' cap' w', (Builtin.append_ #[35, 35] ty #[v, .slice pa ls.length c]).run Tryd.prog w = .ok (.slice a' n' cap') w' ∧ OwnS w' lo (.slice a' n' cap') (xs ++ rowVals w pa ls.length) ∧ w.grownBy w' v.ownBlock := by
    intro v' w' h1 h2 h3
    have h4 : OwnS w' lo v' (xs ++ rowVals w pa ls.length) := by unfold OwnS; rw [List.length_append]; exact h2
    obtain ⟨a', cap', rfl, _⟩ := h4.form
    exact ⟨a', _, cap', w', h1, h4, h3⟩
  cases pa with
  | none =>
    have h0 : ls = [] := by
      rcases Nat.eq_zero_or_pos ls.length with h | h
      · exact List.eq_nil_of_length_eq_zero h
      · obtain ⟨p, y, e, _⟩ := hr.reads 0 h; cases e
    subst h0
    refine fin v w ?_ (by simpa [OwnS, rowVals] using hown) (World.grownBy.refl w _)
    show (Builtin.append_ _ ty #[v, .slice none 0 c]).run Tryd.prog w = _
    rcases hown.2 with ⟨rfl, h0⟩ | ⟨g, cap, cur, rfl, _, _, hnc, _⟩
    · simp [Builtin.append_, run_underlying Tryd.underlying35, sizeOf, typeInfo, i1, Builtin.lenOf, Builtin.firstCells]
    · simp [Builtin.append_, run_underlying Tryd.underlying35, sizeOf, typeInfo, i1, Builtin.lenOf, Builtin.firstCells, hnc, storeCells]
  | some a =>
    obtain ⟨v', w', h1, h2, h3, _, _⟩ := run_append_own_at (P := Tryd.prog) w lo 35 ty 28 i (.slice none 0 0) 1 24 Tryd.underlying35 i1 i2 i3 i4 rfl (by decide) v xs.length xs hown a ls.length c (rowVals w (some a) ls.length) (by rw [rowVals_len, Nat.mul_one])
      (fun j u hj => by
        have hj' : j < ls.length := by
          rcases Nat.lt_or_ge j ls.length with h | h
          · exact h
          · rw [List.getElem?_eq_none (by rw [rowVals_len]; exact h)] at hj; cases hj
        obtain ⟨p, y, e, h2, h3, _⟩ := hr.reads j hj'
        simp only [Option.some.injEq] at e
        subst e
        rw [h2, ← hj, h3])
      (fun u hu => by
        obtain ⟨j, hj, rfl⟩ := List.getElem_of_mem hu
        rw [rowVals_len] at hj
        obtain ⟨p, y, _, _, h3, h4⟩ := hr.reads j hj
        rw [List.getElem?_eq_getElem (by rw [rowVals_len]; exact hj)] at h3
        simp only [Option.some.injEq] at h3
        rw [h3]; exact h4) (by unfold maxLen; omega) (by omega) hbase
    exact fin v' w' h1 (by rw [rowVals_len]; exact h2) h3
theorem wp_append_row {o : Oper} {a : Act} {w : World} {K : Act → World → Prop} {Q : Exit → Act → World → Prop} (s x : Operand)
    (ho : o.op = .call { callee := .builtin .append, args := #[s, x], argTypes := #[35, 35] }) (lo : Nat) (v : Value) (xs : List Value) (hs : a.eval s = v) (hown : OwnS w lo v xs)
    (pa : Option Addr) (n c : Nat) (ls : List (List UInt8)) (hx : a.eval x = .slice pa n c) (hn : n = ls.length) (hr : Parts w (· < w.heap.size) pa ls) (hlen : xs.length + ls.length ≤ 1000000) (hbase : lo ≤ w.heap.size)
    (h : ∀ a' n' c' w', OwnS w' lo (.slice a' n' c') (xs ++ rowVals w pa ls.length) → w.grownBy w' v.ownBlock → K (a.put o.dst (.slice a' n' c')) w') : o.wp Tryd.prog a w K Q := by
  obtain ⟨a', n', cap', w', h1, h2, h3⟩ := run_append_row w lo o.type v xs hown pa n c ls hn hr hlen hbase
  unfold Oper.wp execOp
  simp only [ho, resolve, invoke, builtin, Sem.run_bind, Sem.run_pure, Result.andThen_ok, List.map_toArray, List.map_cons, List.map_nil, hs, hx, h1]
  exact h a' n' cap' w' h2 h3
theorem Pcs.append {w : World} {xs ys : List Value} {ls ms : List (List UInt8)} (h : Pcs w xs ls) (k : Pcs w ys ms) : Pcs w (xs ++ ys) (ls ++ ms) := by
  refine ⟨by simp [h.1, k.1], fun i hi => ?_⟩
  by_cases hlt : i < ls.length
  · obtain ⟨a', n', c', h1, h2⟩ := h.2 i hlt
    refine ⟨a', n', c', by rw [List.getElem?_append_left (by rw [h.1]; exact hlt)]; exact h1, ?_⟩
    have e : (ls ++ ms).getD i [] = ls.getD i [] := by simp only [List.getD]; rw [List.getElem?_append_left hlt]
    rw [e]; exact h2
  · obtain ⟨a', n', c', h1, h2⟩ := k.2 (i - ls.length) (by simp at hi; omega)
    refine ⟨a', n', c', by rw [List.getElem?_append_right (by rw [h.1]; omega), h.1]; exact h1, ?_⟩
    have e : (ls ++ ms).getD i [] = ms.getD (i - ls.length) [] := by simp only [List.getD]; rw [List.getElem?_append_right (by omega)]
    rw [e]; exact h2
end Go.Proofs.YtgbahfggnbpnmaaDoor
