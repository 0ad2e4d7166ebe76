import Derived.Test.YtajjbffppkpjpaaSpanY
import Derived.Maps.AppendAt
import Derived.OwnWalk
/-
  Ranges of the call's own: append, slices.Clone.
-/
namespace Go.Proofs.Ytajjbffppkpjpaa
open Go.RowKit
def rcs (l : List Rg) : List Value := l.flatMap rcl
theorem rcs_len (l : List Rg) : (rcs l).length = l.length * 2 := by
  induction l with
  | nil => rfl
  | cons r l ih => simp only [rcs, List.flatMap_cons, List.length_append, List.length_cons] at *; rw [ih]; simp [rcl]; omega
theorem rcs_append (l k : List Rg) : rcs (l ++ k) = rcs l ++ rcs k := by simp [rcs]
theorem rcs_get : ∀ (l : List Rg) (i : Nat), i < l.length → ∀ c, c < 2 → (rcs l)[i * 2 + c]? = (rcl (l.getD i r0))[c]? := by
  intro l
  induction l with
  | nil => intro i hi; simp at hi
  | cons r l ih =>
    intro i hi c hc
    simp only [rcs, List.flatMap_cons] at *
    cases i with
    | zero => rw [List.getElem?_append_left (by simp [rcl]; omega)]; simp
    | succ i =>
      rw [List.getElem?_append_right (by simp [rcl]; omega), show (i + 1) * 2 + c - (rcl r).length = i * 2 + c by simp [rcl]; omega]
      simpa using ih i (by simpa using hi) c hc
theorem rcs_one : ∀ u, ∀ l : List Rg, u ∈ rcs l → u.oneCell' = true := by
  intro u l hu
  obtain ⟨r, _, hr⟩ := List.mem_flatMap.1 hu
  simp [rcl] at hr
  rcases hr with rfl | rfl <;> rfl
/-- Ranges that can be read. -/
def RgR (w : World) (a : Option Addr) (l : List Rg) : Prop := ∀ i, i < l.length → ∃ g o, a = some ⟨g, o, none⟩ ∧ g < w.heap.size ∧ w.rangeAt g (o + i * 2) (rcl (l.getD i r0))
theorem RgR.on {w w' : World} {a : Option Addr} {l : List Rg} (h : RgR w a l) (hb : Below w.heap.size w w') : RgR w' a l := fun i hi => by
  obtain ⟨g, o, e, hg, hr⟩ := h i hi
  exact ⟨g, o, e, Nat.lt_of_lt_of_le hg hb.size, rng_on hr hb⟩
theorem RgR.cells {w : World} {a : Addr} {l : List Rg} (h : RgR w (some a) l) (j : Nat) (u : Value) (hj : (rcs l)[j]? = some u) : w.cell? (a.add j) = some u := by
  have hlt : j < l.length * 2 := by
    rw [← rcs_len]
    exact (List.getElem?_eq_some_iff.1 hj).1
  obtain ⟨g, o, e, _, hr⟩ := h (j / 2) (by omega)
  simp only [Option.some.injEq] at e
  subst e
  have e2 : j = j / 2 * 2 + j % 2 := by omega
  rw [e2, rcs_get l (j / 2) (by omega) (j % 2) (by omega)] at hj
  have := hr (j % 2) u hj
  rw [Addr.add_mid]
  rw [show o + j = o + j / 2 * 2 + j % 2 by omega]
  exact this
def OwnR (w : World) (lo : Nat) (v : Value) (l : List Rg) : Prop := w.ownsRow lo 25 2 v l.length (rcs l)
theorem OwnR.nil (w : World) (lo : Nat) : OwnR w lo (.slice none 0 0) [] := World.ownsRow_nil w lo _ _
theorem OwnR.empty (w : World) {lo : Nat} (hb : lo ≤ w.heap.size) : OwnR (w.alloc (.cells #[] 25)) lo (.slice (some ⟨w.heap.size, 0, none⟩) 0 0) [] :=
  ⟨by simp [rcs], Or.inr ⟨w.heap.size, 0, #[], rfl, hb, heap_alloc_new w _, Nat.le_refl _, by simp [maxLen], by simp, by simp [rcs]⟩⟩
theorem OwnR.lt {w : World} {lo : Nat} {v : Value} {l : List Rg} (h : OwnR w lo v l) : ∀ k, v.ownBlock = some k → lo ≤ k ∧ k < w.heap.size := World.ownsRow.lt h
theorem OwnR.grown {w w' : World} {lo : Nat} {v : Value} {l : List Rg} {r : Option Nat} (h : OwnR w lo v l) (hg : w.grownBy w' r) (hne : v.ownBlock = none ∨ v.ownBlock ≠ r) : OwnR w' lo v l := World.ownsRow.kept h hg hne
theorem OwnR.on {w w' : World} {lo : Nat} {v : Value} {l : List Rg} (h : OwnR w lo v l) (hb : Below w.heap.size w w') : OwnR w' lo v l := by
  refine World.ownsRow.kept (row := none) h (grownBy_of_below hb) ?_
  cases v.ownBlock with
  | none => exact .inl rfl
  | some k => exact .inr (by simp)
theorem OwnR.mono {w : World} {lo lo' : Nat} {v : Value} {l : List Rg} (h : OwnR w lo v l) (hl : lo' ≤ lo) : OwnR w lo' v l := by
  refine ⟨h.1, ?_⟩
  rcases h.2 with h0 | ⟨g, cap, cur, h1, h2, h3⟩
  · exact .inl h0
  · exact .inr ⟨g, cap, cur, h1, by omega, h3⟩
theorem OwnR.form {w : World} {lo : Nat} {v : Value} {l : List Rg} (h : OwnR w lo v l) : ∃ a cap, v = .slice a l.length cap ∧ l.length ≤ cap ∧ cap ≤ maxLen ∧ RgR w a l ∧ (∀ b o, a = some ⟨b, o, none⟩ → lo ≤ b ∧ b < w.heap.size) := by
  rcases h.2 with ⟨rfl, h0⟩ | ⟨g, cap, cur, rfl, h2, h3, h4, h5, h6, h7⟩
  · have : l = [] := List.eq_nil_of_length_eq_zero h0
    subst this
    exact ⟨none, 0, rfl, Nat.le_refl _, by simp [maxLen], fun i hi => by simp at hi, fun _ _ e => by cases e⟩
  · have hB : Blk w g cur 25 := h3
    refine ⟨some ⟨g, 0, none⟩, cap, rfl, h4, h5, fun i hi => ⟨g, 0, rfl, hB.lt, fun j u hj => ?_⟩, fun b o e => ?_⟩
    · have hj2 : j < 2 := by
        rcases Nat.lt_or_ge j 2 with h | h
        · exact h
        · rw [List.getElem?_eq_none (by simpa [rcl] using h)] at hj; cases hj
      refine hB.cell (0 + i * 2 + j) ?_
      rw [← rcs_get l i hi j hj2, ← h7, List.getElem?_take, if_pos (by omega), Array.getElem?_toList] at hj
      rw [Nat.zero_add]; exact hj
    · simp only [Option.some.injEq, Addr.mk.injEq] at e
      have := hB.lt
      omega
theorem OwnR.rgs {w : World} {lo n c : Nat} {a : Option Addr} {l : List Rg} (h : OwnR w lo (.slice a n c) l) (hb : ∀ r, r ∈ l → r.lo < 18446744073709551616 ∧ r.hi < 18446744073709551616) : RgsIn w a n c l := by
  obtain ⟨a', c', e, h1, h2, h3, _⟩ := h.form
  simp only [Value.slice.injEq] at e
  obtain ⟨rfl, rfl, rfl⟩ := e
  exact ⟨rfl, h1, h2, h3, hb⟩
theorem info_rg : (Try.prog.info? 25).map (fun i => (i.zero, i.size, i.bytes)) = some (some (.agg #[.int .u64 0, .int .u64 0]), 2, 16) := by kernel_rfl
theorem run_append_rgs (w : World) (lo : Nat) (ty : TypeId) (v : Value) (l : List Rg) (hown : OwnR w lo v l) (a : Option Addr) (n c : Nat) (l2 : List Rg) (hn : n = l2.length) (hr : RgR w a l2)
    (hlen : l.length + l2.length ≤ 1000000000000) (hbase : lo ≤ w.heap.size) :
    ∃ a' n' cap' w', (Builtin.append_ #[22, 22] ty #[v, .slice a n c]).run Try.prog w = .ok (.slice a' n' cap') w' ∧ OwnR w' lo (.slice a' n' cap') (l ++ l2) ∧ w.grownBy w' v.ownBlock := by
  obtain ⟨i, i1, i2, i3, i4⟩ := info_parts info_rg
  subst hn
  have fin : ∀ v' w', (Builtin.append_ #[22, 22] ty #[v, .slice a l2.length c]).run Try.prog w = .ok v' w' → w'.ownsRow lo 25 2 v' (l.length + l2.length) (rcs l ++ rcs l2) → w.grownBy w' v.ownBlock →
      ∃ a' n' cap' w', (Builtin.append_ #[22, 22] ty #[v, .slice a l2.length c]).run Try.prog w = .ok (.slice a' n' cap') w' ∧ OwnR w' lo (.slice a' n' cap') (l ++ l2) ∧ w.grownBy w' v.ownBlock := by
    intro v' w' h1 h2 h3
    have h4 : OwnR w' lo v' (l ++ l2) := by unfold OwnR; rw [List.length_append, rcs_append]; exact h2
    obtain ⟨a', cap', rfl, _⟩ := h4.form
    exact ⟨a', _, cap', w', h1, h4, h3⟩
  cases a with
  | none =>
    have h0 : l2 = [] := by
      rcases Nat.eq_zero_or_pos l2.length with h | h
      · exact List.eq_nil_of_length_eq_zero h
      · obtain ⟨g, o, e, _⟩ := hr 0 h; cases e
    subst h0
    refine fin v w ?_ (by simpa [OwnR, rcs] using hown) (World.grownBy.refl w _)
    show (Builtin.append_ _ ty #[v, .slice none 0 c]).run Try.prog w = _
    rcases hown.2 with ⟨rfl, h0⟩ | ⟨g, cap, cur, rfl, _, _, hnc, _⟩
    · simp [Builtin.append_, run_underlying Try.underlying22, sizeOf, typeInfo, i1, Builtin.lenOf, Builtin.firstCells]
    · simp [Builtin.append_, run_underlying Try.underlying22, sizeOf, typeInfo, i1, Builtin.lenOf, Builtin.firstCells, hnc, storeCells]
  | some a =>
    obtain ⟨v', w', h1, h2, h3, _, _⟩ := run_append_own_at (P := Try.prog) w lo 22 ty 25 i (.agg #[.int .u64 0, .int .u64 0]) 2 16 Try.underlying22 i1 i2 i3 i4 rfl (by decide) v l.length (rcs l) hown a l2.length c (rcs l2) (rcs_len l2)
      (fun j u hj => hr.cells j u hj) (fun u hu => rcs_one u l2 hu) (by unfold maxLen; omega) (by omega) hbase
    exact fin v' w' h1 h2 h3
theorem eql_nil (w : World) (a : Option Addr) (n c : Nat) : (binOp .eql 22 (.slice a n c) (.slice none 0 0)).run Try.prog w = .ok (.bool a.isNone) w := by
  have h := run_equal_slice_nil (P := Try.prog) (w := w) 22 25 a n c Try.underlying22
  simp [binOp, h]
theorem wp_append_rgs {o : Oper} {a : Act} {w : World} {K : Act → World → Prop} {Q : Exit → Act → World → Prop} (s x : Operand)
    (ho : o.op = .call { callee := .builtin .append, args := #[s, x], argTypes := #[22, 22] }) (lo : Nat) (v : Value) (l : List Rg) (hs : a.eval s = v) (hown : OwnR w lo v l)
    (ap : Option Addr) (n c : Nat) (l2 : List Rg) (hx : a.eval x = .slice ap n c) (hn : n = l2.length) (hr : RgR w ap l2) (hlen : l.length + l2.length ≤ 1000000000000) (hbase : lo ≤ w.heap.size)
    (h : ∀ a' n' cap' w', OwnR w' lo (.slice a' n' cap') (l ++ l2) → w.grownBy w' v.ownBlock → K (a.put o.dst (.slice a' n' cap')) w') : o.wp Try.prog a w K Q := by
  obtain ⟨a', n', cap', w', h1, h2, h3⟩ := run_append_rgs w lo o.type v l hown ap n c l2 hn hr hlen hbase
  unfold Oper.wp execOp
  simp only [ho, resolve, invoke, builtin, Sem.run_bind, Sem.run_pure, Result.andThen_ok, List.map_toArray, List.map_cons, List.map_nil, hs, hx, h1]
  exact h a' n' cap' w' h2 h3
theorem wpList_append_rgs {ops : Array Oper} {rest : List Oper} {o : Oper} {a : Act} {w : World} {Q : Exit → Act → World → Prop} (hgd : o.guard = none) (s x : Operand)
    (ho : o.op = .call { callee := .builtin .append, args := #[s, x], argTypes := #[22, 22] }) (lo : Nat) (v : Value) (l : List Rg) (hs : a.eval s = v) (hown : OwnR w lo v l)
    (ap : Option Addr) (n c : Nat) (l2 : List Rg) (hx : a.eval x = .slice ap n c) (hn : n = l2.length) (hr : RgR w ap l2) (hlen : l.length + l2.length ≤ 1000000000000) (hbase : lo ≤ w.heap.size)
    (h : ∀ a' n' cap' w', OwnR w' lo (.slice a' n' cap') (l ++ l2) → w.grownBy w' v.ownBlock → wpList Try.prog ops Q rest (a.put o.dst (.slice a' n' cap')) w') : wpList Try.prog ops Q (o :: rest) a w :=
  wpList_plain hgd fun _ hK => wp_append_rgs s x ho lo v l hs hown ap n c l2 hx hn hr hlen hbase fun a' n' cap' w' h1 h2 => hK _ _ (h a' n' cap' w' h1 h2)
theorem below_ownR {w0 wr w1 : World} {v : Value} {l : List Rg} {lo : Nat} (hb : Below lo w0 wr) (hO : OwnR wr lo v l) (hlo : lo ≤ wr.heap.size) (hg : wr.grownBy w1 v.ownBlock) : Below lo w0 w1 :=
  hb.trans ⟨hg.os, hg.tape, hg.output, hg.size, fun i hi => hg.block i (Nat.lt_of_lt_of_le hi hlo) (fun e => by have := (hO.lt i e.symm).1; omega)⟩
set_option maxRecDepth 100000 in
theorem clone_walkR (l : List Rg) (a : Option Addr) (n c : Nat) (w : World) (hL : RgsIn w a n c l) (hlen : l.length ≤ 100000) :
    Calls Try.prog 78 #[.slice a n c] w fun e w' => ∃ a' n' c', e = .returned (.slice a' n' c') ∧ OwnR w' w.heap.size (.slice a' n' c') l ∧ Below w.heap.size w w' := by
  have HN := Lib.hid hL.len
  have HR := Lib.hid (show RgR w a l from hL.rd)
  clear hL
  cases a with
  | none =>
    have h0 : l = [] := by
      rcases Nat.eq_zero_or_pos l.length with h | h
      · exact List.eq_nil_of_length_eq_zero h
      · obtain ⟨g, o, e, _⟩ := HR.out 0 h; cases e
    subst h0
    obtain rfl : n = 0 := HN.out
    have hq := eql_nil w none 0 c
    go_enter Try.func78, Try.ntmps78
    go_wp2
    go_ret
    exact ⟨none, 0, 0, rfl, OwnR.nil _ _, Below.refl _ _⟩
  | some a =>
    have hO := OwnR.empty w (lo := w.heap.size) (Nat.le_refl _)
    have hb := below_one1 w (.cells #[] 25)
    have HO := Lib.hid hO
    have HR1 := Lib.hid (HR.out.on hb)
    have HB := Lib.hid hb
    have HLn := Lib.hid hlen
    have hq := eql_nil w (some a) n c
    clear hO hb hlen
    go_enter Try.func78, Try.ntmps78
    go_wp2_with (refine wpList_append_rgs rfl (.tmp 5) (.tmp 6) (by rfl) w.heap.size _ [] (by rfl) HO.out (some a) n c l (by rfl) HN.out HR1.out (by have := HLn.out; simp; omega) HB.out.size ?_; intro a4 n4 c4 w4 hO4 hg4; have HO4 := Lib.hid hO4; have HB4 := Lib.hid (below_ownR HB.out HO.out HB.out.size hg4); clear hO4 hg4)
    go_ret
    exact ⟨a4, n4, c4, rfl, HO4.out, HB4.out⟩
end Go.Proofs.Ytajjbffppkpjpaa
