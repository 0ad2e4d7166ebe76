import Derived.Test.YtgbahfggnbpnmaaDoorHeld
import Derived.Maps.AppendAt
/-
  Pieces of a text; slices of texts that the call appends; numbers that came in.
-/
namespace Go.Proofs.YtgbahfggnbpnmaaDoor
open Go.RowKit
theorem piece {w : World} {a : Option Addr} {n c lo hi : Nat} {l : List UInt8} (h : Txt w a n c l) (h1 : lo ≤ hi) (h2 : hi ≤ n) :
    Txt w (if c = lo then a else a.map (·.add lo)) (hi - lo) (c - lo) ((l.drop lo).take (hi - lo)) := by
  have hl := h.len
  have hf := h.fit
  have hlen : ((l.drop lo).take (hi - lo)).length = hi - lo := by simp; omega
  refine ⟨hlen.symm, by omega, fun i hi' => ?_, fun b o e h0 => ?_⟩
  · rw [List.length_map, hlen] at hi'
    rw [if_neg (by omega)]
    obtain ⟨g, o, rfl, hc⟩ := h.rd.at (i := lo + i) (by omega)
    refine ⟨g, o + lo, by simp [Addr.add_mid], ?_⟩
    rw [Nat.add_assoc, hc]
    simp [List.getElem?_take, List.getElem?_drop, hi', List.getD, show lo + i < l.length by omega]
  · rw [hlen] at h0
    rw [if_neg (by omega)] at e
    obtain ⟨g, o', rfl, hc⟩ := h.rd.at (i := lo) (by omega)
    simp only [Option.map_some, Addr.add_mid, Option.some.injEq, Addr.mk.injEq] at e
    obtain ⟨rfl, _⟩ := e
    exact h.old g o' rfl (by omega)
theorem elem_u8s : Tryd.prog.elem 28 = 5 := by kernel_rfl
theorem under_u8s : Tryd.prog.underlying 28 = some (.slice (Tryd.prog.elem 28)) := by rw [elem_u8s]; exact Tryd.underlying28
theorem size_one (W : World) : (sizeOf 5).run Tryd.prog W = .ok 1 W := by
  obtain ⟨i, i1, i2, i3, i4⟩ := info_parts info_u8
  simp [sizeOf, typeInfo, i1, i3]
theorem slice_lh {w : World} {a : Option Addr} {n c lo hi : Nat} {l : List UInt8} (h : Txt w a n c l) (h1 : lo ≤ hi) (h2 : hi ≤ n) :
    ∃ A C, (∀ W : World, (Instr.sliceAt 28 (.slice a n c) (some (.int .i64 lo)) (some (.int .i64 hi)) none).run Tryd.prog W = .ok (.slice A (hi - lo) C) W) ∧ Txt w A (hi - lo) C ((l.drop lo).take (hi - lo)) := by
  refine ⟨_, _, fun W => ?_, piece h h1 h2⟩
  have hf := h.fit
  rw [run_sliceAt_slice (h := under_u8s), run_slice_lh (ht := under_u8s) (h0 := by omega) (h1 := by omega) (h2 := by omega), elem_u8s, size_one]
  simp [Result.andThen, sliced]
theorem slice_l {w : World} {a : Option Addr} {n c lo : Nat} {l : List UInt8} (h : Txt w a n c l) (h1 : lo ≤ n) :
    ∃ A C, (∀ W : World, (Instr.sliceAt 28 (.slice a n c) (some (.int .i64 lo)) none none).run Tryd.prog W = .ok (.slice A (n - lo) C) W) ∧ Txt w A (n - lo) C (l.drop lo) := by
  have h2 := piece h h1 (Nat.le_refl n)
  rw [List.take_of_length_le (by have := h.len; simp; omega)] at h2
  refine ⟨_, _, fun W => ?_, h2⟩
  rw [run_sliceAt_slice (h := under_u8s), run_slice_l (ht := under_u8s) (h0 := by omega) (h1 := by omega), elem_u8s, size_one]
  simp [Result.andThen, sliced]
/-- Slices that read as these texts. -/
def Pcs (w : World) (xs : List Value) (ls : List (List UInt8)) : Prop := xs.length = ls.length ∧ ∀ i, i < ls.length → ∃ a n c, xs[i]? = some (.slice a n c) ∧ Txt w a n c (ls.getD i [])
theorem Pcs.nil (w : World) : Pcs w [] [] := ⟨rfl, fun i hi => by simp at hi⟩
theorem Pcs.snoc {w : World} {xs : List Value} {ls : List (List UInt8)} {a : Option Addr} {n c : Nat} {l : List UInt8} (h : Pcs w xs ls) (ht : Txt w a n c l) : Pcs w (xs ++ [.slice a n c]) (ls ++ [l]) := by
  refine ⟨by simp [h.1], fun i hi => ?_⟩
  by_cases hlt : i < ls.length
  · obtain ⟨a', n', c', h1, h2⟩ := h.2 i hlt
    refine ⟨a', n', c', by rw [List.getElem?_append_left (by rw [h.1]; exact hlt)]; exact h1, ?_⟩
    have e : (ls ++ [l]).getD i [] = ls.getD i [] := by simp only [List.getD]; rw [List.getElem?_append_left hlt]
    rw [e]; exact h2
  · have : i = ls.length := by simp at hi; omega
    subst this
    refine ⟨a, n, c, by rw [← h.1]; simp, ?_⟩
    have e : (ls ++ [l]).getD ls.length [] = l := by simp [List.getD]
    rw [e]; exact ht
/-- A row of slices in memory of the call's own. -/
def OwnS (w : World) (lo : Nat) (v : Value) (xs : List Value) : Prop := w.ownsRow lo 28 1 v xs.length xs
theorem OwnS.nil (w : World) (lo : Nat) : OwnS w lo (.slice none 0 0) [] := World.ownsRow_nil w lo _ _
theorem OwnS.lt {w : World} {lo : Nat} {v : Value} {xs : List Value} (h : OwnS w lo v xs) : ∀ k, v.ownBlock = some k → lo ≤ k ∧ k < w.heap.size := World.ownsRow.lt h
theorem OwnS.below {w w' : World} {lo : Nat} {v : Value} {xs : List Value} (h : OwnS w lo v xs) (hb : Below w.heap.size w w') : OwnS w' lo v xs := by
  refine World.ownsRow.kept (row := none) h (grownBy_of_below hb) ?_
  cases v.ownBlock with
  | none => exact .inl rfl
  | some k => exact .inr (by simp)
theorem OwnS.grown {w w' : World} {lo : Nat} {v : Value} {xs : List Value} {r : Option Nat} (h : OwnS w lo v xs) (hg : w.grownBy w' r) (hne : v.ownBlock = none ∨ v.ownBlock ≠ r) : OwnS w' lo v xs := World.ownsRow.kept h hg hne
theorem OwnS.at {w : World} {lo g : Nat} {v : Value} {xs : List Value} {cs : Array Value} {t : TypeId} (h : OwnS w lo v xs) (hb : Blk w g cs t) (ht : 28 ≠ t) : v.ownBlock = none ∨ v.ownBlock ≠ some g := by
  rcases h.2 with ⟨rfl, _⟩ | ⟨g', cap, cur, rfl, _, hh, _⟩
  · exact .inl rfl
  · refine .inr (fun e => ?_)
    simp only [Value.ownBlock, Option.some.injEq] at e
    subst e
    unfold Blk at hb
    rw [hb] at hh
    simp only [Option.some.injEq, Obj.cells.injEq] at hh
    exact ht hh.2.1.symm
theorem OwnS.form {w : World} {lo : Nat} {v : Value} {xs : List Value} (h : OwnS w lo v xs) :
    ∃ a c, v = .slice a xs.length c ∧ (∀ i, i < xs.length → ∃ g, a = some ⟨g, 0, none⟩ ∧ g < w.heap.size ∧ w.cell? ⟨g, i, none⟩ = xs[i]?) := by
  rcases h.2 with ⟨rfl, h0⟩ | ⟨g, cap, cur, rfl, h2, h3, h4, h5, h6, h7⟩
  · have : xs = [] := List.eq_nil_of_length_eq_zero h0
    subst this
    exact ⟨none, 0, rfl, fun i hi => by simp at hi⟩
  · rw [Nat.mul_one] at h7
    refine ⟨_, cap, rfl, fun i hi => ⟨g, rfl, (Array.getElem?_eq_some_iff.1 h3).1, ?_⟩⟩
    have e : w.cell? ⟨g, i, none⟩ = cur[i]? := by simp [World.cell?, h3]
    rw [e]
    have h8 := congrArg (·[i]?) h7
    simp only [List.getElem?_take, if_pos hi] at h8
    rw [← h8]; simp
theorem parts_own {w W : World} {lo : Nat} {a : Option Addr} {n c : Nat} {xs : List Value} {ls : List (List UInt8)} (h : OwnS W lo (.slice a n c) xs) (hp : Pcs w xs ls) (hb : Below w.heap.size w W) : n = ls.length ∧ Parts W (· < W.heap.size) a ls := by
  obtain ⟨a', c', e, h1⟩ := h.form
  simp only [Value.slice.injEq] at e
  obtain ⟨rfl, rfl, rfl⟩ := e
  refine ⟨hp.1, fun i hi => ?_⟩
  obtain ⟨g, rfl, hg, hc⟩ := h1 i (by rw [hp.1]; exact hi)
  obtain ⟨a2, n2, c2, h2, h3⟩ := hp.2 i hi
  rw [h2] at hc
  have h4 := h3.below hb
  exact ⟨g, 0, a2, n2, c2, rfl, hg, by rw [Nat.zero_add]; exact hc, h4.len, h4.fit, h4.rd, h4.old⟩
theorem info_u8s : (Tryd.prog.info? 28).map (fun i => (i.zero, i.size, i.bytes)) = some (some (.slice none 0 0), 1, 24) := by kernel_rfl
theorem wp_append_slc {o : Oper} {a : Act} {w : World} {K : Act → World → Prop} {Q : Exit → Act → World → Prop} (s x : Operand)
    (ho : o.op = .call { callee := .builtin .append, args := #[s, x], argTypes := #[35, 35] }) (lo : Nat) (v : Value) (xs : List Value) (hs : a.eval s = v) (hown : OwnS w lo v xs)
    (g : Nat) (y : Value) (hx : a.eval x = .slice (some ⟨g, 0, none⟩) 1 1) (hc : w.cell? ⟨g, 0, none⟩ = some y) (hy : y.oneCell' = true) (hlen : xs.length ≤ 1000000) (hbase : lo ≤ w.heap.size)
    (h : ∀ a' n' c' w', OwnS w' lo (.slice a' n' c') (xs ++ [y]) → w.grownBy w' v.ownBlock → K (a.put o.dst (.slice a' n' c')) w') : o.wp Tryd.prog a w K Q := by
  obtain ⟨i, i1, i2, i3, i4⟩ := info_parts info_u8s
  obtain ⟨v', w', hr, h2, h3, _, _⟩ := run_append_own_at (P := Tryd.prog) w lo 35 o.type 28 i (.slice none 0 0) 1 24 Tryd.underlying35 i1 i2 i3 i4 rfl (by decide) v xs.length xs hown ⟨g, 0, none⟩ 1 1 [y] rfl
    (fun j u hj => by
      have : j = 0 := by
        rcases Nat.eq_zero_or_pos j with h | h
        · exact h
        · rw [List.getElem?_eq_none (by simp; omega)] at hj; cases hj
      subst this
      simp at hj
      subst hj
      exact hc)
    (fun u hu => by simp at hu; rw [hu]; exact hy) (by unfold maxLen; omega) (by omega) hbase
  have h4 : OwnS w' lo v' (xs ++ [y]) := by unfold OwnS; rw [List.length_append]; exact h2
  obtain ⟨a', c', rfl, _⟩ := h4.form
  unfold Oper.wp execOp
  simp only [ho, resolve, invoke, builtin, Sem.run_bind, Sem.run_pure, Result.andThen_ok, List.map_toArray, List.map_cons, List.map_nil, hs, hx, hr]
  exact h _ _ _ w' h4 h3
theorem wpList_append_slc {ops : Array Oper} {rest : List Oper} {o : Oper} {a : Act} {w : World} {Q : Exit → Act → World → Prop} (hgd : o.guard = none) (s x : Operand)
    (ho : o.op = .call { callee := .builtin .append, args := #[s, x], argTypes := #[35, 35] }) (lo : Nat) (v : Value) (xs : List Value) (hs : a.eval s = v) (hown : OwnS w lo v xs)
    (g : Nat) (y : Value) (hx : a.eval x = .slice (some ⟨g, 0, none⟩) 1 1) (hc : w.cell? ⟨g, 0, none⟩ = some y) (hy : y.oneCell' = true) (hlen : xs.length ≤ 1000000) (hbase : lo ≤ w.heap.size)
    (h : ∀ a' n' c' w', OwnS w' lo (.slice a' n' c') (xs ++ [y]) → w.grownBy w' v.ownBlock → wpList Tryd.prog ops Q rest (a.put o.dst (.slice a' n' c')) w') : wpList Tryd.prog ops Q (o :: rest) a w :=
  wpList_plain hgd fun _ hK => wp_append_slc s x ho lo v xs hs hown g y hx hc hy hlen hbase fun a' n' c' w' h1 h2 => hK _ _ (h a' n' c' w' h1 h2)
theorem below_ownS {w0 wr w1 : World} {v : Value} {xs : List Value} {lo : Nat} (hb : Below lo w0 wr) (hO : OwnS wr lo v xs) (hlo : lo ≤ wr.heap.size) (hg : wr.grownBy w1 v.ownBlock) : Below lo w0 w1 :=
  hb.trans ⟨hg.os, hg.tape, hg.output, hg.size, fun i hi => hg.block i (Nat.lt_of_lt_of_le hi hlo) (fun e => by have := (hO.lt i e.symm).1; omega)⟩
/-- Numbers that came in. -/
def NumsIn (w : World) (k : IntKind) (a : Option Addr) (n c : Nat) (zs : List Nat) : Prop := n = zs.length ∧ n ≤ c ∧ c ≤ maxLen ∧ (∀ i, i < zs.length → ∃ g o, a = some ⟨g, o, none⟩ ∧ w.cell? ⟨g, o + i, none⟩ = some (.int k (zs.getD i 0 : Nat)) ∧ g < w.heap.size)
theorem NumsIn.on {w w' : World} {k : IntKind} {a : Option Addr} {n c : Nat} {zs : List Nat} (h : NumsIn w k a n c zs) (hb : Below w.heap.size w w') : NumsIn w' k a n c zs :=
  ⟨h.1, h.2.1, h.2.2.1, fun i hi => by
    obtain ⟨g, o, e, hc, hg⟩ := h.2.2.2 i hi
    exact ⟨g, o, e, (hb.cell (p := ⟨g, o + i, none⟩) hg).trans hc, Nat.lt_of_lt_of_le hg hb.size⟩⟩
end Go.Proofs.YtgbahfggnbpnmaaDoor
