import Derived.Test.YtajjbffppkpjpaaBase
import Derived.Deep.MidRow
import Derived.Laws.CopyOwn
import Derived.StillTailTactics
import Derived.Deep.RegionLaw
/-
  Laws for pieces of a block: an array in the midst of a struct is loaded, stored; copy into a piece of a block. The world behind a write by a letter. No program in sight.
-/
namespace Go.Proofs.Ytajjbffppkpjpaa
open Go.RowKit
section
variable {P : Program} {ops : Array Oper} {rest : List Oper} {o : Oper} {a : Act} {w : World} {Q : Exit → Act → World → Prop}

theorem range_blk {w : World} {g : Nat} {cur : Array Value} {t : TypeId} (h : Blk w g cur t) (off : Nat) (cs : List Value) (hcs : ∀ i, i < cs.length → cur[off + i]? = cs[i]?) : w.rangeAt g off cs := fun j v hv => by
  have hj : j < cs.length := by
    rcases Nat.lt_or_ge j cs.length with h' | h'
    · exact h'
    · rw [List.getElem?_eq_none h'] at hv; cases hv
  rw [h.cell (off + j) (v := v) (by rw [hcs j hj]; exact hv)]
theorem wpList_load_sub (hgd : o.guard = none) (ty : TypeId) (x : Operand) (ho : o.op = .load ty x)
    (g off : Nat) (hx : a.eval x = .pointer (some ⟨g, off, none⟩)) {cur : Array Value} {t : TypeId} (hg : Blk w g cur t) (cs : List Value) (hcs : ∀ i, i < cs.length → cur[off + i]? = cs[i]?)
    (d : TypeDesc) (hu : P.underlying ty = some d) (hd : d.isRow = true) (hi : (P.info? ty).map (·.size) = some cs.length)
    (h : wpList P ops Q rest (a.put o.dst (.agg cs.toArray)) w) : wpList P ops Q (o :: rest) a w :=
  wpList_load_mid hgd ty x ho g off hx cs d (range_blk hg off cs hcs) hu hd hi h
theorem step_load_sub {K : Act → World → Prop} {E : Prop} (hgd : o.guard = none) (ty : TypeId) (x : Operand) (ho : o.op = .load ty x)
    (g off : Nat) (hx : a.eval x = .pointer (some ⟨g, off, none⟩)) {cur : Array Value} {t : TypeId} (hg : Blk w g cur t) (cs : List Value) (hcs : ∀ i, i < cs.length → cur[off + i]? = cs[i]?)
    (d : TypeDesc) (hu : P.underlying ty = some d) (hd : d.isRow = true) (hi : (P.info? ty).map (·.size) = some cs.length)
    (h : K (a.put o.dst (.agg cs.toArray)) w) : if Region.wanted o (yielded ops a.tmps) = true then Oper.wp P o a w K Q else E := by
  rw [if_pos (by simp [Region.wanted, hgd])]
  exact wp_load_mid ty x ho g off hx cs d (range_blk hg off cs hcs) hu hd hi h

theorem wp_load_sub {K : Act → World → Prop} (ty : TypeId) (x : Operand) (ho : o.op = .load ty x)
    (g off : Nat) (hx : a.eval x = .pointer (some ⟨g, off, none⟩)) {cur : Array Value} {t : TypeId} (hg : Blk w g cur t) (cs : List Value) (hcs : ∀ i, i < cs.length → cur[off + i]? = cs[i]?)
    (d : TypeDesc) (hu : P.underlying ty = some d) (hd : d.isRow = true) (hi : (P.info? ty).map (·.size) = some cs.length)
    (h : K (a.put o.dst (.agg cs.toArray)) w) : o.wp P a w K Q :=
  wp_load_mid ty x ho g off hx cs d (range_blk hg off cs hcs) hu hd hi h
/-- A piece is loaded in the still head of a region that draws its order. -/
theorem still_load_sub {K : Act → Prop} (ty : TypeId) (x : Operand) (ho : o.op = .load ty x)
    (g off : Nat) (hx : a.eval x = .pointer (some ⟨g, off, none⟩)) {cur : Array Value} {t : TypeId} (hg : Blk w g cur t) (cs : List Value) (hcs : ∀ i, i < cs.length → cur[off + i]? = cs[i]?)
    (d : TypeDesc) (hu : P.underlying ty = some d) (hd : d.isRow = true) (hi : (P.info? ty).map (·.size) = some cs.length)
    (h : K (a.put o.dst (.agg cs.toArray))) : o.still P a w K := by
  unfold Oper.still execOp
  simp only [ho, hx, Instr.loadAt, Instr.sureAddr, Sem.run_bind, Sem.run_pure, Result.andThen_ok, run_loadVar_mid w g off ty cs d (range_blk hg off cs hcs) hu hd hi]
  exact ⟨rfl, h⟩
theorem run_store_sub (w : World) (g off : Nat) (ty t : TypeId) (cur : Array Value) (cells : Array Value) (hg : Blk w g cur t) (hfit : off + cells.size ≤ cur.size) (hi : (P.info? ty).map (·.size) = some cells.size) (h1 : cells.all (·.oneCell') = true) :
    (storeVar ty ⟨g, off, none⟩ (.agg cells)).run P w = .ok () (w.setRow g (splice cur.toList off cells.toList).toArray) := by
  have := run_storeCells_at (P := P) g off t cells.toList 0 cur w hg (by simpa using hfit) (fun v hv => (Array.all_eq_true_iff_forall_mem.1 h1) v (by simpa using hv))
  cases hq : P.info? ty with
  | none => simp [hq] at hi
  | some i =>
    have hs : cells.size = i.size := by simp [hq] at hi; omega
    simp only [Nat.add_zero] at this
    simp [storeVar, sizeOf, typeInfo, hq, Value.cells, hs, this, splice, List.append_assoc]
theorem wp_store_sub {K : Act → World → Prop} (ty : TypeId) (x y : Operand) (ho : o.op = .store ty x y)
    (g off : Nat) (cells : Array Value) (hx : a.eval x = .pointer (some ⟨g, off, none⟩)) (hy : a.eval y = .agg cells)
    {cur : Array Value} {t : TypeId} (hg : Blk w g cur t) (hfit : off + cells.size ≤ cur.size) (hi : (P.info? ty).map (·.size) = some cells.size) (h1 : cells.all (·.oneCell') = true)
    (h : ∀ W, Wrote w W g → Blk W g (splice cur.toList off cells.toList).toArray t → K (a.put o.dst undef) W) : o.wp P a w K Q := by
  unfold Oper.wp execOp
  simp only [ho, hx, hy, Instr.storeAt, Instr.sureAddr, Sem.run_bind, Sem.run_pure, Result.andThen_ok, run_store_sub w g off ty t cur cells hg hfit hi h1]
  exact h _ (Wrote.row w g _) (hg.setRow _)
theorem wpList_store_sub (hgd : o.guard = none) (ty : TypeId) (x y : Operand) (ho : o.op = .store ty x y)
    (g off : Nat) (cells : Array Value) (hx : a.eval x = .pointer (some ⟨g, off, none⟩)) (hy : a.eval y = .agg cells)
    {cur : Array Value} {t : TypeId} (hg : Blk w g cur t) (hfit : off + cells.size ≤ cur.size) (hi : (P.info? ty).map (·.size) = some cells.size) (h1 : cells.all (·.oneCell') = true)
    (h : ∀ W, Wrote w W g → Blk W g (splice cur.toList off cells.toList).toArray t → wpList P ops Q rest (a.put o.dst undef) W) : wpList P ops Q (o :: rest) a w :=
  wpList_plain hgd fun _ hK => wp_store_sub ty x y ho g off cells hx hy hg hfit hi h1 (fun W h1 h2 => hK _ _ (h W h1 h2))
theorem step_store_sub {K : Act → World → Prop} {E : Prop} (hgd : o.guard = none) (ty : TypeId) (x y : Operand) (ho : o.op = .store ty x y)
    (g off : Nat) (cells : Array Value) (hx : a.eval x = .pointer (some ⟨g, off, none⟩)) (hy : a.eval y = .agg cells)
    {cur : Array Value} {t : TypeId} (hg : Blk w g cur t) (hfit : off + cells.size ≤ cur.size) (hi : (P.info? ty).map (·.size) = some cells.size) (h1 : cells.all (·.oneCell') = true)
    (h : ∀ W, Wrote w W g → Blk W g (splice cur.toList off cells.toList).toArray t → K (a.put o.dst undef) W) : if Region.wanted o (yielded ops a.tmps) = true then Oper.wp P o a w K Q else E := by
  rw [if_pos (by simp [Region.wanted, hgd])]
  exact wp_store_sub ty x y ho g off cells hx hy hg hfit hi h1 h

theorem Wrote.refl (w : World) (g : Nat) : Wrote w w g := ⟨rfl, fun h _ => h, fun h _ => h, fun h => h⟩
/-- copy into a piece of a block. -/
theorem wpList_copy_abs (hgd : o.guard = none) (d s : Operand) (dT sT : TypeId)
    (ho : o.op = .call { callee := .builtin .copy, args := #[d, s], argTypes := #[dT, sT] }) (elem : TypeId) (hu : P.underlying dT = some (.slice elem)) (hsz : (P.info? elem).map (·.size) = some 1)
    (dp sp : Option Addr) (dLen dCap sLen sCap : Nat) (hd : a.eval d = .slice dp dLen dCap) (hs : a.eval s = .slice sp sLen sCap)
    (g off : Nat) {cur : Array Value} {t : TypeId} (hg : Blk w g cur t) (cs : List Value) (hn : cs.length = min sLen dLen)
    (hpos : 0 < cs.length → dp = some ⟨g, off, none⟩) (hr : Rd w sp cs) (hfit : off + cs.length ≤ cur.size) (h1 : ∀ v ∈ cs, v.oneCell' = true) (N : Nat) (hN : cs.length = N)
    (h : ∀ W, Wrote w W g → Blk W g (splice cur.toList off cs).toArray t → wpList P ops Q rest (a.put o.dst (goInt N)) W) : wpList P ops Q (o :: rest) a w := by
  subst hN
  by_cases h0 : cs.length = 0
  · obtain rfl : cs = [] := List.eq_nil_of_length_eq_zero h0
    refine wpList_copy_nothing hgd d s dT sT ho elem hu hsz dp sp dLen dCap sLen sCap hd hs (by simpa using hn.symm) ?_
    exact h w (Wrote.refl w g) (by unfold Blk at *; simpa [splice] using hg)
  · obtain rfl := hpos (by omega)
    obtain ⟨g', o', rfl, _⟩ := hr 0 (by omega)
    refine wpList_copy_own hgd d s dT sT ho elem hu hsz g off dLen dCap ⟨g', o', none⟩ sLen sCap hd hs cur t hg cs hn (fun j v hv => ?_) hfit h1 ?_
    · have hj : j < cs.length := by
        rcases Nat.lt_or_ge j cs.length with h' | h'
        · exact h'
        · rw [List.getElem?_eq_none h'] at hv; cases hv
      obtain ⟨g2, o2, e1, e2⟩ := hr j hj
      simp at e1; obtain ⟨rfl, rfl⟩ := e1
      rw [Addr.add_mid, e2, hv]
    · exact h _ (Wrote.row w g _) (hg.setRow _)
end
end Go.Proofs.Ytajjbffppkpjpaa
