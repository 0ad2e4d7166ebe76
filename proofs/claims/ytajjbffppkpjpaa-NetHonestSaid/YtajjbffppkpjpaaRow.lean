import Derived.Test.YtajjbffppkpjpaaMem
import Derived.Laws.CopyOwn
import Derived.Laws.CopyRow
import Derived.OwnWalk
import Derived.Maps.AppendAt
/-
  Elements of many cells: make, copy, clear; what may have changed. No program in sight.
-/
namespace Go.Proofs.Ytajjbffppkpjpaa
open Go.RowKit
variable {P : Program} {ops : Array Oper} {rest : List Oper} {o : Oper} {a : Act} {w : World} {Q : Exit → Act → World → Prop}
/-- What may have changed: the blocks of S, and new ones. -/
structure Only (S : Nat → Prop) (W W' : World) : Prop where
  os : W'.os = W.os
  tape : W'.tape = W.tape
  output : W'.output = W.output
  size : W.heap.size ≤ W'.heap.size
  same : ∀ k, k < W.heap.size → ¬ S k → W'.heap[k]? = W.heap[k]?
theorem Only.refl (S : Nat → Prop) (W : World) : Only S W W := ⟨rfl, rfl, rfl, Nat.le_refl _, fun _ _ _ => rfl⟩
theorem Only.trans {S : Nat → Prop} {A B C : World} (h : Only S A B) (k : Only S B C) : Only S A C :=
  ⟨k.os.trans h.os, k.tape.trans h.tape, k.output.trans h.output, Nat.le_trans h.size k.size, fun i hi hs => (k.same i (Nat.lt_of_lt_of_le hi h.size) hs).trans (h.same i hi hs)⟩
/-- A second step may write what was new behind the first. -/
theorem Only.trans' {S T : Nat → Prop} {A B C : World} (h : Only S A B) (k : Only T B C) (hT : ∀ i, T i → S i ∨ A.heap.size ≤ i) : Only S A C :=
  ⟨k.os.trans h.os, k.tape.trans h.tape, k.output.trans h.output, Nat.le_trans h.size k.size, fun i hi hs => (k.same i (Nat.lt_of_lt_of_le hi h.size) (fun q => (hT i q).elim hs (fun q => by omega))).trans (h.same i hi hs)⟩
theorem Only.mono {S T : Nat → Prop} {A B : World} (h : Only S A B) (hs : ∀ k, S k → T k) : Only T A B := ⟨h.os, h.tape, h.output, h.size, fun k hk hn => h.same k hk (fun q => hn (hs k q))⟩
theorem Only.of_below {S : Nat → Prop} {A B : World} (h : Below A.heap.size A B) : Only S A B := ⟨h.os, h.tape, h.output, h.size, fun k hk _ => h.block k hk⟩
theorem Only.wrote {S : Nat → Prop} {A B : World} {g : Nat} (h : Wrote A B g) (hg : S g) : Only S A B := by
  have h1 := h.grown (grownBy_refl A (some g))
  exact ⟨h1.os, h1.tape, h1.output, h1.size, fun k hk hn => h1.block k hk (fun e => by simp at e; subst e; exact hn hg)⟩
theorem Only.grown {S : Nat → Prop} {A B : World} {r : Option Nat} (h : A.grownBy B r) (hr : ∀ k, r = some k → S k) : Only S A B :=
  ⟨h.os, h.tape, h.output, h.size, fun i hi hs => h.block i hi (fun e => hs (hr i e.symm))⟩
theorem Only.alloc {S : Nat → Prop} (A : World) (ob : Obj) : Only S A (A.alloc ob) := Only.of_below ((Below.refl _ A).alloc (Nat.le_refl _) ob)
theorem Only.cell {S : Nat → Prop} (A : World) {k i : Nat} (u : Value) (hk : S k) : Only S A (A.setCell ⟨k, i, none⟩ u) := Only.grown (grownBy_set (grownBy_refl A (some k)) i u) (fun j e => by cases e; exact hk)
theorem Only.below {S : Nat → Prop} {n₀ : Nat} {A B : World} (h : Only S A B) (hs : ∀ k, S k → n₀ ≤ k) (hn : n₀ ≤ A.heap.size) : Below n₀ A B :=
  ⟨h.os, h.tape, h.output, h.size, fun i hi => h.same i (Nat.lt_of_lt_of_le hi hn) (fun q => by have := hs i q; omega)⟩
theorem Only.blk {S : Nat → Prop} {A B : World} (h : Only S A B) {g : Nat} {cs : Array Value} {t : TypeId} (hb : Blk A g cs t) (hg : ¬ S g) : Blk B g cs t := (h.same g hb.lt hg).trans hb
theorem Only.rdB {S : Nat → Prop} {A B : World} (h : Only S A B) {p : Option Addr} {l : List UInt8} (hr : RdB A p l) (hp : ∀ b o, p = some ⟨b, o, none⟩ → 0 < l.length → ¬ S b) : RdB B p l := fun i hi => by
  obtain ⟨g, o, h1, h2⟩ := hr i hi
  refine ⟨g, o, h1, ?_⟩
  rw [← h2]
  have hlt : g < A.heap.size := block_lt_of_cell (a := ⟨g, o + i, none⟩) (v := (l.map bv)[i]) (by rw [h2]; simp at hi; simp [hi])
  exact World.cell?_of_block (a := ⟨g, o + i, none⟩) (h.same g hlt (hp g o h1 (by simp at hi; omega)))
/-- The blocks of types that no text has are no text's. -/
theorem blk_type_ne {w : World} {g k : Nat} {cs ds : Array Value} {t u : TypeId} (h : Blk w g cs t) (h' : Blk w k ds u) (htu : t ≠ u) : g ≠ k := fun e => by subst e; exact htu (h.inj h').2

/-- copy(d, s) of elements of many cells. -/
theorem run_copy_rows (w : World) (dT sT ty elem : TypeId) (g off dLen dCap : Nat) (ad : Addr) (sLen sCap sz : Nat) (cur : Array Value) (t : TypeId) (cs : List Value)
    (hu : P.underlying dT = some (.slice elem)) (hs : (P.info? elem).map (·.size) = some sz)
    (hg : w.heap[g]? = some (.cells cur t (0, 0))) (N : Nat) (hN : N = Nat.min sLen dLen) (hn : cs.length = N * sz)
    (hsrc : ∀ j v, cs[j]? = some v → w.cell? (ad.add j) = some v) (hfit : off + cs.length ≤ cur.size) (h1 : ∀ v ∈ cs, v.oneCell' = true) :
    (Builtin.copy_ #[dT, sT] ty #[.slice (some ⟨g, off, none⟩) dLen dCap, .slice (some ad) sLen sCap]).run P w =
      .ok (goInt N) (w.setRow g (cur.toList.take off ++ cs ++ cur.toList.drop (off + cs.length)).toArray) := by
  have hl := run_loadCells_list (P := P) w ad cs hsrc
  have hst := run_storeCells_at P g off t cs 0 cur w hg (by simpa using hfit) h1
  cases hq : P.info? elem with
  | none => simp [hq] at hs
  | some i =>
    have hi : i.size = sz := by simpa [hq] using hs
    rw [hn] at hl
    simp [Builtin.copy_, run_underlying hu, Builtin.lenOf, Builtin.firstCells, sizeOf, typeInfo, hq, hi, ← hN, hl, hst]
theorem wpList_copy_rows (hgd : o.guard = none) (d s : Operand) (dT sT : TypeId)
    (ho : o.op = .call { callee := .builtin .copy, args := #[d, s], argTypes := #[dT, sT] }) (elem : TypeId) (hu : P.underlying dT = some (.slice elem)) (sz : Nat) (hsz : (P.info? elem).map (·.size) = some sz)
    (g off dLen dCap : Nat) (ad : Addr) (sLen sCap : Nat) (hd : a.eval d = .slice (some ⟨g, off, none⟩) dLen dCap) (hs : a.eval s = .slice (some ad) sLen sCap)
    {cur : Array Value} {t : TypeId} (hg : Blk w g cur t) (cs : List Value) (N : Nat) (hN : N = min sLen dLen) (hn : cs.length = N * sz)
    (hsrc : ∀ j v, cs[j]? = some v → w.cell? (ad.add j) = some v) (hfit : off + cs.length ≤ cur.size) (h1 : ∀ v ∈ cs, v.oneCell' = true)
    (h : ∀ W, Wrote w W g → Blk W g (splice cur.toList off cs).toArray t → wpList P ops Q rest (a.put o.dst (goInt N)) W) : wpList P ops Q (o :: rest) a w := by
  refine wpList_plain hgd fun K hK => ?_
  have hrun := run_copy_rows (P := P) w dT sT o.type elem g off dLen dCap ad sLen sCap sz cur t cs hu hsz hg N hN hn hsrc hfit h1
  unfold Oper.wp
  simp [execOp, ho, resolve, invoke, builtin, hd, hs, hrun, Result.andThen]
  refine hK _ _ (h _ (Wrote.row w g _) ?_)
  have := hg.setRow (cur.toList.take off ++ cs ++ cur.toList.drop (off + cs.length)).toArray
  simpa [splice, List.append_assoc] using this
/-- clear(s), s at its block's beginning: what stands there is not told. -/
theorem run_clear_rows (w : World) (t e : TypeId) (z : Value) (ht : P.underlying t = some (.slice e)) (hv : ∀ w, (zeroValue e).run P w = .ok z w) (h1 : ∀ v ∈ z.cells, v.oneCell' = true) (b n c : Nat)
    {cur : Array Value} {u : TypeId} (hg : Blk w b cur u) (hfit : n * z.cells.size ≤ cur.size) :
    ∃ W cur', (∀ ty, (Builtin.clear_ #[t] ty #[.slice (some ⟨b, 0, none⟩) n c]).run P w = .ok (.tuple #[]) W) ∧ Wrote w W b ∧ Blk W b cur' u ∧ cur'.size = cur.size := by
  rcases Nat.eq_zero_or_pos n with rfl | hn
  · refine ⟨w, cur, fun ty => ?_, Wrote.refl w b, hg, rfl⟩
    simp [Builtin.clear_, run_underlying ht]
  · have hlen : (Builtin.zeroCells z.cells n).toList.length = n * z.cells.size := by simp [Builtin.zeroCells]
    have hone : ∀ v ∈ (Builtin.zeroCells z.cells n).toList, v.oneCell' = true := by
      intro v hv'
      simp only [Builtin.zeroCells, Array.toList_map, List.mem_map] at hv'
      obtain ⟨i, hi, rfl⟩ := hv'
      have hzs : 0 < z.cells.size := by
        rcases Nat.eq_zero_or_pos z.cells.size with h | h
        · rw [h, Nat.mul_zero] at hi; simp at hi
        · exact h
      have hlt : i % z.cells.size < z.cells.size := Nat.mod_lt _ hzs
      rw [getElem!_pos z.cells (i % z.cells.size) hlt]
      exact h1 _ (Array.getElem_mem hlt)
    have hst := run_storeCells_at P b 0 u (Builtin.zeroCells z.cells n).toList 0 cur w hg (by rw [hlen]; simpa using hfit) hone
    obtain ⟨m, rfl⟩ : ∃ m, n = m + 1 := ⟨n - 1, by omega⟩
    obtain ⟨R, hR⟩ : ∃ R, R = (cur.toList.take (0 + 0) ++ (Builtin.zeroCells z.cells (m + 1)).toList ++ cur.toList.drop (0 + 0 + (Builtin.zeroCells z.cells (m + 1)).toList.length)).toArray := ⟨_, rfl⟩
    rw [← hR] at hst
    refine ⟨w.setRow b R, R, fun ty => ?_, Wrote.row w b _, hg.setRow _, ?_⟩
    · simp [Builtin.clear_, run_underlying ht, hv, hst]
    · rw [hR]
      simp only [List.size_toArray, List.length_append, List.length_take, List.length_drop, hlen, Array.length_toList]
      omega
/-- make([]T, l, c) of elements of many cells that are all alike. -/
theorem wpList_make_rows (hgd : o.guard = none) (t : TypeId) (l c : Operand) (ho : o.op = .makeSlice t l c)
    (e : TypeId) (z u : Value) (sz bytes : Nat) (h1 : P.underlying t = some (.slice e)) (h2 : (P.info? e).map (fun i => (i.zero, i.size, i.bytes)) = some (some z, sz, bytes)) (hz : z.cells = Array.replicate sz u) (hsz : 0 < sz)
    (kl kc : IntKind) (L C : Nat) (hl : a.eval l = .int kl L) (hc : a.eval c = .int kc C) (hLC : L ≤ C) (hb : bytes * C ≤ 281474976710656) (hC : C ≤ 9223372036854775807)
    (h : wpList P ops Q rest (a.put o.dst (.slice (some ⟨w.heap.size, 0, none⟩) L C)) (w.alloc (.cells (Array.replicate (C * sz) u) e))) : wpList P ops Q (o :: rest) a w := by
  obtain ⟨i, i1, i2, i3, i4⟩ := info_parts h2
  refine wpList_plain hgd fun K hK => ?_
  have hr := run_make (P := P) w t e i z h1 i1 i2 kl kc L C (by omega) (by omega) (by rw [i4, ← Int.natCast_mul]; omega) (by omega)
  simp only [Int.toNat_natCast, i3] at hr
  have em : madeCells z.cells (C * sz) = (Array.replicate (C * sz) u) := by
    rw [hz]
    apply Array.ext
    · simp [madeCells]
    · intro j h1 h2
      simp only [madeCells, Array.getElem_map, Array.getElem_range, Array.getElem_replicate]
      rw [getElem!_pos _ _ (by simp; exact Nat.mod_lt _ hsz)]
      simp
  rw [em] at hr
  unfold Oper.wp
  simp [execOp, ho, hl, hc, hr, Result.andThen]
  exact hK _ _ h
theorem splice_one (cur : Array Value) (off : Nat) (v : Value) (h : off < cur.size) : (cur.toList.take off ++ [v] ++ cur.toList.drop (off + 1)).toArray = cur.setIfInBounds off v := by
  apply Array.ext'
  simp only [Array.toList_setIfInBounds]
  rw [List.set_eq_take_append_cons_drop, if_pos (by simpa using h)]
  simp
theorem wrote_one (w : World) (g off : Nat) (t : TypeId) (cur : Array Value) (v : Value) (hg : Blk w g cur t) (hfit : off < cur.size) (h1 : v.oneCell' = true) :
    ∃ W, (storeCells ⟨g, off, none⟩ [v] 0).run P w = .ok () W ∧ Wrote w W g ∧ Blk W g (cur.setIfInBounds off v) t := by
  have := run_storeCells_at (P := P) g off t [v] 0 cur w hg (by simp; omega) (by simpa using h1)
  refine ⟨_, this, Wrote.row w g _, ?_⟩
  simp only [Nat.add_zero, List.length_singleton]
  rw [splice_one cur off v hfit]
  exact hg.setRow _
theorem wp_store_one {K : Act → World → Prop} (x y : Operand) (ty : TypeId) (hi : (P.info? ty).map (·.size) = some 1) (ho : o.op = .store ty x y) (g off : Nat) (v : Value) (hx : a.eval x = .pointer (some ⟨g, off, none⟩)) (hy : a.eval y = v) (hv : v.cells = #[v]) (h1 : v.oneCell' = true) {cur : Array Value} {t : TypeId} (hg : Blk w g cur t) (hfit : off < cur.size)
    (h : ∀ W, Wrote w W g → Blk W g (cur.setIfInBounds off v) t → K (a.put o.dst undef) W) : o.wp P a w K Q := by
  obtain ⟨W, h1, h2, h3⟩ := wrote_one (P := P) w g off t cur v hg hfit h1
  have hs : (storeVar ty ⟨g, off, none⟩ v).run P w = .ok () W := by
    cases hq : P.info? ty with
    | none => simp [hq] at hi
    | some i =>
      have i3 : i.size = 1 := by simpa [hq] using hi
      simp [storeVar, sizeOf, typeInfo, hq, hv, i3, h1]
  unfold Oper.wp execOp
  simp only [ho, hx, hy, Instr.storeAt, Instr.sureAddr, Sem.run_bind, Sem.run_pure, Result.andThen_ok, hs]
  exact h _ h2 h3
theorem wpList_store_one (hgd : o.guard = none) (x y : Operand) (ty : TypeId) (hi : (P.info? ty).map (·.size) = some 1) (ho : o.op = .store ty x y) (g off : Nat) (v : Value) (hx : a.eval x = .pointer (some ⟨g, off, none⟩)) (hy : a.eval y = v) (hv : v.cells = #[v]) (h1 : v.oneCell' = true) {cur : Array Value} {t : TypeId} (hg : Blk w g cur t) (hfit : off < cur.size)
    (h : ∀ W, Wrote w W g → Blk W g (cur.setIfInBounds off v) t → wpList P ops Q rest (a.put o.dst undef) W) : wpList P ops Q (o :: rest) a w :=
  wpList_plain hgd fun _ hK => wp_store_one x y ty hi ho g off v hx hy hv h1 hg hfit (fun W h1 h2 => hK _ _ (h W h1 h2))
theorem wp_of_yields' {K : Act → World → Prop} {v : Value} (hy : (execOp a.eval o).run P w = .ok (.value v) w) (h : K (a.put o.dst v) w) : o.wp P a w K Q := by
  unfold Oper.wp
  rw [hy]
  exact h
theorem wp_append_row {K : Act → World → Prop} (s x : Operand) (t e : TypeId) (ho : o.op = .call { callee := .builtin .append, args := #[s, x], argTypes := #[t, t] }) (z : Value) (size bytes : Nat) (ht : P.underlying t = some (.slice e)) (hi : (P.info? e).map (fun i => (i.zero, i.size, i.bytes)) = some (some z, size, bytes))
    (hzs : z.cells.size = size) (hsz : 0 < size) (v : Value) (n : Nat) (xs : List Value) (hs : a.eval s = v) (hown : w.ownsRow 0 e size v n xs) (g c : Nat) (news : List Value) (hx : a.eval x = .slice (some ⟨g, 0, none⟩) 1 c) (hl : news.length = size) {tt : TypeId} (hB : Blk w g news.toArray tt) (h1 : ∀ u ∈ news, u.oneCell' = true)
    (h63 : n + 1 ≤ maxLen) (hbytes : (n + 1) * bytes ≤ 140737488355328)
    (h : ∀ a' c' w', w'.ownsRow 0 e size (.slice a' (n + 1) c') (n + 1) (xs ++ news) → w.grownBy w' v.ownBlock → (∀ k, (Value.slice a' (n + 1) c').ownBlock = some k → v.ownBlock = some k ∨ k = w.heap.size) → K (a.put o.dst (.slice a' (n + 1) c')) w') : o.wp P a w K Q := by
  obtain ⟨i, i1, i2, i3, i4⟩ := info_parts hi
  obtain ⟨v', w', r1, r2, r3, _, r5⟩ := run_append_own_at (P := P) w 0 t o.type e i z size bytes ht i1 i2 i3 i4 hzs hsz v n xs hown ⟨g, 0, none⟩ 1 c news (by rw [hl, Nat.one_mul]) (fun j u hj => by rw [Addr.add_mid]; exact hB.cell (0 + j) (by simpa using hj)) h1 h63 hbytes (Nat.zero_le _)
  obtain ⟨a', c', rfl⟩ : ∃ a' c', v' = .slice a' (n + 1) c' := by
    rcases r2.2 with ⟨rfl, h0⟩ | ⟨g, cap, cur, rfl, _⟩
    · omega
    · exact ⟨_, _, rfl⟩
  unfold Oper.wp execOp
  simp only [ho, resolve, invoke, builtin, Sem.run_bind, Sem.run_pure, Result.andThen_ok, List.map_toArray, List.map_cons, List.map_nil, hs, hx, r1]
  exact h a' c' w' r2 r3 (fun k e => r5.elim (fun q => .inl (q ▸ e)) (fun q => .inr (by rw [q] at e; simpa using e.symm)))
theorem wpList_append_row (hgd : o.guard = none) (s x : Operand) (t e : TypeId) (ho : o.op = .call { callee := .builtin .append, args := #[s, x], argTypes := #[t, t] }) (z : Value) (size bytes : Nat) (ht : P.underlying t = some (.slice e)) (hi : (P.info? e).map (fun i => (i.zero, i.size, i.bytes)) = some (some z, size, bytes))
    (hzs : z.cells.size = size) (hsz : 0 < size) (v : Value) (n : Nat) (xs : List Value) (hs : a.eval s = v) (hown : w.ownsRow 0 e size v n xs) (g c : Nat) (news : List Value) (hx : a.eval x = .slice (some ⟨g, 0, none⟩) 1 c) (hl : news.length = size) {tt : TypeId} (hB : Blk w g news.toArray tt) (h1 : ∀ u ∈ news, u.oneCell' = true)
    (h63 : n + 1 ≤ maxLen) (hbytes : (n + 1) * bytes ≤ 140737488355328)
    (h : ∀ a' c' w', w'.ownsRow 0 e size (.slice a' (n + 1) c') (n + 1) (xs ++ news) → w.grownBy w' v.ownBlock → (∀ k, (Value.slice a' (n + 1) c').ownBlock = some k → v.ownBlock = some k ∨ k = w.heap.size) → wpList P ops Q rest (a.put o.dst (.slice a' (n + 1) c')) w') : wpList P ops Q (o :: rest) a w :=
  wpList_plain hgd fun _ hK => wp_append_row s x t e ho z size bytes ht hi hzs hsz v n xs hs hown g c news hx hl hB h1 h63 hbytes fun a' c' w' h1 h2 h3 => hK _ _ (h a' c' w' h1 h2 h3)
end Go.Proofs.Ytajjbffppkpjpaa
