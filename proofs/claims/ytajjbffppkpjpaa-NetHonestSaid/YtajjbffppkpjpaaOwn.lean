import Derived.Test.YtajjbffppkpjpaaMem
import Derived.Test.YtajjbffppkpjpaaChecked
import Derived.Maps.AppendAt
import Derived.Laws.IdiomStrings
import Derived.OwnWalk
/-
  Texts in memory of the call's own: append onto them; a text as a string.
-/
namespace Go.Proofs.Ytajjbffppkpjpaa
open Go.RowKit

theorem Rd.far {w w' : World} {a : Option Addr} {xs : List Value} {B : Nat} (h : Rd w a xs) (hb : Below B w w') (ho : ∀ b o, a = some ⟨b, o, none⟩ → 0 < xs.length → b < B) : Rd w' a xs := fun i hi => by
  obtain ⟨g, o, h1, h2⟩ := h i hi
  exact ⟨g, o, h1, (hb.cell (p := ⟨g, o + i, none⟩) (ho g o h1 (by omega))).trans h2⟩
theorem RdB.far {w w' : World} {a : Option Addr} {l : List UInt8} {B : Nat} (h : RdB w a l) (hb : Below B w w') (ho : ∀ b o, a = some ⟨b, o, none⟩ → 0 < l.length → b < B) : RdB w' a l :=
  Rd.far h hb (fun b o e h0 => ho b o e (by simpa using h0))
theorem RdB.drewN {w : World} {a : Option Addr} {l : List UInt8} (h : RdB w a l) (n : Nat) : RdB (w.drewN n) a l := h

/-- 'string(b)'. -/
theorem run_str {P : Program} (w : World) (src dst e : TypeId) (a : Option Addr) (n cap : Nat) (l : List UInt8) (hn : n = l.length) (hs : P.underlying src = some (.slice e)) (he : P.underlying e = some (.int .u8)) (hd : P.underlying dst = some .string)
    (hr : RdB w a l) : (convert src dst (.slice a n cap)).run P w = .ok (.string ⟨l.toArray⟩) w := by
  subst hn
  cases a with
  | none =>
    have h0 : l = [] := by
      rcases Nat.eq_zero_or_pos l.length with h | h
      · exact List.eq_nil_of_length_eq_zero h
      · obtain ⟨g, o, e, _⟩ := hr.at h; cases e
    subst h0
    show (convert src dst (.slice none 0 cap)).run P w = _
    rw [run_convert_bytes_string w src dst e none 0 cap hs he hd]
    simp [Conv.bytesToString]
    rfl
  | some a =>
    refine run_convert_bytes_back w src dst e a cap l hs he hd (fun j hj => ?_)
    obtain ⟨g, o, e1, e2⟩ := hr.at hj
    simp only [Option.some.injEq] at e1
    subst e1
    rw [Addr.add_mid, e2]
    simp [bv, hj]

/-- A text in memory of the call's own, from block lo on. -/
def OwnB (w : World) (lo : Nat) (v : Value) (l : List UInt8) : Prop := w.ownsRow lo 5 1 v l.length (l.map bv)
theorem OwnB.nil (w : World) (lo : Nat) : OwnB w lo (.slice none 0 0) [] := World.ownsRow_nil w lo _ _
theorem OwnB.made (w : World) (l : List UInt8) {lo : Nat} (hb : lo ≤ w.heap.size) (hm : l.length ≤ maxLen) : OwnB (w.alloc (.cells (barr l) 5)) lo (.slice (some ⟨w.heap.size, 0, none⟩) l.length l.length) l :=
  ⟨by simp, Or.inr ⟨w.heap.size, l.length, barr l, rfl, hb, heap_alloc_new w _, Nat.le_refl _, hm, by simp, by simp only [barr, Nat.mul_one]; rw [List.take_of_length_le (by simp)]⟩⟩
theorem OwnB.lt {w : World} {lo : Nat} {v : Value} {l : List UInt8} (h : OwnB w lo v l) : ∀ k, v.ownBlock = some k → lo ≤ k ∧ k < w.heap.size := World.ownsRow.lt h
theorem OwnB.grown {w w' : World} {lo : Nat} {v : Value} {l : List UInt8} {r : Option Nat} (h : OwnB w lo v l) (hg : w.grownBy w' r) (hne : v.ownBlock = none ∨ v.ownBlock ≠ r) : OwnB w' lo v l := World.ownsRow.kept h hg hne
theorem OwnB.below {w w' : World} {lo : Nat} {v : Value} {l : List UInt8} (h : OwnB w lo v l) (hb : Below w.heap.size w w') : OwnB w' lo v l := by
  refine World.ownsRow.kept (row := none) h (grownBy_of_below hb) ?_
  cases v.ownBlock with
  | none => exact .inl rfl
  | some k => exact .inr (by simp)
theorem OwnB.drew {w : World} {lo : Nat} {v : Value} {l : List UInt8} (h : OwnB w lo v l) : OwnB w.drew lo v l := h
theorem OwnB.drewN {w : World} {lo : Nat} {v : Value} {l : List UInt8} (h : OwnB w lo v l) (n : Nat) : OwnB (w.drewN n) lo v l := h
theorem OwnB.mono {w : World} {lo lo' : Nat} {v : Value} {l : List UInt8} (h : OwnB w lo v l) (hl : lo' ≤ lo) : OwnB w lo' v l := by
  refine ⟨h.1, ?_⟩
  rcases h.2 with h0 | ⟨g, cap, cur, h1, h2, h3⟩
  · exact .inl h0
  · exact .inr ⟨g, cap, cur, h1, by omega, h3⟩
theorem OwnB.form {w : World} {lo : Nat} {v : Value} {l : List UInt8} (h : OwnB w lo v l) :
    ∃ a cap, v = .slice a l.length cap ∧ l.length ≤ cap ∧ cap ≤ maxLen ∧ RdB w a l ∧ (∀ b o, a = some ⟨b, o, none⟩ → lo ≤ b ∧ b < w.heap.size) ∧ (∀ b o, a = some ⟨b, o, none⟩ → o = 0 ∧ ∃ cur, Blk w b cur 5 ∧ cur.size = cap ∧ cur.toList.take l.length = l.map bv) := by
  rcases h.2 with ⟨rfl, h0⟩ | ⟨g, cap, cur, rfl, h2, h3, h4, h5, h6, h7⟩
  · have : l = [] := List.eq_nil_of_length_eq_zero h0
    subst this
    exact ⟨none, 0, rfl, Nat.le_refl _, by simp [maxLen], RdB.nil _ _, fun _ _ e => (by cases e), fun _ _ e => (by cases e)⟩
  · rw [Nat.mul_one] at h6 h7
    have hlt : g < w.heap.size := (Array.getElem?_eq_some_iff.1 h3).1
    refine ⟨some ⟨g, 0, none⟩, cap, rfl, h4, h5, ?_, fun b o e => ?_, fun b o e => ?_⟩
    · exact RdB.of_blk (t := 5) h3 l h7
    · simp only [Option.some.injEq, Addr.mk.injEq] at e; omega
    · simp only [Option.some.injEq, Addr.mk.injEq] at e
      obtain ⟨rfl, rfl, _⟩ := e
      exact ⟨rfl, cur, h3, h6, h7⟩
theorem OwnB.len {w : World} {lo n c : Nat} {a : Option Addr} {l : List UInt8} (h : OwnB w lo (.slice a n c) l) : n = l.length := by
  obtain ⟨a', c', e, _⟩ := h.form
  simp only [Value.slice.injEq] at e
  exact e.2.1
theorem below_own {w0 wr w1 : World} {v : Value} {l : List UInt8} {lo : Nat} (hb : Below lo w0 wr) (hO : OwnB wr lo v l) (hlo : lo ≤ wr.heap.size) (hg : wr.grownBy w1 v.ownBlock) : Below lo w0 w1 :=
  hb.trans ⟨hg.os, hg.tape, hg.output, hg.size, fun i hi => hg.block i (Nat.lt_of_lt_of_le hi hlo) (fun e => by have := (hO.lt i e.symm).1; omega)⟩
/-- A block of bytes that is known whole is such a text. -/
theorem OwnB.of_blk {w : World} {lo g : Nat} {l : List UInt8} (h : Blk w g (barr l) 5) (hb : lo ≤ g) (hm : l.length ≤ maxLen) : OwnB w lo (.slice (some ⟨g, 0, none⟩) l.length l.length) l :=
  ⟨by simp, Or.inr ⟨g, l.length, barr l, rfl, hb, h, Nat.le_refl _, hm, by simp, by simp only [barr, Nat.mul_one]; rw [List.take_of_length_le (by simp)]⟩⟩

/-- A text that lies below the heap's end. -/
structure Txt (w : World) (a : Option Addr) (n c : Nat) (l : List UInt8) : Prop where
  len : n = l.length
  fit : n ≤ c
  rd : RdB w a l
  old : ∀ b o, a = some ⟨b, o, none⟩ → 0 < l.length → b < w.heap.size
theorem Txt.below {w w' : World} {a : Option Addr} {n c : Nat} {l : List UInt8} (h : Txt w a n c l) (hb : Below w.heap.size w w') : Txt w' a n c l :=
  ⟨h.len, h.fit, h.rd.below hb, fun b o e h0 => Nat.lt_of_lt_of_le (h.old b o e h0) hb.size⟩
theorem Txt.alloc {w : World} {a : Option Addr} {n c : Nat} {l : List UInt8} (h : Txt w a n c l) (o : Obj) : Txt (w.alloc o) a n c l := h.below ((Below.refl _ w).alloc (Nat.le_refl _) o)
theorem Txt.drew {w : World} {a : Option Addr} {n c : Nat} {l : List UInt8} (h : Txt w a n c l) : Txt w.drew a n c l := ⟨h.len, h.fit, h.rd, h.old⟩
theorem Txt.drewN {w : World} {a : Option Addr} {n c : Nat} {l : List UInt8} (h : Txt w a n c l) (k : Nat) : Txt (w.drewN k) a n c l := ⟨h.len, h.fit, h.rd, h.old⟩
theorem Txt.nil (w : World) (c : Nat) : Txt w none 0 c [] := ⟨rfl, Nat.zero_le _, RdB.nil _ _, fun _ _ e => by cases e⟩
theorem OwnB.txt {w : World} {lo n c : Nat} {a : Option Addr} {l : List UInt8} (h : OwnB w lo (.slice a n c) l) : Txt w a n c l := by
  obtain ⟨a', c', e, h1, _, h3, h4, _⟩ := h.form
  simp only [Value.slice.injEq] at e
  obtain ⟨rfl, rfl, rfl⟩ := e
  exact ⟨rfl, h1, h3, fun b o e _ => (h4 b o e).2⟩
theorem Txt.of_blk {w : World} {g : Nat} {t : TypeId} {l : List UInt8} (h : Blk w g (barr l) t) : Txt w (some ⟨g, 0, none⟩) l.length l.length l :=
  ⟨rfl, Nat.le_refl _, RdB.of_blk h l (by simp only [barr]; rw [List.take_of_length_le (by simp)]), fun b o e _ => by simp only [Option.some.injEq, Addr.mk.injEq] at e; obtain ⟨rfl, _⟩ := e; exact h.lt⟩
theorem Txt.new (w : World) (l : List UInt8) (t : TypeId) (fr : Nat × Nat) {n g : Nat} (hn : n = l.length) (hg : g = w.heap.size) : Txt (w.alloc (.cells (barr l) t fr)) (some ⟨g, 0, none⟩) n n l := by
  subst hn hg
  refine ⟨rfl, Nat.le_refl _, fun i hi => ⟨_, 0, rfl, ?_⟩, fun b o e _ => by simp only [Option.some.injEq, Addr.mk.injEq] at e; simp; omega⟩
  have h : (w.alloc (.cells (barr l) t fr)).heap[w.heap.size]? = some (.cells (barr l) t fr) := heap_alloc_new w _
  simp only [World.cell?, h]
  simp [barr]

theorem info_u8' : (Try.prog.info? 5).map (fun i => (i.zero, i.size, i.bytes)) = some (some (.int .u8 0), 1, 1) := by kernel_rfl
theorem run_append_txt (w : World) (lo : Nat) (ty : TypeId) (v : Value) (l : List UInt8) (hown : OwnB w lo v l) (a : Option Addr) (n c : Nat) (l2 : List UInt8) (hn : n = l2.length) (hr : RdB w a l2)
    (hlen : l.length + l2.length ≤ 140737488355328) (hbase : lo ≤ w.heap.size) :
    ∃ a' n' cap' w', (Builtin.append_ #[45, 45] ty #[v, .slice a n c]).run Try.prog w = .ok (.slice a' n' cap') w' ∧ OwnB w' lo (.slice a' n' cap') (l ++ l2) ∧ w.grownBy w' v.ownBlock := by
  obtain ⟨i, i1, i2, i3, i4⟩ := info_parts info_u8'
  subst hn
  have fin : ∀ v' w', (Builtin.append_ #[45, 45] ty #[v, .slice a l2.length c]).run Try.prog w = .ok v' w' → w'.ownsRow lo 5 1 v' (l.length + l2.length) (l.map bv ++ l2.map bv) → w.grownBy w' v.ownBlock →
      ∃ a' n' cap' w', (Builtin.append_ #[45, 45] ty #[v, .slice a l2.length c]).run Try.prog w = .ok (.slice a' n' cap') w' ∧ OwnB w' lo (.slice a' n' cap') (l ++ l2) ∧ w.grownBy w' v.ownBlock := by
    intro v' w' h1 h2 h3
    have h4 : OwnB w' lo v' (l ++ l2) := by unfold OwnB; rw [List.length_append, List.map_append]; exact h2
    obtain ⟨a', cap', rfl, _⟩ := h4.form
    exact ⟨a', _, cap', w', h1, h4, h3⟩
  cases a with
  | none =>
    have h0 : l2 = [] := by
      rcases Nat.eq_zero_or_pos l2.length with h | h
      · exact List.eq_nil_of_length_eq_zero h
      · obtain ⟨g, o, e, _⟩ := hr.at h; cases e
    subst h0
    refine fin v w ?_ (by simpa [OwnB] using hown) (World.grownBy.refl w _)
    show (Builtin.append_ _ ty #[v, .slice none 0 c]).run Try.prog w = _
    rcases hown.2 with ⟨rfl, h0⟩ | ⟨g, cap, cur, rfl, _, _, hnc, _⟩
    · simp [Builtin.append_, run_underlying Try.underlying45, sizeOf, typeInfo, i1, Builtin.lenOf, Builtin.firstCells]
    · simp [Builtin.append_, run_underlying Try.underlying45, sizeOf, typeInfo, i1, Builtin.lenOf, Builtin.firstCells, hnc, storeCells]
  | some a =>
    obtain ⟨v', w', h1, h2, h3, _, _⟩ := run_append_own_at (P := Try.prog) w lo 45 ty 5 i (.int .u8 0) 1 1 Try.underlying45 i1 i2 i3 i4 rfl (by decide) v l.length (l.map bv) hown a l2.length c (l2.map bv) (by simp)
      (fun j u hj => by
        have hj' : j < l2.length := by
          rcases Nat.lt_or_ge j l2.length with h | h
          · exact h
          · rw [List.getElem?_eq_none (by simpa using h)] at hj; cases hj
        obtain ⟨g, o, e1, e2⟩ := hr.at hj'
        simp only [Option.some.injEq] at e1
        subst e1
        rw [Addr.add_mid, e2, ← hj]
        simp [hj'])
      (fun u hu => by obtain ⟨x, _, rfl⟩ := List.mem_map.1 hu; rfl) (by unfold maxLen; omega) (by omega) hbase
    exact fin v' w' h1 h2 h3
theorem wp_append_txt {o : Oper} {a : Act} {w : World} {K : Act → World → Prop} {Q : Exit → Act → World → Prop} (s x : Operand)
    (ho : o.op = .call { callee := .builtin .append, args := #[s, x], argTypes := #[45, 45] }) (lo : Nat) (v : Value) (l : List UInt8) (hs : a.eval s = v) (hown : OwnB w lo v l)
    (ap : Option Addr) (n c : Nat) (l2 : List UInt8) (hx : a.eval x = .slice ap n c) (hn : n = l2.length) (hr : RdB w ap l2) (hlen : l.length + l2.length ≤ 140737488355328) (hbase : lo ≤ w.heap.size)
    (h : ∀ a' n' cap' w', OwnB w' lo (.slice a' n' cap') (l ++ l2) → w.grownBy w' v.ownBlock → K (a.put o.dst (.slice a' n' cap')) w') : o.wp Try.prog a w K Q := by
  obtain ⟨a', n', cap', w', h1, h2, h3⟩ := run_append_txt w lo o.type v l hown ap n c l2 hn hr hlen hbase
  unfold Oper.wp execOp
  simp only [ho, resolve, invoke, builtin, Sem.run_bind, Sem.run_pure, Result.andThen_ok, List.map_toArray, List.map_cons, List.map_nil, hs, hx, h1]
  exact h a' n' cap' w' h2 h3
theorem wpList_append_txt {ops : Array Oper} {rest : List Oper} {o : Oper} {a : Act} {w : World} {Q : Exit → Act → World → Prop} (hgd : o.guard = none) (s x : Operand)
    (ho : o.op = .call { callee := .builtin .append, args := #[s, x], argTypes := #[45, 45] }) (lo : Nat) (v : Value) (l : List UInt8) (hs : a.eval s = v) (hown : OwnB w lo v l)
    (ap : Option Addr) (n c : Nat) (l2 : List UInt8) (hx : a.eval x = .slice ap n c) (hn : n = l2.length) (hr : RdB w ap l2) (hlen : l.length + l2.length ≤ 140737488355328) (hbase : lo ≤ w.heap.size)
    (h : ∀ a' n' cap' w', OwnB w' lo (.slice a' n' cap') (l ++ l2) → w.grownBy w' v.ownBlock → wpList Try.prog ops Q rest (a.put o.dst (.slice a' n' cap')) w') : wpList Try.prog ops Q (o :: rest) a w :=
  wpList_plain hgd fun _ hK => wp_append_txt s x ho lo v l hs hown ap n c l2 hx hn hr hlen hbase fun a' n' cap' w' h1 h2 => hK _ _ (h a' n' cap' w' h1 h2)
end Go.Proofs.Ytajjbffppkpjpaa
