import Derived.WalkKit
import Derived.WalkSpells
import Derived.WalkLawsBesides
import Derived.BigQuiet
import Derived.BigRegion
import Derived.Deep.QuietTactic
import Derived.Deep.RegionHeld3
import Derived.Lib.Hide
/-
  Base words of this seat's proofs: cells of a block, what a store does to a block, bytes and words as values. No program in sight.
-/
namespace Go.Proofs.Ytajjbffppkpjpaa
open Go.RowKit

/-- The block g is a row of cells, none frozen. -/
def Blk (w : World) (g : Nat) (cs : Array Value) (t : TypeId) : Prop := w.heap[g]? = some (.cells cs t (0, 0))

theorem Blk.lt {w : World} {g : Nat} {cs : Array Value} {t : TypeId} (h : Blk w g cs t) : g < w.heap.size := (Array.getElem?_eq_some_iff.1 h).1
theorem Blk.cell {w : World} {g : Nat} {cs : Array Value} {t : TypeId} (h : Blk w g cs t) (i : Nat) {v : Value} (hv : cs[i]? = some v) : w.cell? ⟨g, i, none⟩ = some v := by
  unfold Blk at h; simp [World.cell?, h, hv]
theorem Blk.free {w : World} {g : Nat} {cs : Array Value} {t : TypeId} (h : Blk w g cs t) (i : Nat) : w.frozen? ⟨g, i, none⟩ = false := by
  unfold Blk at h; simp [World.frozen?, h]
theorem Blk.new (w : World) (cs : Array Value) (t : TypeId) : Blk (w.alloc (.cells cs t)) w.heap.size cs t := by
  unfold Blk; exact heap_alloc_new w _
theorem Blk.new' (w : World) (cs : Array Value) (t : TypeId) {g : Nat} (hg : g = w.heap.size) : Blk (w.alloc (.cells cs t)) g cs t := by
  subst hg; exact Blk.new w cs t
theorem Blk.alloc {w : World} {g : Nat} {cs : Array Value} {t : TypeId} (h : Blk w g cs t) (o : Obj) : Blk (w.alloc o) g cs t := by
  have := h.lt
  unfold Blk at *
  rw [← h]; exact Below.heap_alloc _ _ _ this
theorem Blk.drew {w : World} {g : Nat} {cs : Array Value} {t : TypeId} (h : Blk w g cs t) : Blk w.drew g cs t := h
theorem Blk.drewN {w : World} {g : Nat} {cs : Array Value} {t : TypeId} (h : Blk w g cs t) (n : Nat) : Blk (w.drewN n) g cs t := h
theorem Blk.set {w : World} {g : Nat} {cs : Array Value} {t : TypeId} (h : Blk w g cs t) (i : Nat) (v : Value) : Blk (w.setCell ⟨g, i, none⟩ v) g (cs.setIfInBounds i v) t := by
  unfold Blk at *; simp [World.setCell, Array.getElem?_modify, h]
theorem Blk.set_ne {w : World} {g : Nat} {cs : Array Value} {t : TypeId} (h : Blk w g cs t) (a : Addr) (v : Value) (hne : g ≠ a.block) : Blk (w.setCell a v) g cs t := by
  unfold Blk at *; rw [Below.heap_setCell _ _ _ _ hne]; exact h
theorem Blk.set' {w : World} {g g' : Nat} {cs : Array Value} {t : TypeId} (h : Blk w g cs t) (i : Nat) (v : Value) (hne : g ≠ g') : Blk (w.setCell ⟨g', i, none⟩ v) g cs t := h.set_ne _ _ hne
theorem Blk.below {w w' : World} {g B : Nat} {cs : Array Value} {t : TypeId} (h : Blk w g cs t) (hb : Below B w w') (hg : g < B) : Blk w' g cs t := by
  unfold Blk at *; rw [hb.block g hg]; exact h
theorem Blk.grown {w w' : World} {g : Nat} {r : Option Nat} {cs : Array Value} {t : TypeId} (h : Blk w g cs t) (hb : w.grownBy w' r) (hg : some g ≠ r) : Blk w' g cs t := by
  have := h.lt
  unfold Blk at *; rw [hb.block g this hg]; exact h
theorem Blk.inj {w : World} {g : Nat} {cs cs' : Array Value} {t t' : TypeId} (h : Blk w g cs t) (h' : Blk w g cs' t') : cs = cs' ∧ t = t' := by
  unfold Blk at *; rw [h] at h'; simp at h'; exact h'

theorem Blk.setRow {w : World} {g : Nat} {cs : Array Value} {t : TypeId} (h : Blk w g cs t) (cs' : Array Value) : Blk (w.setRow g cs') g cs' t := setRow_heap w g cs cs' t _ h
theorem Blk.setRow' {w : World} {g g' : Nat} {cs : Array Value} {t : TypeId} (h : Blk w g cs t) (cs' : Array Value) (hne : g ≠ g') : Blk (w.setRow g' cs') g cs t := by
  unfold Blk at *; rw [setRow_other _ _ _ _ hne]; exact h
theorem below_setRow' {B : Nat} {a w : World} (h : Below B a w) {g : Nat} (hp : B ≤ g) (cs : Array Value) : Below B a (w.setRow g cs) :=
  h.trans ⟨rfl, rfl, rfl, by simp, fun k hk => setRow_other _ _ _ _ (by omega)⟩
theorem below_setCell {B : Nat} {a w : World} (h : Below B a w) {g i : Nat} (hp : B ≤ g) (u : Value) : Below B a (w.setCell ⟨g, i, none⟩ u) := h.setCell hp u
theorem below_alloc {B : Nat} {a w : World} (h : Below B a w) (hB : B ≤ w.heap.size) (o : Obj) : Below B a (w.alloc o) := h.alloc hB o
theorem below_drewN {B : Nat} {a w : World} (h : Below B a w) (n : Nat) : Below B a (w.drewN n) := ⟨h.os, h.tape, h.output, h.size, h.block⟩
theorem grownBy_of_below {w w' : World} {r : Option Nat} (h : Below w.heap.size w w') : w.grownBy w' r := ⟨h.os, h.tape, h.output, h.size, fun k hk _ => h.block k hk⟩
theorem grownBy_refl (w : World) (r : Option Nat) : w.grownBy w r := ⟨rfl, rfl, rfl, Nat.le_refl _, fun _ _ _ => rfl⟩
theorem grownBy_trans {a b c : World} {r : Option Nat} (h : a.grownBy b r) (k : b.grownBy c r) : a.grownBy c r :=
  ⟨k.os.trans h.os, k.tape.trans h.tape, k.output.trans h.output, Nat.le_trans h.size k.size, fun i hi hr => (k.block i (Nat.lt_of_lt_of_le hi h.size) hr).trans (h.block i hi hr)⟩
theorem grownBy_setRow {a w : World} {r : Nat} (h : a.grownBy w (some r)) (cs : Array Value) : a.grownBy (w.setRow r cs) (some r) :=
  grownBy_trans h ⟨rfl, rfl, rfl, by simp, fun k _ hr => setRow_other _ _ _ _ (fun e => hr (by rw [e]))⟩
theorem grownBy_set {a w : World} {r : Nat} (h : a.grownBy w (some r)) (i : Nat) (v : Value) : a.grownBy (w.setCell ⟨r, i, none⟩ v) (some r) :=
  grownBy_trans h ⟨rfl, rfl, rfl, by simp, fun k _ hr => Below.heap_setCell _ _ _ _ (fun e => hr (by simpa using e))⟩
theorem grownBy_drew {a w : World} {r : Option Nat} (h : a.grownBy w r) : a.grownBy w.drew r := ⟨h.os, h.tape, h.output, h.size, h.block⟩
theorem grownBy_drewN {a w : World} {r : Option Nat} (h : a.grownBy w r) (n : Nat) : a.grownBy (w.drewN n) r := ⟨h.os, h.tape, h.output, h.size, h.block⟩
theorem below_of_grownBy {a w : World} {B r : Nat} (h : a.grownBy w (some r)) (hr : B ≤ r) (hB : B ≤ a.heap.size) : Below B a w :=
  ⟨h.os, h.tape, h.output, h.size, fun k hk => h.block k (by omega) (fun e => by simp at e; omega)⟩

/-! New blocks, one behind the other. -/
theorem new1 (w : World) (c0 : Array Value) (t0 : TypeId) : Blk (w.alloc (.cells c0 t0)) w.heap.size c0 t0 ∧ Below w.heap.size w (w.alloc (.cells c0 t0)) :=
  ⟨Blk.new w _ _, (Below.refl _ _).alloc (Nat.le_refl _) _⟩
theorem new2 (w : World) (c0 c1 : Array Value) (t0 t1 : TypeId) :
    Blk ((w.alloc (.cells c0 t0)).alloc (.cells c1 t1)) w.heap.size c0 t0 ∧ Blk ((w.alloc (.cells c0 t0)).alloc (.cells c1 t1)) (w.heap.size + 1) c1 t1 ∧ Below w.heap.size w ((w.alloc (.cells c0 t0)).alloc (.cells c1 t1)) :=
  ⟨(new1 w c0 t0).1.alloc _, Blk.new' _ _ _ (by simp), (new1 w c0 t0).2.alloc (by simp) _⟩
theorem new3 (w : World) (c0 c1 c2 : Array Value) (t0 t1 t2 : TypeId) :
    Blk (((w.alloc (.cells c0 t0)).alloc (.cells c1 t1)).alloc (.cells c2 t2)) w.heap.size c0 t0 ∧ Blk (((w.alloc (.cells c0 t0)).alloc (.cells c1 t1)).alloc (.cells c2 t2)) (w.heap.size + 1) c1 t1 ∧
    Blk (((w.alloc (.cells c0 t0)).alloc (.cells c1 t1)).alloc (.cells c2 t2)) (w.heap.size + 1 + 1) c2 t2 ∧ Below w.heap.size w (((w.alloc (.cells c0 t0)).alloc (.cells c1 t1)).alloc (.cells c2 t2)) :=
  ⟨(new2 w c0 c1 t0 t1).1.alloc _, (new2 w c0 c1 t0 t1).2.1.alloc _, Blk.new' _ _ _ (by simp), (new2 w c0 c1 t0 t1).2.2.alloc (by simp; omega) _⟩

/-- What a world W behind a write to block g alone is good for. -/
structure Wrote (w W : World) (g : Nat) : Prop where
  size : W.heap.size = w.heap.size
  blk : ∀ {g' : Nat} {cs : Array Value} {t : TypeId}, Blk w g' cs t → g' ≠ g → Blk W g' cs t
  below : ∀ {B : Nat} {a : World}, Below B a w → B ≤ g → Below B a W
  grown : ∀ {a : World}, a.grownBy w (some g) → a.grownBy W (some g)
theorem Wrote.row (w : World) (g : Nat) (cs : Array Value) : Wrote w (w.setRow g cs) g :=
  ⟨by simp, fun h hne => h.setRow' _ hne, fun h hp => below_setRow' h hp _, fun h => grownBy_setRow h _⟩

/-- A result that is a whole array in a block. -/
theorem results_blk {P : Program} {fn : Func} {p : Tmp} {ty : TypeId} (h : fn.results = #[.cell p ty]) (tmps : Array Value) {w : World} {g : Nat} {t : TypeId} {cs : Array Value} {n : Nat} {e : TypeId} (hg : Blk w g cs t)
    (hp : tmps.getD p undef = .pointer (some ⟨g, 0, none⟩)) (hu : P.underlying ty = some (.array n e)) (hi : (P.info? ty).map (·.size) = some cs.size) :
    (results fn tmps).run P w = .ok (.agg cs) w := results_cell_row h tmps w g t cs (0, 0) _ hp hg hu rfl hi

/-- A whole array is stored into a block: the world behind it by a letter. -/
theorem wpList_store_abs {P : Program} {ops : Array Oper} {rest : List Oper} {o : Oper} {a : Act} {w : World} {Q : Exit → Act → World → Prop} (hgd : o.guard = none) (ty : TypeId) (x y : Operand) (ho : o.op = .store ty x y)
    (g : Nat) (cells : Array Value) (hx : a.eval x = .pointer (some ⟨g, 0, none⟩)) (hy : a.eval y = .agg cells)
    (t : TypeId) (old : Array Value) (hg : Blk w g old t) (hi : (P.info? ty).map (·.size) = some cells.size)
    (hold : old.size = cells.size) (h1 : cells.all (·.oneCell') = true)
    (h : ∀ W, Wrote w W g → Blk W g cells t → wpList P ops Q rest (a.put o.dst undef) W) : wpList P ops Q (o :: rest) a w :=
  wpList_store_row hgd ty x y ho g cells hx hy t old hg hi hold h1 (h _ (Wrote.row w g cells) (Blk.setRow hg cells))

/-- A byte, a word of 32 bits, as a value. -/
abbrev bv (x : UInt8) : Value := .int .u8 (x.toNat : Int)
abbrev wv (x : UInt32) : Value := .int .u32 (x.toNat : Int)
def barr (l : List UInt8) : Array Value := (l.map bv).toArray
def warr (l : List UInt32) : Array Value := (l.map wv).toArray
@[simp] theorem barr_size (l : List UInt8) : (barr l).size = l.length := by simp [barr]
@[simp] theorem warr_size (l : List UInt32) : (warr l).size = l.length := by simp [warr]
theorem barr_one_all (l : List UInt8) : (barr l).all (·.oneCell') = true := by simp [barr, Value.oneCell']
theorem warr_one_all (l : List UInt32) : (warr l).all (·.oneCell') = true := by simp [warr, Value.oneCell']
theorem barr_get (l : List UInt8) (i : Nat) (h : i < l.length) : (barr l)[i]? = some (bv (l.getD i 0)) := by
  simp [barr, h]
theorem warr_get (l : List UInt32) (i : Nat) (h : i < l.length) : (warr l)[i]? = some (wv (l.getD i 0)) := by
  simp [warr, h]
theorem barr_set (l : List UInt8) (i : Nat) (x : UInt8) : (barr l).setIfInBounds i (bv x) = barr (l.set i x) := by
  simp [barr, List.map_set]
theorem warr_set (l : List UInt32) (i : Nat) (x : UInt32) : (warr l).setIfInBounds i (wv x) = warr (l.set i x) := by
  simp [warr, List.map_set]
theorem warr_one (x : UInt32) (z : Int) (h : z = x.toNat) : Value.int .u32 z = wv x := by rw [h]
theorem barr_one (x : UInt8) (z : Int) (h : z = x.toNat) : Value.int .u8 z = bv x := by rw [h]

/-- The slice's cells, wherever they lie: the i-th element of 'xs' (elements of one cell). -/
def Rd (w : World) (a : Option Addr) (xs : List Value) : Prop := ∀ i, i < xs.length → ∃ g o, a = some ⟨g, o, none⟩ ∧ w.cell? ⟨g, o + i, none⟩ = xs[i]?
def RdB (w : World) (a : Option Addr) (l : List UInt8) : Prop := Rd w a (l.map bv)
theorem RdB.at {w : World} {a : Option Addr} {l : List UInt8} (h : RdB w a l) {i : Nat} (hi : i < l.length) : ∃ g o, a = some ⟨g, o, none⟩ ∧ w.cell? ⟨g, o + i, none⟩ = some (bv (l.getD i 0)) := by
  obtain ⟨g, o, h1, h2⟩ := h i (by simpa using hi)
  exact ⟨g, o, h1, by rw [h2]; simp [hi]⟩
theorem Rd.nil (w : World) (a : Option Addr) : Rd w a [] := fun i h => by simp at h
theorem RdB.nil (w : World) (a : Option Addr) : RdB w a [] := Rd.nil w a
theorem Rd.below {w w' : World} {a : Option Addr} {xs : List Value} (h : Rd w a xs) (hb : Below w.heap.size w w') : Rd w' a xs := fun i hi => by
  obtain ⟨g, o, h1, h2⟩ := h i hi
  refine ⟨g, o, h1, ?_⟩
  have : g < w.heap.size := block_lt_of_cell (a := ⟨g, o + i, none⟩) (v := xs[i]) (by rw [h2]; simp [hi])
  exact (hb.cell (p := ⟨g, o + i, none⟩) this).trans h2
theorem RdB.below {w w' : World} {a : Option Addr} {l : List UInt8} (h : RdB w a l) (hb : Below w.heap.size w w') : RdB w' a l := Rd.below h hb
theorem Rd.grown {w w' : World} {r : Option Nat} {a : Option Addr} {xs : List Value} (h : Rd w a xs) (hb : w.grownBy w' r) (hr : ∀ g o, a = some ⟨g, o, none⟩ → some g ≠ r) : Rd w' a xs := fun i hi => by
  obtain ⟨g, o, h1, h2⟩ := h i hi
  refine ⟨g, o, h1, ?_⟩
  rw [← h2]
  have : g < w.heap.size := block_lt_of_cell (a := ⟨g, o + i, none⟩) (v := xs[i]) (by rw [h2]; simp [hi])
  exact World.cell?_of_block (a := ⟨g, o + i, none⟩) (hb.block g this (hr g o h1))
theorem Rd.of_blk {w : World} {g o : Nat} {cs : Array Value} {t : TypeId} (h : Blk w g cs t) (xs : List Value) (hx : ∀ i, i < xs.length → cs[o + i]? = xs[i]?) : Rd w (some ⟨g, o, none⟩) xs := fun i hi => by
  refine ⟨g, o, rfl, ?_⟩
  rw [← hx i hi]; unfold Blk at h; simp [World.cell?, h]
theorem RdB.of_blk {w : World} {g : Nat} {cs : Array Value} {t : TypeId} (h : Blk w g cs t) (l : List UInt8) (hx : (cs.toList).take l.length = l.map bv) : RdB w (some ⟨g, 0, none⟩) l :=
  Rd.of_blk h _ (fun i hi => by
    rw [← hx, List.getElem?_take, if_pos (by simpa using hi)]; simp)
theorem RdB.new (X : World) (cs : Array Value) (t : TypeId) (l : List UInt8) (h : cs = barr l) {g : Nat} (hg : g = X.heap.size) : RdB (X.alloc (.cells cs t)) (some ⟨g, 0, none⟩) l :=
  RdB.of_blk (Blk.new' X cs t hg) l (by rw [h]; simp only [barr]; rw [List.take_of_length_le (by simp)])
theorem RdB.newd (X : World) (cs : Array Value) (t : TypeId) (l : List UInt8) (h : cs = barr l) {g : Nat} (hg : g = X.heap.size) : RdB (X.alloc (.cells cs t)).drew (some ⟨g, 0, none⟩) l := RdB.new X cs t l h hg
theorem Rd.drop {w : World} {g o : Nat} {xs : List Value} (h : Rd w (some ⟨g, o, none⟩) xs) (k : Nat) : Rd w (some ⟨g, o + k, none⟩) (xs.drop k) := fun i hi => by
  simp at hi
  obtain ⟨g', o', h1, h2⟩ := h (k + i) (by omega)
  simp at h1; obtain ⟨rfl, rfl⟩ := h1
  exact ⟨g, o + k, rfl, by rw [Nat.add_assoc, h2]; simp⟩
theorem Rd.take {w : World} {a : Option Addr} {xs : List Value} (h : Rd w a xs) (k : Nat) : Rd w a (xs.take k) := fun i hi => by
  simp at hi
  obtain ⟨g', o', h1, h2⟩ := h i (by omega)
  exact ⟨g', o', h1, by rw [h2, List.getElem?_take, if_pos (by omega)]⟩

/-! Words of 32 bits: the walk's terms as operations on UInt32. -/
theorem ofInt_u32 (x : UInt32) : BitVec.ofInt 32 (x.toNat : Int) = x.toBitVec := by
  apply BitVec.eq_of_toNat_eq; simp [BitVec.toNat_ofInt]
theorem wrap_bv32 (x : BitVec 32) : IntKind.u32.wrap (x.toNat : Int) = (x.toNat : Int) := by
  have := x.isLt
  simp [IntKind.wrap, IntKind.bits, IntKind.signed]; omega
theorem u32_xor (x y : UInt32) : bits .xor .u32 (x.toNat : Int) (y.toNat : Int) = ((x ^^^ y).toNat : Int) := by
  show IntKind.u32.wrap ((BitVec.ofInt 32 (x.toNat : Int) ^^^ BitVec.ofInt 32 (y.toNat : Int)).toNat : Int) = _
  rw [wrap_bv32, ofInt_u32, ofInt_u32]; simp
theorem u32_and (x y : UInt32) : bits .and .u32 (x.toNat : Int) (y.toNat : Int) = ((x &&& y).toNat : Int) := by
  show IntKind.u32.wrap ((BitVec.ofInt 32 (x.toNat : Int) &&& BitVec.ofInt 32 (y.toNat : Int)).toNat : Int) = _
  rw [wrap_bv32, ofInt_u32, ofInt_u32]; simp
theorem u32_or (x y : UInt32) : bits .or .u32 (x.toNat : Int) (y.toNat : Int) = ((x ||| y).toNat : Int) := by
  show IntKind.u32.wrap ((BitVec.ofInt 32 (x.toNat : Int) ||| BitVec.ofInt 32 (y.toNat : Int)).toNat : Int) = _
  rw [wrap_bv32, ofInt_u32, ofInt_u32]; simp
theorem u32_add (x y : UInt32) : ((x.toNat : Int) + (y.toNat : Int)) % 4294967296 = ((x + y).toNat : Int) := by
  simp [UInt32.toNat_add]
theorem u32_cast (x : UInt8) : (x.toNat : Int) % 4294967296 = (x.toUInt32.toNat : Int) := by
  have := x.toNat_lt; simp; omega
theorem ones_bit (i : Nat) (hi : i < 32) : (4294967295#32).getLsbD i = true := by
  have h : ∀ i : Fin 32, (4294967295#32).getLsbD i.val = true := by decide
  exact h ⟨i, hi⟩
theorem u32_not (x : UInt32) : bits .xor .u32 4294967295 (x.toNat : Int) = ((~~~x).toNat : Int) := by
  have := u32_xor 4294967295 x
  rw [show ((4294967295 : UInt32).toNat : Int) = 4294967295 from rfl] at this
  rw [this]
  refine congrArg (fun z : UInt32 => (z.toNat : Int)) ?_
  apply UInt32.toBitVec_inj.1
  show (4294967295#32 ^^^ x.toBitVec) = ~~~x.toBitVec
  apply BitVec.eq_of_getLsbD_eq
  intro i hi
  rw [BitVec.getLsbD_xor, ones_bit i hi, BitVec.getLsbD_not]
  simp [hi]
theorem u32_shr (x : UInt32) (n : Nat) (hn : n < 32) : (x.toNat : Int) / 2 ^ n = ((x >>> (UInt32.ofNat n)).toNat : Int) := by
  have h : (x >>> (UInt32.ofNat n)).toNat = x.toNat / 2 ^ n := by
    rw [UInt32.toNat_shiftRight, show (UInt32.ofNat n).toNat = n from by rw [UInt32.toNat_ofNat']; exact Nat.mod_eq_of_lt (by omega), Nat.mod_eq_of_lt hn, Nat.shiftRight_eq_div_pow]
  rw [h]; simp
theorem u32_shl (x : UInt32) (n : Nat) (hn : n < 32) : ((x.toNat : Int) * 2 ^ n) % 4294967296 = ((x <<< (UInt32.ofNat n)).toNat : Int) := by
  have h : (x <<< (UInt32.ofNat n)).toNat = x.toNat * 2 ^ n % 4294967296 := by
    rw [UInt32.toNat_shiftLeft, show (UInt32.ofNat n).toNat = n from by rw [UInt32.toNat_ofNat']; exact Nat.mod_eq_of_lt (by omega), Nat.mod_eq_of_lt hn, Nat.shiftLeft_eq]
  rw [h]; simp
end Go.Proofs.Ytajjbffppkpjpaa
