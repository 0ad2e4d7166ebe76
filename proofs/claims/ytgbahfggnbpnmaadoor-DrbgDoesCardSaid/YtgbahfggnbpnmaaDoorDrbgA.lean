import Derived.Test.YtgbahfggnbpnmaaDoorDrbgD
import Derived.Test.YtgbahfggnbpnmaaDoorDrbgN
/-
  The walk of liverylaw05's live.
-/
namespace Go.Proofs.YtgbahfggnbpnmaaDoor
open Go.RowKit
theorem zero32 : mayE (List.replicate 32 0) [[], []] = 0 := by decide
theorem dtab {w : World} {G : Nat} (hT : Two w) (hg : w.heap.size ≤ G) : G ≠ 0 ∧ G ≠ 1 := by
  have h1 := hT.tab.lt
  have h2 := hT.sta.lt
  omega
set_option maxRecDepth 100000 in
set_option maxHeartbeats 1000000 in
theorem live5_walk (w : World) (hT : Two w) : Calls Tryd.prog 59 #[] w fun e w' => e = .returned (.bool true) ∧ Below w.heap.size w w' := by
  have hb := below_one' w (.cells (barr (List.replicate 32 0)) 5)
  have HB := Lib.hid hb
  have HTw := Lib.hid hT
  have HT := Lib.hid (hT.on hb)
  have TE := Lib.hid (Txt.new w (List.replicate 32 0) 5 (0, 0) (n := 32) (g := w.heap.size) rfl rfl)
  clear hb hT
  go_enter Tryd.func59, Tryd.ntmps59
  go_wp2_with (refine wpList_make_abs rfl 28 (.const (.int .i64 32)) (.const (.int .i64 32)) rfl 5 (.int .u8 0) 1 Tryd.underlying28 info_u8 rfl .i64 .i64 32 32 rfl rfl (Nat.le_refl _) (by omega) (by omega) ?_)
  rw [rep_bytes]
  refine (dnew_walk (List.replicate 32 0) [] [] _ none none 32 32 0 0 0 0 _ TE.out (Txt.nil _ 0) (Txt.nil _ 0) HT.out zero32).mono ?_
  rintro e w1 ⟨G, rfl, hG, hD, hb1⟩
  obtain ⟨K, V, hD⟩ : ∃ K V, DAt w1 G K V 1 := ⟨_, _, hD⟩
  have HD := Lib.hid hD
  have HG := Lib.hid hG
  have HBw := Lib.hid (HB.out.trans (hb1.mono HB.out.size))
  have HT1 := Lib.hid (HT.out.on hb1)
  have HGd := Lib.hid (dtab HT.out hG)
  clear hb1 hG hD HT TE
  go_wp2_with (first | (go_at_call 62; refine (count_at HD.out).mono ?_; rintro e w' ⟨rfl, rfl⟩) | (go_at_call 64; refine (left_at HD.out (by omega) (by omega)).mono ?_; rintro e w' ⟨rfl, rfl⟩))
  refine (draw_walk K V 1 G [] none 0 0 0 w1 HD.out (Txt.nil _ 0) (fun _ _ e => by cases e) HT1.out HGd.out.1 HGd.out.2 (by omega) (by decide)).mono ?_
  rintro e w2 ⟨a2, c2, rfl, _, _, hg2, hD2⟩
  have HD2 := Lib.hid hD2
  have HB2 := Lib.hid (HBw.out.trans (below_of_grownBy hg2 (Nat.le_trans HB.out.size HG.out) HBw.out.size))
  clear hg2 hD2
  go_wp2_with (go_at_call 62; refine (count_at HD2.out).mono ?_; rintro e w' ⟨rfl, rfl⟩)
  go_ret
  exact ⟨rfl, HB2.out⟩
end Go.Proofs.YtgbahfggnbpnmaaDoor
/-
  Reseed and Draw with any arguments; a state as one value.
-/
namespace Go.Proofs.YtgbahfggnbpnmaaDoor
open Go.RowKit
structure DS where
  k : List UInt8
  v : List UInt8
  c : Int
def DS.At (s : DS) (w : World) (G : Nat) : Prop := DAt w G s.k s.v s.c ∧ 0 ≤ s.c ∧ s.c ≤ 1025
theorem DS.At.on {s : DS} {w w' : World} {G : Nat} (h : s.At w G) (hb : Below w.heap.size w w') : s.At w' G := ⟨h.1.on hb, h.2⟩
theorem DS.At.grown {s : DS} {w w' : World} {G : Nat} {r : Option Nat} (h : s.At w G) (hg : w.grownBy w' r) (hr : some G ≠ r) : s.At w' G := ⟨h.1.grown hg hr, h.2⟩
def DS.reseed (s : DS) (ent add : List UInt8) : DS := if mayE ent [add] = 0 then ⟨updK s.k s.v (ent ++ add), updV s.k s.v (ent ++ add), 1⟩ else s
def DS.next (s : DS) (n : Int) (add : List UInt8) : DS := if drawE n add.length s.c = 0 then ⟨nextK s.k s.v add n.toNat, nextV s.k s.v add n.toNat, s.c + 1⟩ else s
def DS.outs (s : DS) (n : Int) (add : List UInt8) : List UInt8 := if drawE n add.length s.c = 0 then drawO s.k s.v add n.toNat else []
theorem reseed_any (s : DS) (G : Nat) (ent add : List UInt8) (a b : Option Addr) (n c m d : Nat) (w : World) (hD : s.At w G) (hE : Txt w a n c ent) (hA : Txt w b m d add) (fE : Off a ent G) (fA : Off b add G) (hT : Two w) (h1 : G ≠ 0 ∧ G ≠ 1) :
    Calls Tryd.prog 61 #[.pointer (some ⟨G, 0, none⟩), .slice a n c, .slice b m d] w fun e w' => e = .returned (.int .i64 (mayE ent [add])) ∧ w.grownBy w' (some G) ∧ (s.reseed ent add).At w' G := by
  by_cases he : mayE ent [add] = 0
  · refine (reseed_walk s.k s.v s.c G ent add a b n c m d w hD.1 hE hA fE fA hT h1.1 h1.2 he).mono ?_
    rintro e w' ⟨rfl, hg, h⟩
    refine ⟨by rw [he], hg, ?_⟩
    unfold DS.reseed; rw [if_pos he]
    exact ⟨h, by show (0 : Int) ≤ 1; omega, by show (1 : Int) ≤ 1025; omega⟩
  · refine (reseed_err s.k s.v s.c G ent add a b n c m d w hD.1 hE hA he).mono ?_
    rintro e w' ⟨rfl, hb⟩
    refine ⟨rfl, grownBy_of_below hb, ?_⟩
    unfold DS.reseed; rw [if_neg he]
    exact hD.on hb
theorem draw_any (s : DS) (G : Nat) (add : List UInt8) (b : Option Addr) (n : Int) (m d : Nat) (w : World) (hD : s.At w G) (hA : Txt w b m d add) (fA : Off b add G) (hT : Two w) (h1 : G ≠ 0 ∧ G ≠ 1) :
    Calls Tryd.prog 63 #[.pointer (some ⟨G, 0, none⟩), .int .i64 n, .slice b m d] w fun e w' => ∃ a' n' c', e = .returned (.tuple #[.slice a' n' c', .int .i64 (drawE n add.length s.c)]) ∧ Txt w' a' n' c' (s.outs n add) ∧ (∀ b o, a' = some ⟨b, o, none⟩ → w.heap.size ≤ b) ∧ w.grownBy w' (some G) ∧ (s.next n add).At w' G := by
  by_cases he : drawE n add.length s.c = 0
  · have hn : 0 ≤ n ∧ s.c ≤ 1024 := by
      unfold drawE at he
      by_cases q1 : n < 0
      · rw [if_pos q1] at he; omega
      · rw [if_neg q1] at he
        by_cases q2 : 65536 < n ∨ 4096 < add.length
        · rw [if_pos q2] at he; omega
        · rw [if_neg q2] at he
          by_cases q3 : 1024 < s.c
          · rw [if_pos q3] at he; omega
          · omega
    obtain ⟨N, rfl⟩ : ∃ N : Nat, n = N := ⟨n.toNat, by omega⟩
    refine (draw_walk s.k s.v s.c G add b N m d w hD.1 hA fA hT h1.1 h1.2 hD.2.1 he).mono ?_
    rintro e w' ⟨a', c', rfl, ht, hf, hg, h⟩
    refine ⟨a', N, c', by rw [he], ?_, hf, hg, ?_⟩
    · unfold DS.outs; rw [if_pos he, Int.toNat_natCast]; exact ht
    · unfold DS.next; rw [if_pos he, Int.toNat_natCast]
      exact ⟨h, by have := hD.2.1; show (0 : Int) ≤ s.c + 1; omega, by show s.c + 1 ≤ (1025 : Int); omega⟩
  · have hl := hA.len
    refine (draw_err s.k s.v s.c G b n m d w hD.1 (by rw [hl]; exact he)).mono ?_
    rintro e w' ⟨rfl, rfl⟩
    refine ⟨none, 0, 0, by rw [hl], ?_, fun _ _ e => (by cases e), World.grownBy.refl _ _, ?_⟩
    · unfold DS.outs; rw [if_neg he]; exact Txt.nil _ 0
    · unfold DS.next; rw [if_neg he]; exact hD
theorem Txt.offG {w : World} {a : Option Addr} {n c G : Nat} {l : List UInt8} (h : Txt w a n c l) (hG : w.heap.size ≤ G) : Off a l G := fun b o e h0 => by have := h.old b o e h0; omega
theorem dnew_any (ent nonce person : List UInt8) (a b c0 : Option Addr) (n c m d p q : Nat) (w : World) (hE : Txt w a n c ent) (hN : Txt w b m d nonce) (hP : Txt w c0 p q person) (hT : Two w) (he : mayE ent [nonce, person] = 0) :
    Calls Tryd.prog 58 #[.slice a n c, .slice b m d, .slice c0 p q] w fun e w' => ∃ G, e = .returned (.tuple #[.pointer (some ⟨G, 0, none⟩), .int .i64 0]) ∧ w.heap.size ≤ G ∧ (DS.mk (updK z32 (ones 32) (ent ++ (nonce ++ person))) (updV z32 (ones 32) (ent ++ (nonce ++ person))) 1).At w' G ∧ Below w.heap.size w w' :=
  (dnew_walk ent nonce person a b c0 n c m d p q w hE hN hP hT he).mono fun e w' ⟨G, h1, h2, h3, h4⟩ => ⟨G, h1, h2, ⟨h3, by show (0 : Int) ≤ 1; omega, by show (1 : Int) ≤ 1025; omega⟩, h4⟩
end Go.Proofs.YtgbahfggnbpnmaaDoor
/-
  One cell of a block is stored, or loaded, in any place of a region.
-/
namespace Go.Proofs.YtgbahfggnbpnmaaDoor
open Go.RowKit
theorem splice_one (cur : Array Value) (off : Nat) (v : Value) (h : off < cur.size) : (cur.toList.take off ++ [v] ++ cur.toList.drop (off + 1)).toArray = cur.setIfInBounds off v := by
  apply Array.ext'
  simp only [Array.toList_setIfInBounds]
  rw [List.set_eq_take_append_cons_drop, if_pos (by simpa using h)]
  simp
theorem wrote_one (w : World) (g off : Nat) (t : TypeId) (cur : Array Value) (v : Value) (hg : Blk w g cur t) (hfit : off < cur.size) (h1 : v.oneCell' = true) :
    ∃ W, (storeCells ⟨g, off, none⟩ [v] 0).run Tryd.prog w = .ok () W ∧ Wrote w W g ∧ Blk W g (cur.setIfInBounds off v) t := by
  have := run_storeCells_at (P := Tryd.prog) g off t [v] 0 cur w hg (by simp; omega) (by simpa using h1)
  refine ⟨_, this, Wrote.row w g _, ?_⟩
  simp only [Nat.add_zero, List.length_singleton]
  rw [splice_one cur off v hfit]
  exact hg.setRow _
variable {ops : Array Oper} {rest : List Oper} {o : Oper} {a : Act} {w : World} {Q : Exit → Act → World → Prop} {K : Act → World → Prop}
theorem wp_store_slc (x y : Operand) (ho : o.op = .store 28 x y) (g off : Nat) (A : Option Addr) (n c : Nat) (hx : a.eval x = .pointer (some ⟨g, off, none⟩)) (hy : a.eval y = .slice A n c) {cur : Array Value} {t : TypeId} (hg : Blk w g cur t) (hfit : off < cur.size)
    (h : ∀ W, Wrote w W g → Blk W g (cur.setIfInBounds off (.slice A n c)) t → K (a.put o.dst undef) W) : o.wp Tryd.prog a w K Q := by
  obtain ⟨W, h1, h2, h3⟩ := wrote_one w g off t cur (.slice A n c) hg hfit rfl
  obtain ⟨i, i1, i2, i3, i4⟩ := info_parts info_u8s
  have hs : (storeVar 28 ⟨g, off, none⟩ (.slice A n c)).run Tryd.prog w = .ok () W := by
    simp [storeVar, sizeOf, typeInfo, i1, Value.cells, i3, h1]
  unfold Oper.wp execOp
  simp only [ho, hx, hy, Instr.storeAt, Instr.sureAddr, Sem.run_bind, Sem.run_pure, Result.andThen_ok, hs]
  exact h _ h2 h3
theorem wpList_store_slc (hgd : o.guard = none) (x y : Operand) (ho : o.op = .store 28 x y) (g off : Nat) (A : Option Addr) (n c : Nat) (hx : a.eval x = .pointer (some ⟨g, off, none⟩)) (hy : a.eval y = .slice A n c) {cur : Array Value} {t : TypeId} (hg : Blk w g cur t) (hfit : off < cur.size)
    (h : ∀ W, Wrote w W g → Blk W g (cur.setIfInBounds off (.slice A n c)) t → wpList Tryd.prog ops Q rest (a.put o.dst undef) W) : wpList Tryd.prog ops Q (o :: rest) a w :=
  wpList_plain hgd fun _ hK => wp_store_slc x y ho g off A n c hx hy hg hfit (fun W h1 h2 => hK _ _ (h W h1 h2))
theorem wp_of_yields {v : Value} (hy : (execOp a.eval o).run Tryd.prog w = .ok (.value v) w) (h : K (a.put o.dst v) w) : o.wp Tryd.prog a w K Q := by
  unfold Oper.wp
  rw [hy]
  exact h
end Go.Proofs.YtgbahfggnbpnmaaDoor
