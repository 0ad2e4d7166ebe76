import Derived.Test.YtgbahfggnbpnmaaDoorPieces
import Derived.Test.YtgbahfggnbpnmaaDoorSealP
import Derived.Test.YtgbahfggnbpnmaaDoorLawPieces
/-
  The reference's Bits, FromBits, Xor.
-/
namespace Go.Proofs.YtgbahfggnbpnmaaDoor
open Go.RowKit
/-- The bit at a place, the lowest one of each byte first. -/
def bitAt (l : List UInt8) (i : Nat) : Bool := (l.getD (i / 8) 0).toNat.testBit (i % 8)
def bitsTo (l : List UInt8) (n : Nat) : List Bool := (List.range n).map (bitAt l)
theorem bitsTo_len (l : List UInt8) (n : Nat) : (bitsTo l n).length = n := by simp [bitsTo]
theorem bitsTo_zero (l : List UInt8) : bitsTo l 0 = [] := rfl
theorem bitsTo_succ (l : List UInt8) (n : Nat) : bitsTo l (n + 1) = bitsTo l n ++ [bitAt l n] := by simp [bitsTo, List.range_succ]
theorem bitsTo_get (l : List UInt8) (n i : Nat) (h : i < n) : (bitsTo l n)[i]? = some (bitAt l i) := by simp [bitsTo, h]
theorem bitAt_xor (a b : List UInt8) (h : a.length = b.length) (i : Nat) (hi : i < 8 * a.length) : bitAt (xorL a b) i = (bitAt a i != bitAt b i) := by
  have h1 : i / 8 < a.length := by omega
  have e : (xorL a b).getD (i / 8) 0 = a.getD (i / 8) 0 ^^^ b.getD (i / 8) 0 := by
    unfold xorL
    simp [List.getD, List.getElem?_zipWith, h1, show i / 8 < b.length by omega]
  unfold bitAt
  rw [e, UInt8.toNat_xor, Nat.testBit_xor]
theorem bitAt_div (l : List UInt8) (k j : Nat) (hj : j < 8) : bitAt l (8 * k + j) = decide ((l.getD k 0).toNat / 2 ^ j % 2 = 1) := by
  unfold bitAt
  rw [show (8 * k + j) / 8 = k by omega, show (8 * k + j) % 8 = j by omega, Nat.testBit_eq_decide_div_mod_eq]
/-- A row of truths in memory of the call's own. -/
def OwnL (w : World) (lo : Nat) (v : Value) (bs : List Bool) : Prop := w.ownsRow lo 4 1 v bs.length (bs.map .bool)
theorem OwnL.made (w : World) : OwnL (w.alloc (.cells #[] 4)) w.heap.size (.slice (some ⟨w.heap.size, 0, none⟩) 0 0) [] :=
  ⟨by simp, Or.inr ⟨w.heap.size, 0, #[], rfl, Nat.le_refl _, heap_alloc_new w _, Nat.le_refl _, by simp [maxLen], by simp, by simp⟩⟩
theorem OwnL.lt {w : World} {lo : Nat} {v : Value} {xs : List Bool} (h : OwnL w lo v xs) : ∀ k, v.ownBlock = some k → lo ≤ k ∧ k < w.heap.size := World.ownsRow.lt h
theorem OwnL.on {w w' : World} {lo : Nat} {v : Value} {xs : List Bool} (h : OwnL w lo v xs) (hb : Below w.heap.size w w') : OwnL w' lo v xs := by
  refine World.ownsRow.kept (row := none) h (grownBy_of_below hb) ?_
  cases v.ownBlock with
  | none => exact .inl rfl
  | some k => exact .inr (by simp)
theorem OwnL.mono {w : World} {lo lo' : Nat} {v : Value} {l : List Bool} (h : OwnL w lo v l) (hl : lo' ≤ lo) : OwnL w lo' v l := by
  refine ⟨h.1, ?_⟩
  rcases h.2 with h0 | ⟨g, cap, cur, h1, h2, h3⟩
  · exact .inl h0
  · exact .inr ⟨g, cap, cur, h1, by omega, h3⟩
theorem OwnL.form {w : World} {lo : Nat} {v : Value} {xs : List Bool} (h : OwnL w lo v xs) :
    ∃ a c, v = .slice a xs.length c ∧ (∀ i, i < xs.length → ∃ g, a = some ⟨g, 0, none⟩ ∧ g < w.heap.size ∧ lo ≤ g ∧ w.cell? ⟨g, i, none⟩ = some (.bool (xs.getD i false))) := by
  rcases h.2 with ⟨rfl, h0⟩ | ⟨g, cap, cur, rfl, h2, h3, h4, h5, h6, h7⟩
  · have : xs = [] := List.eq_nil_of_length_eq_zero h0
    subst this
    exact ⟨none, 0, rfl, fun i hi => by simp at hi⟩
  · rw [Nat.mul_one] at h7
    refine ⟨_, cap, rfl, fun i hi => ⟨g, rfl, (Array.getElem?_eq_some_iff.1 h3).1, h2, ?_⟩⟩
    have e : w.cell? ⟨g, i, none⟩ = cur[i]? := by simp [World.cell?, h3]
    rw [e]
    have h8 := congrArg (·[i]?) h7
    simp only [List.getElem?_take, if_pos hi] at h8
    rw [Array.getElem?_toList] at h8
    rw [h8]; simp [List.getD, hi]
theorem info_bool : (Tryd.prog.info? 4).map (fun i => (i.zero, i.size, i.bytes)) = some (some (.bool false), 1, 1) := by kernel_rfl
theorem wp_append_bool {o : Oper} {a : Act} {w : World} {K : Act → World → Prop} {Q : Exit → Act → World → Prop} (s x : Operand)
    (ho : o.op = .call { callee := .builtin .append, args := #[s, x], argTypes := #[48, 48] }) (lo : Nat) (v : Value) (xs : List Bool) (hs : a.eval s = v) (hown : OwnL w lo v xs)
    (g : Nat) (y : Bool) (hx : a.eval x = .slice (some ⟨g, 0, none⟩) 1 1) (hc : w.cell? ⟨g, 0, none⟩ = some (.bool y)) (hlen : xs.length ≤ 100000000) (hbase : lo ≤ w.heap.size)
    (h : ∀ a' n' c' w', OwnL w' lo (.slice a' n' c') (xs ++ [y]) → w.grownBy w' v.ownBlock → K (a.put o.dst (.slice a' n' c')) w') : o.wp Tryd.prog a w K Q := by
  obtain ⟨i, i1, i2, i3, i4⟩ := info_parts info_bool
  obtain ⟨v', w', hr, h2, h3, _, _⟩ := run_append_own_at (P := Tryd.prog) w lo 48 o.type 4 i (.bool false) 1 1 Tryd.underlying48 i1 i2 i3 i4 rfl (by decide) v xs.length (xs.map .bool) hown ⟨g, 0, none⟩ 1 1 [.bool y] rfl
    (fun j u hj => by
      have : j = 0 := by
        rcases Nat.eq_zero_or_pos j with h | h
        · exact h
        · rw [List.getElem?_eq_none (by simp; omega)] at hj; cases hj
      subst this
      simp at hj
      subst hj
      exact hc)
    (fun u hu => by simp at hu; rw [hu]; rfl) (by unfold maxLen; omega) (by omega) hbase
  have h4 : OwnL w' lo v' (xs ++ [y]) := by unfold OwnL; rw [List.length_append, List.map_append]; exact h2
  obtain ⟨a', c', rfl, _⟩ := h4.form
  unfold Oper.wp execOp
  simp only [ho, resolve, invoke, builtin, Sem.run_bind, Sem.run_pure, Result.andThen_ok, List.map_toArray, List.map_cons, List.map_nil, hs, hx, hr]
  exact h _ _ _ w' h4 h3
theorem wpList_append_bool {ops : Array Oper} {rest : List Oper} {o : Oper} {a : Act} {w : World} {Q : Exit → Act → World → Prop} (hgd : o.guard = none) (s x : Operand)
    (ho : o.op = .call { callee := .builtin .append, args := #[s, x], argTypes := #[48, 48] }) (lo : Nat) (v : Value) (xs : List Bool) (hs : a.eval s = v) (hown : OwnL w lo v xs)
    (g : Nat) (y : Bool) (hx : a.eval x = .slice (some ⟨g, 0, none⟩) 1 1) (hc : w.cell? ⟨g, 0, none⟩ = some (.bool y)) (hlen : xs.length ≤ 100000000) (hbase : lo ≤ w.heap.size)
    (h : ∀ a' n' c' w', OwnL w' lo (.slice a' n' c') (xs ++ [y]) → w.grownBy w' v.ownBlock → wpList Tryd.prog ops Q rest (a.put o.dst (.slice a' n' c')) w') : wpList Tryd.prog ops Q (o :: rest) a w :=
  wpList_plain hgd fun _ hK => wp_append_bool s x ho lo v xs hs hown g y hx hc hlen hbase fun a' n' c' w' h1 h2 => hK _ _ (h a' n' c' w' h1 h2)
theorem below_ownL {w0 wr w1 : World} {v : Value} {xs : List Bool} {lo : Nat} (hb : Below lo w0 wr) (hO : OwnL wr lo v xs) (hlo : lo ≤ wr.heap.size) (hg : wr.grownBy w1 v.ownBlock) : Below lo w0 w1 :=
  hb.trans ⟨hg.os, hg.tape, hg.output, hg.size, fun i hi => hg.block i (Nat.lt_of_lt_of_le hi hlo) (fun e => by have := (hO.lt i e.symm).1; omega)⟩
set_option maxRecDepth 100000 in
set_option maxHeartbeats 1000000 in
theorem bits_walk (l : List UInt8) (a : Option Addr) (n c : Nat) (hn : n ≤ 1048576) (w : World) (hX : Txt w a n c l) :
    Calls Tryd.prog 110 #[.slice a n c] w fun e w' => ∃ a' c', e = .returned (.slice a' (8 * n) c') ∧ OwnL w' w.heap.size (.slice a' (8 * n) c') (bitsTo l (8 * n)) ∧ Below w.heap.size w w' := by
  have HX := Lib.hid hX
  have HL := Lib.hid hX.len
  clear hX
  go_enter Tryd.func110, Tryd.ntmps110
  go_wp2
  go_loopw [3, 10] (fun x i wr => ∃ (k z : Nat) (ao : Option Addr) (co : Nat), k ≤ n ∧ i = .int .i64 (k : Nat) ∧ x = .slice ao z co ∧ Hid (z = 8 * k) ∧ OwnL wr w.heap.size (.slice ao z co) (bitsTo l (8 * k)) ∧ Below w.heap.size w wr) (fun _ i _ => n - (intOf i).toNat)
  case atStart => exact ⟨0, 0, _, _, Nat.zero_le _, rfl, rfl, rfl, OwnL.made w, below_one' w _⟩
  case round =>
    obtain ⟨k, z, ao, co, hk, rfl, rfl, HZ, hO, hb⟩ := hrel
    by_cases hlt : k < n
    · obtain ⟨g, o, rfl, hc⟩ := ((HX.out.on hb).rd).at (i := k) (by have := HL.out; omega)
      obtain ⟨x, hx⟩ : ∃ x, x = l.getD k 0 := ⟨_, rfl⟩
      rw [← hx] at hc
      replace hx := Lib.hid hx
      have HO := Lib.hid hO
      have HB := Lib.hid hb
      have hx8 : x.toNat < 256 := x.toNat_lt
      have f0 : IntKind.i64.wrap (x.toNat : Int) = (x.toNat : Int) := IntWalk.i64_in _ (by omega)
      clear hO hb
      go_wp2
      obtain ⟨wo, rfl⟩ : ∃ wo : World, wo = wr := ⟨_, rfl⟩
      go_loopw [3, 6, 16] (fun xx nn jj wi => ∃ (j y z : Nat) (ao : Option Addr) (co : Nat), j ≤ 8 ∧ jj = .int .i64 (j : Nat) ∧ nn = .int .i64 (y : Nat) ∧ Hid (y = x.toNat / 2 ^ j) ∧ xx = .slice ao z co ∧ Hid (z = 8 * k + j) ∧ OwnL wi w.heap.size (.slice ao z co) (bitsTo l (8 * k + j)) ∧ Below w.heap.size w wi) (fun _ _ jj _ => 8 - (intOf jj).toNat)
      case atStart => exact ⟨0, x.toNat, z, ao, co, by omega, rfl, rfl, by simp [Hid], rfl, by have := HZ.out; exact this, HO.out, HB.out⟩
      case round =>
        obtain ⟨j, y, z, ao, co, hj8, rfl, rfl, HY, rfl, HZ2, hO2, hb2⟩ := hrel
        by_cases hj : j < 8
        · have hyb : y ≤ 256 := by rw [HY.out]; exact Nat.le_trans (Nat.div_le_self _ _) (by omega)
          obtain ⟨y2, hy2⟩ : ∃ y2, y2 = y / 2 := ⟨_, rfl⟩
          have f3 : (y : Int).tdiv 2 = (y2 : Int) := by rw [Int.tdiv_eq_ediv_of_nonneg (by omega)]; omega
          have f4 : (y : Int) / 2 = (y2 : Int) := by omega
          have f5 : IntKind.i64.wrap (y2 : Int) = (y2 : Int) := IntWalk.i64_in _ (by omega)
          have HY2 := Lib.hid hy2
          clear hy2
          rcases Nat.mod_two_eq_zero_or_one y with hr | hr
          · have f1 : (y : Int).tmod 2 = 0 := by rw [Int.tmod_eq_emod_of_nonneg (by omega)]; omega
            have f2 : (y : Int) % 2 = 0 := by omega
            have HBIT := Lib.hid (show bitAt l (8 * k + j) = false by rw [bitAt_div l k j hj, ← hx.out, ← HY.out]; simp [hr])
            have HC := Lib.hid (below_one' wr (.cells #[.bool false] 4))
            have HO1 := Lib.hid (hO2.on HC.out)
            have HB1 := Lib.hid (hb2.trans (HC.out.mono hb2.size))
            have HL1 := Lib.hid (bitsTo_len l (8 * k + j))
            clear hO2 hb2 hr
            go_wp2_with (refine wpList_append_bool rfl (.tmp 18) (.tmp 22) rfl w.heap.size _ (bitsTo l (8 * k + j)) rfl HO1.out wr.heap.size false rfl ((Blk.new wr #[.bool false] 4).cell 0 rfl) (by rw [HL1.out]; omega) HB1.out.size ?_; intro a3 n3 c3 w3 hO3 hg3; have HB3 := Lib.hid (below_ownL HB1.out HO1.out HB1.out.size hg3); have HO3 := Lib.hid hO3; clear hO3 hg3)
            go_roundw
            case rel =>
              have e3 : n3 = 8 * k + (j + 1) := by
                obtain ⟨a', c', e, _⟩ := HO3.out.form
                simp only [Value.slice.injEq] at e
                rw [e.2.1, List.length_append, HL1.out]; rfl
              refine ⟨j + 1, y2, n3, a3, c3, by omega, by go_num, rfl, by rw [HY2.out, HY.out, Nat.div_div_eq_div_mul, Nat.pow_succ]; rfl, rfl, e3, ?_, HB3.out⟩
              have h := HO3.out
              rw [← HBIT.out, ← bitsTo_succ] at h
              exact h
            case measure => simp [intOf]; omega
          · have f1 : (y : Int).tmod 2 = 1 := by rw [Int.tmod_eq_emod_of_nonneg (by omega)]; omega
            have f2 : (y : Int) % 2 = 1 := by omega
            have HBIT := Lib.hid (show bitAt l (8 * k + j) = true by rw [bitAt_div l k j hj, ← hx.out, ← HY.out]; simp [hr])
            have HC := Lib.hid (below_one' wr (.cells #[.bool true] 4))
            have HO1 := Lib.hid (hO2.on HC.out)
            have HB1 := Lib.hid (hb2.trans (HC.out.mono hb2.size))
            have HL1 := Lib.hid (bitsTo_len l (8 * k + j))
            clear hO2 hb2 hr
            go_wp2_with (refine wpList_append_bool rfl (.tmp 18) (.tmp 22) rfl w.heap.size _ (bitsTo l (8 * k + j)) rfl HO1.out wr.heap.size true rfl ((Blk.new wr #[.bool true] 4).cell 0 rfl) (by rw [HL1.out]; omega) HB1.out.size ?_; intro a3 n3 c3 w3 hO3 hg3; have HB3 := Lib.hid (below_ownL HB1.out HO1.out HB1.out.size hg3); have HO3 := Lib.hid hO3; clear hO3 hg3)
            go_roundw
            case rel =>
              have e3 : n3 = 8 * k + (j + 1) := by
                obtain ⟨a', c', e, _⟩ := HO3.out.form
                simp only [Value.slice.injEq] at e
                rw [e.2.1, List.length_append, HL1.out]; rfl
              refine ⟨j + 1, y2, n3, a3, c3, by omega, by go_num, rfl, by rw [HY2.out, HY.out, Nat.div_div_eq_div_mul, Nat.pow_succ]; rfl, rfl, e3, ?_, HB3.out⟩
              have h := HO3.out
              rw [← HBIT.out, ← bitsTo_succ] at h
              exact h
            case measure => simp [intOf]; omega
        · have HJ := Lib.hid (show j = 8 by omega)
          have HO3 := Lib.hid hO2
          have HB3 := Lib.hid hb2
          clear hO2 hb2
          go_wp2
          go_roundw
          case rel =>
            refine ⟨k + 1, z, ao, co, by omega, by go_num, rfl, ?_, ?_, HB3.out⟩
            · show z = _
              have := HZ2.out; have := HJ.out; omega
            · have h := HO3.out
              rw [show 8 * k + j = 8 * (k + 1) by have := HJ.out; omega] at h
              exact h
          case measure => simp [intOf]; omega
    · have HK := Lib.hid (show k = n by omega)
      have HO := Lib.hid hO
      have HB := Lib.hid hb
      clear hO hb
      obtain rfl : z = 8 * n := by have h1 := HZ.out; have h2 := HK.out; omega
      go_wp2
      go_ret
      refine ⟨ao, co, rfl, ?_, HB.out⟩
      have h := HO.out
      rw [HK.out] at h
      exact h
/-- Truths that read as a text's bits. -/
def LRd (w : World) (a : Option Addr) (l : List UInt8) (N : Nat) : Prop := ∀ i, i < N → ∃ g, a = some ⟨g, 0, none⟩ ∧ g < w.heap.size ∧ w.cell? ⟨g, i, none⟩ = some (.bool (bitAt l i))
theorem LRd.on {w w' : World} {a : Option Addr} {l : List UInt8} {N : Nat} (h : LRd w a l N) (hb : Below w.heap.size w w') : LRd w' a l N := fun i hi => by
  obtain ⟨g, e, h1, h2⟩ := h i hi
  exact ⟨g, e, Nat.lt_of_lt_of_le h1 hb.size, (hb.cell (p := ⟨g, i, none⟩) h1).trans h2⟩
theorem OwnL.reads {w : World} {lo n c : Nat} {a : Option Addr} {l : List UInt8} {N : Nat} (h : OwnL w lo (.slice a n c) (bitsTo l N)) : LRd w a l N := fun i hi => by
  obtain ⟨a', c', e, h1⟩ := h.form
  simp only [Value.slice.injEq] at e
  obtain ⟨rfl, _, _⟩ := e
  obtain ⟨g, e1, h2, _, h4⟩ := h1 i (by rw [bitsTo_len]; exact hi)
  refine ⟨g, e1, h2, ?_⟩
  rw [h4]; simp [List.getD, bitsTo_get l N i hi]
theorem mod_next (x j : Nat) : x % 2 ^ (j + 1) = x % 2 ^ j + 2 ^ j * (x / 2 ^ j % 2) := Nat.mod_pow_succ
set_option maxRecDepth 100000 in
set_option maxHeartbeats 1000000 in
theorem frombits_walk (l : List UInt8) (a : Option Addr) (n c m : Nat) (hn : n = 8 * m) (hm : m = l.length) (hm2 : m ≤ 1048576) (w : World) (hX : LRd w a l n) :
    Calls Tryd.prog 111 #[.slice a n c] w fun e w' => ∃ a' c', e = .returned (.slice a' m c') ∧ OwnB w' w.heap.size (.slice a' m c') l ∧ Below w.heap.size w w' := by
  have HX := Lib.hid hX
  have HL := Lib.hid hm
  clear hX hm
  have HN := Lib.hid hn
  have hnn : (n : Int) = 8 * (m : Int) := by omega
  clear hn
  go_enter Tryd.func111, Tryd.ntmps111
  go_wp2
  go_loopw [3, 4] (fun x i wr => ∃ (k i8 z : Nat) (ao : Option Addr) (co : Nat), k ≤ m ∧ Hid (i8 = 8 * k) ∧ i = .int .i64 (i8 : Nat) ∧ x = .slice ao z co ∧ OwnB wr w.heap.size (.slice ao z co) (l.take k) ∧ Below w.heap.size w wr) (fun _ i _ => n - (intOf i).toNat)
  case atStart => exact ⟨0, 0, _, _, _, Nat.zero_le _, rfl, rfl, rfl, OwnB.made w [] (Nat.le_refl _) (by simp [maxLen]), below_one' w _⟩
  case round =>
    obtain ⟨k, i8, z, ao, co, hk, HI, rfl, rfl, hO, hb⟩ := hrel
    by_cases hlt : i8 < n
    · have hkm := Lib.hid (show k < m by have := HI.out; omega)
      have hi8 : i8 ≤ 8388608 := by have := HI.out; omega
      have hi88 := Lib.hid (show i8 + 8 ≤ n by have := HI.out; have := HN.out; have := hkm.out; omega)
      obtain ⟨x, hx⟩ : ∃ x, x = l.getD k 0 := ⟨_, rfl⟩
      have hx8 : x.toNat < 256 := x.toNat_lt
      have HXX := Lib.hid hx
      have HO := Lib.hid hO
      have HB := Lib.hid hb
      have f8 : IntKind.i64.wrap ((i8 : Int) + 8) = (i8 : Int) + 8 := IntWalk.i64_in _ (by omega)
      clear hO hb hx
      go_wp2
      obtain ⟨wo, rfl⟩ : ∃ wo : World, wo = wr := ⟨_, rfl⟩
      go_loopw [5, 6, 7] (fun nn pp kk wi => ∃ (j y p q : Nat), j ≤ 8 ∧ kk = .int .i64 (q : Nat) ∧ Hid (q = i8 + j) ∧ nn = .int .i64 (y : Nat) ∧ Hid (y = x.toNat % 2 ^ j) ∧ pp = .int .i64 (p : Nat) ∧ Hid (p = 2 ^ j) ∧ p ≤ 256 ∧ wi = wo) (fun _ _ kk _ => i8 + 8 - (intOf kk).toNat)
      case atStart => exact ⟨0, 0, 1, i8, by omega, rfl, rfl, rfl, by simp [Hid, Nat.mod_one], rfl, rfl, by omega, rfl⟩
      case round =>
        obtain ⟨j, y, p, q, hj8, rfl, HQ, rfl, HY, rfl, HPP, hp, hw⟩ := hrel
        subst hw
        by_cases hj : j < 8
        · have hyb : y ≤ 256 := by rw [HY.out]; exact Nat.le_trans (Nat.mod_le _ _) (by omega)
          have hq1 : q < n := by have := HQ.out; have := hi88.out; omega
          have hq2 : (q : Int) < (i8 : Int) + 8 := by have := HQ.out; omega
          have hpj := Lib.hid (show 2 ^ (j + 1) = p * 2 by rw [HPP.out, Nat.pow_succ])
          have hpb := Lib.hid (show p * 2 ≤ 256 by rw [← hpj.out]; exact Nat.pow_le_pow_right (n := 2) (by omega) (show j + 1 ≤ 8 by omega))
          have f2 : IntKind.i64.wrap ((p : Int) * 2) = (p : Int) * 2 := IntWalk.i64_in _ (by omega)
          have f3 : IntKind.i64.wrap ((y : Int) + (p : Int)) = (y : Int) + (p : Int) := IntWalk.i64_in _ (by omega)
          obtain ⟨g, rfl, hg, hc⟩ := (HX.out.on HB.out) q hq1
          have HBIT := Lib.hid (show bitAt l q = decide (x.toNat / 2 ^ j % 2 = 1) by rw [HQ.out, HI.out, bitAt_div l k j hj, ← HXX.out])
          rw [HBIT.out] at hc
          clear HBIT hg
          rcases Nat.mod_two_eq_zero_or_one (x.toNat / 2 ^ j) with hr | hr
          · rw [hr] at hc
            simp only [Nat.zero_ne_one, decide_false] at hc
            have HR := Lib.hid hr
            clear hr
            go_wp2
            go_roundw
            case rel =>
              refine ⟨j + 1, y, p * 2, q + 1, by omega, by go_num, ?_, rfl, ?_, by go_num, hpj.out.symm, hpb.out, trivial⟩
              · show q + 1 = _
                have := HQ.out; omega
              · show y = _
                rw [mod_next, HR.out, ← HY.out]; omega
            case measure => simp [intOf]; omega
          · rw [hr] at hc
            simp only [decide_true] at hc
            have HR := Lib.hid hr
            clear hr
            go_wp2
            go_roundw
            case rel =>
              refine ⟨j + 1, y + p, p * 2, q + 1, by omega, by go_num, ?_, by go_num, ?_, by go_num, hpj.out.symm, hpb.out, trivial⟩
              · show q + 1 = _
                have := HQ.out; omega
              · show y + p = _
                rw [mod_next, HR.out, ← HY.out, ← HPP.out]; omega
            case measure => simp [intOf]; omega
        · have HJ := Lib.hid (show j = 8 by omega)
          obtain rfl : y = x.toNat := by rw [HY.out, HJ.out]; exact Nat.mod_eq_of_lt hx8
          have hq2 : ¬ (q : Int) < (i8 : Int) + 8 := by have := HQ.out; have := HJ.out; omega
          have fu : IntKind.u8.wrap (x.toNat : Int) = (x.toNat : Int) := by rw [IntKind.wrap_u8]; omega
          have HC := Lib.hid (below_one' wr (.cells #[bv x] 5))
          have TI := Lib.hid (Txt.new wr [x] 5 (0, 0) (n := 1) (g := wr.heap.size) rfl rfl)
          have HO1 := Lib.hid (HO.out.on HC.out)
          have HB1 := Lib.hid (HB.out.trans (HC.out.mono HB.out.size))
          have HTL := Lib.hid (show (l.take k).length = k by rw [List.length_take]; have := HL.out; omega)
          go_wp2_with (refine wpList_append_txt rfl (.tmp 37) (.tmp 40) rfl w.heap.size _ (l.take k) rfl HO1.out _ 1 1 [x] rfl TI.out.len TI.out.rd (by rw [HTL.out]; simp; omega) HB1.out.size ?_; intro a4 n4 c4 w4 hO4 hg4; have HB4 := Lib.hid (below_own HB1.out HO1.out HB1.out.size hg4); have HO4 := Lib.hid hO4; clear hO4 hg4)
          go_roundw
          case rel =>
            refine ⟨k + 1, i8 + 8, n4, a4, c4, hkm.out, ?_, by go_num, rfl, ?_, HB4.out⟩
            · show i8 + 8 = _
              have := HI.out; omega
            · have h := HO4.out
              rw [HXX.out, ← take_snoc8 l k (by have := HL.out; have := hkm.out; omega)] at h
              exact h
          case measure => simp [intOf]; omega
    · have HK := Lib.hid (show k = m by have := HI.out; have := HN.out; omega)
      have HO := Lib.hid hO
      have HB := Lib.hid hb
      clear hO hb
      obtain rfl : z = m := by have h := HO.out.len; have := HK.out; have := HL.out; rw [List.length_take] at h; omega
      go_wp2
      go_ret
      refine ⟨ao, co, rfl, ?_, HB.out⟩
      have h := HO.out
      rw [HK.out, List.take_of_length_le (by have := HL.out; omega)] at h
      exact h
end Go.Proofs.YtgbahfggnbpnmaaDoor
