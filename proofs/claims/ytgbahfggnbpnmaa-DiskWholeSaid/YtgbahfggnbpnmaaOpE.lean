import Derived.Test.YtgbahfggnbpnmaaLawQ
import Derived.Test.YtgbahfggnbpnmaaRfP
import Derived.Test.YtgbahfggnbpnmaaDskQ
import Derived.Deep.Grids
/-
  A script of liverylaw17 as plain Lean: what lies in memory, how it is opened.
-/
namespace Go.Proofs.Ytgbahfggnbpnmaa
open Go.ChangeShapes Go.WideShapes Go.ChangeAt Go.RowKit Go.Deep
/-- Bools that came in. -/
structure BTx (w : World) (a : Option Addr) (n c : Nat) (l : List Bool) : Prop where
  len : n = l.length
  fit : n ≤ c
  rd : ReadsB w a l
theorem BTx.on {w w' : World} {a : Option Addr} {n c : Nat} {l : List Bool} (h : BTx w a n c l) (hb : Below w.heap.size w w') : BTx w' a n c l := ⟨h.len, h.fit, h.rd.on hb⟩
theorem BTx.nil (w : World) (c : Nat) : BTx w none 0 c [] := ⟨rfl, Nat.zero_le _, fun i hi => by cases hi⟩
def kcells (o : KOp) (ab ap : Option Addr) (nb cb np cp : Nat) : List Value := [.int .i64 o.act, .int .i64 o.i, .int .i64 o.n, .int .u8 o.x.toNat, .slice ab nb cb, .slice ap np cp]
/-- One act, where it lies. -/
def KAt (w : World) (g k : Nat) (o : KOp) : Prop := ∃ ab ap nb cb np cp, w.rangeAt g k (kcells o ab ap nb cb np cp) ∧ Txt w ab nb cb o.b ∧ BTx w ap np cp o.pick
def KsIn (w : World) (a : Option Addr) (n c : Nat) (os : List KOp) : Prop := n = os.length ∧ n ≤ c ∧ c ≤ maxLen ∧ ∀ i, i < os.length → ∃ g o, a = some ⟨g, o, none⟩ ∧ g < w.heap.size ∧ KAt w g (o + i * 6) (os.getD i kop0) ∧ (os.getD i kop0).In
theorem KAt.on {w w' : World} {g k : Nat} {o : KOp} (h : KAt w g k o) (hb : Below w.heap.size w w') : KAt w' g k o := by
  obtain ⟨ab, ap, nb, cb, np, cp, h1, h2, h3⟩ := h
  refine ⟨ab, ap, nb, cb, np, cp, fun j v hv => ?_, h2.below hb, h3.on hb⟩
  have h := h1 j v hv
  exact (hb.cell (p := ⟨g, k + j, none⟩) (block_lt_of_cell h)).trans h
theorem KsIn.on {w w' : World} {a : Option Addr} {n c : Nat} {os : List KOp} (h : KsIn w a n c os) (hb : Below w.heap.size w w') : KsIn w' a n c os :=
  ⟨h.1, h.2.1, h.2.2.1, fun i hi => by
    obtain ⟨g, o, e, hg, hc, hin⟩ := h.2.2.2 i hi
    exact ⟨g, o, e, Nat.lt_of_lt_of_le hg hb.size, hc.on hb, hin⟩⟩
/-- Inputs lie below where the law's own memory begins. -/
theorem KsIn.far {w w' : World} {a : Option Addr} {n c : Nat} {os : List KOp} {B : Nat} (h : KsIn w a n c os) (hB : w.heap.size ≤ B) (hb : Below w.heap.size w w') : KsIn w' a n c os := h.on hb
theorem cells_boolq : Try.prog.cellsOf 4 = 1 := by kernel_rfl
theorem size_kop : (Try.prog.info? 33).map (·.size) = some 6 := by kernel_rfl
theorem bound_i64 {n : Int} (h : (Lit.int .i64 n).wf = true) : n ≤ 9223372036854775807 := by
  have := bounds_i64 h; omega
theorem u8_text_trod {H : Type} {enc : TypeId × Value → H} {W : World} {t e : TypeId} {n : Nat} {v : Value} {y : DataW H × List MemPlace} (ht : Try.prog.underlying t = some (.slice e)) (he : Try.prog.underlying e = some (.int .u8)) (hc : Try.prog.cellsOf e = 1)
    (hf : DataW.trod enc Try.prog W 0 (fun _ => true) true n t [v] = some y) : ∃ a n cap l, v = .slice a n cap ∧ Txt W a n cap l := by
  rcases open_ints ht he hc hf with ⟨hcs, _⟩ | ⟨a, len, cap', zs, hcs, _, hl, hm, hz, _, hcell, hw⟩
  · simp at hcs
    subst hcs
    exact ⟨_, _, _, [], rfl, Txt.nil W 0⟩
  · simp at hcs
    subst hcs
    simp only [if_true] at hz
    have q := text_cells hl hm hz (fun i hi => hcell i (by omega)) hw
    exact ⟨_, _, _, _, rfl, ⟨q.len, q.fit, q.rd, q.old⟩⟩
theorem bools_trod {H : Type} {enc : TypeId × Value → H} {W : World} {t e : TypeId} {n : Nat} {v : Value} {y : DataW H × List MemPlace} (ht : Try.prog.underlying t = some (.slice e)) (he : Try.prog.underlying e = some .bool) (hc : Try.prog.cellsOf e = 1)
    (hf : DataW.trod enc Try.prog W 0 (fun _ => true) true n t [v] = some y) : ∃ a n cap l, v = .slice a n cap ∧ BTx W a n cap l := by
  rcases open_bools ht he hc hf with ⟨hcs, _⟩ | ⟨a, len, cap', B, hcs, _, hl, hm, _, hcell⟩
  · simp at hcs
    subst hcs
    exact ⟨_, _, _, [], rfl, BTx.nil W 0⟩
  · simp at hcs
    subst hcs
    obtain ⟨b, off, spot⟩ := a
    refine ⟨_, len, cap', (List.range len).map B, rfl, by simp, hl, fun i hi => ?_⟩
    simp only [List.length_map, List.length_range] at hi
    have h0 := hcell i (by omega)
    have hspot : spot = none := by simpa [Addr.add] using World.cell?_spot (hcell 0 (by omega))
    subst hspot
    have e : (⟨b, off, none⟩ : Addr).add i = ⟨b, off + i, none⟩ := by unfold Addr.add; split <;> simp_all
    rw [e] at h0
    exact ⟨b, off, rfl, block_lt_of_cell h0, by rw [h0]; simp [List.getD, hi]⟩
theorem nat_u8' {m : Int} (h : (Lit.int .u8 m).wf = true) : ∃ x : UInt8, m = (x.toNat : Int) := ⟨UInt8.ofNat m.toNat, u8_of h⟩
set_option maxRecDepth 100000 in
/-- A script that came in. -/
theorem open_kops {H : Type} {enc : TypeId × Value → H} {W : World} {base : Nat} {v : Value} {d : DataW H} {ps : List MemPlace}
    (hv : Value.okWide Try.prog W .any base 22 v) (h : DataW.Trod enc Try.prog W 0 (fun _ => true) true 22 v d ps) : ∃ a n c os, v = .slice a n c ∧ KsIn W a n c os := by
  obtain ⟨a0, n, cap, rfl⟩ := okWide_slice Try.underlying22 hv
  obtain ⟨fuel, hf⟩ := h
  simp only [Value.cells] at hf
  rcases open_slice Try.underlying22 hf with ⟨hcs, _⟩ | ⟨a, len, cap', m, k, D, Pl, hcs, _, hl, hm, hmm, _, hel⟩
  · simp at hcs
    obtain ⟨rfl, rfl, rfl⟩ := hcs
    exact ⟨_, _, _, [], rfl, rfl, Nat.le_refl _, by simp [maxLen], fun i hi => by simp at hi⟩
  · simp at hcs
    obtain ⟨rfl, rfl, rfl⟩ := hcs
    simp only [if_true] at hmm
    rw [cells_aop] at hel
    obtain ⟨g, p, spot⟩ := a
    have hsp : 0 < n → spot = none := fun h0 => by
      obtain ⟨cs', h1, _⟩ := hel 0 (by omega)
      obtain ⟨_, _, hc⟩ := World.cells?_some h1
      have h := hc 0 (by omega)
      rw [add_add] at h
      cases hx : cs'[0]? with
      | none => simp at hx; subst hx; simp at *
      | some v => rw [hx] at h; simpa [Addr.add] using World.cell?_spot h
    have one : ∀ i, i < n → ∃ o : KOp, ∃ g' p', (⟨g, p, spot⟩ : Addr) = ⟨g', p', none⟩ ∧ g' < W.heap.size ∧ KAt W g' (p' + i * 6) o ∧ o.In := fun i hi => by
      obtain rfl := hsp (by omega)
      obtain ⟨cs', h1, h2⟩ := hel i (by omega)
      obtain ⟨_, hlen, hc⟩ := World.cells?_some h1
      obtain ⟨xs, n', _, _, _, hxl, hx⟩ := DataW.trod_struct Try.underlying33 h2
      match cs', hlen, xs, hxl with
      | [c0, c1, c2, c3, c4, c5], _, [y0, y1, y2, y3, y4, y5], _ =>
        have t0 := hx 0 _ rfl
        have t1 := hx 1 _ rfl
        have t2 := hx 2 _ rfl
        have t3 := hx 3 _ rfl
        have t4 := hx 4 _ rfl
        have t5 := hx 5 _ rfl
        simp only [cells_intp, cells_u8p, cells_u8sp, cells_bools, List.drop_zero, List.drop_succ_cons, List.take_succ_cons, List.take_zero, List.getElem?_cons_zero, List.getElem?_cons_succ] at t0 t1 t2 t3 t4 t5
        obtain ⟨z0, e0, _⟩ := DataW.trod_int Try.underlying3 t0
        obtain ⟨z1, e1, _, w1⟩ := DataW.trod_int Try.underlying3 t1
        obtain ⟨z2, e2, _, w2⟩ := DataW.trod_int Try.underlying3 t2
        obtain ⟨z3, e3, _, w3⟩ := DataW.trod_int Try.underlying5 t3
        obtain ⟨x3, rfl⟩ := nat_u8' w3
        obtain ⟨ab, nb, cb, lb, rfl, tb⟩ := u8_text_trod Try.underlying30 Try.underlying5 cells_u8p t4
        obtain ⟨ap, np, cp, lp, rfl, tp⟩ := bools_trod Try.underlying23 Try.underlying4 cells_boolq t5
        obtain rfl : c0 = .int .i64 z0 := by simpa [cells_intp] using e0
        obtain rfl : c1 = .int .i64 z1 := by simpa [cells_intp] using e1
        obtain rfl : c2 = .int .i64 z2 := by simpa [cells_intp] using e2
        obtain rfl : c3 = .int .u8 x3.toNat := by simpa [cells_u8p] using e3
        have h00 := hc 0 (by omega)
        refine ⟨⟨z0, z1, z2, x3, lb, lp⟩, g, p, rfl, ?_, ⟨ab, ap, nb, cb, np, cp, fun j u hj => ?_, tb, tp⟩, bound_i64 w1, bound_i64 w2⟩
        · rw [Addr.add_mid, Addr.add_mid] at h00
          exact block_lt_of_cell (a := ⟨g, p + i * 6 + 0, none⟩) h00
        · have hj5 : j < 6 := by
            rcases Nat.lt_or_ge j 6 with h | h
            · exact h
            · rw [List.getElem?_eq_none (by simpa [kcells] using h)] at hj; cases hj
          have := hc j hj5
          rw [Addr.add_mid, Addr.add_mid] at this
          rw [this, ← hj]
          rfl
    obtain ⟨f, hf⟩ := choose_lt (α := KOp) (n := n) (p := fun i o => ∃ g' p', (⟨g, p, spot⟩ : Addr) = ⟨g', p', none⟩ ∧ g' < W.heap.size ∧ KAt W g' (p' + i * 6) o ∧ o.In) one
    refine ⟨_, n, cap, (List.range n).map f, rfl, by simp, hl, hm, fun i hi => ?_⟩
    simp only [List.length_map, List.length_range] at hi
    obtain ⟨g, p, e, hg, ho⟩ := hf i hi
    refine ⟨g, p, by rw [e], hg, ?_⟩
    have e2 : ((List.range n).map f).getD i kop0 = f i := by simp [List.getD, hi]
    rw [e2]; exact ho
theorem open_btx {H : Type} {enc : TypeId × Value → H} {W : World} {base : Nat} {v : Value} {d : DataW H} {ps : List MemPlace}
    (hv : Value.okWide Try.prog W .any base 23 v) (h : DataW.Trod enc Try.prog W 0 (fun _ => true) true 23 v d ps) : ∃ a n c l, v = .slice a n c ∧ BTx W a n c l := by
  obtain ⟨a0, n, cap, rfl⟩ := okWide_slice Try.underlying23 hv
  obtain ⟨fuel, hf⟩ := h
  simp only [Value.cells] at hf
  exact bools_trod Try.underlying23 Try.underlying4 cells_boolq hf
end Go.Proofs.Ytgbahfggnbpnmaa
