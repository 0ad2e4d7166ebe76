import Derived.Test.YtajjbffppkpjpaaLawK
import Derived.Test.YtajjbffppkpjpaaNetR
import Derived.Test.YtajjbffppkpjpaaRows
import Derived.Deep.DeepHandedRow
import Derived.Deep.Slices
import Derived.Lib.LaidTab
import Derived.Stop.LaidErr
/-
  What the laws of a net share: closed facts; an act, a script and letters that came in.
-/
namespace Go.Proofs.Ytajjbffppkpjpaa
set_option linter.unusedSimpArgs false
set_option linter.unusedVariables false
open Go.ChangeShapes Go.WideShapes Go.ChangeAt Go.RowKit Go.Deep
theorem own : ownKnob Try.prog.godebug = none := by kernel_rfl
theorem laidOut : laidOutB Try.prog = true := by kernel_rfl
/-- A world for the witness. -/
noncomputable def laidWorld (os : Os) : World := World.holding Try.prog os ⟨#[], #[], []⟩
theorem a2 {a b : Bool} (h : a = true) (k : b = true) : (a && b) = true := by rw [h, k]; rfl
theorem k2 : laidOutB Try.prog = true := by kernel_rfl
theorem k3 : mapsRowed Try.prog = true := by kernel_rfl
theorem k7 : (Try.prog.stops == []) = true := by kernel_rfl
theorem k9 : (Try.prog.stopKnobs == []) = true := by kernel_rfl
theorem k23b : Try.prog.stopsHeard = true := by kernel_rfl
theorem k24 : Try.prog.mayEnter = true := by kernel_rfl
theorem cells_nop : Try.prog.cellsOf 39 = 4 := by kernel_rfl
theorem cells_ltr : Try.prog.cellsOf 70 = 2 := by kernel_rfl
theorem cells_intn : Try.prog.cellsOf 3 = 1 := by kernel_rfl
theorem cells_u8n : Try.prog.cellsOf 5 = 1 := by kernel_rfl
theorem cells_u8sn : Try.prog.cellsOf 45 = 1 := by kernel_rfl
theorem cells_ltrs : Try.prog.cellsOf 37 = 1 := by kernel_rfl
/-- An act: what, of whom, a number, letters. -/
structure NOp where
  act : Int
  f : Int
  i : Int
  l : List Ltr
def nop0 : NOp := ⟨0, 0, 0, []⟩
def ocl (o : NOp) (oa : Option Addr) (on oc : Nat) : List Value := [.int .i64 o.act, .int .i64 o.f, .int .i64 o.i, .slice oa on oc]
/-- One act, where it lies. -/
def NOAt (w : World) (g k : Nat) (o : NOp) : Prop := ∃ oa on oc, w.rangeAt g k (ocl o oa on oc) ∧ LtIn w (· < w.heap.size) oa on oc o.l
def NOsIn (w : World) (a : Option Addr) (n c : Nat) (os : List NOp) : Prop := n = os.length ∧ n ≤ c ∧ c ≤ maxLen ∧ ∀ i, i < os.length → ∃ g o, a = some ⟨g, o, none⟩ ∧ g < w.heap.size ∧ NOAt w g (o + i * 4) (os.getD i nop0)
theorem NOAt.on {w w' : World} {g k : Nat} {o : NOp} (h : NOAt w g k o) (hb : Below w.heap.size w w') : NOAt w' g k o := by
  obtain ⟨oa, on, oc, h1, h2⟩ := h
  refine ⟨oa, on, oc, fun j v hv => ?_, (h2.on hb).mono (fun k hk => Nat.lt_of_lt_of_le hk hb.size)⟩
  have h := h1 j v hv
  exact (hb.cell (p := ⟨g, k + j, none⟩) (block_lt_of_cell h)).trans h
theorem NOsIn.on {w w' : World} {a : Option Addr} {n c : Nat} {os : List NOp} (h : NOsIn w a n c os) (hb : Below w.heap.size w w') : NOsIn w' a n c os :=
  ⟨h.1, h.2.1, h.2.2.1, fun i hi => by
    obtain ⟨g, o, e, hg, hc⟩ := h.2.2.2 i hi
    exact ⟨g, o, e, Nat.lt_of_lt_of_le hg hb.size, hc.on hb⟩⟩
theorem text_trodn {H : Type} {enc : TypeId × Value → H} {W : World} {t e : TypeId} {n : Nat} {v : Value} {y : DataW H × List MemPlace} (ht : Try.prog.underlying t = some (.slice e)) (he : Try.prog.underlying e = some (.int .u8)) (hc : Try.prog.cellsOf e = 1)
    (hf : DataW.trod enc Try.prog W 0 (fun _ => true) true n t [v] = some y) : ∃ a n cap l, v = .slice a n cap ∧ Txt W a n cap l := by
  rcases open_ints ht he hc hf with ⟨hcs, _⟩ | ⟨a, len, cap', zs, hcs, _, hl, hm, hz, _, hcell, hw⟩
  · simp at hcs
    subst hcs
    exact ⟨_, _, _, [], rfl, Txt.nil W 0⟩
  · simp at hcs
    subst hcs
    simp only [if_true] at hz
    have q := text_cells hl hm hz (fun i hi => hcell i (by omega)) hw
    exact ⟨_, _, _, _, rfl, ⟨q.len, q.fit, q.rd, q.old⟩⟩
set_option maxRecDepth 100000 in
/-- Letters that came in. -/
theorem letters_trod {H : Type} {enc : TypeId × Value → H} {W : World} {N : Nat} {v : Value} {y : DataW H × List MemPlace}
    (hf : DataW.trod enc Try.prog W 0 (fun _ => true) true N 37 [v] = some y) : ∃ a n c L, v = .slice a n c ∧ LtIn W (· < W.heap.size) a n c L := by
  rcases open_slice Try.underlying37 hf with ⟨hcs, _⟩ | ⟨a, n, cap, m, k, D, Pl, hcs, _, hl, hm, hmm, _, hel⟩
  · simp at hcs
    subst hcs
    exact ⟨_, _, _, [], rfl, rfl, Nat.le_refl _, by simp [maxLen], fun i hi => by simp at hi⟩
  · simp at hcs
    subst hcs
    simp only [if_true] at hmm
    rw [cells_ltr] at hel
    obtain ⟨g, p, spot⟩ := a
    have hsp : 0 < n → spot = none := fun h0 => by
      obtain ⟨cs', h1, _⟩ := hel 0 (by omega)
      obtain ⟨_, _, hc⟩ := World.cells?_some h1
      have h := hc 0 (by omega)
      rw [add_add] at h
      cases hx : cs'[0]? with
      | none => simp at hx; subst hx; simp at *
      | some v => rw [hx] at h; simpa [Addr.add] using World.cell?_spot h
    have one : ∀ i, i < n → ∃ x : Ltr, ∃ g' p' px nx cx, (⟨g, p, spot⟩ : Addr) = ⟨g', p', none⟩ ∧ g' < W.heap.size ∧ W.rangeAt g' (p' + i * 2) [.int .i64 x.1, .slice px nx cx] ∧ Txt W px nx cx x.2 := fun i hi => by
      obtain rfl := hsp (by omega)
      obtain ⟨cs', h1, h2⟩ := hel i (by omega)
      obtain ⟨_, hlen, hc⟩ := World.cells?_some h1
      obtain ⟨xs, n', _, _, _, hxl, hx⟩ := DataW.trod_struct Try.underlying70 h2
      match cs', hlen, xs, hxl with
      | [c0, c1], _, [y0, y1], _ =>
        have t0 := hx 0 _ rfl
        have t1 := hx 1 _ rfl
        simp only [cells_intn, cells_u8sn, List.drop_zero, List.drop_succ_cons, List.take_succ_cons, List.take_zero, List.getElem?_cons_zero, List.getElem?_cons_succ] at t0 t1
        obtain ⟨z0, e0, _⟩ := DataW.trod_int Try.underlying3 t0
        obtain ⟨ab, nb, cb, lb, rfl, tb⟩ := text_trodn Try.underlying45 Try.underlying5 cells_u8n t1
        obtain rfl : c0 = .int .i64 z0 := by simpa [cells_intn] using e0
        have h00 := hc 0 (by omega)
        refine ⟨(z0, lb), g, p, ab, nb, cb, rfl, ?_, fun j u hj => ?_, tb⟩
        · rw [Addr.add_mid, Addr.add_mid] at h00
          exact block_lt_of_cell (a := ⟨g, p + i * 2 + 0, none⟩) h00
        · have hj5 : j < 2 := by
            rcases Nat.lt_or_ge j 2 with h | h
            · exact h
            · rw [List.getElem?_eq_none (by simpa using h)] at hj; cases hj
          have := hc j hj5
          rw [Addr.add_mid, Addr.add_mid] at this
          rw [this, ← hj]
    have : Inhabited Ltr := ⟨ltr0⟩
    obtain ⟨f, hf⟩ := choose_lt (α := Ltr) (n := n) (p := fun i x => ∃ g' p' px nx cx, (⟨g, p, spot⟩ : Addr) = ⟨g', p', none⟩ ∧ g' < W.heap.size ∧ W.rangeAt g' (p' + i * 2) [.int .i64 x.1, .slice px nx cx] ∧ Txt W px nx cx x.2) one
    refine ⟨_, n, cap, (List.range n).map f, rfl, by simp, hl, hm, fun i hi => ?_⟩
    simp only [List.length_map, List.length_range] at hi
    obtain ⟨g, p, px, nx, cx, e, hg, hr, ht⟩ := hf i hi
    have e2 : ((List.range n).map f).getD i ltr0 = f i := by simp [List.getD, hi]
    rw [e2]
    exact ⟨g, p, px, nx, cx, by rw [e], hg, hr, ht, hg, fun b o e h0 => ht.old b o e h0⟩
set_option maxRecDepth 100000 in
theorem nop_trod {H : Type} {enc : TypeId × Value → H} {W : World} {N : Nat} {cs : List Value} {y : DataW H × List MemPlace} (h : DataW.trod enc Try.prog W 0 (fun _ => true) true N 39 cs = some y) (hl : cs.length = 4) :
    ∃ o oa on oc, cs = ocl o oa on oc ∧ LtIn W (· < W.heap.size) oa on oc o.l := by
  obtain ⟨xs, n', _, _, _, hxl, hx⟩ := DataW.trod_struct Try.underlying39 h
  match cs, hl, xs, hxl with
  | [c0, c1, c2, c3], _, [y0, y1, y2, y3], _ =>
    have t0 := hx 0 _ rfl
    have t1 := hx 1 _ rfl
    have t2 := hx 2 _ rfl
    have t3 := hx 3 _ rfl
    simp only [cells_intn, cells_ltrs, List.drop_zero, List.drop_succ_cons, List.take_succ_cons, List.take_zero, List.getElem?_cons_zero, List.getElem?_cons_succ] at t0 t1 t2 t3
    obtain ⟨z0, e0, _⟩ := DataW.trod_int Try.underlying3 t0
    obtain ⟨z1, e1, _⟩ := DataW.trod_int Try.underlying3 t1
    obtain ⟨z2, e2, _⟩ := DataW.trod_int Try.underlying3 t2
    obtain ⟨oa, on, oc, L, rfl, hL⟩ := letters_trod t3
    obtain rfl : c0 = .int .i64 z0 := by simpa [cells_intn] using e0
    obtain rfl : c1 = .int .i64 z1 := by simpa [cells_intn] using e1
    obtain rfl : c2 = .int .i64 z2 := by simpa [cells_intn] using e2
    exact ⟨⟨z0, z1, z2, L⟩, oa, on, oc, rfl, hL⟩
set_option maxRecDepth 100000 in
/-- An act that came in. -/
theorem open_nop {H : Type} {enc : TypeId × Value → H} {W : World} {base : Nat} {v : Value} {d : DataW H} {ps : List MemPlace}
    (hv : Value.okWide Try.prog W .any base 39 v) (h : DataW.Trod enc Try.prog W 0 (fun _ => true) true 39 v d ps) : ∃ o oa on oc, v = .agg (ocl o oa on oc).toArray ∧ LtIn W (· < W.heap.size) oa on oc o.l := by
  obtain ⟨cs, rfl, hs⟩ := okWide_struct Try.underlying39 hv
  obtain ⟨fuel, hf⟩ := h
  simp only [Value.cells] at hf
  rw [cells_nop] at hs
  obtain ⟨o, oa, on, oc, e, hL⟩ := nop_trod hf (by simpa using hs)
  exact ⟨o, oa, on, oc, by rw [← e], hL⟩
set_option maxRecDepth 100000 in
/-- A script that came in. -/
theorem open_nops {H : Type} {enc : TypeId × Value → H} {W : World} {base : Nat} {v : Value} {d : DataW H} {ps : List MemPlace}
    (hv : Value.okWide Try.prog W .any base 64 v) (h : DataW.Trod enc Try.prog W 0 (fun _ => true) true 64 v d ps) : ∃ a n c os, v = .slice a n c ∧ NOsIn W a n c os := by
  obtain ⟨a0, n, cap, rfl⟩ := okWide_slice Try.underlying64 hv
  obtain ⟨fuel, hf⟩ := h
  simp only [Value.cells] at hf
  rcases open_slice Try.underlying64 hf with ⟨hcs, _⟩ | ⟨a, len, cap', m, k, D, Pl, hcs, _, hl, hm, hmm, _, hel⟩
  · simp at hcs
    obtain ⟨rfl, rfl, rfl⟩ := hcs
    exact ⟨_, _, _, [], rfl, rfl, Nat.le_refl _, by simp [maxLen], fun i hi => by simp at hi⟩
  · simp at hcs
    obtain ⟨rfl, rfl, rfl⟩ := hcs
    simp only [if_true] at hmm
    rw [cells_nop] at hel
    obtain ⟨g, p, spot⟩ := a
    have hsp : 0 < n → spot = none := fun h0 => by
      obtain ⟨cs', h1, _⟩ := hel 0 (by omega)
      obtain ⟨_, _, hc⟩ := World.cells?_some h1
      have h := hc 0 (by omega)
      rw [add_add] at h
      cases hx : cs'[0]? with
      | none => simp at hx; subst hx; simp at *
      | some v => rw [hx] at h; simpa [Addr.add] using World.cell?_spot h
    have one : ∀ i, i < n → ∃ o : NOp, ∃ g' p', (⟨g, p, spot⟩ : Addr) = ⟨g', p', none⟩ ∧ g' < W.heap.size ∧ NOAt W g' (p' + i * 4) o := fun i hi => by
      obtain rfl := hsp (by omega)
      obtain ⟨cs', h1, h2⟩ := hel i (by omega)
      obtain ⟨_, hlen, hc⟩ := World.cells?_some h1
      obtain ⟨o, oa, on, oc, rfl, hL⟩ := nop_trod h2 hlen
      have h00 := hc 0 (by omega)
      refine ⟨o, g, p, rfl, ?_, oa, on, oc, fun j u hj => ?_, hL⟩
      · rw [Addr.add_mid, Addr.add_mid] at h00
        exact block_lt_of_cell (a := ⟨g, p + i * 4 + 0, none⟩) h00
      · have hj5 : j < 4 := by
          rcases Nat.lt_or_ge j 4 with h | h
          · exact h
          · rw [List.getElem?_eq_none (by simpa [ocl] using h)] at hj; cases hj
        have := hc j hj5
        rw [Addr.add_mid, Addr.add_mid] at this
        rw [this, ← hj]
    have : Inhabited NOp := ⟨nop0⟩
    obtain ⟨f, hf⟩ := choose_lt (α := NOp) (n := n) (p := fun i o => ∃ g' p', (⟨g, p, spot⟩ : Addr) = ⟨g', p', none⟩ ∧ g' < W.heap.size ∧ NOAt W g' (p' + i * 4) o) one
    refine ⟨_, n, cap, (List.range n).map f, rfl, by simp, hl, hm, fun i hi => ?_⟩
    simp only [List.length_map, List.length_range] at hi
    obtain ⟨g, p, e, hg, ho⟩ := hf i hi
    refine ⟨g, p, by rw [e], hg, ?_⟩
    have e2 : ((List.range n).map f).getD i nop0 = f i := by simp [List.getD, hi]
    rw [e2]; exact ho
end Go.Proofs.Ytajjbffppkpjpaa
