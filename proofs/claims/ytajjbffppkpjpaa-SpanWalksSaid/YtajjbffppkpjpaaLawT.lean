import Derived.Test.YtajjbffppkpjpaaLawK
import Derived.Test.YtajjbffppkpjpaaSpanM
import Derived.Test.YtajjbffppkpjpaaRows
import Derived.Deep.DeepHandedRow
import Derived.Deep.Slices
import Derived.Lib.LaidTab
import Derived.Stop.LaidErr
/-
  What the plain laws of this seat share: closed facts; a list of ranges and a range that came in.
-/
namespace Go.Proofs.Ytajjbffppkpjpaa
open Go.ChangeShapes Go.WideShapes Go.ChangeAt Go.RowKit Go.Deep

theorem own : ownKnob Try.prog.godebug = none := by kernel_rfl
theorem laidOut : laidOutB Try.prog = true := by kernel_rfl
/-- A world for the witness. -/
noncomputable def laidWorld (os : Os) : World := World.holding Try.prog os ⟨#[], #[], []⟩
theorem a2 {a b : Bool} (h : a = true) (k : b = true) : (a && b) = true := by rw [h, k]; rfl
theorem k2 : laidOutB Try.prog = true := by kernel_rfl
theorem k3 : mapsRowed Try.prog = true := by kernel_rfl
theorem k7 : (Try.prog.stops == []) = true := by kernel_rfl
theorem k9 : (Try.prog.stopKnobs == []) = true := by kernel_rfl
theorem k23b : Try.prog.stopsHeard = true := by kernel_rfl
theorem k24 : Try.prog.mayEnter = true := by kernel_rfl
theorem cells_rg : Try.prog.cellsOf 25 = 2 := by kernel_rfl
theorem cells_u64 : Try.prog.cellsOf 23 = 1 := by kernel_rfl
theorem nat_u64 {m : Int} (h : (Lit.int .u64 m).wf = true) : ∃ N : Nat, m = (N : Int) ∧ N < 18446744073709551616 := by
  have := bounds_u64 h
  exact ⟨m.toNat, by omega, by omega⟩
set_option maxRecDepth 100000 in
theorem rg_trod {H : Type} {enc : TypeId × Value → H} {W : World} {n : Nat} {cs : List Value} {y : DataW H × List MemPlace} (h : DataW.trod enc Try.prog W 0 (fun _ => true) true n 25 cs = some y) (hl : cs.length = 2) :
    ∃ r : Rg, cs = rcl r ∧ r.lo < 18446744073709551616 ∧ r.hi < 18446744073709551616 := by
  obtain ⟨y0, y1, m, _, _, t0, t1⟩ := trod_struct2 Try.underlying25 h
  match cs, hl with
  | [c0, c1], _ =>
    simp only [cells_u64, List.drop_zero, List.drop_succ_cons, List.take_succ_cons, List.take_zero] at t0 t1
    obtain ⟨z0, e0, _, w0⟩ := DataW.trod_int Try.underlying23 t0
    obtain ⟨z1, e1, _, w1⟩ := DataW.trod_int Try.underlying23 t1
    obtain ⟨a, rfl, ha⟩ := nat_u64 w0
    obtain ⟨b, rfl, hb⟩ := nat_u64 w1
    obtain rfl : c0 = .int .u64 (a : Int) := by simpa using e0
    obtain rfl : c1 = .int .u64 (b : Int) := by simpa using e1
    exact ⟨⟨a, b⟩, rfl, ha, hb⟩
set_option maxRecDepth 100000 in
/-- A range that came in. -/
theorem open_rg {H : Type} {enc : TypeId × Value → H} {W : World} {base : Nat} {v : Value} {d : DataW H} {ps : List MemPlace}
    (hv : Value.okWide Try.prog W .any base 25 v) (h : DataW.Trod enc Try.prog W 0 (fun _ => true) true 25 v d ps) : ∃ r : Rg, v = rag r ∧ r.lo < 18446744073709551616 ∧ r.hi < 18446744073709551616 := by
  obtain ⟨cs, rfl, hs⟩ := okWide_struct Try.underlying25 hv
  obtain ⟨fuel, hf⟩ := h
  simp only [Value.cells] at hf
  rw [cells_rg] at hs
  obtain ⟨r, e, h1, h2⟩ := rg_trod hf (by simpa using hs)
  refine ⟨r, ?_, h1, h2⟩
  have : cs = (rcl r).toArray := by rw [← e]
  rw [this]; rfl
set_option maxRecDepth 100000 in
/-- A list of ranges that came in. -/
theorem open_rgs {H : Type} {enc : TypeId × Value → H} {W : World} {base : Nat} {v : Value} {d : DataW H} {ps : List MemPlace}
    (hv : Value.okWide Try.prog W .any base 22 v) (h : DataW.Trod enc Try.prog W 0 (fun _ => true) true 22 v d ps) : ∃ a n c l, v = .slice a n c ∧ RgsIn W a n c l := by
  obtain ⟨a0, n, cap, rfl⟩ := okWide_slice Try.underlying22 hv
  obtain ⟨fuel, hf⟩ := h
  simp only [Value.cells] at hf
  rcases open_slice Try.underlying22 hf with ⟨hcs, _⟩ | ⟨a, len, cap', m, k, D, Pl, hcs, _, hl, hm, hmm, _, hel⟩
  · simp at hcs
    obtain ⟨rfl, rfl, rfl⟩ := hcs
    exact ⟨_, _, _, [], rfl, rfl, Nat.le_refl _, by simp [maxLen], fun i hi => (by simp at hi), fun r hr => (by cases hr)⟩
  · simp at hcs
    obtain ⟨rfl, rfl, rfl⟩ := hcs
    simp only [if_true] at hmm
    rw [cells_rg] at hel
    obtain ⟨g, p, spot⟩ := a
    have hsp : 0 < n → spot = none := fun h0 => by
      obtain ⟨cs', h1, _⟩ := hel 0 (by omega)
      obtain ⟨_, _, hc⟩ := World.cells?_some h1
      have h := hc 0 (by omega)
      rw [add_add] at h
      cases hx : cs'[0]? with
      | none => simp at hx; subst hx; simp at *
      | some v => rw [hx] at h; simpa [Addr.add] using World.cell?_spot h
    have one : ∀ i, i < n → ∃ r : Rg, (∃ g' p', (⟨g, p, spot⟩ : Addr) = ⟨g', p', none⟩ ∧ g' < W.heap.size ∧ W.rangeAt g' (p' + i * 2) (rcl r)) ∧ r.lo < 18446744073709551616 ∧ r.hi < 18446744073709551616 := fun i hi => by
      obtain rfl := hsp (by omega)
      obtain ⟨cs', h1, h2⟩ := hel i (by omega)
      obtain ⟨_, hlen, hc⟩ := World.cells?_some h1
      obtain ⟨r, rfl, hr1, hr2⟩ := rg_trod h2 hlen
      have h00 := hc 0 (by omega)
      refine ⟨r, ⟨g, p, rfl, ?_, fun j u hj => ?_⟩, hr1, hr2⟩
      · rw [Addr.add_mid, Addr.add_mid] at h00
        exact block_lt_of_cell (a := ⟨g, p + i * 2 + 0, none⟩) h00
      · have hj2 : j < 2 := by
          rcases Nat.lt_or_ge j 2 with h | h
          · exact h
          · rw [List.getElem?_eq_none (by simpa [rcl] using h)] at hj; cases hj
        have := hc j hj2
        rw [Addr.add_mid, Addr.add_mid] at this
        rw [this, ← hj]
    have : Inhabited Rg := ⟨r0⟩
    obtain ⟨f, hf⟩ := choose_lt (α := Rg) (n := n) (p := fun i r => (∃ g' p', (⟨g, p, spot⟩ : Addr) = ⟨g', p', none⟩ ∧ g' < W.heap.size ∧ W.rangeAt g' (p' + i * 2) (rcl r)) ∧ r.lo < 18446744073709551616 ∧ r.hi < 18446744073709551616) one
    refine ⟨_, n, cap, (List.range n).map f, rfl, by simp, hl, hm, fun i hi => ?_, fun r hr => ?_⟩
    · simp only [List.length_map, List.length_range] at hi
      obtain ⟨⟨g, p, e, hg, ho⟩, _⟩ := hf i hi
      refine ⟨g, p, by rw [e], hg, ?_⟩
      have e2 : ((List.range n).map f).getD i r0 = f i := by simp [List.getD, hi]
      rw [e2]; exact ho
    · obtain ⟨i, hi, rfl⟩ := List.mem_map.1 hr
      exact (hf i (List.mem_range.1 hi)).2
end Go.Proofs.Ytajjbffppkpjpaa
