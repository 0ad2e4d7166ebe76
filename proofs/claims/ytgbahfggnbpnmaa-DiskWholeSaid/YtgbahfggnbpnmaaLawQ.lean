import Derived.Test.YtgbahfggnbpnmaaLawK
import Derived.Test.YtgbahfggnbpnmaaLawDiskNone
import Derived.Test.YtgbahfggnbpnmaaRows
import Derived.Deep.DeepHandedRow
import Derived.Deep.Slices
import Derived.Lib.LaidTab
import Derived.Stop.LaidErr
/-
  What the plain laws of this seat share: closed facts; an act that came in.
-/
namespace Go.Proofs.Ytgbahfggnbpnmaa
open Go.ChangeShapes Go.WideShapes Go.ChangeAt Go.RowKit Go.Deep

theorem own : ownKnob Try.prog.godebug = none := by kernel_rfl
theorem laidOut : laidOutB Try.prog = true := by kernel_rfl
/-- A world for the witness. -/
noncomputable def laidWorld (os : Os) : World := World.holding Try.prog os ⟨#[], #[], []⟩
theorem a2 {a b : Bool} (h : a = true) (k : b = true) : (a && b) = true := by rw [h, k]; rfl
theorem k2 : laidOutB Try.prog = true := by kernel_rfl
theorem k3 : mapsRowed Try.prog = true := by kernel_rfl
theorem k7 : (Try.prog.stops == []) = true := by kernel_rfl
theorem k9 : (Try.prog.stopKnobs == []) = true := by kernel_rfl
theorem k23b : Try.prog.stopsHeard = true := by kernel_rfl
theorem k24 : Try.prog.mayEnter = true := by kernel_rfl
theorem cells_aop : Try.prog.cellsOf 33 = 6 := by kernel_rfl
theorem cells_intp : Try.prog.cellsOf 3 = 1 := by kernel_rfl
theorem cells_u8p : Try.prog.cellsOf 5 = 1 := by kernel_rfl
theorem cells_u8sp : Try.prog.cellsOf 30 = 1 := by kernel_rfl
theorem cells_bools : Try.prog.cellsOf 23 = 1 := by kernel_rfl
theorem slice_trod {H : Type} {enc : TypeId × Value → H} {W : World} {t e : TypeId} {n : Nat} {v : Value} {y : DataW H × List MemPlace} (ht : Try.prog.underlying t = some (.slice e))
    (hf : DataW.trod enc Try.prog W 0 (fun _ => true) true n t [v] = some y) : ∃ a n cap, v = .slice a n cap := by
  rcases open_slice ht hf with ⟨hcs, _⟩ | ⟨a, len, cap', m, k, D, Pl, hcs, _, hl, hm, hmm, _, hel⟩
  · simp at hcs
    exact ⟨_, _, _, hcs⟩
  · simp at hcs
    exact ⟨_, _, _, hcs⟩
set_option maxRecDepth 100000 in
/-- The outer form of an act that came in. -/
theorem open_op {H : Type} {enc : TypeId × Value → H} {W : World} {base : Nat} {v : Value} {d : DataW H} {ps : List MemPlace}
    (hv : Value.okWide Try.prog W .any base 33 v) (h : DataW.Trod enc Try.prog W 0 (fun _ => true) true 33 v d ps) : ∃ d i n x pb nb cb pp np cp, v = oag d i n x pb nb cb pp np cp := by
  obtain ⟨cs, rfl, hs⟩ := okWide_struct Try.underlying33 hv
  obtain ⟨fuel, hf⟩ := h
  simp only [Value.cells] at hf
  rw [cells_aop] at hs
  obtain ⟨xs, n', _, _, _, hxl, hx⟩ := DataW.trod_struct Try.underlying33 hf
  obtain ⟨cl, rfl⟩ : ∃ cl : List Value, cs = cl.toArray := ⟨cs.toList, by simp⟩
  have hlen : cl.length = 6 := by simpa using hs
  match cl, hlen, xs, hxl with
  | [c0, c1, c2, c3, c4, c5], _, [y0, y1, y2, y3, y4, y5], _ =>
    have t0 := hx 0 _ rfl
    have t1 := hx 1 _ rfl
    have t2 := hx 2 _ rfl
    have t3 := hx 3 _ rfl
    have t4 := hx 4 _ rfl
    have t5 := hx 5 _ rfl
    simp only [cells_intp, cells_u8p, cells_u8sp, cells_bools, List.drop_zero, List.drop_succ_cons, List.take_succ_cons, List.take_zero, List.getElem?_cons_zero, List.getElem?_cons_succ] at t0 t1 t2 t3 t4 t5
    obtain ⟨z0, e0, _⟩ := DataW.trod_int Try.underlying3 t0
    obtain ⟨z1, e1, _⟩ := DataW.trod_int Try.underlying3 t1
    obtain ⟨z2, e2, _⟩ := DataW.trod_int Try.underlying3 t2
    obtain ⟨z3, e3, _⟩ := DataW.trod_int Try.underlying5 t3
    obtain ⟨ab, nb, cb, rfl⟩ := slice_trod Try.underlying30 t4
    obtain ⟨ap, np, cp, rfl⟩ := slice_trod Try.underlying23 t5
    obtain rfl : c0 = .int .i64 z0 := by simpa [cells_intp] using e0
    obtain rfl : c1 = .int .i64 z1 := by simpa [cells_intp] using e1
    obtain rfl : c2 = .int .i64 z2 := by simpa [cells_intp] using e2
    obtain rfl : c3 = .int .u8 z3 := by simpa [cells_u8p] using e3
    exact ⟨_, _, _, _, _, _, _, _, _, _, rfl⟩
end Go.Proofs.Ytgbahfggnbpnmaa
