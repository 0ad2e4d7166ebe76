import Derived.Test.YtgbahfggnbpnmaaDoorLawDrbgFull
import Derived.Test.YtgbahfggnbpnmaaDoorLawP
import Derived.Test.YtgbahfggnbpnmaaDoorLawD
import Derived.Deep.Slices
/-
  A script of liverylaw05 as plain Lean: what lies in memory, how it is opened, how an element is loaded.
-/
namespace Go.Proofs.YtgbahfggnbpnmaaDoor
open Go.ChangeShapes Go.WideShapes Go.ChangeAt Go.RowKit Go.Deep
structure DOp where
  res : Bool
  n : Int
  b : List UInt8
  add : List UInt8
  copy : Bool
def dop0 : DOp := ⟨false, 0, [], [], false⟩
instance : Inhabited DOp := ⟨dop0⟩
def ocells (o : DOp) (ab aa : Option Addr) (nb cb na ca : Nat) : List Value := [.bool o.res, .int .i64 o.n, .slice ab nb cb, .slice aa na ca, .bool o.copy]
/-- One operation, where it lies. -/
def OpAt (w : World) (g k : Nat) (o : DOp) : Prop := ∃ ab aa nb cb na ca, w.rangeAt g k (ocells o ab aa nb cb na ca) ∧ Txt w ab nb cb o.b ∧ Txt w aa na ca o.add
def OpsIn (w : World) (a : Option Addr) (n c : Nat) (os : List DOp) : Prop := n = os.length ∧ n ≤ c ∧ c ≤ maxLen ∧ ∀ i, i < os.length → ∃ g o, a = some ⟨g, o, none⟩ ∧ g < w.heap.size ∧ OpAt w g (o + i * 5) (os.getD i dop0)
theorem OpAt.on {w w' : World} {g k : Nat} {o : DOp} (h : OpAt w g k o) (hb : Below w.heap.size w w') : OpAt w' g k o := by
  obtain ⟨ab, aa, nb, cb, na, ca, h1, h2, h3⟩ := h
  refine ⟨ab, aa, nb, cb, na, ca, fun j v hv => ?_, h2.on hb, h3.on hb⟩
  have h := h1 j v hv
  exact (hb.cell (p := ⟨g, k + j, none⟩) (block_lt_of_cell h)).trans h
theorem OpsIn.on {w w' : World} {a : Option Addr} {n c : Nat} {os : List DOp} (h : OpsIn w a n c os) (hb : Below w.heap.size w w') : OpsIn w' a n c os :=
  ⟨h.1, h.2.1, h.2.2.1, fun i hi => by
    obtain ⟨g, o, e, hg, hc⟩ := h.2.2.2 i hi
    exact ⟨g, o, e, Nat.lt_of_lt_of_le hg hb.size, hc.on hb⟩⟩
theorem cells_dop : Tryd.prog.cellsOf 84 = 5 := by kernel_rfl
theorem cells_bool' : Tryd.prog.cellsOf 4 = 1 := by kernel_rfl
theorem cells_int' : Tryd.prog.cellsOf 3 = 1 := by kernel_rfl
theorem cells_u8s' : Tryd.prog.cellsOf 28 = 1 := by kernel_rfl
theorem size_dop : (Tryd.prog.info? 84).map (·.size) = some 5 := by kernel_rfl
theorem text_trod {H : Type} {enc : TypeId × Value → H} {W : World} {t e : TypeId} {n : Nat} {v : Value} {y : DataW H × List MemPlace} (ht : Tryd.prog.underlying t = some (.slice e)) (he : Tryd.prog.underlying e = some (.int .u8)) (hc : Tryd.prog.cellsOf e = 1)
    (hf : DataW.trod enc Tryd.prog W 0 (fun _ => true) true n t [v] = some y) : ∃ a n cap l, v = .slice a n cap ∧ Txt W a n cap l := by
  rcases open_ints ht he hc hf with ⟨hcs, _⟩ | ⟨a, len, cap', zs, hcs, _, hl, hm, hz, _, hcell, hw⟩
  · simp at hcs
    subst hcs
    exact ⟨_, _, _, [], rfl, Txt.nil W 0⟩
  · simp at hcs
    subst hcs
    simp only [if_true] at hz
    exact ⟨_, _, _, _, rfl, (text_cells hl hm hz (fun i hi => hcell i (by omega)) hw).txt⟩
set_option maxRecDepth 100000 in
/-- A script that came in. -/
theorem open_ops {H : Type} {enc : TypeId × Value → H} {W : World} {base : Nat} {v : Value} {d : DataW H} {ps : List MemPlace}
    (hv : Value.okWide Tryd.prog W .any base 81 v) (h : DataW.Trod enc Tryd.prog W 0 (fun _ => true) true 81 v d ps) : ∃ a n c os, v = .slice a n c ∧ OpsIn W a n c os := by
  obtain ⟨a0, n, cap, rfl⟩ := okWide_slice Tryd.underlying81 hv
  obtain ⟨fuel, hf⟩ := h
  simp only [Value.cells] at hf
  rcases open_slice Tryd.underlying81 hf with ⟨hcs, _⟩ | ⟨a, len, cap', m, k, D, Pl, hcs, _, hl, hm, hmm, _, hel⟩
  · simp at hcs
    obtain ⟨rfl, rfl, rfl⟩ := hcs
    exact ⟨_, _, _, [], rfl, rfl, Nat.le_refl _, by simp [maxLen], fun i hi => by simp at hi⟩
  · simp at hcs
    obtain ⟨rfl, rfl, rfl⟩ := hcs
    simp only [if_true] at hmm
    rw [cells_dop] at hel
    obtain ⟨g, p, spot⟩ := a
    have hsp : 0 < n → spot = none := fun h0 => by
      obtain ⟨cs', h1, _⟩ := hel 0 (by omega)
      obtain ⟨_, _, hc⟩ := World.cells?_some h1
      have h := hc 0 (by omega)
      rw [add_add] at h
      cases hx : cs'[0]? with
      | none => simp at hx; subst hx; simp at *
      | some v => rw [hx] at h; simpa [Addr.add] using World.cell?_spot h
    have one : ∀ i, i < n → ∃ o : DOp, ∃ g' p', (⟨g, p, spot⟩ : Addr) = ⟨g', p', none⟩ ∧ g' < W.heap.size ∧ OpAt W g' (p' + i * 5) o := fun i hi => by
      obtain rfl := hsp (by omega)
      obtain ⟨cs', h1, h2⟩ := hel i (by omega)
      obtain ⟨_, hlen, hc⟩ := World.cells?_some h1
      obtain ⟨xs, n', _, _, _, hxl, hx⟩ := DataW.trod_struct Tryd.underlying84 h2
      match cs', hlen, xs, hxl with
      | [c0, c1, c2, c3, c4], _, [y0, y1, y2, y3, y4], _ =>
        have t0 := hx 0 _ rfl
        have t1 := hx 1 _ rfl
        have t2 := hx 2 _ rfl
        have t3 := hx 3 _ rfl
        have t4 := hx 4 _ rfl
        simp only [cells_bool', cells_int', cells_u8s', List.drop_zero, List.drop_succ_cons, List.take_succ_cons, List.take_zero, List.getElem?_cons_zero, List.getElem?_cons_succ] at t0 t1 t2 t3 t4
        obtain ⟨r, e0, _⟩ := DataW.trod_bool Tryd.underlying4 t0
        obtain ⟨z, e1, _⟩ := DataW.trod_int Tryd.underlying3 t1
        obtain ⟨ab, nb, cb, lb, rfl, tb⟩ := text_trod Tryd.underlying28 Tryd.underlying5 cells_u8 t2
        obtain ⟨aa, na, ca, la, rfl, ta⟩ := text_trod Tryd.underlying28 Tryd.underlying5 cells_u8 t3
        obtain ⟨q, e4, _⟩ := DataW.trod_bool Tryd.underlying4 t4
        obtain rfl : c0 = .bool r := by simpa [cells_bool'] using e0
        obtain rfl : c1 = .int .i64 z := by simpa [cells_int'] using e1
        obtain rfl : c4 = .bool q := by simpa [cells_bool'] using e4
        have h00 := hc 0 (by omega)
        refine ⟨⟨r, z, lb, la, q⟩, g, p, rfl, ?_, ab, aa, nb, cb, na, ca, fun j u hj => ?_, tb, ta⟩
        · rw [Addr.add_mid, Addr.add_mid] at h00
          exact block_lt_of_cell (a := ⟨g, p + i * 5 + 0, none⟩) h00
        · have hj5 : j < 5 := by
            rcases Nat.lt_or_ge j 5 with h | h
            · exact h
            · rw [List.getElem?_eq_none (by simpa [ocells] using h)] at hj; cases hj
          have := hc j hj5
          rw [Addr.add_mid, Addr.add_mid] at this
          rw [this, ← hj]
          rfl
    obtain ⟨f, hf⟩ := choose_lt (α := DOp) (n := n) (p := fun i o => ∃ g' p', (⟨g, p, spot⟩ : Addr) = ⟨g', p', none⟩ ∧ g' < W.heap.size ∧ OpAt W g' (p' + i * 5) o) one
    refine ⟨_, n, cap, (List.range n).map f, rfl, by simp, hl, hm, fun i hi => ?_⟩
    simp only [List.length_map, List.length_range] at hi
    obtain ⟨g, p, e, hg, ho⟩ := hf i hi
    refine ⟨g, p, by rw [e], hg, ?_⟩
    have e2 : ((List.range n).map f).getD i dop0 = f i := by simp [List.getD, hi]
    rw [e2]; exact ho
end Go.Proofs.YtgbahfggnbpnmaaDoor
