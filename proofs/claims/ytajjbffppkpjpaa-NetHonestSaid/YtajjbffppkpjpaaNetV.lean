import Derived.Test.YtajjbffppkpjpaaNetS
import Derived.SizedLaws
/-
  A script of a net that came in takes no more than the form's own reach.
-/
namespace Go.Proofs.Ytajjbffppkpjpaa
set_option linter.unusedSimpArgs false
set_option linter.unusedVariables false
open Go.ChangeShapes Go.WideShapes Go.ChangeAt Go.RowKit Go.Deep
theorem bytes_u8n : Try.prog.bytesOf 5 = 1 := by kernel_rfl
theorem mem_weightsAll {H : Type} {P : Program} {e : TypeId} {n : Nat} {d : DataW H} : ∀ {l : List (DataW H)}, d ∈ l → n ∈ d.weights P e → n ∈ DataW.weightsAll P e l
  | [], h, _ => by cases h
  | d0 :: l, h, hn => by
    simp only [DataW.weightsAll, List.mem_append]
    rcases List.mem_cons.1 h with rfl | h
    · exact .inl hn
    · exact .inr (mem_weightsAll h hn)
theorem slice_weights {H : Type} {P : Program} {t e : TypeId} {n : Nat} {d : DataW H} {el sp : List (DataW H)} (hu : P.underlying t = some (.slice e)) (hd : d ∈ el) (hn : n ∈ d.weights P e) : n ∈ (DataW.slice el sp).weights P t := by
  simp only [DataW.weights, hu, List.mem_cons, List.mem_append]
  exact .inr (.inl (mem_weightsAll hd hn))
theorem agg_weights {H : Type} {P : Program} {t u : TypeId} {n j : Nat} {d : DataW H} {ps : List (DataW H)} {fs : Array Field} (hu : P.underlying t = some (.struct fs)) (ht : (fs.toList.map (·.type))[j]? = some u) (hd : ps[j]? = some d) (hn : n ∈ d.weights P u) : n ∈ (DataW.agg ps).weights P t := by
  simp only [DataW.weights, hu]
  exact DataW.weights_mem_each ht hd n hn
theorem text_trodd {H : Type} {enc : TypeId × Value → H} {W : World} {n : Nat} {v : Value} {y : DataW H × List MemPlace}
    (hf : DataW.trod enc Try.prog W 0 (fun _ => true) true n 45 [v] = some y) (hz : ∀ n ∈ y.1.weights Try.prog 45, n ≤ reachBytes) : ∃ a n cap l, v = .slice a n cap ∧ Txt W a n cap l ∧ l.length ≤ 140737488355328 := by
  rcases open_ints Try.underlying45 Try.underlying5 cells_u8n hf with ⟨hcs, _⟩ | ⟨a, len, cap', zs, hcs, _, hl, hm, hzl, hx, hcell, hw⟩
  · simp at hcs
    subst hcs
    exact ⟨_, _, _, [], rfl, Txt.nil W 0, by simp⟩
  · simp at hcs
    subst hcs
    simp only [if_true] at hzl
    have q := text_cells hl hm hzl (fun i hi => hcell i (by omega)) hw
    refine ⟨_, _, _, _, rfl, ⟨q.len, q.fit, q.rd, q.old⟩, ?_⟩
    rw [hx] at hz
    have h := hz _ (by simp only [DataW.weights, Try.underlying45, List.mem_cons]; exact .inl rfl)
    rw [bytes_u8n] at h
    simp only [lits, List.length_map, List.length_take, List.length_drop, reachBytes] at h
    rw [← q.len]; omega
/-- How long the letters' texts are. -/
def LtLen (L : List Ltr) : Prop := ∀ x, x ∈ L → x.2.length ≤ 140737488355328
set_option maxRecDepth 100000 in
/-- Letters that came in. -/
theorem letters_trodd {H : Type} {enc : TypeId × Value → H} {W : World} {N : Nat} {v : Value} {y : DataW H × List MemPlace}
    (hf : DataW.trod enc Try.prog W 0 (fun _ => true) true N 37 [v] = some y) (hz : ∀ n ∈ y.1.weights Try.prog 37, n ≤ reachBytes) : ∃ a n c L, v = .slice a n c ∧ LtIn W (· < W.heap.size) a n c L ∧ LtLen L := by
  rcases open_slice Try.underlying37 hf with ⟨hcs, _⟩ | ⟨a, n, cap, m, k, D, Pl, hcs, _, hl, hm, hmm, hxx, hel⟩
  · simp at hcs
    subst hcs
    exact ⟨_, _, _, [], rfl, ⟨rfl, Nat.le_refl _, by simp [maxLen], fun i hi => by simp at hi⟩, fun x hx => by cases hx⟩
  · simp at hcs
    subst hcs
    simp only [if_true] at hmm
    rw [cells_ltr] at hel
    obtain ⟨g, p, spot⟩ := a
    have hsp : 0 < n → spot = none := fun h0 => by
      obtain ⟨cs', h1, _⟩ := hel 0 (by omega)
      obtain ⟨_, _, hc⟩ := World.cells?_some h1
      have h := hc 0 (by omega)
      rw [add_add] at h
      cases hx : cs'[0]? with
      | none => simp at hx; subst hx; simp at *
      | some v => rw [hx] at h; simpa [Addr.add] using World.cell?_spot h
    have one : ∀ i, i < n → ∃ x : Ltr, ∃ g' p' px nx cx, (⟨g, p, spot⟩ : Addr) = ⟨g', p', none⟩ ∧ g' < W.heap.size ∧ W.rangeAt g' (p' + i * 2) [.int .i64 x.1, .slice px nx cx] ∧ Txt W px nx cx x.2 ∧ x.2.length ≤ 140737488355328 := fun i hi => by
      obtain rfl := hsp (by omega)
      obtain ⟨cs', h1, h2⟩ := hel i (by omega)
      obtain ⟨_, hlen, hc⟩ := World.cells?_some h1
      obtain ⟨xs, n', _, hxa, _, hxl, hx⟩ := DataW.trod_struct Try.underlying70 h2
      have hzi : ∀ n ∈ (D i).weights Try.prog 70, n ≤ reachBytes := fun m hm => hz m (by rw [hxx]; exact slice_weights Try.underlying37 (List.mem_map.2 ⟨i, List.mem_range.2 hi, rfl⟩) hm)
      match cs', hlen, xs, hxl with
      | [c0, c1], _, [y0, y1], _ =>
        have t0 := hx 0 _ rfl
        have t1 := hx 1 _ rfl
        simp only [cells_intn, cells_u8sn, List.drop_zero, List.drop_succ_cons, List.take_succ_cons, List.take_zero, List.getElem?_cons_zero, List.getElem?_cons_succ] at t0 t1
        obtain ⟨z0, e0, _⟩ := DataW.trod_int Try.underlying3 t0
        have hxd : D i = .agg [y0.1, y1.1] := congrArg Prod.fst hxa
        obtain ⟨ab, nb, cb, lb, rfl, tb, tz⟩ := text_trodd t1 (fun m hm => hzi m (by rw [hxd]; exact agg_weights (j := 1) Try.underlying70 rfl rfl hm))
        obtain rfl : c0 = .int .i64 z0 := by simpa [cells_intn] using e0
        have h00 := hc 0 (by omega)
        refine ⟨(z0, lb), g, p, ab, nb, cb, rfl, ?_, fun j u hj => ?_, tb, tz⟩
        · rw [Addr.add_mid, Addr.add_mid] at h00
          exact block_lt_of_cell (a := ⟨g, p + i * 2 + 0, none⟩) h00
        · have hj5 : j < 2 := by
            rcases Nat.lt_or_ge j 2 with h | h
            · exact h
            · rw [List.getElem?_eq_none (by simpa using h)] at hj; cases hj
          have := hc j hj5
          rw [Addr.add_mid, Addr.add_mid] at this
          rw [this, ← hj]
    have : Inhabited Ltr := ⟨ltr0⟩
    obtain ⟨f, hf⟩ := choose_lt (α := Ltr) (n := n) (p := fun i x => ∃ g' p' px nx cx, (⟨g, p, spot⟩ : Addr) = ⟨g', p', none⟩ ∧ g' < W.heap.size ∧ W.rangeAt g' (p' + i * 2) [.int .i64 x.1, .slice px nx cx] ∧ Txt W px nx cx x.2 ∧ x.2.length ≤ 140737488355328) one
    refine ⟨_, n, cap, (List.range n).map f, rfl, ⟨by simp, hl, hm, fun i hi => ?_⟩, fun x hx => ?_⟩
    · simp only [List.length_map, List.length_range] at hi
      obtain ⟨g, p, px, nx, cx, e, hg, hr, ht, _⟩ := hf i hi
      have e2 : ((List.range n).map f).getD i ltr0 = f i := by simp [List.getD, hi]
      rw [e2]
      exact ⟨g, p, px, nx, cx, by rw [e], hg, hr, ht, hg, fun b o e h0 => ht.old b o e h0⟩
    · obtain ⟨i, hi, rfl⟩ := List.mem_map.1 hx
      obtain ⟨g, p, px, nx, cx, e, hg, hr, ht, hz⟩ := hf i (List.mem_range.1 hi)
      exact hz
set_option maxRecDepth 100000 in
theorem nop_trodd {H : Type} {enc : TypeId × Value → H} {W : World} {N : Nat} {cs : List Value} {y : DataW H × List MemPlace} (h : DataW.trod enc Try.prog W 0 (fun _ => true) true N 39 cs = some y) (hl : cs.length = 4) (hz : ∀ n ∈ y.1.weights Try.prog 39, n ≤ reachBytes) :
    ∃ o oa on oc, cs = ocl o oa on oc ∧ LtIn W (· < W.heap.size) oa on oc o.l ∧ LtLen o.l := by
  obtain ⟨xs, n', _, hxa, _, hxl, hx⟩ := DataW.trod_struct Try.underlying39 h
  match cs, hl, xs, hxl with
  | [c0, c1, c2, c3], _, [y0, y1, y2, y3], _ =>
    have t0 := hx 0 _ rfl
    have t1 := hx 1 _ rfl
    have t2 := hx 2 _ rfl
    have t3 := hx 3 _ rfl
    simp only [cells_intn, cells_ltrs, List.drop_zero, List.drop_succ_cons, List.take_succ_cons, List.take_zero, List.getElem?_cons_zero, List.getElem?_cons_succ] at t0 t1 t2 t3
    obtain ⟨z0, e0, _⟩ := DataW.trod_int Try.underlying3 t0
    obtain ⟨z1, e1, _⟩ := DataW.trod_int Try.underlying3 t1
    obtain ⟨z2, e2, _⟩ := DataW.trod_int Try.underlying3 t2
    have hxd : y.1 = .agg [y0.1, y1.1, y2.1, y3.1] := congrArg Prod.fst hxa
    obtain ⟨oa, on, oc, L, rfl, hL, hLL⟩ := letters_trodd t3 (fun m hm => hz m (by rw [hxd]; exact agg_weights (j := 3) Try.underlying39 rfl rfl hm))
    obtain rfl : c0 = .int .i64 z0 := by simpa [cells_intn] using e0
    obtain rfl : c1 = .int .i64 z1 := by simpa [cells_intn] using e1
    obtain rfl : c2 = .int .i64 z2 := by simpa [cells_intn] using e2
    exact ⟨⟨z0, z1, z2, L⟩, oa, on, oc, rfl, hL, hLL⟩
set_option maxRecDepth 100000 in
/-- A script that came in. -/
theorem open_nopsd {H : Type} {enc : TypeId × Value → H} {W : World} {base : Nat} {v : Value} {d : DataW H} {ps : List MemPlace}
    (hv : Value.okWide Try.prog W .any base 64 v) (h : DataW.Trod enc Try.prog W 0 (fun _ => true) true 64 v d ps) (hz : ∀ n ∈ d.weights Try.prog 64, n ≤ reachBytes) : ∃ a n c os, v = .slice a n c ∧ NOsIn W a n c os ∧ ∀ o, o ∈ os → LtLen o.l := by
  obtain ⟨a0, n, cap, rfl⟩ := okWide_slice Try.underlying64 hv
  obtain ⟨fuel, hf⟩ := h
  simp only [Value.cells] at hf
  rcases open_slice Try.underlying64 hf with ⟨hcs, _⟩ | ⟨a, len, cap', m, k, D, Pl, hcs, _, hl, hm, hmm, hxx, hel⟩
  · simp at hcs
    obtain ⟨rfl, rfl, rfl⟩ := hcs
    exact ⟨_, _, _, [], rfl, ⟨rfl, Nat.le_refl _, by simp [maxLen], fun i hi => by simp at hi⟩, fun o ho => by cases ho⟩
  · simp at hcs
    obtain ⟨rfl, rfl, rfl⟩ := hcs
    simp only [if_true] at hmm
    rw [cells_nop] at hel
    obtain ⟨g, p, spot⟩ := a
    have hsp : 0 < n → spot = none := fun h0 => by
      obtain ⟨cs', h1, _⟩ := hel 0 (by omega)
      obtain ⟨_, _, hc⟩ := World.cells?_some h1
      have h := hc 0 (by omega)
      rw [add_add] at h
      cases hx : cs'[0]? with
      | none => simp at hx; subst hx; simp at *
      | some v => rw [hx] at h; simpa [Addr.add] using World.cell?_spot h
    have one : ∀ i, i < n → ∃ o : NOp, ∃ g' p', (⟨g, p, spot⟩ : Addr) = ⟨g', p', none⟩ ∧ g' < W.heap.size ∧ NOAt W g' (p' + i * 4) o ∧ LtLen o.l := fun i hi => by
      obtain rfl := hsp (by omega)
      obtain ⟨cs', h1, h2⟩ := hel i (by omega)
      obtain ⟨_, hlen, hc⟩ := World.cells?_some h1
      obtain ⟨o, oa, on, oc, rfl, hL, hLL⟩ := nop_trodd h2 hlen (fun m hm => hz m (by rw [show d = _ from congrArg Prod.fst hxx]; exact slice_weights Try.underlying64 (List.mem_map.2 ⟨i, List.mem_range.2 hi, rfl⟩) hm))
      have h00 := hc 0 (by omega)
      refine ⟨o, g, p, rfl, ?_, ⟨oa, on, oc, fun j u hj => ?_, hL⟩, hLL⟩
      · rw [Addr.add_mid, Addr.add_mid] at h00
        exact block_lt_of_cell (a := ⟨g, p + i * 4 + 0, none⟩) h00
      · have hj5 : j < 4 := by
          rcases Nat.lt_or_ge j 4 with h | h
          · exact h
          · rw [List.getElem?_eq_none (by simpa [ocl] using h)] at hj; cases hj
        have := hc j hj5
        rw [Addr.add_mid, Addr.add_mid] at this
        rw [this, ← hj]
    have : Inhabited NOp := ⟨nop0⟩
    obtain ⟨f, hf⟩ := choose_lt (α := NOp) (n := n) (p := fun i o => ∃ g' p', (⟨g, p, spot⟩ : Addr) = ⟨g', p', none⟩ ∧ g' < W.heap.size ∧ NOAt W g' (p' + i * 4) o ∧ LtLen o.l) one
    refine ⟨_, n, cap, (List.range n).map f, rfl, ⟨by simp, hl, hm, fun i hi => ?_⟩, fun o ho => ?_⟩
    · simp only [List.length_map, List.length_range] at hi
      obtain ⟨g, p, e, hg, ho, _⟩ := hf i hi
      refine ⟨g, p, by rw [e], hg, ?_⟩
      have e2 : ((List.range n).map f).getD i nop0 = f i := by simp [List.getD, hi]
      rw [e2]; exact ho
    · obtain ⟨i, hi, rfl⟩ := List.mem_map.1 ho
      obtain ⟨g, p, e, hg, ho, hz⟩ := hf i (List.mem_range.1 hi)
      exact hz
end Go.Proofs.Ytajjbffppkpjpaa
