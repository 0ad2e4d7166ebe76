import Derived.Test.YtajjbffppkpjpaaBase
import Derived.ProofKit
import Derived.OpenShut
import Derived.Carry
import Derived.Deep.Matrix
/-
  Laws' rows: what a call that leaves old memory as it was owes behind it; texts and lists of texts that came in. No program in sight.
-/
namespace Go.Proofs.Ytajjbffppkpjpaa
open Go.ChangeShapes Go.WideShapes Go.ChangeAt Go.RowKit Go.Deep
section
variable {H : Type} {enc : TypeId × Value → H} {P : Program} {W W' : World}

theorem trodAll_below (hl : laidOutB P = true) (hb : Below W.heap.size W W') : ∀ (ts : List TypeId) (vs : List Value) (ds : List (DataW H)) (p : List MemPlace),
    (∀ t ∈ ts, P.readableRec t = true ∧ t < P.types.size) → DataW.TrodAll enc P W 0 (fun _ => true) true ts vs ds p → (∀ x ∈ p, x.block < W.heap.size) →
    DataW.TrodAll enc P W' 0 (fun b => decide (b < W.heap.size)) true ts vs ds p
  | [], _, _, _, _, h, _ => by
    obtain ⟨rfl, rfl, rfl⟩ := trodAll_nil h
    exact trodAll_mk0
  | t :: ts, _, _, _, ht, h, hp => by
    obtain ⟨v, vs, d, ds, a, b, rfl, rfl, rfl, h1, h2⟩ := trodAll_cons h
    have h0 := ht t (by simp)
    exact trodAll_cons_mk (Below.trod hl h0.1 h0.2 h1 hb (fun x hx => hp x (by simp [hx]))) (trodAll_below hl hb ts vs ds b (fun u hu => ht u (by simp [hu])) h2 (fun x hx => hp x (by simp [hx])))

/-- A call that returns true and leaves what was there as it was meets its law's row. -/
theorem law_post (hl : laidOutB P = true) {f : Func} {s : ChangeSpec} {tb : TypeId} {args : Array Value} {ds gs : List (DataW H)} {before : List MemPlace}
    (hW : DataW.Whole enc P f.params.toList s.vars false W args.toList ds gs before) (hb : Below W.heap.size W W')
    (hrt : f.resultTypes = #[tb]) (htb : P.underlying tb = some .bool) (hsv : s.vars = [])
    (hr : (f.params.toList.all fun t => P.readableRec t && decide (t < P.types.size)) = true)
    (h1 : (s.fn H (ds ++ gs)).results = [.lit (.bool true)]) (h2 : (s.fn H (ds ++ gs)).args = ds) (h3 : (s.fn H (ds ++ gs)).vars = []) :
    s.post enc P f false true false false W args (.bool true) W' := by
  have hW0 := hW
  obtain ⟨p, q, hA, hV, hbe, _, _⟩ := hW
  refine ⟨ds, gs, before, [], p, [], hW0, ?_, ?_, ?_, hb.frame _, fun h => by cases h⟩
  · rw [h1, hrt]; exact trodAll_mk1 (shut_bool htb _)
  · rw [h2]
    refine trodAll_below hl hb _ _ _ _ (fun t ht => ?_) hA (fun x hx => by simpa using hW0.lt x (by rw [hbe]; simp [hx]))
    simpa using List.all_eq_true.1 hr t ht
  · rw [hsv, h3]; rfl

theorem u8_of {n : Int} (h : (Lit.int .u8 n).wf = true) : n = ((UInt8.ofNat n.toNat).toNat : Int) := by
  have := bounds_u8 h
  rw [UInt8.toNat_ofNat']; omega
theorem u32_of {n : Int} (h : (Lit.int .u32 n).wf = true) : n = ((UInt32.ofNat n.toNat).toNat : Int) := by
  have := bounds_u32 h
  rw [UInt32.toNat_ofNat']; omega
theorem u16_of {n : Int} (h : (Lit.int .u16 n).wf = true) : n = ((UInt16.ofNat n.toNat).toNat : Int) := by
  have := bounds_u16 h
  rw [UInt16.toNat_ofNat']; omega
/-- Bytes out of numbers. -/
def u8s (zs : List Int) : List UInt8 := zs.map fun z => UInt8.ofNat z.toNat
theorem u8s_len (zs : List Int) : (u8s zs).length = zs.length := by simp [u8s]
theorem u8s_get (zs : List Int) (hw : ∀ n ∈ zs, (Lit.int .u8 n).wf = true) (i : Nat) (hi : i < zs.length) : Value.int .u8 (zs.getD i 0) = bv ((u8s zs).getD i 0) := by
  have h := u8_of (hw zs[i] (List.getElem_mem hi))
  simp only [List.getD, u8s, List.getElem?_map, List.getElem?_eq_getElem hi, Option.map_some, Option.getD_some]
  exact congrArg (Value.int .u8) h

/-- A text that came in. -/
structure TextIn (W : World) (a : Option Addr) (n cap : Nat) (l : List UInt8) : Prop where
  len : n = l.length
  fit : n ≤ cap
  cap : cap ≤ maxLen
  rd : RdB W a l
  old : ∀ b o, a = some ⟨b, o, none⟩ → 0 < l.length → b < W.heap.size
theorem TextIn.nil (W : World) : TextIn W none 0 0 [] := ⟨rfl, Nat.le_refl _, by simp [maxLen], RdB.nil _ _, fun _ _ e => by cases e⟩
theorem text_cells {a : Addr} {n cap : Nat} {zs : List Int} (hn : n ≤ cap) (hm : cap ≤ maxLen) (hz : zs.length = cap) (hc : ∀ i, i < cap → W.cell? (a.add i) = some (.int .u8 (zs.getD i 0))) (hw : ∀ n ∈ zs, (Lit.int .u8 n).wf = true) :
    TextIn W (some a) n cap (u8s (zs.take n)) := by
  have hl : (u8s (zs.take n)).length = n := by rw [u8s_len, List.length_take]; omega
  refine ⟨hl.symm, hn, hm, fun i hi => ?_, fun b o e h0 => ?_⟩
  · rw [List.length_map, hl] at hi
    have h0 := hc 0 (by omega)
    obtain ⟨b, off, spot⟩ := a
    have hspot : spot = none := by simpa [Addr.add] using World.cell?_spot h0
    subst hspot
    refine ⟨b, off, rfl, ?_⟩
    have h1 := hc i (by omega)
    have e : (⟨b, off, none⟩ : Addr).add i = ⟨b, off + i, none⟩ := by unfold Addr.add; split <;> simp_all
    rw [e] at h1
    rw [h1, u8s_get zs hw i (by omega)]
    simp only [List.getElem?_map, u8s, List.getD, List.map_take, List.getElem?_take]
    rw [if_pos hi]
    simp [List.getElem?_eq_getElem (show i < zs.length by omega)]
  · rw [hl] at h0
    have := hc 0 (by omega)
    simp only [Option.some.injEq] at e
    subst e
    exact block_lt_of_cell (a := ⟨b, o, none⟩) (v := .int .u8 (zs.getD 0 0)) (by simpa [Addr.add] using this)
theorem open_text {t e : TypeId} {base : Nat} {v : Value} {d : DataW H} {ps : List MemPlace} (ht : P.underlying t = some (.slice e)) (he : P.underlying e = some (.int .u8)) (hc : P.cellsOf e = 1)
    (hv : Value.okWide P W .any base t v) (h : DataW.Trod enc P W 0 (fun _ => true) true t v d ps) : ∃ a n cap l, v = .slice a n cap ∧ TextIn W a n cap l := by
  obtain ⟨a0, n, cap, rfl⟩ := okWide_slice ht hv
  obtain ⟨fuel, hf⟩ := h
  simp only [Value.cells] at hf
  rcases open_ints ht he hc hf with ⟨hcs, _⟩ | ⟨a, len, cap', zs, hcs, _, hl, hm, hz, _, hcell, hw⟩
  · simp at hcs
    obtain ⟨rfl, rfl, rfl⟩ := hcs
    exact ⟨_, _, _, [], rfl, TextIn.nil W⟩
  · simp at hcs
    obtain ⟨rfl, rfl, rfl⟩ := hcs
    simp only [if_true] at hz
    exact ⟨_, _, _, _, rfl, text_cells hl hm hz (fun i hi => hcell i (by omega)) hw⟩

/-- An array of integers that came in. -/
theorem okWide_array {t e : TypeId} {n base : Nat} {v : Value} (ht : P.underlying t = some (.array n e)) (h : Value.okWide P W .any base t v) : ∃ cs, v = .agg cs := by
  simp only [Value.okWide, ht] at h
  obtain ⟨cs, h1, _⟩ := h
  exact ⟨cs, h1⟩
theorem open_arr_ints {t e : TypeId} {n base : Nat} {k : IntKind} {v : Value} {d : DataW H} {ps : List MemPlace} (ht : P.underlying t = some (.array n e)) (he : P.underlying e = some (.int k)) (hc : P.cellsOf e = 1) (hct : P.cellsOf t = n)
    (hv : Value.okWide P W .any base t v) (h : DataW.Trod enc P W 0 (fun _ => true) true t v d ps) : ∃ zs : List Int, v = .agg (zs.map (Value.int k)).toArray ∧ zs.length = n ∧ ∀ z ∈ zs, (Lit.int k z).wf = true := by
  obtain ⟨cs, rfl⟩ := okWide_array ht hv
  obtain ⟨fuel, hf⟩ := h
  simp only [Value.cells] at hf
  obtain ⟨xs, m, _, _, hl, hxl, hel⟩ := DataW.trod_array ht hf
  rw [hct] at hl
  rw [hc] at hel
  have each : ∀ i, i < n → ∃ z : Int, cs.toList[i]? = some (.int k z) ∧ (Lit.int k z).wf = true := by
    intro i hi
    have h1 := hel i hi
    rw [List.getElem?_eq_getElem (by omega), Nat.mul_one] at h1
    obtain ⟨z, hz, _, hw⟩ := DataW.trod_int he h1
    refine ⟨z, ?_, hw⟩
    have := congrArg (·[0]?) hz
    simpa [List.getElem?_take, List.getElem?_drop] using this
  obtain ⟨f, hf'⟩ := choose_lt each
  refine ⟨(List.range n).map f, ?_, by simp, ?_⟩
  · congr 1
    apply Array.ext'
    simp only [List.map_map]
    apply List.ext_getElem?
    intro i
    by_cases hi : i < n
    · rw [(hf' i hi).1]; simp [hi]
    · rw [List.getElem?_eq_none (by omega), List.getElem?_eq_none (by simp; omega)]
  · intro z hz
    obtain ⟨i, hi, rfl⟩ := List.mem_map.1 hz
    exact (hf' i (by simpa using hi)).2
theorem barr_of (zs : List Int) (hw : ∀ z ∈ zs, (Lit.int .u8 z).wf = true) : (zs.map (Value.int .u8)).toArray = barr (u8s zs) := by
  unfold barr u8s
  rw [List.map_map]
  congr 1
  exact List.map_congr_left fun z hz => congrArg (Value.int .u8) (u8_of (hw z hz))
def u32s (zs : List Int) : List UInt32 := zs.map fun z => UInt32.ofNat z.toNat
theorem u32s_len (zs : List Int) : (u32s zs).length = zs.length := by simp [u32s]
theorem warr_of (zs : List Int) (hw : ∀ z ∈ zs, (Lit.int .u32 z).wf = true) : (zs.map (Value.int .u32)).toArray = warr (u32s zs) := by
  unfold warr u32s
  rw [List.map_map]
  congr 1
  exact List.map_congr_left fun z hz => congrArg (Value.int .u32) (u32_of (hw z hz))

/-- Texts that came in, in a row. -/
theorem open_texts {t e q : TypeId} {base : Nat} {v : Value} {d : DataW H} {ps : List MemPlace} (ht : P.underlying t = some (.slice e)) (he : P.underlying e = some (.slice q)) (hq : P.underlying q = some (.int .u8)) (ce : P.cellsOf e = 1) (cq : P.cellsOf q = 1)
    (hv : Value.okWide P W .any base t v) (h : DataW.Trod enc P W 0 (fun _ => true) true t v d ps) :
    ∃ (a : Option Addr) (n cap : Nat) (ls : List (List UInt8)), v = .slice a n cap ∧ n = ls.length ∧ n ≤ cap ∧ cap ≤ maxLen ∧ (∀ b o, a = some ⟨b, o, none⟩ → 0 < ls.length → b < W.heap.size) ∧
      ∀ i, i < ls.length → ∃ b o a' n' cap', a = some ⟨b, o, none⟩ ∧ W.cell? ⟨b, o + i, none⟩ = some (.slice a' n' cap') ∧ TextIn W a' n' cap' (ls.getD i []) := by
  obtain ⟨a0, n, cap, rfl⟩ := okWide_slice ht hv
  obtain ⟨fuel, hf⟩ := h
  simp only [Value.cells] at hf
  rcases open_int_rows ht he hq ce cq hf with ⟨hcs, _⟩ | ⟨a, len, cap', A, L, C, Z, hcs, _, hl, hm, _, hrow⟩
  · simp at hcs
    obtain ⟨rfl, rfl, rfl⟩ := hcs
    exact ⟨_, _, _, [], rfl, rfl, Nat.le_refl _, by simp [maxLen], fun _ _ e => by (cases e), fun i hi => by simp at hi⟩
  · simp at hcs
    obtain ⟨rfl, rfl, rfl⟩ := hcs
    obtain ⟨b, off, spot⟩ := a
    have hlen : ((List.range n).map fun r => u8s ((Z r).take (L r))).length = n := by simp
    have hsp : 0 < n → spot = none := fun h0 => by simpa [Addr.add] using World.cell?_spot (hrow 0 (by omega)).1
    refine ⟨_, _, _, (List.range n).map fun r => u8s ((Z r).take (L r)), rfl, hlen.symm, hl, hm, fun b' o' e h0 => ?_, fun i hi => ?_⟩
    · rw [hlen] at h0
      obtain rfl := hsp h0
      have := (hrow 0 (by omega)).1
      simp only [Option.some.injEq, Addr.mk.injEq] at e
      obtain ⟨rfl, rfl, _⟩ := e
      exact block_lt_of_cell (a := ⟨b, off, none⟩) (v := .slice (A 0) (L 0) (C 0)) (by simpa [Addr.add] using this)
    · rw [hlen] at hi
      obtain rfl := hsp (by omega)
      obtain ⟨r1, r2, r3, r4, r5, r6, r7⟩ := hrow i (by omega)
      have e : (⟨b, off, none⟩ : Addr).add i = ⟨b, off + i, none⟩ := by unfold Addr.add; split <;> simp_all
      rw [e] at r1
      refine ⟨b, off, A i, L i, C i, rfl, r1, ?_⟩
      have eg : (List.map (fun r => u8s (List.take (L r) (Z r))) (List.range n)).getD i [] = u8s ((Z i).take (L i)) := by simp [List.getD, hi]
      rw [eg]
      cases hA : A i with
      | none =>
        have hc0 := r6 hA
        have hz : Z i = [] := List.eq_nil_of_length_eq_zero (by omega)
        have hL : L i = 0 := by omega
        rw [hz, hL, hc0]
        exact TextIn.nil W
      | some a' => exact text_cells r2 r3 r4 (fun c hc => ((r7 a' hA).2 c hc)) r5
end
end Go.Proofs.Ytajjbffppkpjpaa
