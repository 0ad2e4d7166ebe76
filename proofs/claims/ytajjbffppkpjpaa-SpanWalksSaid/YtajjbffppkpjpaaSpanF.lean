import Derived.Test.YtajjbffppkpjpaaSpanS
/-
  Sets of ranges as plain Lean: what the package's functions answer.
-/
namespace Go.Proofs.Ytajjbffppkpjpaa
open Classical
def meetsP (l : List Rg) (r : Rg) : Prop := ∃ x, x ∈ l ∧ (inter x r).lo < (inter x r).hi
def covP (l : List Rg) (r : Rg) : Prop := ∃ x, x ∈ l ∧ x.lo ≤ r.lo ∧ r.hi ≤ x.hi
noncomputable def sizeR (l : List Rg) : List Rg × Int := if 64 < l.length then ([], 6) else (l, 0)
noncomputable def normR (l : List Rg) : List Rg × Int := if 64 < l.length ∨ ∃ x, x ∈ l ∧ ¬ oneP x then ([], 190) else (allP l, 0)
noncomputable def addR (l : List Rg) (r : Rg) : List Rg × Int := if ¬ (MayP l ∧ oneP r) then ([], 190) else if meetsP l r then ([], 192) else sizeR (putP l r)
noncomputable def subR (l : List Rg) (r : Rg) : List Rg × Int := if ¬ (MayP l ∧ oneP r) then ([], 190) else if ¬ covP l r then ([], 4) else sizeR (subP l r)
noncomputable def meetR (a b : List Rg) : List Rg × Int := if ¬ (MayP a ∧ MayP b) then ([], 190) else sizeR (bothP a b)
noncomputable def countR (l : List Rg) : Nat := if MayP l then count l else 0
noncomputable def takeR (l : List Rg) (n : Nat) : Rg × Int :=
  if n = 0 then (r0, 1) else if ¬ MayP l then (r0, 190) else if l.length = 0 then (r0, 4) else (if n < (l.getD 0 r0).hi - (l.getD 0 r0).lo then ⟨(l.getD 0 r0).lo, (l.getD 0 r0).lo + n⟩ else l.getD 0 r0, 0)
noncomputable def blockR (l : List Rg) (bits : Int) : Rg × Int :=
  if bits < 0 ∨ 60 < bits then (r0, 1) else if ¬ MayP l then (r0, 190) else ((blockP (2 ^ bits.toNat) l).getD r0, if blockP (2 ^ bits.toNat) l = none then 4 else 0)
noncomputable def cutR (l : List Rg) (at_ : Nat) : List Rg × List Rg := if MayP l then (belowP l at_, aboveP l at_) else ([], [])
noncomputable def ofR (first many : Nat) : Rg × Int := if many = 0 then (r0, 1) else if maxIx < first ∨ maxIx - first < many then (r0, 191) else (⟨first, first + many⟩, 0)
theorem bool_of (p : Prop) : ∃ M : Bool, M = true ↔ p := ⟨decide p, by simp⟩
theorem MayP.b64 {l : List Rg} (h : MayP l) : ∀ x, x ∈ l → x.lo < 18446744073709551616 ∧ x.hi < 18446744073709551616 := fun x hx => by
  have h1 := h.2.1 x hx
  have h2 : x.lo < x.hi := h.1.posAll x hx
  unfold maxIx at h1
  omega
theorem put_hi {l : List Rg} {r : Rg} (hl : MayP l) (hr : oneP r) : ∀ x, x ∈ putP l r → x.hi ≤ maxIx := by
  obtain ⟨a1, a2⟩ := put_ok hl.1 (show r.pos from hr.1)
  refine a1.hi_le fun i hi => ?_
  rcases (a2 i).1 hi with h | h
  · exact mem_lt hl.2.1 h
  · have := h.2; have := hr.2; omega
theorem sub_hi {l : List Rg} {r : Rg} (hl : MayP l) (hr : oneP r) : ∀ x, x ∈ subP l r → x.hi ≤ maxIx := by
  obtain ⟨a1, a2⟩ := sub_ok (show r.pos from hr.1) hl.1
  exact a1.hi_le fun i hi => mem_lt hl.2.1 ((a2 i).1 hi).1
theorem both_hi {a b : List Rg} (ha : MayP a) : ∀ x, x ∈ bothP a b → x.hi ≤ maxIx := by
  obtain ⟨a1, a2⟩ := both_sep a b
  exact a1.hi_le fun i hi => mem_lt ha.2.1 ((a2 i).1 hi).1
theorem below_hi {l : List Rg} (hl : MayP l) (at_ : Nat) : MayP (belowP l at_) := by
  obtain ⟨a1, a2, _⟩ := below_ok at_ hl.1
  exact ⟨a1, a1.hi_le fun i hi => mem_lt hl.2.1 ((a2 i).1 hi).1, Nat.le_trans (below_len l at_) hl.2.2⟩
theorem above_hi {l : List Rg} (hl : MayP l) (at_ : Nat) : MayP (aboveP l at_) := by
  obtain ⟨a1, a2, _⟩ := above_ok at_ hl.1
  exact ⟨a1, a1.hi_le fun i hi => mem_lt hl.2.1 ((a2 i).1 hi).1, Nat.le_trans (above_len l at_) hl.2.2⟩
theorem mayP_nil : MayP [] := ⟨trivial, fun x hx => (by cases hx), by simp⟩
theorem sizeR_may {k : List Rg} (hs : Sep k) (hh : ∀ x, x ∈ k → x.hi ≤ maxIx) : MayP (sizeR k).1 := by
  unfold sizeR
  by_cases h : 64 < k.length
  · rw [if_pos h]; exact mayP_nil
  · rw [if_neg h]; exact ⟨hs, hh, by show k.length ≤ 64; omega⟩
theorem addR_may (l : List Rg) (r : Rg) : MayP (addR l r).1 := by
  unfold addR
  by_cases h : MayP l ∧ oneP r
  · rw [if_neg (not_not_intro h)]
    by_cases h2 : meetsP l r
    · rw [if_pos h2]; exact mayP_nil
    · rw [if_neg h2]; exact sizeR_may (put_ok h.1.1 h.2.1).1 (put_hi h.1 h.2)
  · rw [if_pos h]; exact mayP_nil
theorem subR_may (l : List Rg) (r : Rg) : MayP (subR l r).1 := by
  unfold subR
  by_cases h : MayP l ∧ oneP r
  · rw [if_neg (not_not_intro h)]
    by_cases h2 : covP l r
    · rw [if_neg (not_not_intro h2)]; exact sizeR_may (sub_ok h.2.1 h.1.1).1 (sub_hi h.1 h.2)
    · rw [if_pos h2]; exact mayP_nil
  · rw [if_pos h]; exact mayP_nil
theorem meetR_may (a b : List Rg) : MayP (meetR a b).1 := by
  unfold meetR
  by_cases h : MayP a ∧ MayP b
  · rw [if_neg (not_not_intro h)]; exact sizeR_may (both_sep a b).1 (both_hi h.1)
  · rw [if_pos h]; exact mayP_nil
theorem allP_hi {l : List Rg} (h : ∀ x, x ∈ l → oneP x) : Sep (allP l) ∧ ∀ x, x ∈ allP l → x.hi ≤ maxIx := by
  obtain ⟨a1, a2⟩ := all_sep fun x hx => (h x hx).1
  refine ⟨a1, a1.hi_le fun i hi => ?_⟩
  obtain ⟨x, hx, q⟩ := (a2 i).1 hi
  have := (h x hx).2; have := q.2; omega
theorem put_len (l : List Rg) (r : Rg) : (putP l r).length ≤ l.length + 1 := by
  have key : ∀ (l : List Rg) (s : List Rg × Rg × List Rg), (l.foldl pstep s).1.length + (l.foldl pstep s).2.2.length ≤ s.1.length + s.2.2.length + l.length := by
    intro l
    induction l with
    | nil => intro s; simp
    | cons x l ih =>
      intro s
      have h1 := ih (pstep s x)
      have h2 : (pstep s x).1.length + (pstep s x).2.2.length ≤ s.1.length + s.2.2.length + 1 := by
        unfold pstep; split
        · simp; omega
        · split
          · simp; omega
          · simp
      simp only [List.foldl_cons, List.length_cons]
      omega
  have := key l ([], r, [])
  unfold putP
  simp at *
  omega
theorem allP_len (l : List Rg) : ∀ out : List Rg, (l.foldl putP out).length ≤ out.length + l.length := by
  induction l with
  | nil => intro out; simp
  | cons r l ih =>
    intro out
    have h1 := ih (putP out r)
    have h2 := put_len out r
    simp only [List.foldl_cons, List.length_cons] at *
    omega
theorem normR_may (l : List Rg) : MayP (normR l).1 := by
  unfold normR
  by_cases h : 64 < l.length ∨ ∃ x, x ∈ l ∧ ¬ oneP x
  · rw [if_pos h]; exact mayP_nil
  · rw [if_neg h]
    have h' : ∀ x, x ∈ l → oneP x := fun x hx => Classical.byContradiction fun q => h (.inr ⟨x, hx, q⟩)
    have hl : l.length ≤ 64 := by
      have := fun q => h (.inl q); omega
    obtain ⟨a1, a2⟩ := allP_hi h'
    exact ⟨a1, a2, by have := allP_len l []; unfold allP; simp at this ⊢; omega⟩
end Go.Proofs.Ytajjbffppkpjpaa
