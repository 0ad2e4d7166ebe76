import Derived.Test.YtajjbffppkpjpaaSpanR
/-
  Sets of ranges as plain Lean: what May looks at, range by range.
-/
namespace Go.Proofs.Ytajjbffppkpjpaa
def r0 : Rg := ⟨0, 0⟩
def maxIx : Nat := 1152921504606846976
def oneP (r : Rg) : Prop := r.lo < r.hi ∧ r.hi ≤ maxIx
instance (r : Rg) : Decidable (oneP r) := by unfold oneP; infer_instance
/-- What one round of May looks at. -/
def stepP (l : List Rg) (i : Nat) : Prop := oneP (l.getD i r0) ∧ (0 < i → (l.getD (i - 1) r0).hi < (l.getD i r0).lo)
def MayP (l : List Rg) : Prop := Sep l ∧ (∀ x, x ∈ l → x.hi ≤ maxIx) ∧ l.length ≤ 64
theorem sep_of_steps : ∀ {l : List Rg}, (∀ i, i < l.length → (l.getD i r0).pos) → (∀ i, i + 1 < l.length → (l.getD i r0).hi < (l.getD (i + 1) r0).lo) → Sep l := by
  intro l
  induction l with
  | nil => intro _ _; trivial
  | cons r l ih =>
    intro h1 h2
    have hs : Sep l := ih (fun i hi => by simpa using h1 (i + 1) (by simpa using hi)) (fun i hi => by simpa using h2 (i + 1) (by simpa using hi))
    refine ⟨by simpa using h1 0 (by simp), fun x hx => ?_, hs⟩
    cases l with
    | nil => cases hx
    | cons y l =>
      have q : r.hi < y.lo := by simpa using h2 0 (by simp)
      rcases List.mem_cons.1 hx with rfl | hx
      · exact q
      · have q1 := hs.2.1 x hx
        have q2 : y.lo < y.hi := hs.1
        omega
theorem Sep.steps : ∀ {l : List Rg}, Sep l → (∀ i, i < l.length → (l.getD i r0).pos) ∧ ∀ i, i + 1 < l.length → (l.getD i r0).hi < (l.getD (i + 1) r0).lo := by
  intro l
  induction l with
  | nil => intro _; exact ⟨fun i hi => by simp at hi, fun i hi => by simp at hi⟩
  | cons r l ih =>
    intro h
    obtain ⟨i1, i2⟩ := ih h.tail
    refine ⟨fun i hi => ?_, fun i hi => ?_⟩
    · cases i with
      | zero => simpa using h.1
      | succ i => simpa using i1 i (by simpa using hi)
    · cases i with
      | zero =>
        cases l with
        | nil => simp at hi
        | cons y l => simpa using h.2.1 y List.mem_cons_self
      | succ i => simpa using i2 i (by simpa using hi)
theorem may_iff (l : List Rg) : MayP l ↔ (∀ i, i < l.length → stepP l i) ∧ l.length ≤ 64 := by
  constructor
  · rintro ⟨h, hm, hl⟩
    obtain ⟨i1, i2⟩ := h.steps
    refine ⟨fun i hi => ⟨⟨i1 i hi, ?_⟩, fun h0 => ?_⟩, hl⟩
    · refine hm _ ?_
      rw [List.getD, List.getElem?_eq_getElem hi]
      exact List.getElem_mem _
    · have := i2 (i - 1) (by omega)
      rwa [show i - 1 + 1 = i by omega] at this
  · rintro ⟨h, hl⟩
    refine ⟨sep_of_steps (fun i hi => (h i hi).1.1) (fun i hi => ?_), fun x hx => ?_, hl⟩
    · have := (h (i + 1) hi).2 (by omega)
      rwa [Nat.add_sub_cancel] at this
    · obtain ⟨i, hi, rfl⟩ := List.getElem_of_mem hx
      have := (h i hi).1.2
      rwa [List.getD, List.getElem?_eq_getElem hi] at this
end Go.Proofs.Ytajjbffppkpjpaa
