import Derived.Test.YtajjbffppkpjpaaSpanP
/-
  Sets of ranges as plain Lean: a range lies in one range of a set; how many members; lengths.
-/
namespace Go.Proofs.Ytajjbffppkpjpaa
/-- A range all of whose indices a set has lies in one of the set's ranges. -/
theorem Sep.connected : ∀ {l : List Rg}, Sep l → ∀ {r : Rg}, r.pos → (∀ i, r.has i → mem l i) → ∃ x, x ∈ l ∧ x.lo ≤ r.lo ∧ r.hi ≤ x.hi := by
  intro l
  induction l with
  | nil =>
    intro _ r hr h
    exact absurd (h r.lo ⟨Nat.le_refl _, hr⟩) (mem_nil _)
  | cons x l ih =>
    intro hl r hr h
    have hx : x.lo < x.hi := hl.1
    have hr' : r.lo < r.hi := hr
    by_cases c : r.lo ≤ x.hi
    · -- the first index lies in x, or in the gap
      have q1 : x.has r.lo := by
        rcases (mem_cons x l r.lo).1 (h r.lo ⟨Nat.le_refl _, hr'⟩) with q | q
        · exact q
        · have := hl.behind q; omega
      refine ⟨x, List.mem_cons_self, q1.1, ?_⟩
      rcases Nat.lt_or_ge x.hi r.hi with hlt | hge
      · rcases (mem_cons x l x.hi).1 (h x.hi ⟨by have := q1.2; omega, hlt⟩) with q | q
        · have := q.2; omega
        · have := hl.behind q; omega
      · exact hge
    · obtain ⟨y, hy, q⟩ := ih hl.tail hr fun i hi => by
        rcases (mem_cons x l i).1 (h i hi) with q | q
        · have := q.2; have := hi.1; omega
        · exact q
      exact ⟨y, List.mem_cons_of_mem _ hy, q⟩
theorem covers_has {l : List Rg} {r : Rg} (h : ∃ x, x ∈ l ∧ x.lo ≤ r.lo ∧ r.hi ≤ x.hi) : ∀ i, r.has i → mem l i := fun i hi => by
  obtain ⟨x, hx, h1, h2⟩ := h
  exact ⟨x, hx, by have := hi.1; omega, by have := hi.2; omega⟩
/-! How many. -/
def count (l : List Rg) : Nat := (l.map fun r => r.hi - r.lo).sum
open Classical in
noncomputable def card (p : Nat → Prop) : Nat → Nat
  | 0 => 0
  | B + 1 => card p B + if p B then 1 else 0
theorem card_congr {p q : Nat → Prop} (B : Nat) (h : ∀ i, i < B → (p i ↔ q i)) : card p B = card q B := by
  induction B with
  | zero => rfl
  | succ B ih =>
    have hB := h B (Nat.lt_succ_self B)
    simp only [card, ih fun i hi => h i (Nat.lt_succ_of_lt hi)]
    congr 1
    by_cases c : p B
    · rw [if_pos c, if_pos (hB.1 c)]
    · rw [if_neg c, if_neg fun h => c (hB.2 h)]
theorem card_or {p q : Nat → Prop} (B : Nat) (h : ∀ i, p i → ¬ q i) : card (fun i => p i ∨ q i) B = card p B + card q B := by
  induction B with
  | zero => rfl
  | succ B ih =>
    simp only [card, ih]
    by_cases c : p B
    · have := h B c
      rw [if_pos (.inl c), if_pos c, if_neg this]; omega
    · by_cases d : q B
      · rw [if_pos (.inr d), if_neg c, if_pos d]; omega
      · rw [if_neg (by simp [c, d]), if_neg c, if_neg d]; omega
theorem card_range (r : Rg) : ∀ B, card r.has B = min B r.hi - min B r.lo := by
  intro B
  induction B with
  | zero => simp [card]
  | succ B ih =>
    simp only [card, ih]
    by_cases c : r.has B
    · rw [if_pos c]; unfold Rg.has at c; omega
    · rw [if_neg c]; unfold Rg.has at c; omega
theorem card_none (p : Nat → Prop) (B : Nat) (h : ∀ i, i < B → ¬ p i) : card p B = 0 := by
  induction B with
  | zero => rfl
  | succ B ih =>
    simp only [card, ih fun i hi => h i (Nat.lt_succ_of_lt hi)]
    rw [if_neg (h B (Nat.lt_succ_self B))]
theorem count_card : ∀ {l : List Rg}, Sep l → ∀ {B : Nat}, (∀ x, x ∈ l → x.hi ≤ B) → count l = card (mem l) B := by
  intro l
  induction l with
  | nil => intro _ B _; rw [card_none]; rfl; exact fun i _ => mem_nil i
  | cons r l ih =>
    intro h B hB
    have hr : r.lo < r.hi := h.1
    have hb := hB r List.mem_cons_self
    show (r.hi - r.lo) + count l = _
    rw [ih h.tail fun x hx => hB x (List.mem_cons_of_mem _ hx)]
    have e : card (mem (r :: l)) B = card (fun i => r.has i ∨ mem l i) B := card_congr B fun i _ => mem_cons r l i
    rw [e, card_or B fun i h1 h2 => by have := h.behind h2; have := h1.2; omega, card_range]
    omega
theorem card_le (p : Nat → Prop) (B : Nat) : card p B ≤ B := by
  induction B with
  | zero => exact Nat.le_refl _
  | succ B ih => simp only [card]; split <;> omega
theorem count_le {l : List Rg} (h : Sep l) {B : Nat} (hB : ∀ x, x ∈ l → x.hi ≤ B) : count l ≤ B := by
  rw [count_card h hB]; exact card_le _ _
theorem card_mono {p q : Nat → Prop} (B : Nat) (h : ∀ i, p i → q i) : card p B ≤ card q B := by
  induction B with
  | zero => exact Nat.le_refl _
  | succ B ih =>
    simp only [card]
    by_cases c : p B
    · rw [if_pos c, if_pos (h B c)]; omega
    · rw [if_neg c]; omega
theorem card_eq_all {p q : Nat → Prop} (B : Nat) (h : ∀ i, p i → q i) (he : card p B = card q B) : ∀ i, i < B → q i → p i := by
  induction B with
  | zero => intro i hi; omega
  | succ B ih =>
    simp only [card] at he
    have hm := card_mono B h
    have key : card p B = card q B ∧ (q B → p B) := by
      by_cases c : p B
      · rw [if_pos c, if_pos (h B c)] at he; exact ⟨by omega, fun _ => c⟩
      · rw [if_neg c] at he
        by_cases d : q B
        · rw [if_pos d] at he; omega
        · rw [if_neg d] at he; exact ⟨by omega, fun h => absurd h d⟩
    intro i hi hq
    rcases Nat.lt_or_ge i B with hlt | hge
    · exact ih key.1 i hlt hq
    · obtain rfl : i = B := by omega
      exact key.2 hq
/-! Bounds and lengths. -/
theorem Sep.hi_le {l : List Rg} (h : Sep l) {B : Nat} (hm : ∀ i, mem l i → i < B) : ∀ x, x ∈ l → x.hi ≤ B := fun x hx => by
  have hp : x.lo < x.hi := h.posAll x hx
  have := hm (x.hi - 1) ⟨x, hx, by omega, by omega⟩
  omega
theorem mem_lt {l : List Rg} {B : Nat} (h : ∀ x, x ∈ l → x.hi ≤ B) {i : Nat} (hi : mem l i) : i < B := by
  obtain ⟨x, hx, h1, h2⟩ := hi
  have := h x hx
  omega
theorem mstep_len (out : List Rg) (r : Rg) : (mstep out r).length ≤ out.length + 1 := by
  unfold mstep
  split
  · simp
  · rename_i x hx
    split
    · have : out ≠ [] := by rintro rfl; simp at hx
      have := List.length_pos_iff.2 this
      simp only [List.length_append, List.length_dropLast, List.length_singleton]; omega
    · simp
theorem mfold_len (l : List Rg) : ∀ out : List Rg, (l.foldl mstep out).length ≤ out.length + l.length := by
  induction l with
  | nil => intro out; exact Nat.le_refl _
  | cons r l ih =>
    intro out
    have h1 := ih (mstep out r)
    have h2 := mstep_len out r
    simp only [List.foldl_cons, List.length_cons] at *
    omega
theorem flat_len1 (l : List Rg) (f : Rg → List Rg) (h : ∀ x, (f x).length ≤ 1) : (l.flatMap f).length ≤ l.length := by
  induction l with
  | nil => simp
  | cons x l ih =>
    have := h x
    simp only [List.flatMap_cons, List.length_append, List.length_cons]
    omega
theorem below_len (l : List Rg) (at_ : Nat) : (belowP l at_).length ≤ l.length := flat_len1 _ _ fun x => by split <;> simp
theorem above_len (l : List Rg) (at_ : Nat) : (aboveP l at_).length ≤ l.length := flat_len1 _ _ fun x => by split <;> simp
theorem pairs_one_len (l : List Rg) (r : Rg) : (pairsP l [r]).length ≤ l.length := flat_len1 _ _ fun x => by
  simp only [List.map_cons, List.map_nil, List.filter_cons, List.filter_nil]; split <;> simp
/-! Adding and taking away. -/
theorem sub_put {l : List Rg} {r : Rg} (hl : Sep l) (hr : r.pos) (hd : ∀ i, mem l i → ¬ r.has i) : subP (putP l r) r = l := by
  obtain ⟨a1, a2⟩ := put_ok hl hr
  obtain ⟨b1, b2⟩ := sub_ok hr a1
  refine b1.unique hl fun i => ?_
  rw [b2, a2]
  exact ⟨fun ⟨h, q⟩ => h.resolve_right q, fun h => ⟨.inl h, hd i h⟩⟩
theorem put_sub {l : List Rg} {r : Rg} (hl : Sep l) (hr : r.pos) (hc : ∀ i, r.has i → mem l i) : putP (subP l r) r = l := by
  obtain ⟨b1, b2⟩ := sub_ok hr hl
  obtain ⟨a1, a2⟩ := put_ok b1 hr
  refine a1.unique hl fun i => ?_
  rw [a2, b2]
  constructor
  · rintro (h | h)
    · exact h.1
    · exact hc i h
  · intro h
    by_cases q : r.has i
    · exact .inr q
    · exact .inl ⟨h, q⟩
theorem put_covers {l : List Rg} {r : Rg} (hl : Sep l) (hr : r.pos) : ∃ x, x ∈ putP l r ∧ x.lo ≤ r.lo ∧ r.hi ≤ x.hi := by
  obtain ⟨a1, a2⟩ := put_ok hl hr
  exact a1.connected hr fun i hi => (a2 i).2 (.inr hi)
/-- Norm of a set is the set. -/
theorem mfold_self {l k : List Rg} (hl : Sep l) (hk : k.Perm l) (hs : Asc k) : mfold k = l := by
  obtain ⟨a1, a2⟩ := mfold_sep hs fun x hx => hl.posAll x (hk.mem_iff.1 hx)
  exact a1.unique hl fun i => by rw [a2, mem_perm hk]
theorem mfold_perm {l k k' : List Rg} (hp : ∀ x, x ∈ l → x.pos) (hk : k.Perm l) (hs : Asc k) (hk' : k'.Perm l) (hs' : Asc k') : mfold k = mfold k' := by
  rw [norm_all hp hk hs, norm_all hp hk' hs']
end Go.Proofs.Ytajjbffppkpjpaa
