import Derived.Test.YtajjbffppkpjpaaSpanQ
/-
  Sets of ranges as plain Lean: the last aligned block.
-/
namespace Go.Proofs.Ytajjbffppkpjpaa
def blk (size : Nat) (x : Rg) : Option Rg := if x.hi / size * size < size ∨ x.hi / size * size - size < x.lo then none else some ⟨x.hi / size * size - size, x.hi / size * size⟩
def blockP (size : Nat) : List Rg → Option Rg
  | [] => none
  | x :: l => (blockP size l).or (blk size x)
theorem blk_some {size : Nat} (hs : 0 < size) {x b : Rg} (h : blk size x = some b) : x.lo ≤ b.lo ∧ b.hi ≤ x.hi ∧ b.lo % size = 0 ∧ b.hi = b.lo + size ∧ b.hi = x.hi / size * size := by
  unfold blk at h
  have hq : x.hi / size * size ≤ x.hi := Nat.div_mul_le_self _ _
  split at h
  · cases h
  · rename_i hc
    simp only [Option.some.injEq] at h
    subst h
    have h1 : size ≤ x.hi / size * size := by omega
    refine ⟨by simp only; omega, hq, ?_, by simp only; omega, rfl⟩
    show (x.hi / size * size - size) % size = 0
    obtain ⟨k, hk⟩ : ∃ k, x.hi / size = k + 1 := ⟨x.hi / size - 1, by
      rcases Nat.eq_zero_or_pos (x.hi / size) with h0 | h0
      · rw [h0] at h1; omega
      · omega⟩
    rw [hk, Nat.succ_mul, Nat.add_sub_cancel]
    exact Nat.mul_mod_left _ _
theorem blk_cov {size : Nat} (hs : 0 < size) {y : Rg} {k : Nat} (h1 : y.lo ≤ k * size) (h2 : k * size + size ≤ y.hi) : ∃ b, blk size y = some b ∧ k * size ≤ b.lo := by
  have hq : (k + 1) * size ≤ y.hi / size * size := Nat.mul_le_mul_right _ ((Nat.le_div_iff_mul_le hs).2 (by rw [Nat.succ_mul]; exact h2))
  rw [Nat.succ_mul] at hq
  refine ⟨⟨y.hi / size * size - size, y.hi / size * size⟩, ?_, by simp only; omega⟩
  unfold blk
  rw [if_neg (by omega)]
theorem block_some {size : Nat} (hs : 0 < size) : ∀ {l : List Rg}, Sep l → ∀ {b : Rg}, blockP size l = some b →
    (∃ x, x ∈ l ∧ x.lo ≤ b.lo ∧ b.hi ≤ x.hi) ∧ b.lo % size = 0 ∧ b.hi = b.lo + size ∧ ∀ k y, y ∈ l → y.lo ≤ k * size → k * size + size ≤ y.hi → k * size ≤ b.lo := by
  intro l
  induction l with
  | nil => intro _ b h; cases h
  | cons x l ih =>
    intro hl b h
    have hx : x.lo < x.hi := hl.1
    unfold blockP at h
    cases hq : blockP size l with
    | some c =>
      rw [hq] at h
      simp only [Option.some_or, Option.some.injEq] at h
      subst h
      obtain ⟨⟨z, hz, z1, z2⟩, h2, h3, h4⟩ := ih hl.tail hq
      refine ⟨⟨z, List.mem_cons_of_mem _ hz, z1, z2⟩, h2, h3, fun k y hy q1 q2 => ?_⟩
      rcases List.mem_cons.1 hy with rfl | hy
      · have := hl.2.1 z hz; omega
      · exact h4 k y hy q1 q2
    | none =>
      rw [hq] at h
      simp only [Option.none_or] at h
      obtain ⟨h1, h2, h3, h4, _⟩ := blk_some hs h
      refine ⟨⟨x, List.mem_cons_self, h1, h2⟩, h3, h4, fun k y hy q1 q2 => ?_⟩
      obtain ⟨c, hc, q⟩ := blk_cov hs q1 q2
      rcases List.mem_cons.1 hy with rfl | hy
      · rw [h] at hc; simp only [Option.some.injEq] at hc; rw [hc]; exact q
      · exfalso
        have none_all : ∀ {m : List Rg}, blockP size m = none → ∀ z, z ∈ m → blk size z = none := by
          intro m
          induction m with
          | nil => intro _ z hz; cases hz
          | cons u m ih2 =>
            intro hm z hz
            unfold blockP at hm
            rw [Option.or_eq_none_iff] at hm
            rcases List.mem_cons.1 hz with rfl | hz
            · exact hm.2
            · exact ih2 hm.1 z hz
        rw [none_all hq y hy] at hc; cases hc
theorem block_none {size : Nat} (hs : 0 < size) {l : List Rg} (h : blockP size l = none) : ∀ k y, y ∈ l → ¬ (y.lo ≤ k * size ∧ k * size + size ≤ y.hi) := by
  induction l with
  | nil => intro k y hy; cases hy
  | cons x l ih =>
    unfold blockP at h
    rw [Option.or_eq_none_iff] at h
    rintro k y hy ⟨q1, q2⟩
    rcases List.mem_cons.1 hy with rfl | hy
    · obtain ⟨c, hc, _⟩ := blk_cov hs q1 q2
      rw [h.2] at hc; cases hc
    · exact ih h.1 k y hy ⟨q1, q2⟩
/-- Going down from the end: what stands at and behind a place. -/
theorem block_drop (size : Nat) (l : List Rg) (i : Nat) (h : i < l.length) : blockP size (l.drop i) = (blockP size (l.drop (i + 1))).or (blk size (l.getD i ⟨0, 0⟩)) := by
  rw [List.drop_eq_getElem_cons h]
  show (blockP size (l.drop (i + 1))).or (blk size l[i]) = _
  simp [List.getD, h]
/-! Counts. -/
theorem count_put {l : List Rg} {r : Rg} (hl : Sep l) (hr : r.pos) (hd : ∀ i, mem l i → ¬ r.has i) {B : Nat} (hB : ∀ x, x ∈ l → x.hi ≤ B) (hrB : r.hi ≤ B) : count (putP l r) = count l + (r.hi - r.lo) := by
  obtain ⟨a1, a2⟩ := put_ok hl hr
  have hr' : r.lo < r.hi := hr
  have hb : ∀ x, x ∈ putP l r → x.hi ≤ B := a1.hi_le fun i hi => by
    rcases (a2 i).1 hi with h | h
    · exact mem_lt hB h
    · have := h.2; omega
  rw [count_card a1 hb, count_card hl hB, card_congr B fun i _ => a2 i, card_or B hd, card_range]
  omega
theorem count_sub {l : List Rg} {r : Rg} (hl : Sep l) (hr : r.pos) (hc : ∀ i, r.has i → mem l i) {B : Nat} (hB : ∀ x, x ∈ l → x.hi ≤ B) (hrB : r.hi ≤ B) : count (subP l r) + (r.hi - r.lo) = count l := by
  have hd : ∀ i, mem (subP l r) i → ¬ r.has i := fun i hi => (((sub_ok hr hl).2 i).1 hi).2
  have hb : ∀ x, x ∈ subP l r → x.hi ≤ B := (sub_ok hr hl).1.hi_le fun i hi => mem_lt hB (((sub_ok hr hl).2 i).1 hi).1
  have := count_put (sub_ok hr hl).1 hr hd hb hrB
  rw [put_sub hl hr hc] at this
  omega
theorem count_cut {l : List Rg} (hl : Sep l) (at_ : Nat) {B : Nat} (hB : ∀ x, x ∈ l → x.hi ≤ B) : count (belowP l at_) + count (aboveP l at_) = count l := by
  obtain ⟨a1, a2, _⟩ := below_ok at_ hl
  obtain ⟨b1, b2, _⟩ := above_ok at_ hl
  rw [count_card a1 (a1.hi_le fun i hi => mem_lt hB ((a2 i).1 hi).1), count_card b1 (b1.hi_le fun i hi => mem_lt hB ((b2 i).1 hi).1), count_card hl hB, ← card_or B fun i h1 h2 => by have := ((a2 i).1 h1).2; have := ((b2 i).1 h2).2; omega]
  refine card_congr B fun i _ => ?_
  rw [a2, b2]
  constructor
  · rintro (h | h) <;> exact h.1
  · intro h
    by_cases q : i < at_
    · exact .inl ⟨h, q⟩
    · exact .inr ⟨h, by omega⟩
/-- A range is covered just where as many members lie in it as it has. -/
theorem covers_count {l : List Rg} {r : Rg} (hl : Sep l) (hr : r.pos) {B : Nat} (hB : ∀ x, x ∈ l → x.hi ≤ B) (hrB : r.hi ≤ B) : (∃ x, x ∈ l ∧ x.lo ≤ r.lo ∧ r.hi ≤ x.hi) ↔ count (bothP l [r]) = r.hi - r.lo := by
  obtain ⟨a1, a2⟩ := both_sep l [r]
  have hr' : r.lo < r.hi := hr
  have hb : ∀ x, x ∈ bothP l [r] → x.hi ≤ B := a1.hi_le fun i hi => mem_lt hB ((a2 i).1 hi).1
  have hcr : card r.has B = r.hi - r.lo := by rw [card_range]; omega
  rw [count_card a1 hb]
  constructor
  · intro h
    rw [← hcr]
    refine card_congr B fun i _ => ?_
    rw [a2, mem_one]
    exact ⟨fun h => h.2, fun q => ⟨covers_has h i q, q⟩⟩
  · intro h
    refine hl.connected hr fun i hi => ?_
    have := card_eq_all B (p := mem (bothP l [r])) (q := r.has) (fun i hi => (mem_one r i).1 ((a2 i).1 hi).2) (by rw [h, hcr]) i (by have := hi.2; omega) hi
    exact ((a2 i).1 this).1
theorem count_ge {l : List Rg} {r : Rg} (hl : Sep l) (hr : r.pos) {B : Nat} (hB : ∀ x, x ∈ l → x.hi ≤ B) (hrB : r.hi ≤ B) (h : ∃ x, x ∈ l ∧ x.lo ≤ r.lo ∧ r.hi ≤ x.hi) : r.hi - r.lo ≤ count l := by
  have := count_sub hl hr (covers_has h) hB hrB
  omega
end Go.Proofs.Ytajjbffppkpjpaa
