import Derived.WalkKit
/-
  Sets of ranges as plain Lean: membership, what a set is, and that a set is told by its members.
-/
namespace Go.Proofs.Ytajjbffppkpjpaa
structure Rg where
  lo : Nat
  hi : Nat
deriving DecidableEq
def Rg.has (r : Rg) (i : Nat) : Prop := r.lo ≤ i ∧ i < r.hi
def Rg.pos (r : Rg) : Prop := r.lo < r.hi
def mem (l : List Rg) (i : Nat) : Prop := ∃ r, r ∈ l ∧ r.has i
/-- Ranges that stand apart, in order. -/
def Sep : List Rg → Prop
  | [] => True
  | r :: l => r.pos ∧ (∀ x, x ∈ l → r.hi < x.lo) ∧ Sep l
theorem mem_nil (i : Nat) : ¬ mem [] i := fun ⟨_, h, _⟩ => by cases h
theorem mem_cons (r : Rg) (l : List Rg) (i : Nat) : mem (r :: l) i ↔ r.has i ∨ mem l i := by
  constructor
  · rintro ⟨x, hx, h⟩
    rcases List.mem_cons.1 hx with rfl | hx
    · exact .inl h
    · exact .inr ⟨x, hx, h⟩
  · rintro (h | ⟨x, hx, h⟩)
    · exact ⟨r, List.mem_cons_self, h⟩
    · exact ⟨x, List.mem_cons_of_mem _ hx, h⟩
theorem mem_append (l k : List Rg) (i : Nat) : mem (l ++ k) i ↔ mem l i ∨ mem k i := by
  constructor
  · rintro ⟨x, hx, h⟩
    rcases List.mem_append.1 hx with hx | hx
    · exact .inl ⟨x, hx, h⟩
    · exact .inr ⟨x, hx, h⟩
  · rintro (⟨x, hx, h⟩ | ⟨x, hx, h⟩)
    · exact ⟨x, List.mem_append_left _ hx, h⟩
    · exact ⟨x, List.mem_append_right _ hx, h⟩
theorem mem_one (r : Rg) (i : Nat) : mem [r] i ↔ r.has i := by
  rw [mem_cons]; exact ⟨fun h => h.resolve_right (mem_nil i), .inl⟩
theorem Sep.posAll {l : List Rg} (h : Sep l) : ∀ x, x ∈ l → x.pos := by
  induction l with
  | nil => intro x hx; cases hx
  | cons r l ih =>
    intro x hx
    rcases List.mem_cons.1 hx with rfl | hx
    · exact h.1
    · exact ih h.2.2 x hx
theorem Sep.tail {r : Rg} {l : List Rg} (h : Sep (r :: l)) : Sep l := h.2.2
/-- Members of the tail lie behind the head's end. -/
theorem Sep.behind {r : Rg} {l : List Rg} (h : Sep (r :: l)) {i : Nat} (hi : mem l i) : r.hi < i := by
  obtain ⟨x, hx, h1, _⟩ := hi
  have := h.2.1 x hx
  omega
theorem Sep.unique : ∀ {l k : List Rg}, Sep l → Sep k → (∀ i, mem l i ↔ mem k i) → l = k := by
  intro l
  induction l with
  | nil =>
    intro k _ hk h
    cases k with
    | nil => rfl
    | cons r k =>
      have h1 := hk.1
      unfold Rg.pos at h1
      exact absurd ((h r.lo).2 ⟨r, List.mem_cons_self, Nat.le_refl _, h1⟩) (mem_nil _)
  | cons r l ih =>
    intro k hl hk h
    cases k with
    | nil =>
      have h1 := hl.1
      unfold Rg.pos at h1
      exact absurd ((h r.lo).1 ⟨r, List.mem_cons_self, Nat.le_refl _, h1⟩) (mem_nil _)
    | cons s k =>
      have p1 : r.lo < r.hi := hl.1
      have p2 : s.lo < s.hi := hk.1
      have a1 : s.lo ≤ r.lo := by
        rcases (mem_cons s k r.lo).1 ((h r.lo).1 ⟨r, List.mem_cons_self, Nat.le_refl _, p1⟩) with h1 | h1
        · exact h1.1
        · have := hk.behind h1; omega
      have a2 : r.lo ≤ s.lo := by
        rcases (mem_cons r l s.lo).1 ((h s.lo).2 ⟨s, List.mem_cons_self, Nat.le_refl _, p2⟩) with h1 | h1
        · exact h1.1
        · have := hl.behind h1; omega
      have e1 : r.lo = s.lo := by omega
      have b1 : r.hi ≤ s.hi := by
        rcases Nat.lt_or_ge s.hi r.hi with hlt | hge
        · rcases (mem_cons s k s.hi).1 ((h s.hi).1 ⟨r, List.mem_cons_self, by omega, hlt⟩) with h1 | h1
          · have := h1.2; omega
          · have := hk.behind h1; omega
        · exact hge
      have b2 : s.hi ≤ r.hi := by
        rcases Nat.lt_or_ge r.hi s.hi with hlt | hge
        · rcases (mem_cons r l r.hi).1 ((h r.hi).2 ⟨s, List.mem_cons_self, by omega, hlt⟩) with h1 | h1
          · have := h1.2; omega
          · have := hl.behind h1; omega
        · exact hge
      have e : r = s := by cases r; cases s; simp at *; omega
      subst e
      congr 1
      refine ih hl.tail hk.tail fun i => ?_
      constructor
      · intro hi
        rcases (mem_cons r k i).1 ((h i).1 ((mem_cons r l i).2 (.inr hi))) with h1 | h1
        · have := hl.behind hi; have := h1.2; omega
        · exact h1
      · intro hi
        rcases (mem_cons r l i).1 ((h i).2 ((mem_cons r k i).2 (.inr hi))) with h1 | h1
        · have := hk.behind hi; have := h1.2; omega
        · exact h1
theorem Sep.append {l k : List Rg} (h : Sep l) (h' : Sep k) (hb : ∀ x, x ∈ l → ∀ y, y ∈ k → x.hi < y.lo) : Sep (l ++ k) := by
  induction l with
  | nil => exact h'
  | cons r l ih =>
    refine ⟨h.1, fun x hx => ?_, ih h.tail fun x hx y hy => hb x (List.mem_cons_of_mem _ hx) y hy⟩
    rcases List.mem_append.1 hx with hx | hx
    · exact h.2.1 x hx
    · exact hb r List.mem_cons_self x hx
theorem Sep.filter {l : List Rg} (h : Sep l) (p : Rg → Bool) : Sep (l.filter p) := by
  induction l with
  | nil => exact trivial
  | cons r l ih =>
    rw [List.filter_cons]
    split
    · exact ⟨h.1, fun x hx => h.2.1 x (List.mem_filter.1 hx).1, ih h.tail⟩
    · exact ih h.tail
/-! merged: over ranges in order, the last one grows or another begins. -/
def mstep (out : List Rg) (r : Rg) : List Rg :=
  match out.getLast? with
  | none => [r]
  | some x => if r.lo ≤ x.hi then out.dropLast ++ [⟨x.lo, max x.hi r.hi⟩] else out ++ [r]
def mfold (l : List Rg) : List Rg := l.foldl mstep []
theorem Sep.snoc_inv {l : List Rg} {x : Rg} (h : Sep (l ++ [x])) : Sep l ∧ x.pos ∧ ∀ y, y ∈ l → y.hi < x.lo := by
  induction l with
  | nil => exact ⟨trivial, h.1, fun y hy => by cases hy⟩
  | cons r l ih =>
    obtain ⟨i1, i2, i3⟩ := ih h.2.2
    refine ⟨⟨h.1, fun y hy => h.2.1 y (List.mem_append_left _ hy), i1⟩, i2, fun y hy => ?_⟩
    rcases List.mem_cons.1 hy with rfl | hy
    · exact h.2.1 x (by simp)
    · exact i3 y hy
theorem sep_one {r : Rg} (h : r.pos) : Sep [r] := ⟨h, fun x hx => (by cases hx), trivial⟩
theorem mstep_ok {out : List Rg} {r : Rg} (h : Sep out) (hr : r.pos) (hlo : ∀ x, x ∈ out → x.lo ≤ r.lo) : Sep (mstep out r) ∧ (∀ i, mem (mstep out r) i ↔ mem out i ∨ r.has i) ∧ (∀ x, x ∈ mstep out r → x.lo ≤ r.lo) := by
  unfold mstep
  rcases List.eq_nil_or_concat out with rfl | ⟨l, x, rfl⟩
  · refine ⟨sep_one hr, fun i => ?_, fun x hx => ?_⟩
    · show mem [r] i ↔ _
      rw [mem_one]
      exact ⟨.inr, fun h => h.resolve_left (mem_nil i)⟩
    · simp at hx; subst hx; exact Nat.le_refl _
  · simp only [List.concat_eq_append, List.getLast?_append, List.getLast?_singleton, Option.some_or, List.dropLast_concat] at *
    obtain ⟨h1, h2, h3⟩ := h.snoc_inv
    have hx := hlo x (by simp)
    unfold Rg.pos at *
    by_cases hc : r.lo ≤ x.hi
    · rw [if_pos hc]
      refine ⟨h1.append (sep_one (by show x.lo < max x.hi r.hi; omega)) fun y hy z hz => by simp at hz; subst hz; exact h3 y hy, fun i => ?_, fun y hy => ?_⟩
      · rw [mem_append, mem_append, mem_one, mem_one]
        unfold Rg.has
        simp only
        constructor
        · rintro (h | h)
          · exact .inl (.inl h)
          · by_cases q : i < x.hi
            · exact .inl (.inr ⟨h.1, q⟩)
            · exact .inr ⟨by omega, by omega⟩
        · rintro ((h | h) | h)
          · exact .inl h
          · exact .inr ⟨h.1, by omega⟩
          · exact .inr ⟨by omega, by omega⟩
      · rcases List.mem_append.1 hy with hy | hy
        · exact hlo y (List.mem_append_left _ hy)
        · simp at hy; subst hy; exact hx
    · rw [if_neg hc]
      refine ⟨h.append (sep_one hr) fun y hy z hz => ?_, fun i => ?_, fun y hy => ?_⟩
      · simp at hz; subst hz
        rcases List.mem_append.1 hy with hy | hy
        · have := h3 y hy; omega
        · simp at hy; subst hy; omega
      · rw [mem_append, mem_one]
      · rcases List.mem_append.1 hy with hy | hy
        · exact hlo y hy
        · simp at hy; subst hy; exact Nat.le_refl _
def Asc (l : List Rg) : Prop := l.Pairwise fun a b => a.lo ≤ b.lo
theorem mfold_ok {l : List Rg} (hs : Asc l) (hp : ∀ x, x ∈ l → x.pos) : ∀ {out : List Rg}, Sep out → (∀ x, x ∈ out → ∀ y, y ∈ l → x.lo ≤ y.lo) → Sep (l.foldl mstep out) ∧ ∀ i, mem (l.foldl mstep out) i ↔ mem out i ∨ mem l i := by
  induction l with
  | nil => intro out h _; exact ⟨h, fun i => ⟨.inl, fun h => h.resolve_right (mem_nil i)⟩⟩
  | cons r l ih =>
    intro out h hb
    have hs' := List.pairwise_cons.1 hs
    obtain ⟨m1, m2, m3⟩ := mstep_ok h (hp r List.mem_cons_self) fun x hx => hb x hx r List.mem_cons_self
    obtain ⟨n1, n2⟩ := ih hs'.2 (fun x hx => hp x (List.mem_cons_of_mem _ hx)) m1 fun x hx y hy => Nat.le_trans (m3 x hx) (hs'.1 y hy)
    refine ⟨n1, fun i => ?_⟩
    rw [List.foldl_cons, n2, m2, mem_cons, or_assoc]
theorem mfold_sep {l : List Rg} (hs : Asc l) (hp : ∀ x, x ∈ l → x.pos) : Sep (mfold l) ∧ ∀ i, mem (mfold l) i ↔ mem l i := by
  obtain ⟨h1, h2⟩ := mfold_ok hs hp (out := []) trivial fun x hx => by cases hx
  exact ⟨h1, fun i => (h2 i).trans ⟨fun h => h.resolve_left (mem_nil i), .inr⟩⟩
theorem mem_perm {l k : List Rg} (h : l.Perm k) (i : Nat) : mem l i ↔ mem k i :=
  ⟨fun ⟨x, hx, q⟩ => ⟨x, h.mem_iff.1 hx, q⟩, fun ⟨x, hx, q⟩ => ⟨x, h.mem_iff.2 hx, q⟩⟩
/-! put: a range more, however it lies. -/
def pstep (s : List Rg × Rg × List Rg) (x : Rg) : List Rg × Rg × List Rg :=
  if x.hi < s.2.1.lo then (s.1 ++ [x], s.2.1, s.2.2) else if s.2.1.hi < x.lo then (s.1, s.2.1, s.2.2 ++ [x]) else (s.1, ⟨min s.2.1.lo x.lo, max s.2.1.hi x.hi⟩, s.2.2)
def putP (l : List Rg) (r : Rg) : List Rg := (l.foldl pstep ([], r, [])).1 ++ [(l.foldl pstep ([], r, [])).2.1] ++ (l.foldl pstep ([], r, [])).2.2
structure PutOk (s : List Rg × Rg × List Rg) (l : List Rg) : Prop where
  b : Sep s.1
  r : s.2.1.pos
  a : Sep s.2.2
  br : ∀ x, x ∈ s.1 → x.hi < s.2.1.lo
  ra : ∀ x, x ∈ s.2.2 → s.2.1.hi < x.lo
  nb : ∀ x, x ∈ s.1 → ∀ y, y ∈ l → x.hi < y.lo
  na : ∀ x, x ∈ s.2.2 → ∀ y, y ∈ l → x.hi < y.lo
theorem pstep_ok {s : List Rg × Rg × List Rg} {x : Rg} {l : List Rg} (h : PutOk s (x :: l)) (hl : Sep (x :: l)) :
    PutOk (pstep s x) l ∧ ∀ i, (mem (pstep s x).1 i ∨ (pstep s x).2.1.has i ∨ mem (pstep s x).2.2 i) ↔ (mem s.1 i ∨ s.2.1.has i ∨ mem s.2.2 i) ∨ x.has i := by
  obtain ⟨bl, r, ab⟩ := s
  obtain ⟨h1, h2, h3, h4, h5, h6, h7⟩ := h
  have hx := hl.1
  unfold Rg.pos at *
  simp only at h1 h2 h3 h4 h5 h6 h7
  unfold pstep
  simp only
  by_cases c1 : x.hi < r.lo
  · rw [if_pos c1]
    refine ⟨⟨h1.append (sep_one hx) (fun y hy z hz => by simp at hz; subst hz; exact h6 y hy z List.mem_cons_self), h2, h3, fun y hy => ?_, h5, fun y hy z hz => ?_, fun y hy z hz => h7 y hy z (List.mem_cons_of_mem _ hz)⟩, fun i => ?_⟩
    · rcases List.mem_append.1 hy with hy | hy
      · exact h4 y hy
      · simp at hy; subst hy; exact c1
    · rcases List.mem_append.1 hy with hy | hy
      · exact h6 y hy z (List.mem_cons_of_mem _ hz)
      · simp at hy; subst hy; exact hl.2.1 z hz
    · simp only [mem_append, mem_one]
      constructor
      · rintro ((h | h) | h | h)
        · exact .inl (.inl h)
        · exact .inr h
        · exact .inl (.inr (.inl h))
        · exact .inl (.inr (.inr h))
      · rintro ((h | h | h) | h)
        · exact .inl (.inl h)
        · exact .inr (.inl h)
        · exact .inr (.inr h)
        · exact .inl (.inr h)
  · rw [if_neg c1]
    by_cases c2 : r.hi < x.lo
    · rw [if_pos c2]
      refine ⟨⟨h1, h2, h3.append (sep_one hx) (fun y hy z hz => by simp at hz; subst hz; exact h7 y hy z List.mem_cons_self), h4, fun y hy => ?_, fun y hy z hz => h6 y hy z (List.mem_cons_of_mem _ hz), fun y hy z hz => ?_⟩, fun i => ?_⟩
      · rcases List.mem_append.1 hy with hy | hy
        · exact h5 y hy
        · simp at hy; subst hy; exact c2
      · rcases List.mem_append.1 hy with hy | hy
        · exact h7 y hy z (List.mem_cons_of_mem _ hz)
        · simp at hy; subst hy; exact hl.2.1 z hz
      · simp only [mem_append, mem_one]
        constructor
        · rintro (h | h | h | h)
          · exact .inl (.inl h)
          · exact .inl (.inr (.inl h))
          · exact .inl (.inr (.inr h))
          · exact .inr h
        · rintro ((h | h | h) | h)
          · exact .inl h
          · exact .inr (.inl h)
          · exact .inr (.inr (.inl h))
          · exact .inr (.inr (.inr h))
    · rw [if_neg c2]
      have hab : ab = [] := by
        cases ab with
        | nil => rfl
        | cons y t =>
          have q1 := h5 y List.mem_cons_self
          have q2 := h7 y List.mem_cons_self x List.mem_cons_self
          have q3 : y.lo < y.hi := h3.1
          omega
      subst hab
      refine ⟨⟨h1, by show min r.lo x.lo < max r.hi x.hi; omega, trivial, fun y hy => ?_, fun y hy => (by cases hy), fun y hy z hz => h6 y hy z (List.mem_cons_of_mem _ hz), fun y hy => (by cases hy)⟩, fun i => ?_⟩
      · have q1 := h4 y hy
        have q2 := h6 y hy x List.mem_cons_self
        show y.hi < min r.lo x.lo
        omega
      · have e : (⟨min r.lo x.lo, max r.hi x.hi⟩ : Rg).has i ↔ r.has i ∨ x.has i := by
          unfold Rg.has
          simp only
          constructor
          · intro h
            by_cases q : r.lo ≤ i ∧ i < r.hi
            · exact .inl q
            · exact .inr (by omega)
          · rintro (h | h) <;> omega
        simp only [e]
        constructor
        · rintro (h | (h | h) | h)
          · exact .inl (.inl h)
          · exact .inl (.inr (.inl h))
          · exact .inr h
          · exact .inl (.inr (.inr h))
        · rintro ((h | h | h) | h)
          · exact .inl h
          · exact .inr (.inl (.inl h))
          · exact .inr (.inr h)
          · exact .inr (.inl (.inr h))
theorem pfold_ok {l : List Rg} : ∀ {s : List Rg × Rg × List Rg}, PutOk s l → Sep l →
    PutOk (l.foldl pstep s) [] ∧ ∀ i, (mem (l.foldl pstep s).1 i ∨ (l.foldl pstep s).2.1.has i ∨ mem (l.foldl pstep s).2.2 i) ↔ (mem s.1 i ∨ s.2.1.has i ∨ mem s.2.2 i) ∨ mem l i := by
  induction l with
  | nil => intro s h _; exact ⟨h, fun i => ⟨.inl, fun h => h.resolve_right (mem_nil i)⟩⟩
  | cons x l ih =>
    intro s h hl
    obtain ⟨m1, m2⟩ := pstep_ok h hl
    obtain ⟨n1, n2⟩ := ih m1 hl.tail
    refine ⟨n1, fun i => ?_⟩
    rw [List.foldl_cons, n2, m2, mem_cons, or_assoc]
theorem put_ok {l : List Rg} {r : Rg} (hl : Sep l) (hr : r.pos) : Sep (putP l r) ∧ ∀ i, mem (putP l r) i ↔ mem l i ∨ r.has i := by
  obtain ⟨h, hm⟩ := pfold_ok (s := ([], r, [])) ⟨trivial, hr, trivial, fun x hx => (by cases hx), fun x hx => (by cases hx), fun x hx => (by cases hx), fun x hx => (by cases hx)⟩ hl
  unfold putP
  refine ⟨(h.b.append (sep_one h.r) fun x hx y hy => by simp at hy; subst hy; exact h.br x hx).append h.a fun x hx y hy => ?_, fun i => ?_⟩
  · rcases List.mem_append.1 hx with hx | hx
    · have q1 := h.br x hx
      have q2 := h.ra y hy
      have q3 := h.r
      unfold Rg.pos at q3
      omega
    · simp at hx; subst hx; exact h.ra y hy
  · rw [mem_append, mem_append, mem_one, or_assoc, hm]
    constructor
    · rintro ((h | h | h) | h)
      · exact absurd h (mem_nil i)
      · exact .inr h
      · exact absurd h (mem_nil i)
      · exact .inl h
    · rintro (h | h)
      · exact .inr h
      · exact .inl (.inr (.inl h))
/-! All: the set of all ranges of a list. -/
def allP (l : List Rg) : List Rg := l.foldl putP []
theorem all_ok {l : List Rg} (hp : ∀ x, x ∈ l → x.pos) : ∀ {out : List Rg}, Sep out → Sep (l.foldl putP out) ∧ ∀ i, mem (l.foldl putP out) i ↔ mem out i ∨ mem l i := by
  induction l with
  | nil => intro out h; exact ⟨h, fun i => ⟨.inl, fun h => h.resolve_right (mem_nil i)⟩⟩
  | cons r l ih =>
    intro out h
    obtain ⟨m1, m2⟩ := put_ok h (hp r List.mem_cons_self)
    obtain ⟨n1, n2⟩ := ih (fun x hx => hp x (List.mem_cons_of_mem _ hx)) m1
    refine ⟨n1, fun i => ?_⟩
    rw [List.foldl_cons, n2, m2, mem_cons, or_assoc]
theorem all_sep {l : List Rg} (hp : ∀ x, x ∈ l → x.pos) : Sep (allP l) ∧ ∀ i, mem (allP l) i ↔ mem l i := by
  obtain ⟨h1, h2⟩ := all_ok hp (out := []) trivial
  exact ⟨h1, fun i => (h2 i).trans ⟨fun h => h.resolve_left (mem_nil i), .inr⟩⟩
/-- Norm is All. -/
theorem norm_all {l k : List Rg} (hp : ∀ x, x ∈ l → x.pos) (hk : k.Perm l) (hs : Asc k) : mfold k = allP l := by
  have hpk : ∀ x, x ∈ k → x.pos := fun x hx => hp x (hk.mem_iff.1 hx)
  obtain ⟨a1, a2⟩ := mfold_sep hs hpk
  obtain ⟨b1, b2⟩ := all_sep hp
  exact a1.unique b1 fun i => by rw [a2, b2, mem_perm hk]
/-! What two lists have. -/
def inter (x y : Rg) : Rg := ⟨max x.lo y.lo, min x.hi y.hi⟩
theorem inter_has (x y : Rg) (i : Nat) : (inter x y).has i ↔ x.has i ∧ y.has i := by
  unfold inter Rg.has; simp only; omega
def addP (out : List Rg) (r : Rg) : List Rg := if r.lo < r.hi then putP out r else out
theorem add_ok {out : List Rg} (h : Sep out) (r : Rg) : Sep (addP out r) ∧ ∀ i, mem (addP out r) i ↔ mem out i ∨ r.has i := by
  unfold addP
  by_cases c : r.lo < r.hi
  · rw [if_pos c]; exact put_ok h c
  · rw [if_neg c]
    refine ⟨h, fun i => ⟨.inl, fun q => q.resolve_right fun q => ?_⟩⟩
    unfold Rg.has at q; omega
def rowP (x : Rg) (b : List Rg) (out : List Rg) : List Rg := b.foldl (fun out y => addP out (inter x y)) out
theorem row_ok (x : Rg) : ∀ (b : List Rg) {out : List Rg}, Sep out → Sep (rowP x b out) ∧ ∀ i, mem (rowP x b out) i ↔ mem out i ∨ (x.has i ∧ mem b i) := by
  intro b
  induction b with
  | nil => intro out h; exact ⟨h, fun i => ⟨.inl, fun q => q.resolve_right fun q => mem_nil i q.2⟩⟩
  | cons y b ih =>
    intro out h
    obtain ⟨m1, m2⟩ := add_ok h (inter x y)
    obtain ⟨n1, n2⟩ := ih m1
    refine ⟨n1, fun i => ?_⟩
    show mem (rowP x b (addP out (inter x y))) i ↔ _
    rw [n2, m2, inter_has, mem_cons]
    constructor
    · rintro ((h | h) | h)
      · exact .inl h
      · exact .inr ⟨h.1, .inl h.2⟩
      · exact .inr ⟨h.1, .inr h.2⟩
    · rintro (h | ⟨h, q | q⟩)
      · exact .inl (.inl h)
      · exact .inl (.inr ⟨h, q⟩)
      · exact .inr ⟨h, q⟩
def bothP (a b : List Rg) : List Rg := a.foldl (fun out x => rowP x b out) []
theorem both_ok (b : List Rg) : ∀ (a : List Rg) {out : List Rg}, Sep out → Sep (a.foldl (fun out x => rowP x b out) out) ∧ ∀ i, mem (a.foldl (fun out x => rowP x b out) out) i ↔ mem out i ∨ (mem a i ∧ mem b i) := by
  intro a
  induction a with
  | nil => intro out h; exact ⟨h, fun i => ⟨.inl, fun q => q.resolve_right fun q => mem_nil i q.1⟩⟩
  | cons x a ih =>
    intro out h
    obtain ⟨m1, m2⟩ := row_ok x b h
    obtain ⟨n1, n2⟩ := ih m1
    refine ⟨n1, fun i => ?_⟩
    rw [List.foldl_cons, n2, m2, mem_cons]
    constructor
    · rintro ((h | h) | h)
      · exact .inl h
      · exact .inr ⟨.inl h.1, h.2⟩
      · exact .inr ⟨.inr h.1, h.2⟩
    · rintro (h | ⟨h | h, q⟩)
      · exact .inl (.inl h)
      · exact .inl (.inr ⟨h, q⟩)
      · exact .inr ⟨h, q⟩
theorem both_sep (a b : List Rg) : Sep (bothP a b) ∧ ∀ i, mem (bothP a b) i ↔ mem a i ∧ mem b i := by
  obtain ⟨h1, h2⟩ := both_ok b a (out := []) trivial
  exact ⟨h1, fun i => (h2 i).trans ⟨fun h => h.resolve_left (mem_nil i), .inr⟩⟩
/-- All the meetings of two lists' ranges, one behind the other. -/
def pairsP (a b : List Rg) : List Rg := a.flatMap fun x => (b.map (inter x)).filter fun r => decide (r.lo < r.hi)
theorem pairs_mem (a b : List Rg) (i : Nat) : mem (pairsP a b) i ↔ mem a i ∧ mem b i := by
  unfold pairsP
  constructor
  · rintro ⟨r, hr, h⟩
    obtain ⟨x, hx, hr⟩ := List.mem_flatMap.1 hr
    obtain ⟨y, hy, rfl⟩ := List.mem_map.1 (List.mem_filter.1 hr).1
    rw [inter_has] at h
    exact ⟨⟨x, hx, h.1⟩, ⟨y, hy, h.2⟩⟩
  · rintro ⟨⟨x, hx, h1⟩, ⟨y, hy, h2⟩⟩
    refine ⟨inter x y, List.mem_flatMap.2 ⟨x, hx, List.mem_filter.2 ⟨List.mem_map.2 ⟨y, hy, rfl⟩, ?_⟩⟩, (inter_has x y i).2 ⟨h1, h2⟩⟩
    have h := (inter_has x y i).2 ⟨h1, h2⟩
    unfold Rg.has at h
    simp only [decide_eq_true_eq]; omega
theorem pairs_pos (a b : List Rg) : ∀ x, x ∈ pairsP a b → x.pos := fun r hr => by
  obtain ⟨x, hx, hr⟩ := List.mem_flatMap.1 hr
  show r.lo < r.hi
  simpa using (List.mem_filter.1 hr).2
theorem meet_both {a b k : List Rg} (hk : k.Perm (pairsP a b)) (hs : Asc k) : mfold k = bothP a b := by
  have hpk : ∀ x, x ∈ k → x.pos := fun x hx => pairs_pos a b x (hk.mem_iff.1 hx)
  obtain ⟨a1, a2⟩ := mfold_sep hs hpk
  obtain ⟨b1, b2⟩ := both_sep a b
  exact a1.unique b1 fun i => by rw [a2, b2, mem_perm hk, pairs_mem]
/-- Add is put. -/
theorem add_put {l k : List Rg} {r : Rg} (hl : Sep l) (hr : r.pos) (hk : k.Perm (l ++ [r])) (hs : Asc k) : mfold k = putP l r := by
  have hpk : ∀ x, x ∈ k → x.pos := fun x hx => by
    rcases List.mem_append.1 (hk.mem_iff.1 hx) with h | h
    · exact hl.posAll x h
    · simp at h; subst h; exact hr
  obtain ⟨a1, a2⟩ := mfold_sep hs hpk
  obtain ⟨b1, b2⟩ := put_ok hl hr
  exact a1.unique b1 fun i => by rw [a2, b2, mem_perm hk, mem_append, mem_one]
/-! A set without a range. -/
def cutP (r x : Rg) : List Rg := if max x.lo r.lo < min x.hi r.hi then (if x.lo < r.lo then [⟨x.lo, r.lo⟩] else []) ++ (if r.hi < x.hi then [⟨r.hi, x.hi⟩] else []) else [x]
def subP (l : List Rg) (r : Rg) : List Rg := l.flatMap (cutP r)
theorem cut_in {r x y : Rg} (hx : x.pos) (hy : y ∈ cutP r x) : y.pos ∧ x.lo ≤ y.lo ∧ y.hi ≤ x.hi := by
  unfold cutP at hy
  unfold Rg.pos at *
  split at hy
  · rcases List.mem_append.1 hy with h | h
    · split at h
      · simp at h; subst h; simp only; omega
      · cases h
    · split at h
      · simp at h; subst h; simp only; omega
      · cases h
  · simp at hy; subst hy; omega
theorem cut_sep {r x : Rg} (hr : r.pos) (hx : x.pos) : Sep (cutP r x) := by
  unfold cutP
  unfold Rg.pos at *
  split
  · refine Sep.append ?_ ?_ ?_
    · split
      · exact sep_one (by show x.lo < r.lo; omega)
      · trivial
    · split
      · exact sep_one (by show r.hi < x.hi; omega)
      · trivial
    · intro a ha b hb
      split at ha
      · split at hb
        · simp at ha hb; subst ha hb; exact hr
        · cases hb
      · cases ha
  · exact sep_one hx
theorem cut_mem {r x : Rg} (i : Nat) : mem (cutP r x) i ↔ x.has i ∧ ¬ r.has i := by
  unfold cutP
  by_cases c : max x.lo r.lo < min x.hi r.hi
  · rw [if_pos c, mem_append]
    by_cases c1 : x.lo < r.lo
    · by_cases c2 : r.hi < x.hi
      · rw [if_pos c1, if_pos c2, mem_one, mem_one]; unfold Rg.has; simp only; omega
      · rw [if_pos c1, if_neg c2, mem_one]
        constructor
        · rintro (h | h)
          · unfold Rg.has at *; simp only at h; omega
          · exact absurd h (mem_nil i)
        · intro h; refine .inl ?_; unfold Rg.has at *; simp only; omega
    · by_cases c2 : r.hi < x.hi
      · rw [if_neg c1, if_pos c2, mem_one]
        constructor
        · rintro (h | h)
          · exact absurd h (mem_nil i)
          · unfold Rg.has at *; simp only at h; omega
        · intro h; refine .inr ?_; unfold Rg.has at *; simp only; omega
      · rw [if_neg c1, if_neg c2]
        constructor
        · rintro (h | h) <;> exact absurd h (mem_nil i)
        · intro h; unfold Rg.has at h; omega
  · rw [if_neg c, mem_one]
    unfold Rg.has; omega
theorem sub_ok {r : Rg} (hr : r.pos) : ∀ {l : List Rg}, Sep l → Sep (subP l r) ∧ ∀ i, mem (subP l r) i ↔ mem l i ∧ ¬ r.has i := by
  intro l
  induction l with
  | nil => intro _; exact ⟨trivial, fun i => ⟨fun h => absurd h (mem_nil i), fun h => absurd h.1 (mem_nil i)⟩⟩
  | cons x l ih =>
    intro h
    obtain ⟨m1, m2⟩ := ih h.tail
    show Sep (cutP r x ++ subP l r) ∧ _
    refine ⟨(cut_sep hr h.1).append m1 fun a ha b hb => ?_, fun i => ?_⟩
    · obtain ⟨y, hy, hb⟩ := List.mem_flatMap.1 hb
      have q1 := (cut_in h.1 ha).2.2
      have q2 := (cut_in (h.tail.posAll y hy) hb).2.1
      have q3 := h.2.1 y hy
      omega
    · show mem (cutP r x ++ subP l r) i ↔ _
      rw [mem_append, cut_mem, m2, mem_cons]
      constructor
      · rintro (h | h)
        · exact ⟨.inl h.1, h.2⟩
        · exact ⟨.inr h.1, h.2⟩
      · rintro ⟨h | h, q⟩
        · exact .inl ⟨h, q⟩
        · exact .inr ⟨h, q⟩
/-- The document's way: what a set has in common with what lies on both sides. -/
def lessP (l : List Rg) (r : Rg) : List Rg := bothP l [⟨0, r.lo⟩, ⟨r.hi, 18446744073709551615⟩]
theorem sub_less {l : List Rg} {r : Rg} (hl : Sep l) (hr : r.pos) (hm : ∀ x, x ∈ l → x.hi ≤ 18446744073709551615) : subP l r = lessP l r := by
  obtain ⟨a1, a2⟩ := sub_ok hr hl
  obtain ⟨b1, b2⟩ := both_sep l [⟨0, r.lo⟩, ⟨r.hi, 18446744073709551615⟩]
  refine a1.unique b1 fun i => ?_
  rw [a2, show mem (lessP l r) i ↔ _ from b2 i, mem_cons, mem_one]
  constructor
  · rintro ⟨⟨x, hx, h⟩, q⟩
    refine ⟨⟨x, hx, h⟩, ?_⟩
    have := hm x hx
    unfold Rg.has at *
    simp only; omega
  · rintro ⟨h, q⟩
    refine ⟨h, ?_⟩
    unfold Rg.pos at hr
    unfold Rg.has at *
    simp only at q; omega
/-! Both sides of a place. -/
def belowP (l : List Rg) (at_ : Nat) : List Rg := l.flatMap fun x => if x.lo < at_ then [⟨x.lo, min x.hi at_⟩] else []
def aboveP (l : List Rg) (at_ : Nat) : List Rg := l.flatMap fun x => if at_ < x.hi then [⟨max x.lo at_, x.hi⟩] else []
theorem below_ok (at_ : Nat) : ∀ {l : List Rg}, Sep l → Sep (belowP l at_) ∧ (∀ i, mem (belowP l at_) i ↔ mem l i ∧ i < at_) ∧ ∀ y, y ∈ belowP l at_ → ∃ x, x ∈ l ∧ x.lo ≤ y.lo ∧ y.hi ≤ x.hi := by
  intro l
  induction l with
  | nil => intro _; exact ⟨trivial, fun i => ⟨fun h => absurd h (mem_nil i), fun h => absurd h.1 (mem_nil i)⟩, fun y hy => by cases hy⟩
  | cons x l ih =>
    intro h
    obtain ⟨m1, m2, m3⟩ := ih h.tail
    have hx : x.lo < x.hi := h.1
    show Sep ((if x.lo < at_ then [⟨x.lo, min x.hi at_⟩] else []) ++ belowP l at_) ∧ (∀ i, mem ((if x.lo < at_ then [⟨x.lo, min x.hi at_⟩] else []) ++ belowP l at_) i ↔ _) ∧ ∀ y, y ∈ (if x.lo < at_ then [⟨x.lo, min x.hi at_⟩] else []) ++ belowP l at_ → _
    by_cases c : x.lo < at_
    · rw [if_pos c]
      refine ⟨(sep_one (by show x.lo < min x.hi at_; omega)).append m1 fun a ha b hb => ?_, fun i => ?_, fun y hy => ?_⟩
      · simp at ha; subst ha
        obtain ⟨z, hz, q, _⟩ := m3 b hb
        have := h.2.1 z hz
        show min x.hi at_ < b.lo
        omega
      · rw [mem_append, mem_one, m2, mem_cons]
        unfold Rg.has
        simp only
        constructor
        · rintro (h | h)
          · exact ⟨.inl (by omega), by omega⟩
          · exact ⟨.inr h.1, h.2⟩
        · rintro ⟨h | h, q⟩
          · exact .inl (by omega)
          · exact .inr ⟨h, q⟩
      · rcases List.mem_append.1 hy with hy | hy
        · simp at hy; subst hy; exact ⟨x, List.mem_cons_self, by simp only; omega, by simp only; omega⟩
        · obtain ⟨z, hz, q⟩ := m3 y hy
          exact ⟨z, List.mem_cons_of_mem _ hz, q⟩
    · rw [if_neg c, List.nil_append]
      refine ⟨m1, fun i => ?_, fun y hy => ?_⟩
      · rw [m2, mem_cons]
        constructor
        · rintro ⟨h, q⟩; exact ⟨.inr h, q⟩
        · rintro ⟨h | h, q⟩
          · unfold Rg.has at h; omega
          · exact ⟨h, q⟩
      · obtain ⟨z, hz, q⟩ := m3 y hy
        exact ⟨z, List.mem_cons_of_mem _ hz, q⟩
theorem above_ok (at_ : Nat) : ∀ {l : List Rg}, Sep l → Sep (aboveP l at_) ∧ (∀ i, mem (aboveP l at_) i ↔ mem l i ∧ at_ ≤ i) ∧ ∀ y, y ∈ aboveP l at_ → ∃ x, x ∈ l ∧ x.lo ≤ y.lo ∧ y.hi ≤ x.hi := by
  intro l
  induction l with
  | nil => intro _; exact ⟨trivial, fun i => ⟨fun h => absurd h (mem_nil i), fun h => absurd h.1 (mem_nil i)⟩, fun y hy => by cases hy⟩
  | cons x l ih =>
    intro h
    obtain ⟨m1, m2, m3⟩ := ih h.tail
    have hx : x.lo < x.hi := h.1
    show Sep ((if at_ < x.hi then [⟨max x.lo at_, x.hi⟩] else []) ++ aboveP l at_) ∧ (∀ i, mem ((if at_ < x.hi then [⟨max x.lo at_, x.hi⟩] else []) ++ aboveP l at_) i ↔ _) ∧ ∀ y, y ∈ (if at_ < x.hi then [⟨max x.lo at_, x.hi⟩] else []) ++ aboveP l at_ → _
    by_cases c : at_ < x.hi
    · rw [if_pos c]
      refine ⟨(sep_one (by show max x.lo at_ < x.hi; omega)).append m1 fun a ha b hb => ?_, fun i => ?_, fun y hy => ?_⟩
      · simp at ha; subst ha
        obtain ⟨z, hz, q, _⟩ := m3 b hb
        have := h.2.1 z hz
        show x.hi < b.lo
        omega
      · rw [mem_append, mem_one, m2, mem_cons]
        unfold Rg.has
        simp only
        constructor
        · rintro (h | h)
          · exact ⟨.inl (by omega), by omega⟩
          · exact ⟨.inr h.1, h.2⟩
        · rintro ⟨h | h, q⟩
          · exact .inl (by omega)
          · exact .inr ⟨h, q⟩
      · rcases List.mem_append.1 hy with hy | hy
        · simp at hy; subst hy; exact ⟨x, List.mem_cons_self, by simp only; omega, by simp only; omega⟩
        · obtain ⟨z, hz, q⟩ := m3 y hy
          exact ⟨z, List.mem_cons_of_mem _ hz, q⟩
    · rw [if_neg c, List.nil_append]
      refine ⟨m1, fun i => ?_, fun y hy => ?_⟩
      · rw [m2, mem_cons]
        constructor
        · rintro ⟨h, q⟩; exact ⟨.inr h, q⟩
        · rintro ⟨h | h, q⟩
          · unfold Rg.has at h; omega
          · exact ⟨h, q⟩
      · obtain ⟨z, hz, q⟩ := m3 y hy
        exact ⟨z, List.mem_cons_of_mem _ hz, q⟩
theorem below_both {l : List Rg} (hl : Sep l) (at_ : Nat) : belowP l at_ = bothP l [⟨0, at_⟩] := by
  obtain ⟨a1, a2, _⟩ := below_ok at_ hl
  obtain ⟨b1, b2⟩ := both_sep l [⟨0, at_⟩]
  refine a1.unique b1 fun i => ?_
  rw [a2, b2, mem_one]
  unfold Rg.has
  simp
theorem above_both {l : List Rg} (hl : Sep l) (at_ : Nat) (hm : ∀ x, x ∈ l → x.hi ≤ 18446744073709551615) : aboveP l at_ = bothP l [⟨at_, 18446744073709551615⟩] := by
  obtain ⟨a1, a2, _⟩ := above_ok at_ hl
  obtain ⟨b1, b2⟩ := both_sep l [⟨at_, 18446744073709551615⟩]
  refine a1.unique b1 fun i => ?_
  rw [a2, b2, mem_one]
  constructor
  · rintro ⟨⟨x, hx, h⟩, q⟩
    have := hm x hx
    refine ⟨⟨x, hx, h⟩, ?_⟩
    unfold Rg.has at *
    simp only; omega
  · rintro ⟨h, q⟩
    exact ⟨h, q.1⟩
end Go.Proofs.Ytajjbffppkpjpaa
