import Derived.Test.YtajjbffppkpjpaaSpanZ
/-
  What the laws of liverylaw19 lean on: the plain facts about what is added, taken away, met and cut; Covers and Has as one Bool.
-/
namespace Go.Proofs.Ytajjbffppkpjpaa
open Go.RowKit
theorem mem_of_meets {l : List Rg} {r : Rg} : meetsP l r ↔ ∃ i, mem l i ∧ r.has i := by
  constructor
  · rintro ⟨x, hx, h⟩
    exact ⟨(inter x r).lo, ⟨x, hx, ((inter_has x r _).1 ⟨Nat.le_refl _, h⟩).1⟩, ((inter_has x r _).1 ⟨Nat.le_refl _, h⟩).2⟩
  · rintro ⟨i, ⟨x, hx, h1⟩, h2⟩
    refine ⟨x, hx, ?_⟩
    have := (inter_has x r i).2 ⟨h1, h2⟩
    exact Nat.lt_of_le_of_lt this.1 this.2
theorem sizeR_ok {k m : List Rg} (h : sizeR k = (m, 0)) : m = k ∧ k.length ≤ 64 := by
  unfold sizeR at h
  by_cases q : 64 < k.length
  · rw [if_pos q] at h; simp at h
  · rw [if_neg q] at h; simp at h; exact ⟨h.symm, by omega⟩
theorem sizeR_of {k : List Rg} (h : k.length ≤ 64) : sizeR k = (k, 0) := if_neg (by omega)
theorem addR_ok {l k : List Rg} {r : Rg} (h : addR l r = (k, 0)) : MayP l ∧ oneP r ∧ (∀ i, mem l i → ¬ r.has i) ∧ k = putP l r ∧ MayP k := by
  have hk : MayP k := by have := addR_may l r; rw [h] at this; exact this
  unfold addR at h
  by_cases h1 : MayP l ∧ oneP r
  · rw [if_neg (not_not_intro h1)] at h
    by_cases h2 : meetsP l r
    · rw [if_pos h2] at h; simp at h
    · rw [if_neg h2] at h
      obtain ⟨rfl, _⟩ := sizeR_ok h
      exact ⟨h1.1, h1.2, fun i hi q => h2 (mem_of_meets.2 ⟨i, hi, q⟩), rfl, hk⟩
  · rw [if_pos h1] at h; simp at h
theorem subR_ok {l k : List Rg} {r : Rg} (h : subR l r = (k, 0)) : MayP l ∧ oneP r ∧ covP l r ∧ k = subP l r ∧ MayP k := by
  have hk : MayP k := by have := subR_may l r; rw [h] at this; exact this
  unfold subR at h
  by_cases h1 : MayP l ∧ oneP r
  · rw [if_neg (not_not_intro h1)] at h
    by_cases h2 : covP l r
    · rw [if_neg (not_not_intro h2)] at h
      obtain ⟨rfl, _⟩ := sizeR_ok h
      exact ⟨h1.1, h1.2, h2, rfl, hk⟩
    · rw [if_pos h2] at h; simp at h
  · rw [if_pos h1] at h; simp at h
theorem sizeR_err {k : List Rg} (h : ¬ (sizeR k).2 = 0) : (sizeR k).1 = [] := by
  unfold sizeR at *
  by_cases q : 64 < k.length
  · rw [if_pos q]
  · rw [if_neg q] at h; simp at h
theorem subR_err {l : List Rg} {r : Rg} (h : ¬ (subR l r).2 = 0) : (subR l r).1 = [] := by
  unfold subR at *
  by_cases h1 : MayP l ∧ oneP r
  · rw [if_neg (not_not_intro h1)] at h ⊢
    by_cases h2 : covP l r
    · rw [if_neg (not_not_intro h2)] at h ⊢; exact sizeR_err h
    · rw [if_pos h2]
  · rw [if_pos h1]
theorem undo1 {l k : List Rg} {r : Rg} (h : addR l r = (k, 0)) : subR k r = (l, 0) := by
  obtain ⟨h1, h2, h3, rfl, h5⟩ := addR_ok h
  unfold subR
  rw [if_neg (not_not_intro ⟨h5, h2⟩), if_neg (not_not_intro (show covP (putP l r) r from put_covers h1.1 (show r.pos from h2.1))), sub_put h1.1 (show r.pos from h2.1) h3]
  exact sizeR_of h1.2.2
theorem undo2 {l k : List Rg} {r : Rg} (h : subR l r = (k, 0)) : addR k r = (l, 0) := by
  obtain ⟨h1, h2, h3, rfl, h5⟩ := subR_ok h
  unfold addR
  rw [if_neg (not_not_intro ⟨h5, h2⟩), if_neg, put_sub h1.1 (show r.pos from h2.1) (covers_has h3)]
  · exact sizeR_of h1.2.2
  · intro q
    obtain ⟨i, h6, h7⟩ := mem_of_meets.1 q
    exact (((sub_ok (show r.pos from h2.1) h1.1).2 i).1 h6).2 h7
theorem pair_eta {p : List Rg × Int} (h : p.2 = 0) : p = (p.1, 0) := by rw [← h]
theorem oneP.may {r : Rg} (h : oneP r) : MayP [r] := ⟨sep_one h.1, fun x hx => by simp at hx; subst hx; exact h.2, by simp⟩
theorem both_one_len (l : List Rg) (r : Rg) : (bothP l [r]).length ≤ l.length := by
  obtain ⟨k, hk, hs⟩ : ∃ k : List Rg, k.Perm (pairsP l [r]) ∧ Asc k :=
    ⟨(pairsP l [r]).mergeSort (fun a b => decide (a.lo ≤ b.lo)), List.mergeSort_perm _ _, by
      have := List.pairwise_mergeSort (le := fun a b : Rg => decide (a.lo ≤ b.lo)) (fun a b c h1 h2 => by simp at *; omega) (fun a b => by simp; omega) (pairsP l [r])
      unfold Asc
      simpa using this⟩
  rw [← meet_both hk hs]
  have h1 := mfold_len k []
  have h2 := pairs_one_len l r
  rw [hk.length_eq] at h1
  unfold mfold
  simp at h1
  omega
theorem meetR_one {l : List Rg} {r : Rg} (h1 : MayP l) (h2 : oneP r) : meetR l [r] = (bothP l [r], 0) := by
  unfold meetR
  rw [if_neg (not_not_intro ⟨h1, h2.may⟩)]
  exact sizeR_of (Nat.le_trans (both_one_len l r) h1.2.2)
theorem covers_x (l : List Rg) (r : Rg) (a : Option Addr) (n c : Nat) (w : World) (hL : RgsIn w a n c l) (Q : Bool) (hQ : Q = true ↔ MayP l ∧ oneP r ∧ covP l r) :
    Calls Try.prog 23 #[.slice a n c, rag r] w fun e w' => e = .returned (.bool Q) ∧ Below w.heap.size w w' := by
  obtain ⟨M1, h1⟩ := bool_of (MayP l)
  obtain ⟨M2, h2⟩ := bool_of (∃ x, x ∈ l ∧ (decide ((inter x r).lo < (inter x r).hi) && decide (inter x r = r)) = true)
  have e : (M1 && (decide (oneP r) && M2)) = Q := by
    rw [Bool.eq_iff_iff, hQ, Bool.and_eq_true, Bool.and_eq_true, h1, h2, decide_eq_true_iff]
    constructor
    · rintro ⟨q1, q2, q3⟩; exact ⟨q1, q2, (covP_iff q1 q2).1 q3⟩
    · rintro ⟨q1, q2, q3⟩; exact ⟨q1, q2, (covP_iff q1 q2).2 q3⟩
  rw [← e]
  exact covers_walk l r a n c w hL M1 M2 h1 h2
theorem has_x (l : List Rg) (i : Nat) (a : Option Addr) (n c : Nat) (w : World) (hL : RgsIn w a n c l) (Q : Bool) (hQ : Q = true ↔ MayP l ∧ mem l i) :
    Calls Try.prog 72 #[.slice a n c, .int .u64 (i : Nat)] w fun e w' => e = .returned (.bool Q) ∧ Below w.heap.size w w' := by
  obtain ⟨M1, h1⟩ := bool_of (MayP l)
  obtain ⟨M2, h2⟩ := bool_of (∃ x, x ∈ l ∧ (decide (x.lo ≤ i ∧ i < x.hi)) = true)
  have e : (M1 && M2) = Q := by
    rw [Bool.eq_iff_iff, hQ, Bool.and_eq_true, h1, h2]
    refine and_congr_right fun _ => ?_
    constructor
    · rintro ⟨x, hx, h⟩; exact ⟨x, hx, (show x.lo ≤ i ∧ i < x.hi from of_decide_eq_true h)⟩
    · rintro ⟨x, hx, h⟩; exact ⟨x, hx, decide_eq_true (show x.lo ≤ i ∧ i < x.hi from h)⟩
  rw [← e]
  exact has_walk l i a n c w hL M1 M2 h1 h2
/-- A list of the call's own that is a set, as one that came in. -/
theorem OwnR.set {w : World} {lo n c : Nat} {a : Option Addr} {l : List Rg} (h : OwnR w lo (.slice a n c) l) (hm : MayP l) : RgsIn w a n c l := h.rgs hm.b64
end Go.Proofs.Ytajjbffppkpjpaa
