import Derived.Test.YtajjbffppkpjpaaNetP
/-
  Plain laws of a net's state: what NetHonest counts.
-/
namespace Go.Proofs.Ytajjbffppkpjpaa
set_option linter.unusedSimpArgs false
set_option linter.unusedVariables false
open Go.RowKit
/-- All that came or is on its way was put there; the counts. -/
structure Hon (S : NS) (put lost more : Nat) : Prop where
  way : ∀ s, s ∈ S.way → s ∈ S.ever
  came : ∀ s, s ∈ S.came → s ∈ S.ever
  ever : S.ever.length = put
  sum : S.way.length + S.came.length + lost = put + more
theorem hon_new : Hon newN 0 0 0 := ⟨(fun s h => by cases h), (fun s h => by cases h), rfl, rfl⟩
theorem put_cases (S : NS) (l : List Snt) : (S.put l).1 = 0 ∧ (S.put l).2 = { S with way := S.way ++ l, ever := S.ever ++ l } ∨ (S.put l).1 = 6 ∧ (S.put l).2 = S := by
  unfold NS.put
  split
  · exact .inr ⟨rfl, rfl⟩
  · exact .inl ⟨rfl, rfl⟩
theorem Hon.put {S : NS} {p lo m : Nat} (h : Hon S p lo m) (l : List Snt) (hq : (S.put l).1 = 0) : Hon (S.put l).2 (p + l.length) lo m := by
  rcases put_cases S l with ⟨_, e⟩ | ⟨e, _⟩
  · rw [e]
    refine ⟨fun s hs => ?_, fun s hs => List.mem_append.2 (.inl (h.came s hs)), ?_, ?_⟩
    · rcases List.mem_append.1 hs with q | q
      · exact List.mem_append.2 (.inl (h.way s q))
      · exact List.mem_append.2 (.inr q)
    · show (S.ever ++ l).length = _
      rw [List.length_append, h.ever]
    · show (S.way ++ l).length + S.came.length + lo = _
      rw [List.length_append]; have := h.sum; omega
  · rw [e] at hq; cases hq
theorem Hon.put_not {S : NS} {p lo m : Nat} (h : Hon S p lo m) (l : List Snt) (hq : (S.put l).1 ≠ 0) : Hon (S.put l).2 p lo m := by
  rcases put_cases S l with ⟨e, _⟩ | ⟨_, e⟩
  · exact absurd e hq
  · rw [e]; exact h
theorem NS.out_lt {S : NS} {i : Int} (h : ¬ S.out i) : 0 ≤ i ∧ i.toNat < S.way.length := by unfold NS.out at h; omega
theorem erase_len {S : NS} {i : Int} (h : ¬ S.out i) : (S.way.eraseIdx i.toNat).length + 1 = S.way.length := by
  have := NS.out_lt h
  rw [List.length_eraseIdx, if_pos this.2]; omega
theorem Hon.take {S : NS} {p lo m : Nat} (h : Hon S p lo m) (i : Int) : Hon (S.take i).2.2 p lo m := by
  unfold NS.take
  split
  · exact h
  · rename_i hn
    refine ⟨fun s hs => h.way s (List.mem_of_mem_eraseIdx hs), fun s hs => ?_, h.ever, ?_⟩
    · rcases List.mem_append.1 hs with q | q
      · exact h.came s q
      · rw [List.mem_singleton.1 q]; exact h.way _ (NS.at_mem hn)
    · show (S.way.eraseIdx i.toNat).length + (S.came ++ [S.at_ i]).length + lo = _
      rw [List.length_append]; have := erase_len hn; have := h.sum; simp; omega
theorem Hon.drop {S : NS} {p lo m : Nat} (h : Hon S p lo m) (i : Int) : Hon (S.drop i).2 p (if (S.drop i).1 = 0 then lo + 1 else lo) m := by
  unfold NS.drop
  split
  · exact h
  · rename_i hn
    refine ⟨fun s hs => h.way s (List.mem_of_mem_eraseIdx hs), h.came, h.ever, ?_⟩
    show (S.way.eraseIdx i.toNat).length + S.came.length + (lo + 1) = _
    have := erase_len hn; have := h.sum; omega
theorem Hon.double {S : NS} {p lo m : Nat} (h : Hon S p lo m) (i : Int) : Hon (S.double i).2 p lo (if (S.double i).1 = 0 then m + 1 else m) := by
  unfold NS.double
  split
  · exact h
  · rename_i hn
    split
    · exact h
    · refine ⟨fun s hs => ?_, h.came, h.ever, ?_⟩
      · rcases List.mem_append.1 hs with q | q
        · exact h.way s q
        · rw [List.mem_singleton.1 q]; exact h.way _ (NS.at_mem hn)
      · show (S.way ++ [S.at_ i]).length + S.came.length + lo = p + (m + 1)
        rw [List.length_append]; have := h.sum; simp; omega
end Go.Proofs.Ytajjbffppkpjpaa
