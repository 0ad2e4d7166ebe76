import Derived.Test.YtajjbffppkpjpaaSpanD2
/-
  Parts of a list of ranges; an element stored; two elements swapped; Norm of another order.
-/
namespace Go.Proofs.Ytajjbffppkpjpaa
open Go.RowKit
theorem elem_rgs : Try.prog.elem 22 = 25 := by kernel_rfl
theorem under_rgs : Try.prog.underlying 22 = some (.slice (Try.prog.elem 22)) := by rw [elem_rgs]; exact Try.underlying22
theorem size_two (W : World) : (sizeOf 25).run Try.prog W = .ok 2 W := by
  obtain ⟨i, i1, i2, i3, i4⟩ := info_parts info_rg
  simp [sizeOf, typeInfo, i1, i3]
theorem RgR.drop {w : World} {g o : Nat} {l : List Rg} (h : RgR w (some ⟨g, o, none⟩) l) (k : Nat) : RgR w (some ⟨g, o + k * 2, none⟩) (l.drop k) := fun i hi => by
  obtain ⟨g', o', e, hg, hr⟩ := h (k + i) (by simp at hi; omega)
  simp only [Option.some.injEq, Addr.mk.injEq] at e
  obtain ⟨rfl, rfl, _⟩ := e
  refine ⟨g, o + k * 2, rfl, hg, ?_⟩
  have e : (l.drop k).getD i r0 = l.getD (k + i) r0 := by simp [List.getD]
  rw [e, Nat.add_assoc, ← Nat.add_mul]; exact hr
theorem RgR.take {w : World} {a : Option Addr} {l : List Rg} (h : RgR w a l) (k : Nat) : RgR w a (l.take k) := fun i hi => by
  obtain ⟨g, o, e, hg, hr⟩ := h i (by simp at hi; omega)
  refine ⟨g, o, e, hg, ?_⟩
  have e : (l.take k).getD i r0 = l.getD i r0 := by
    have hk : i < k := by simp at hi; omega
    simp [List.getD, List.getElem?_take, hk]
  rw [e]; exact hr
theorem slice_rg_l {w : World} {a : Option Addr} {n c lo : Nat} {l : List Rg} (h : RgsIn w a n c l) (h1 : lo < n) :
    ∃ A C, (∀ W : World, (Instr.sliceAt 22 (.slice a n c) (some (.int .i64 lo)) none none).run Try.prog W = .ok (.slice A (n - lo) C) W) ∧ RgR w A (l.drop lo) := by
  have hf := h.fit
  obtain ⟨g, o, rfl, hg, hr⟩ := h.rd 0 (by have := h.len; omega)
  have hR : RgR w (some ⟨g, o, none⟩) l := h.rd
  refine ⟨some ⟨g, o + lo * 2, none⟩, c - lo, fun W => ?_, hR.drop lo⟩
  rw [run_sliceAt_slice (h := under_rgs), run_slice_l (ht := under_rgs) (h0 := by omega) (h1 := by omega), elem_rgs, size_two]
  simp [Result.andThen, sliced, show ¬ c = lo by omega, Addr.add_mid]
theorem slice_rg_h {w : World} {a : Option Addr} {n c hi : Nat} {l : List Rg} (h : RgsIn w a n c l) (h1 : hi < n) :
    ∃ A C, (∀ W : World, (Instr.sliceAt 22 (.slice a n c) none (some (.int .i64 hi)) none).run Try.prog W = .ok (.slice A hi C) W) ∧ RgR w A (l.take hi) := by
  have hf := h.fit
  obtain ⟨g, o, rfl, hg, hr⟩ := h.rd 0 (by have := h.len; omega)
  have hR : RgR w (some ⟨g, o, none⟩) l := h.rd
  refine ⟨some ⟨g, o, none⟩, c, fun W => ?_, hR.take hi⟩
  rw [run_sliceAt_slice (h := under_rgs), run_slice_h (ht := under_rgs) (h0 := by omega) (h2 := by omega), elem_rgs, size_two]
  have hc : ¬ c = 0 := by omega
  simp [Result.andThen, sliced, hc]
  try (cases o <;> simp [Addr.add])
theorem take_splice (A q : List Value) (i N : Nat) (hq : q.length = 2) (h1 : i + 2 ≤ N) (h2 : N ≤ A.length) : (splice A i q).take N = splice (A.take N) i q := by
  unfold splice
  have e1 : A.take i = (A.take N).take i := by rw [List.take_take, Nat.min_eq_left (by omega)]
  have e2 : A.drop (i + q.length) = (A.take N).drop (i + q.length) ++ A.drop N := by
    conv => lhs; rw [← List.take_append_drop N A]
    rw [List.drop_append_of_le_length (by simp; omega)]
  have e3 : ((A.take N).take i ++ q ++ (A.take N).drop (i + q.length)).length = N := by
    simp only [List.length_append, List.length_take, List.length_drop]; omega
  have e4 := List.take_left' (l₂ := A.drop N) e3
  simp only [List.append_assoc] at e4
  rw [e1, e2]
  exact e4
theorem rcs_set (L : List Rg) (i : Nat) (q : Rg) (h : i < L.length) : rcs (L.set i q) = splice (rcs L) (i * 2) (rcl q) := by
  induction L generalizing i with
  | nil => simp at h
  | cons x L ih =>
    cases i with
    | zero =>
      have e1 : rcs (x :: L) = rcl x ++ rcs L := by simp [rcs]
      have e2 : rcs (q :: L) = rcl q ++ rcs L := by simp [rcs]
      rw [List.set_cons_zero, e1, e2]
      rfl
    | succ i =>
      have h2 := ih i (Nat.lt_of_succ_lt_succ h)
      have e1 : rcs (x :: L) = rcl x ++ rcs L := by simp [rcs]
      have e2 : rcs (x :: L.set i q) = rcl x ++ rcs (L.set i q) := by simp [rcs]
      rw [List.set_cons_succ, e2, e1, h2, Nat.succ_mul]
      simp [splice, rcl]
theorem OwnR.store {w : World} {lo g n c : Nat} {L : List Rg} (h : OwnR w lo (.slice (some ⟨g, 0, none⟩) n c) L) (i : Nat) (hi : i < L.length) (q : Rg) :
    ∃ W, (storeVar 25 ⟨g, i * 2, none⟩ (rag q)).run Try.prog w = .ok () W ∧ OwnR W lo (.slice (some ⟨g, 0, none⟩) n c) (L.set i q) ∧ w.grownBy W (some g) := by
  rcases h.2 with ⟨e, _⟩ | ⟨g', cap, cur, e, h2, h3, h4, h5, h6, h7⟩
  · cases e
  · simp only [Value.slice.injEq, Option.some.injEq, Addr.mk.injEq] at e
    obtain ⟨⟨rfl, _⟩, rfl, rfl⟩ := e
    have hB : Blk w g cur 25 := h3
    have h7l := congrArg List.length h7
    rw [rcs_len, List.length_take, Array.length_toList] at h7l
    have hfit : i * 2 + 2 ≤ cur.size := by omega
    refine ⟨_, run_store_sub (P := Try.prog) w g (i * 2) 25 25 cur #[.int .u64 (q.lo : Nat), .int .u64 (q.hi : Nat)] hB (by simpa using hfit) (by rw [size_rg]; rfl) (by simp [Value.oneCell']), ?_, grownBy_setRow (grownBy_refl _ _) _⟩
    refine ⟨by rw [rcs_len], .inr ⟨g, c, _, by simp, h2, hB.setRow _, by simpa using h4, h5, ?_, ?_⟩⟩
    · simp only [splice, List.size_toArray, List.length_append, List.length_take, List.length_drop, Array.length_toList, List.length_cons, List.length_nil]
      have : L.length ≤ c := by simpa using h4
      omega
    · rw [List.length_set, rcs_set L i q hi, ← h7]
      exact take_splice _ _ _ _ rfl (by omega) (by simp only [Array.length_toList]; omega)
theorem swap_perm (L : List Rg) (i j : Nat) (hi : i < L.length) (hj : j < L.length) : ((L.set i (L.getD j r0)).set j (L.getD i r0)).Perm L := by
  have h := Array.swap_perm (xs := L.toArray) (i := i) (j := j) (by simpa using hi) (by simpa using hj)
  have h2 := h.toList
  rw [Array.toList_swap] at h2
  simpa [List.getD, hi, hj] using h2
theorem all_perm {l k : List Rg} (hp : ∀ x, x ∈ l → x.pos) (h : k.Perm l) : allP k = allP l := by
  obtain ⟨a1, a2⟩ := all_sep hp
  obtain ⟨b1, b2⟩ := all_sep fun x hx => hp x (h.mem_iff.1 hx)
  exact b1.unique a1 fun i => by rw [b2, a2, mem_perm h]
theorem norm_perm {l k : List Rg} (h : k.Perm l) : normR k = normR l := by
  unfold normR
  have e : (64 < k.length ∨ ∃ x, x ∈ k ∧ ¬ oneP x) ↔ (64 < l.length ∨ ∃ x, x ∈ l ∧ ¬ oneP x) := by
    rw [h.length_eq]
    refine or_congr_right ⟨?_, ?_⟩
    · rintro ⟨x, hx, q⟩; exact ⟨x, h.mem_iff.1 hx, q⟩
    · rintro ⟨x, hx, q⟩; exact ⟨x, h.mem_iff.2 hx, q⟩
  by_cases q : 64 < l.length ∨ ∃ x, x ∈ l ∧ ¬ oneP x
  · rw [if_pos q, if_pos (e.2 q)]
  · rw [if_neg q, if_neg (fun h => q (e.1 h)), all_perm (fun x hx => ?_) h]
    have : oneP x := Classical.byContradiction fun ho => q (.inr ⟨x, hx, ho⟩)
    exact this.1
theorem norm_self {l : List Rg} (h : MayP l) : normR l = (l, 0) := by
  unfold normR
  rw [if_neg]
  · obtain ⟨a1, a2⟩ := all_sep h.1.posAll
    rw [show allP l = l from a1.unique h.1 a2]
  · rintro (q | ⟨x, hx, q⟩)
    · have := h.2.2; omega
    · exact q ⟨h.1.posAll x hx, h.2.1 x hx⟩
end Go.Proofs.Ytajjbffppkpjpaa
