import Derived.Test.YtgbahfggnbpnmaaDskP
/-
  Laws of a disk's plain state: acts, their limits; what a crash leaves.
-/
namespace Go.Proofs.Ytgbahfggnbpnmaa
open Go.RowKit
structure KOp where
  act : Int
  i : Int
  n : Int
  x : UInt8
  b : List UInt8
  pick : List Bool
def kop0 : KOp := ⟨0, 0, 0, 0, [], []⟩
instance : Inhabited KOp := ⟨kop0⟩
def KOp.In (o : KOp) : Prop := o.i ≤ 9223372036854775807 ∧ o.n ≤ 9223372036854775807
def blockL (x : UInt8) : List UInt8 := (List.range 256).map fun i => x + UInt8.ofNat (i % 7)
theorem blockL_len (x : UInt8) : (blockL x).length = 256 := by rw [blockL, List.length_map, List.length_range]
def stepO (S : DS) (o : KOp) : DS :=
  if o.act = 1 then (S.write o.i (blockL o.x)).2 else if o.act = 2 then S.sync.2 else if o.act = 3 then (S.arm o.n).2 else if o.act = 4 then S.calm
  else if o.act = 5 then S.crash o.pick else if o.act = 7 then (S.write o.i o.b).2 else S
/-- So much at most waits, so many operations were OK. -/
def DS.Lim (S : DS) (k : Nat) : Prop := S.wait.length ≤ k ∧ S.ops ≤ k
theorem DS.Lim.mono {S : DS} {k m : Nat} (h : S.Lim k) (hm : k ≤ m) : S.Lim m := ⟨Nat.le_trans h.1 hm, Nat.le_trans h.2 hm⟩
theorem DS.Lim.goes {S : DS} {k : Nat} (h : S.Lim k) : S.goes.2.Lim (k + 1) := ⟨by rw [goes_wait]; have := h.1; omega, by have := (goes_ops S).2; have := h.2; omega⟩
theorem DS.Lim.write {S : DS} {k : Nat} (h : S.Lim k) (i : Int) (b : Sec) : (S.write i b).2.Lim (k + 1) := by
  unfold DS.write
  split
  · exact h.mono (by omega)
  · split
    · exact h.mono (by omega)
    · refine ⟨?_, ?_⟩
      · show (S.put i.toNat b).goes.2.wait.length ≤ k + 1
        rw [goes_wait]
        show (S.wait ++ [(i.toNat, b)]).length ≤ k + 1
        rw [List.length_append]; have := h.1; simp; omega
      · show (S.put i.toNat b).goes.2.ops ≤ k + 1
        have h1 := (goes_ops (S.put i.toNat b)).2
        have h2 := h.2
        have h3 : (S.put i.toNat b).ops = S.ops := rfl
        omega
theorem DS.Lim.sync {S : DS} {k : Nat} (h : S.Lim k) : S.sync.2.Lim (k + 1) := by
  unfold DS.sync
  split
  · exact h.mono (by omega)
  · split
    · exact ⟨Nat.zero_le _, h.goes.2⟩
    · exact h.goes
theorem DS.Lim.arm {S : DS} {k : Nat} (h : S.Lim k) (n : Int) : (S.arm n).2.Lim k := by
  unfold DS.arm
  split
  · exact h
  · split
    · exact h
    · exact ⟨h.1, h.2⟩
theorem DS.Lim.crash {S : DS} {k : Nat} (h : S.Lim k) (l : List Bool) : (S.crash l).Lim k := ⟨Nat.zero_le _, h.2⟩
theorem DS.Lim.step {S : DS} {k : Nat} (h : S.Lim k) (o : KOp) : (stepO S o).Lim (k + 1) := by
  unfold stepO
  split
  · exact h.write _ _
  split
  · exact h.sync
  split
  · exact (h.arm _).mono (by omega)
  split
  · exact ⟨Nat.le_trans h.1 (by omega), Nat.le_trans h.2 (by omega)⟩
  split
  · exact (h.crash _).mono (by omega)
  split
  · exact h.write _ _
  · exact h.mono (by omega)
theorem newS_lim (n : Nat) : (newS n).Lim 0 := ⟨Nat.le_refl _, Nat.le_refl _⟩
theorem stepO_ok {S : DS} {n : Nat} (h : S.Ok n) (o : KOp) : (stepO S o).Ok n := by
  unfold stepO
  split
  · exact h.write _ _
  split
  · exact h.sync
  split
  · exact h.arm _
  split
  · exact h.calm
  split
  · exact h.crash _
  split
  · exact h.write _ _
  · exact h
/-- Only the acts that write, as many laws have them. -/
def wrO (S : DS) (o : KOp) : DS := if o.act = 1 then (S.write o.i (blockL o.x)).2 else S
theorem DS.Lim.wr {S : DS} {k : Nat} (h : S.Lim k) (o : KOp) : (wrO S o).Lim (k + 1) := by
  unfold wrO
  split
  · exact h.write _ _
  · exact h.mono (by omega)
theorem wrO_ok {S : DS} {n : Nat} (h : S.Ok n) (o : KOp) : (wrO S o).Ok n := by
  unfold wrO
  split
  · exact h.write _ _
  · exact h
/-- A write adds to what waits at most itself, and leaves the sectors. -/
theorem write_good (S : DS) (i : Int) (b : Sec) : (S.write i b).2.good = S.good := by
  unfold DS.write
  split
  · rfl
  · split
    · rfl
    · exact goes_good _
theorem write_wait (S : DS) (i : Int) (b : Sec) : (S.write i b).2.wait = S.wait ∨ (S.write i b).2.wait = S.wait ++ [(i.toNat, b)] ∧ 0 ≤ i := by
  unfold DS.write
  split
  · exact .inl rfl
  · rename_i h
    split
    · exact .inl rfl
    · refine .inr ⟨goes_wait _, ?_⟩
      unfold DS.out at h
      omega
theorem wr_good (S : DS) (os : List KOp) : (os.foldl wrO S).good = S.good := by
  induction os generalizing S with
  | nil => rfl
  | cons o os ih =>
    rw [List.foldl_cons, ih]
    unfold wrO
    split
    · exact write_good _ _ _
    · rfl
/-- All that waits behind writes alone is one of them, or was there. -/
theorem wr_from (S : DS) (os : List KOp) : ∀ p, p ∈ (os.foldl wrO S).wait → p ∈ S.wait ∨ ∃ o, o ∈ os ∧ o.act = 1 ∧ o.i = (p.1 : Nat) ∧ p.2 = blockL o.x := by
  induction os generalizing S with
  | nil => intro p hp; exact .inl hp
  | cons o os ih =>
    intro p hp
    rw [List.foldl_cons] at hp
    rcases ih _ p hp with h | ⟨o', h1, h2⟩
    · unfold wrO at h
      split at h
      · rename_i ha
        rcases write_wait S o.i (blockL o.x) with e | ⟨e, h0⟩
        · rw [e] at h; exact .inl h
        · rw [e] at h
          rcases List.mem_append.1 h with q | q
          · exact .inl q
          · obtain rfl := List.mem_singleton.1 q
            exact .inr ⟨o, by simp, ha, by simp; omega, rfl⟩
      · exact .inl h
    · exact .inr ⟨o', by simp [h1], h2⟩
/-- Behind a settling a sector has what it had, or one of what waited for it. -/
theorem settleTo_from (good : List Sec) (wait : List Wt) (pk : Nat → Bool) (k : Nat) (hk : k ≤ wait.length) (i : Nat) :
    (settleTo good wait pk k).getD i [] = good.getD i [] ∨ ∃ p, p ∈ wait ∧ p.1 = i ∧ (settleTo good wait pk k).getD i [] = p.2 := by
  induction k with
  | zero => exact .inl rfl
  | succ k ih =>
    have ih := ih (by omega)
    rw [settleTo_succ]
    unfold stepG
    split
    · obtain ⟨p, hp⟩ : ∃ p, p = wait.getD k (0, []) := ⟨_, rfl⟩
      have hm : p ∈ wait := by rw [hp, getD_of (show k < wait.length by omega)]; exact List.getElem_mem _
      rw [← hp]
      by_cases e : p.1 = i
      · by_cases hl : i < (settleTo good wait pk k).length
        · refine .inr ⟨p, hm, e, ?_⟩
          rw [e, List.getD_eq_getElem?_getD, List.getElem?_set_self hl]; rfl
        · rw [List.set_eq_of_length_le (by omega)]; exact ih
      · have e2 : ((settleTo good wait pk k).set p.1 p.2).getD i [] = (settleTo good wait pk k).getD i [] := by simp only [List.getD_eq_getElem?_getD, List.getElem?_set_ne e]
        rw [e2]; exact ih
    · exact ih
theorem settle_from (good : List Sec) (wait : List Wt) (pk : Nat → Bool) (i : Nat) :
    (settle good wait pk).getD i [] = good.getD i [] ∨ ∃ p, p ∈ wait ∧ p.1 = i ∧ (settle good wait pk).getD i [] = p.2 := settleTo_from good wait pk _ (Nat.le_refl _) i
theorem settleTo_congr (good : List Sec) (wait : List Wt) {pk pk' : Nat → Bool} (k : Nat) (h : ∀ i, i < k → pk i = pk' i) : settleTo good wait pk k = settleTo good wait pk' k := by
  induction k with
  | zero => rfl
  | succ k ih => rw [settleTo_succ, settleTo_succ, ih (fun i hi => h i (by omega))]; unfold stepG; rw [h k (by omega)]
theorem settleTo_none (good : List Sec) (wait : List Wt) {pk : Nat → Bool} (k : Nat) (h : ∀ i, i < k → pk i = false) : settleTo good wait pk k = good := by
  induction k with
  | zero => rfl
  | succ k ih => rw [settleTo_succ, ih (fun i hi => h i (by omega))]; unfold stepG; rw [h k (by omega)]; rfl
theorem crash_all (S : DS) : (S.crash (List.replicate S.wait.length true)).good = settle S.good S.wait (fun _ => true) := by
  show settle _ _ _ = _
  unfold settle
  refine settleTo_congr _ _ _ fun i hi => ?_
  rw [List.getD_eq_getElem?_getD, List.getElem?_replicate, if_pos hi]; rfl
theorem crash_nil (S : DS) : (S.crash []).good = S.good := by
  show settle _ _ _ = _
  exact settleTo_none _ _ _ fun i _ => rfl
/-- The power is there, and no fuse. -/
def DS.Calm (S : DS) : Prop := S.gone = false ∧ S.fuse = none
theorem calm_goes {S : DS} (h : S.Calm) : S.goes = (true, { S with ops := S.ops + 1 }) := by unfold DS.goes; rw [h.2]
theorem Calm.write {S : DS} (h : S.Calm) (i : Int) (b : Sec) : (S.write i b).2.Calm := by
  unfold DS.write
  split
  · exact h
  · split
    · exact h
    · rw [calm_goes (S := S.put i.toNat b) h]; exact h
theorem Calm.wr {S : DS} (h : S.Calm) (o : KOp) : (wrO S o).Calm := by
  unfold wrO
  split
  · exact Calm.write h _ _
  · exact h
theorem Calm.wrs {S : DS} (h : S.Calm) (os : List KOp) : (os.foldl wrO S).Calm := by
  induction os generalizing S with
  | nil => exact h
  | cons o os ih => exact ih (Calm.wr h o)
theorem calm_sync {S : DS} (h : S.Calm) : S.sync = (0, { S with good := settle S.good S.wait (fun _ => true), wait := [], ops := S.ops + 1 }) := by
  unfold DS.sync
  rw [if_neg (by rw [h.1]; decide), calm_goes h]; rfl
/-- With the power there a write is OK exactly if it waits. -/
theorem calm_write {S : DS} (h : S.Calm) (i : Int) (b : Sec) : (S.write i b).1 = 0 ∧ (S.write i b).2.wait = S.wait ++ [(i.toNat, b)] ∧ 0 ≤ i ∧ i < S.good.length ∨ (S.write i b).1 = 1 ∧ (S.write i b).2 = S := by
  unfold DS.write
  split
  · exact .inr ⟨rfl, rfl⟩
  · rename_i h1
    rw [if_neg (by rw [h.1]; decide), calm_goes (S := S.put i.toNat b) h]
    unfold DS.out at h1
    exact .inl ⟨rfl, rfl, by omega, by omega⟩
end Go.Proofs.Ytgbahfggnbpnmaa
