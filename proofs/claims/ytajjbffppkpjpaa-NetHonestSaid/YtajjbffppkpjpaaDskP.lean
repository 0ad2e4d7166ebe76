import Derived.Test.YtajjbffppkpjpaaMem
/-
  A disk's state, plainly: sectors for good, what waits, the power, the fuse, how many operations were OK.
-/
namespace Go.Proofs.Ytajjbffppkpjpaa
open Go.RowKit
theorem getD_of {α : Type} {l : List α} {i : Nat} (h : i < l.length) (d : α) : l.getD i d = l[i] := by simp [List.getD, h]
abbrev Sec := List UInt8
abbrev Wt := Nat × List UInt8
structure DS where
  good : List Sec
  wait : List Wt
  gone : Bool
  fuse : Option Nat
  ops : Nat
/-- All sectors have 256 bytes, all writes that wait go to a sector and have as many. -/
structure DS.Ok (S : DS) (n : Nat) : Prop where
  len : S.good.length = n
  sec : ∀ s, s ∈ S.good → s.length = 256
  wt : ∀ p, p ∈ S.wait → p.1 < n ∧ p.2.length = 256
def DS.out (S : DS) (i : Int) : Prop := i < 0 ∨ (S.good.length : Int) ≤ i
instance (S : DS) (i : Int) : Decidable (S.out i) := by unfold DS.out; infer_instance
def pickW (i : Nat) (b : Sec) (p : Wt) : Sec := if p.1 = i then p.2 else b
def DS.latest (S : DS) (i : Nat) : Sec := S.wait.foldl (pickW i) (S.good.getD i [])
def DS.read (S : DS) (i : Int) : Sec × Int := if S.out i then ([], 1) else if S.gone = true then ([], 5) else (S.latest i.toNat, 0)
def DS.goes (S : DS) : Bool × DS :=
  match S.fuse with
  | some 0 => (false, { S with gone := true, fuse := none })
  | some (k + 1) => (true, { S with fuse := some k, ops := S.ops + 1 })
  | none => (true, { S with ops := S.ops + 1 })
def DS.put (S : DS) (i : Nat) (b : Sec) : DS := { S with wait := S.wait ++ [(i, b)] }
def DS.write (S : DS) (i : Int) (b : Sec) : Int × DS :=
  if S.out i ∨ b.length ≠ 256 then (1, S) else if S.gone = true then (5, S) else
  (if (S.put i.toNat b).goes.1 = true then 0 else 5, (S.put i.toNat b).goes.2)
def stepG (wait : List Wt) (pk : Nat → Bool) (g : List Sec) (i : Nat) : List Sec :=
  if pk i = true then g.set (wait.getD i (0, [])).1 (wait.getD i (0, [])).2 else g
def settleTo (good : List Sec) (wait : List Wt) (pk : Nat → Bool) (k : Nat) : List Sec := (List.range k).foldl (stepG wait pk) good
def settle (good : List Sec) (wait : List Wt) (pk : Nat → Bool) : List Sec := settleTo good wait pk wait.length
theorem settleTo_zero (good : List Sec) (wait : List Wt) (pk : Nat → Bool) : settleTo good wait pk 0 = good := rfl
theorem settleTo_succ (good : List Sec) (wait : List Wt) (pk : Nat → Bool) (k : Nat) : settleTo good wait pk (k + 1) = stepG wait pk (settleTo good wait pk k) k := by
  unfold settleTo; rw [List.range_succ, List.foldl_append]; rfl
theorem stepG_len (wait : List Wt) (pk : Nat → Bool) (g : List Sec) (i : Nat) : (stepG wait pk g i).length = g.length := by
  unfold stepG; split <;> simp
theorem settleTo_len (good : List Sec) (wait : List Wt) (pk : Nat → Bool) (k : Nat) : (settleTo good wait pk k).length = good.length := by
  induction k with
  | zero => rfl
  | succ k ih => rw [settleTo_succ, stepG_len, ih]
theorem settleTo_sec {good : List Sec} {wait : List Wt} {n : Nat} (pk : Nat → Bool) (hg : ∀ s, s ∈ good → s.length = 256) (hw : ∀ p, p ∈ wait → p.1 < n ∧ p.2.length = 256) (k : Nat) (hk : k ≤ wait.length) :
    ∀ s, s ∈ settleTo good wait pk k → s.length = 256 := by
  induction k with
  | zero => exact hg
  | succ k ih =>
    rw [settleTo_succ]
    intro s hs
    unfold stepG at hs
    split at hs
    · rcases List.mem_or_eq_of_mem_set hs with h | h
      · exact ih (by omega) s h
      · rw [h, getD_of (show k < wait.length by omega)]; exact (hw _ (List.getElem_mem _)).2
    · exact ih (by omega) s hs
def DS.sync (S : DS) : Int × DS :=
  if S.gone = true then (5, S) else
  if S.goes.1 = true then (0, { S.goes.2 with good := settle S.good S.wait (fun _ => true), wait := [] }) else (5, S.goes.2)
def DS.arm (S : DS) (n : Int) : Int × DS := if n < 0 then (1, S) else if S.gone = true then (5, S) else (0, { S with fuse := some n.toNat })
def DS.calm (S : DS) : DS := { S with fuse := none }
def DS.crash (S : DS) (pk : List Bool) : DS := { S with good := settle S.good S.wait (fun i => pk.getD i false), wait := [], gone := false, fuse := none }
def DS.image (S : DS) : List UInt8 := S.good.flatten
def newS (n : Nat) : DS := ⟨List.replicate n (List.replicate 256 0), [], false, none, 0⟩
theorem goes_good (S : DS) : S.goes.2.good = S.good := by unfold DS.goes; split <;> rfl
theorem goes_wait (S : DS) : S.goes.2.wait = S.wait := by unfold DS.goes; split <;> rfl
theorem goes_ops (S : DS) : S.ops ≤ S.goes.2.ops ∧ S.goes.2.ops ≤ S.ops + 1 := by unfold DS.goes; split <;> simp
theorem DS.Ok.of {S T : DS} {n : Nat} (h : S.Ok n) (h1 : T.good = S.good) (h2 : T.wait = S.wait) : T.Ok n := ⟨by rw [h1]; exact h.len, by rw [h1]; exact h.sec, by rw [h2]; exact h.wt⟩
theorem DS.Ok.goes {S : DS} {n : Nat} (h : S.Ok n) : S.goes.2.Ok n := h.of (goes_good S) (goes_wait S)
theorem DS.Ok.put {S : DS} {n i : Nat} {b : Sec} (h : S.Ok n) (hi : i < n) (hb : b.length = 256) : (S.put i b).Ok n :=
  ⟨h.len, h.sec, fun p hp => by
    rcases List.mem_append.1 hp with q | q
    · exact h.wt p q
    · obtain rfl := List.mem_singleton.1 q; exact ⟨hi, hb⟩⟩
theorem DS.Ok.write {S : DS} {n : Nat} (h : S.Ok n) (i : Int) (b : Sec) : (S.write i b).2.Ok n := by
  unfold DS.write
  split
  · exact h
  · rename_i h1
    split
    · exact h
    · refine DS.Ok.goes (h.put ?_ ?_)
      · have := h.len
        unfold DS.out at h1
        omega
      · exact Decidable.of_not_not fun q => h1 (.inr q)
theorem DS.Ok.settled {S T : DS} {n : Nat} {pk : Nat → Bool} (h : S.Ok n) (h1 : T.good = settle S.good S.wait pk) (h2 : T.wait = []) : T.Ok n :=
  ⟨by rw [h1]; unfold settle; rw [settleTo_len]; exact h.len, by rw [h1]; exact settleTo_sec pk h.sec h.wt _ (Nat.le_refl _), by rw [h2]; intro p hp; cases hp⟩
theorem DS.Ok.sync {S : DS} {n : Nat} (h : S.Ok n) : S.sync.2.Ok n := by
  unfold DS.sync
  split
  · exact h
  · split
    · exact h.settled rfl rfl
    · exact h.goes
theorem DS.Ok.arm {S : DS} {n : Nat} (h : S.Ok n) (k : Int) : (S.arm k).2.Ok n := by
  unfold DS.arm
  split
  · exact h
  · split
    · exact h
    · exact h.of rfl rfl
theorem DS.Ok.calm {S : DS} {n : Nat} (h : S.Ok n) : S.calm.Ok n := h.of rfl rfl
theorem DS.Ok.crash {S : DS} {n : Nat} (h : S.Ok n) (pk : List Bool) : (S.crash pk).Ok n := h.settled rfl rfl
theorem newS_ok (n : Nat) : (newS n).Ok n := ⟨List.length_replicate, fun s hs => by rw [List.eq_of_mem_replicate hs]; exact List.length_replicate, fun p hp => by cases hp⟩
/-! Sectors one behind the other. -/
theorem flat_size : ∀ {g : List Sec}, (∀ s, s ∈ g → s.length = 256) → g.flatten.length = 256 * g.length := by
  intro g
  induction g with
  | nil => intro _; rfl
  | cons s g ih =>
    intro h
    rw [List.flatten_cons, List.length_append, h s (by simp), ih (fun t ht => h t (by simp [ht])), List.length_cons]
    omega
theorem flat_split {g : List Sec} (i : Nat) (hi : i < g.length) : g.flatten = (g.take i).flatten ++ (g.getD i [] ++ (g.drop (i + 1)).flatten) := by
  conv => lhs; rw [← List.take_append_drop i g, List.drop_eq_getElem_cons hi]
  rw [List.flatten_append, List.flatten_cons, getD_of hi]
theorem flat_at {g : List Sec} (h : ∀ s, s ∈ g → s.length = 256) (i : Nat) (hi : i < g.length) : (g.flatten.drop (i * 256)).take 256 = g.getD i [] := by
  have h1 : (g.take i).flatten.length = i * 256 := by
    rw [flat_size (fun s hs => h s (List.mem_of_mem_take hs)), List.length_take]
    omega
  have h2 : (g.getD i []).length = 256 := by rw [getD_of hi]; exact h _ (List.getElem_mem _)
  rw [flat_split i hi, ← h1, List.drop_left, ← h2, List.take_left]
theorem flat_set {g : List Sec} (h : ∀ s, s ∈ g → s.length = 256) (i : Nat) (hi : i < g.length) (b : Sec) (hb : b.length = 256) : splice g.flatten (i * 256) b = (g.set i b).flatten := by
  have h1 : (g.take i).flatten.length = i * 256 := by
    rw [flat_size (fun s hs => h s (List.mem_of_mem_take hs)), List.length_take]
    omega
  have h2 : (g.getD i []).length = 256 := by rw [getD_of hi]; exact h _ (List.getElem_mem _)
  have e : (g.set i b) = g.take i ++ b :: g.drop (i + 1) := by rw [List.set_eq_take_append_cons_drop, if_pos hi]
  rw [e, List.flatten_append, List.flatten_cons, flat_split i hi]
  unfold splice
  rw [← h1, List.take_left, ← List.drop_drop, List.drop_left, hb, ← h2, List.drop_left]
end Go.Proofs.Ytajjbffppkpjpaa
