import Derived.Test.YtgbahfggnbpnmaaDoorDrbgR
/-
  What Draw draws, as plain Lean; room for a text.
-/
namespace Go.Proofs.YtgbahfggnbpnmaaDoor
open Go.RowKit
def genV (k v : List UInt8) : Nat → List UInt8
  | 0 => v
  | j + 1 => macL k (genV k v j)
def genO (k v : List UInt8) : Nat → List UInt8
  | 0 => []
  | j + 1 => genO k v j ++ genV k v (j + 1)
theorem genV_len {k v : List UInt8} (hv : v.length = 32) (j : Nat) : (genV k v j).length = 32 := by
  cases j with
  | zero => exact hv
  | succ j => exact macL_len _ _
theorem genO_len (k v : List UInt8) (j : Nat) : (genO k v j).length = 32 * j := by
  induction j with
  | zero => rfl
  | succ j ih =>
    have : (genV k v (j + 1)).length = 32 := macL_len _ _
    simp only [genO, List.length_append, ih, this]; omega
theorem genO_pre (k v : List UInt8) (j i : Nat) : (genO k v (j + i)).take (32 * j) = genO k v j := by
  induction i with
  | zero => exact List.take_of_length_le (by rw [Nat.add_zero, genO_len]; omega)
  | succ i ih =>
    show (genO k v (j + i) ++ genV k v (j + i + 1)).take (32 * j) = _
    rw [List.take_append_of_le_length (by rw [genO_len]; omega)]
    exact ih
def preK (k v add : List UInt8) : List UInt8 := if add = [] then k else updK k v add
def preV (k v add : List UInt8) : List UInt8 := if add = [] then v else updV k v add
theorem preK_len {k v add : List UInt8} (hk : k.length = 32) : (preK k v add).length = 32 := by unfold preK; split; exact hk; exact updK_len _ _ _
theorem preV_len {k v add : List UInt8} (hv : v.length = 32) : (preV k v add).length = 32 := by unfold preV; split; exact hv; exact updV_len _ _ _
def drawV (k v add : List UInt8) (n : Nat) : List UInt8 := genV (preK k v add) (preV k v add) (expN n)
def drawO (k v add : List UInt8) (n : Nat) : List UInt8 := (genO (preK k v add) (preV k v add) (expN n)).take n
def nextK (k v add : List UInt8) (n : Nat) : List UInt8 := updK (preK k v add) (drawV k v add n) add
def nextV (k v add : List UInt8) (n : Nat) : List UInt8 := updV (preK k v add) (drawV k v add n) add
theorem drawO_len (k v add : List UInt8) (n : Nat) : (drawO k v add n).length = n := by
  unfold drawO expN; rw [List.length_take, genO_len]; omega
theorem drawO_pre (k v add : List UInt8) {m n : Nat} (h : m ≤ n) : (drawO k v add n).take m = drawO k v add m := by
  unfold drawO
  rw [List.take_take, Nat.min_eq_left h]
  have e : expN n = expN m + (expN n - expN m) := by unfold expN; omega
  have h2 : m ≤ 32 * expN m := by unfold expN; omega
  have h3 := congrArg (List.take m) (genO_pre (preK k v add) (preV k v add) (expN m) (expN n - expN m))
  rw [List.take_take, Nat.min_eq_left h2, ← e] at h3
  exact h3
/-- Room for a text of the call's own. -/
theorem OwnB.room (w : World) {lo C : Nat} (hb : lo ≤ w.heap.size) (hm : C ≤ maxLen) (z : Value) : OwnB (w.alloc (.cells (Array.replicate C z) 5)) lo (.slice (some ⟨w.heap.size, 0, none⟩) 0 C) [] :=
  ⟨by simp, Or.inr ⟨w.heap.size, C, Array.replicate C z, rfl, hb, heap_alloc_new w _, Nat.zero_le _, hm, by simp, by simp⟩⟩
theorem under_u8s' : Tryd.prog.underlying 28 = some (.slice 5) := Tryd.underlying28
theorem slice_nn {w : World} {a : Option Addr} {n c k : Nat} {l : List UInt8} (h : Txt w a n c l) (h1 : k ≤ n) :
    ∃ C, (∀ W : World, (Instr.sliceAt 28 (.slice a n c) none (some (.int .i64 k)) (some (.int .i64 k))).run Tryd.prog W = .ok (.slice a k C) W) ∧ Txt w a k C (l.take k) := by
  have hf := h.fit
  have h2 := h.cut h1
  refine ⟨k, fun W => ?_, ⟨h2.len, Nat.le_refl _, h2.rd, h2.old⟩⟩
  rw [run_sliceAt_slice (h := under_u8s), run_slice_hm (ht := under_u8s) (h0 := by omega) (h2 := by omega) (h3 := by omega), elem_u8s, size_one]
  cases a with
  | none => simp [Result.andThen, sliced]
  | some a => simp [Result.andThen, sliced, Addr.add]
end Go.Proofs.YtgbahfggnbpnmaaDoor
