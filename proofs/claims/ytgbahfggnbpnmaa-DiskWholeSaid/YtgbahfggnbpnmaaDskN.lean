import Derived.Test.YtgbahfggnbpnmaaRfP
/-
  Load: the bytes of a disk, cut into sectors.
-/
namespace Go.Proofs.Ytgbahfggnbpnmaa
open Go.RowKit
def chunks (l : List UInt8) (n : Nat) : List Sec := (List.range n).map fun i => (l.drop (i * 256)).take 256
theorem chunks_len (l : List UInt8) (n : Nat) : (chunks l n).length = n := by rw [chunks, List.length_map, List.length_range]
theorem chunks_sec {l : List UInt8} {n : Nat} (h : l.length = n * 256) : ∀ s, s ∈ chunks l n → s.length = 256 := fun s hs => by
  obtain ⟨i, hi, rfl⟩ := List.mem_map.1 hs
  have := List.mem_range.1 hi
  rw [List.length_take, List.length_drop, h]
  omega
theorem chunks_succ (l : List UInt8) (n : Nat) : chunks l (n + 1) = chunks l n ++ [(l.drop (n * 256)).take 256] := by
  unfold chunks; rw [List.range_succ, List.map_append]; rfl
theorem chunks_flat (l : List UInt8) (n : Nat) : (chunks l n).flatten = l.take (n * 256) := by
  induction n with
  | zero => simp [chunks]
  | succ n ih =>
    rw [chunks_succ, List.flatten_append, ih, show (n + 1) * 256 = n * 256 + 256 by omega, List.take_add]
    simp
def loadS (l : List UInt8) : DS := ⟨chunks l (l.length / 256), [], false, none, 0⟩
theorem loadS_ok {l : List UInt8} {n : Nat} (h : l.length = n * 256) : (loadS l).Ok n := by
  have e : l.length / 256 = n := by omega
  refine ⟨?_, ?_, fun p hp => by cases hp⟩
  · show (chunks l (l.length / 256)).length = n
    rw [chunks_len, e]
  · show ∀ s, s ∈ chunks l (l.length / 256) → s.length = 256
    rw [e]; exact chunks_sec h
theorem loadS_image {l : List UInt8} {n : Nat} (h : l.length = n * 256) : (loadS l).good.flatten = l := by
  show (chunks l (l.length / 256)).flatten = l
  rw [chunks_flat, List.take_of_length_le (by omega)]
def loadK (l : List UInt8) (k : Nat) : List UInt8 := l.take (k * 256) ++ List.replicate (l.length - k * 256) 0
theorem loadK_len {l : List UInt8} {n : Nat} (h : l.length = n * 256) (k : Nat) (hk : k ≤ n) : (loadK l k).length = n * 256 := by
  unfold loadK; rw [List.length_append, List.length_replicate, List.length_take]; omega
theorem loadK_zero {l : List UInt8} {n : Nat} (h : l.length = n * 256) : loadK l 0 = (newS n).good.flatten := by
  unfold loadK newS
  rw [List.flatten_replicate_replicate, h]
  simp
theorem loadK_all {l : List UInt8} {n : Nat} (h : l.length = n * 256) : loadK l n = l := by
  unfold loadK; rw [List.take_of_length_le (by omega), h]; simp
theorem loadK_step {l : List UInt8} {n : Nat} (h : l.length = n * 256) (k : Nat) (hk : k < n) : splice (loadK l k) (k * 256) ((l.drop (k * 256)).take 256) = loadK l (k + 1) := by
  have h1 : (l.take (k * 256)).length = k * 256 := by rw [List.length_take]; omega
  have h2 : ((l.drop (k * 256)).take 256).length = 256 := by rw [List.length_take, List.length_drop]; omega
  have h3 : l.take ((k + 1) * 256) = l.take (k * 256) ++ (l.drop (k * 256)).take 256 := by rw [show (k + 1) * 256 = k * 256 + 256 by omega, List.take_add]
  have h4 : l.length - k * 256 = 256 + (l.length - (k + 1) * 256) := by omega
  unfold loadK splice
  rw [h4, ← List.replicate_append_replicate, h3, h2]
  have h5 : (l.take (k * 256) ++ (List.replicate 256 (0 : UInt8) ++ List.replicate (l.length - (k + 1) * 256) 0)).take (k * 256) = l.take (k * 256) := List.take_left' h1
  have h6 : (l.take (k * 256) ++ (List.replicate 256 (0 : UInt8) ++ List.replicate (l.length - (k + 1) * 256) 0)).drop (k * 256 + 256) = List.replicate (l.length - (k + 1) * 256) 0 := by
    rw [← List.append_assoc]
    exact List.drop_left' (by rw [List.length_append, h1, List.length_replicate])
  rw [h5, h6, List.append_assoc]
theorem newS_load (n : Nat) : loadS (List.replicate (n * 256) 0) = newS n := by
  unfold loadS newS
  congr 1
  rw [List.length_replicate, Nat.mul_div_cancel _ (by decide)]
  refine List.eq_replicate_iff.2 ⟨chunks_len _ _, fun s hs => ?_⟩
  have hl := chunks_sec (l := List.replicate (n * 256) (0 : UInt8)) (n := n) (by simp) s hs
  refine List.eq_replicate_iff.2 ⟨hl, fun x hx => ?_⟩
  obtain ⟨i, hi, rfl⟩ := List.mem_map.1 hs
  exact List.eq_of_mem_replicate (List.mem_of_mem_drop (List.mem_of_mem_take hx))
end Go.Proofs.Ytgbahfggnbpnmaa
