import Derived.Test.YtgbahfggnbpnmaaDoorSha
/-
  Keyed sums as plain Lean: HMAC and its expansion. No program in sight.
-/
namespace Go.Proofs.YtgbahfggnbpnmaaDoor

/-- A key of at most 64 bytes: itself, or its sum. -/
def k64 (key : List UInt8) : List UInt8 := if key.length > 64 then sha key else key
theorem k64_len (key : List UInt8) : (k64 key).length ≤ 64 := by
  unfold k64; split
  · rw [sha_len]; omega
  · omega
def kz (key : List UInt8) : List UInt8 := k64 key ++ List.replicate (64 - (k64 key).length) 0
theorem kz_len (key : List UInt8) : (kz key).length = 64 := by
  have := k64_len key
  simp [kz]; omega
/-- The key's 64 bytes, each turned by c. -/
def turnL (key : List UInt8) (c : UInt8) : List UInt8 := (kz key).map (· ^^^ c)
theorem turnL_len (key : List UInt8) (c : UInt8) : (turnL key c).length = 64 := by simp [turnL, kz_len]
def macL (key text : List UInt8) : List UInt8 := sha (turnL key 0x5c ++ sha (turnL key 0x36 ++ text))
theorem macL_len (key text : List UInt8) : (macL key text).length = 32 := sha_len _
/-- So many steps of the expansion: all bytes so far, and the last 32. -/
def expL (prk info : List UInt8) : Nat → List UInt8 × List UInt8
  | 0 => ([], [])
  | k + 1 => let p := expL prk info k; let t := macL prk (p.2 ++ (info ++ [UInt8.ofNat (k + 1)])); (p.1 ++ t, t)
theorem expL_len (prk info : List UInt8) (k : Nat) : (expL prk info k).1.length = 32 * k := by
  induction k with
  | zero => rfl
  | succ k ih => simp only [expL, List.length_append, ih, macL_len]; omega
theorem expL_last (prk info : List UInt8) (k : Nat) : (expL prk info k).2.length ≤ 32 := by
  cases k with
  | zero => simp [expL]
  | succ k => simp only [expL, macL_len]; omega
theorem expL_pre (prk info : List UInt8) (k j : Nat) : (expL prk info (k + j)).1.take (32 * k) = (expL prk info k).1 := by
  induction j with
  | zero => rw [Nat.add_zero, List.take_of_length_le (by rw [expL_len]; omega)]
  | succ j ih =>
    rw [← Nat.add_assoc]
    simp only [expL]
    rw [List.take_append_of_le_length (by rw [expL_len]; omega)]; exact ih
/-- How many steps n bytes take. -/
def expN (n : Nat) : Nat := (n + 31) / 32
def expand (prk info : List UInt8) (n : Nat) : List UInt8 := (expL prk info (expN n)).1.take n
theorem expand_len (prk info : List UInt8) (n : Nat) : (expand prk info n).length = n := by
  unfold expand expN; rw [List.length_take, expL_len]; omega
theorem expand_pre (prk info : List UInt8) (m n : Nat) (h : m ≤ n) : (expand prk info n).take m = expand prk info m := by
  unfold expand
  rw [List.take_take, Nat.min_eq_left h]
  have e : expN n = expN m + (expN n - expN m) := by unfold expN; omega
  have h2 : m ≤ 32 * expN m := by unfold expN; omega
  rw [e]
  have := congrArg (List.take m) (expL_pre prk info (expN m) (expN n - expN m))
  rw [List.take_take, Nat.min_eq_left h2] at this
  exact this
end Go.Proofs.YtgbahfggnbpnmaaDoor
