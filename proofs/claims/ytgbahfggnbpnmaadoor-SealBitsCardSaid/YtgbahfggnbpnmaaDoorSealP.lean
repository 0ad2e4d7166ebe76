import Derived.Test.YtgbahfggnbpnmaaDoorKeyP
/-
  Covered and tagged texts as plain Lean. No program in sight.
-/
namespace Go.Proofs.YtgbahfggnbpnmaaDoor
def encT : List UInt8 := [108, 105, 118, 101, 114, 121, 32, 101, 110, 99]
def macT : List UInt8 := [108, 105, 118, 101, 114, 121, 32, 109, 97, 99]
def encK (key : List UInt8) : List UInt8 := expand key encT 32
def macK (key : List UInt8) : List UInt8 := expand key macT 32
theorem encK_len (key : List UInt8) : (encK key).length = 32 := expand_len _ _ _
theorem macK_len (key : List UInt8) : (macK key).length = 32 := expand_len _ _ _
/-- So many blocks of the stream. -/
def strL (enc nonce : List UInt8) : Nat → List UInt8
  | 0 => []
  | k + 1 => strL enc nonce k ++ macL enc (nonce ++ be 4 k)
theorem strL_len (enc nonce : List UInt8) (k : Nat) : (strL enc nonce k).length = 32 * k := by
  induction k with
  | zero => rfl
  | succ k ih => simp only [strL, List.length_append, ih, macL_len]; omega
theorem strL_pre (enc nonce : List UInt8) (k j : Nat) : (strL enc nonce (k + j)).take (32 * k) = strL enc nonce k := by
  induction j with
  | zero => rw [Nat.add_zero, List.take_of_length_le (by rw [strL_len]; omega)]
  | succ j ih =>
    rw [← Nat.add_assoc]
    simp only [strL]
    rw [List.take_append_of_le_length (by rw [strL_len]; omega)]; exact ih
def streamL (enc nonce : List UInt8) (n : Nat) : List UInt8 := (strL enc nonce ((n + 31) / 32)).take n
theorem streamL_len (enc nonce : List UInt8) (n : Nat) : (streamL enc nonce n).length = n := by
  unfold streamL; rw [List.length_take, strL_len]; omega
theorem streamL_pre (enc nonce : List UInt8) (m n : Nat) (h : m ≤ n) : (streamL enc nonce n).take m = streamL enc nonce m := by
  unfold streamL
  rw [List.take_take, Nat.min_eq_left h]
  have e : (n + 31) / 32 = (m + 31) / 32 + ((n + 31) / 32 - (m + 31) / 32) := by omega
  rw [e]
  have := congrArg (List.take m) (strL_pre enc nonce ((m + 31) / 32) ((n + 31) / 32 - (m + 31) / 32))
  rw [List.take_take, Nat.min_eq_left (by omega)] at this
  exact this
def xorL (a b : List UInt8) : List UInt8 := List.zipWith (· ^^^ ·) a b
theorem xorL_len (a b : List UInt8) (h : a.length = b.length) : (xorL a b).length = a.length := by simp [xorL, h]
theorem xorL_comm (a b : List UInt8) : xorL a b = xorL b a := by
  unfold xorL; rw [List.zipWith_comm]; congr 1; funext x y; exact UInt8.xor_comm _ _
theorem xorL_self (a b : List UInt8) (h : a.length = b.length) : xorL a (xorL a b) = b := by
  induction a generalizing b with
  | nil => cases b with
    | nil => rfl
    | cons _ _ => simp at h
  | cons x a ih => cases b with
    | nil => simp at h
    | cons y b =>
      simp only [xorL, List.zipWith_cons_cons] at *
      rw [ih b (by simpa using h), ← UInt8.xor_assoc, UInt8.xor_self, UInt8.zero_xor]
def coverL (enc nonce text : List UInt8) : List UInt8 := xorL (streamL enc nonce text.length) text
theorem coverL_len (enc nonce text : List UInt8) : (coverL enc nonce text).length = text.length := by
  unfold coverL; rw [xorL_len _ _ (streamL_len _ _ _), streamL_len]
theorem coverL_back (enc nonce text : List UInt8) : coverL enc nonce (coverL enc nonce text) = text := by
  have h : (coverL enc nonce text).length = text.length := coverL_len _ _ _
  unfold coverL at *
  rw [h, xorL_self _ _ (streamL_len _ _ _)]
def tagL (mac nonce ad text : List UInt8) : List UInt8 := macL mac (nonce ++ (be 8 ad.length ++ (ad ++ (be 8 text.length ++ text))))
theorem tagL_len (mac nonce ad text : List UInt8) : (tagL mac nonce ad text).length = 32 := macL_len _ _
def sealL (key nonce ad plain : List UInt8) : List UInt8 := coverL (encK key) nonce plain ++ tagL (macK key) nonce ad (coverL (encK key) nonce plain)
theorem sealL_len (key nonce ad plain : List UInt8) : (sealL key nonce ad plain).length = plain.length + 32 := by
  unfold sealL; rw [List.length_append, coverL_len, tagL_len]
end Go.Proofs.YtgbahfggnbpnmaaDoor
