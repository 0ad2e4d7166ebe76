import Init
/-
  SHA-256 as plain Lean functions on lists of bytes and words. No program in sight.
-/
namespace Go.Proofs.YtgbahfggnbpnmaaDoor

def rotr (n : Nat) (x : UInt32) : UInt32 := (x <<< UInt32.ofNat (32 - n)) ||| (x >>> UInt32.ofNat n)
def ktab : List UInt32 := [1116352408, 1899447441, 3049323471, 3921009573, 961987163, 1508970993, 2453635748, 2870763221, 3624381080, 310598401, 607225278, 1426881987, 1925078388, 2162078206, 2614888103, 3248222580, 3835390401, 4022224774, 264347078, 604807628, 770255983, 1249150122, 1555081692, 1996064986, 2554220882, 2821834349, 2952996808, 3210313671, 3336571891, 3584528711, 113926993, 338241895, 666307205, 773529912, 1294757372, 1396182291, 1695183700, 1986661051, 2177026350, 2456956037, 2730485921, 2820302411, 3259730800, 3345764771, 3516065817, 3600352804, 4094571909, 275423344, 430227734, 506948616, 659060556, 883997877, 958139571, 1322822218, 1537002063, 1747873779, 1955562222, 2024104815, 2227730452, 2361852424, 2428436474, 2756734187, 3204031479, 3329325298]
def start8 : List UInt32 := [1779033703, 3144134277, 1013904242, 2773480762, 1359893119, 2600822924, 528734635, 1541459225]

/-- The word t of a block, the highest byte first. -/
def word (b : List UInt8) (t : Nat) : UInt32 :=
  (b.getD (4 * t) 0).toUInt32 <<< 24 ||| (b.getD (4 * t + 1) 0).toUInt32 <<< 16 ||| (b.getD (4 * t + 2) 0).toUInt32 <<< 8 ||| (b.getD (4 * t + 3) 0).toUInt32
def sg0 (x : UInt32) : UInt32 := rotr 7 x ^^^ rotr 18 x ^^^ x >>> 3
def sg1 (y : UInt32) : UInt32 := rotr 17 y ^^^ rotr 19 y ^^^ y >>> 10
/-- The next word, out of those so far. -/
def nextw (b : List UInt8) (l : List UInt32) (t : Nat) : UInt32 :=
  if t < 16 then word b t else sg1 (l.getD (t - 2) 0) + l.getD (t - 7) 0 + sg0 (l.getD (t - 15) 0) + l.getD (t - 16) 0
def wl (b : List UInt8) : Nat → List UInt32
  | 0 => []
  | k + 1 => wl b k ++ [nextw b (wl b k) k]
theorem wl_len (b : List UInt8) (k : Nat) : (wl b k).length = k := by induction k with | zero => rfl | succ k ih => simp [wl, ih]

structure S8 where
  a : UInt32
  b : UInt32
  c : UInt32
  d : UInt32
  e : UInt32
  f : UInt32
  g : UInt32
  h : UInt32

def big1 (e : UInt32) : UInt32 := rotr 6 e ^^^ rotr 11 e ^^^ rotr 25 e
def big0 (a : UInt32) : UInt32 := rotr 2 a ^^^ rotr 13 a ^^^ rotr 22 a
def chf (e f g : UInt32) : UInt32 := e &&& f ^^^ ~~~e &&& g
def majf (a b c : UInt32) : UInt32 := a &&& b ^^^ a &&& c ^^^ b &&& c
def t1 (x : S8) (k w : UInt32) : UInt32 := x.h + big1 x.e + chf x.e x.f x.g + k + w
def t2 (x : S8) : UInt32 := big0 x.a + majf x.a x.b x.c
def rnd (x : S8) (k w : UInt32) : S8 := ⟨t1 x k w + t2 x, x.a, x.b, x.c, x.d + t1 x k w, x.e, x.f, x.g⟩
def rnds (w : List UInt32) (x : S8) : Nat → S8
  | 0 => x
  | n + 1 => rnd (rnds w x n) (ktab.getD n 0) (w.getD n 0)
def s8 (s : List UInt32) : S8 := ⟨s.getD 0 0, s.getD 1 0, s.getD 2 0, s.getD 3 0, s.getD 4 0, s.getD 5 0, s.getD 6 0, s.getD 7 0⟩
def addS (s : List UInt32) (x : S8) : List UInt32 :=
  [s.getD 0 0 + x.a, s.getD 1 0 + x.b, s.getD 2 0 + x.c, s.getD 3 0 + x.d, s.getD 4 0 + x.e, s.getD 5 0 + x.f, s.getD 6 0 + x.g, s.getD 7 0 + x.h]
def compress (s : List UInt32) (b : List UInt8) : List UInt32 := addS s (rnds (wl b 64) (s8 s) 64)
theorem compress_len (s : List UInt32) (b : List UInt8) : (compress s b).length = 8 := rfl

/-- A number in so many bytes, the highest first. -/
def be (size n : Nat) : List UInt8 := (List.range size).map fun i => UInt8.ofNat (n / 256 ^ (size - 1 - i))
theorem be_len (size n : Nat) : (be size n).length = size := by simp [be]

/-- So many blocks are compressed. -/
def comp : Nat → List UInt32 → List UInt8 → List UInt32
  | 0, s, _ => s
  | n + 1, s, m => comp n (compress s (m.take 64)) (m.drop 64)
def padz (n : Nat) : Nat := (119 - n % 64) % 64
def padded (m : List UInt8) : List UInt8 := m ++ (128 :: List.replicate (padz m.length) 0) ++ be 8 (8 * m.length)
def outb (s : List UInt32) : List UInt8 := s.flatMap fun x => be 4 x.toNat
def sha (m : List UInt8) : List UInt8 := outb (comp ((padded m).length / 64) start8 (padded m))

theorem padz_spec (n : Nat) : (n + 1 + padz n) % 64 = 56 ∧ padz n < 64 := by unfold padz; omega
theorem padded_len (m : List UInt8) : (padded m).length % 64 = 0 := by
  have := padz_spec m.length
  simp [padded, be_len]; omega

theorem comp_len (n : Nat) : ∀ (s : List UInt32) (m : List UInt8), s.length = 8 → (comp n s m).length = 8 := by
  induction n with
  | zero => intro s m h; exact h
  | succ n ih => intro s m _; exact ih _ _ (compress_len _ _)
theorem comp_append (n1 : Nat) : ∀ (n2 : Nat) (s : List UInt32) (m1 m2 : List UInt8), m1.length = 64 * n1 → comp (n1 + n2) s (m1 ++ m2) = comp n2 (comp n1 s m1) m2 := by
  induction n1 with
  | zero => intro n2 s m1 m2 h; have : m1 = [] := List.length_eq_zero_iff.1 (by omega); subst this; simp [comp]
  | succ n1 ih =>
    intro n2 s m1 m2 h
    rw [show n1 + 1 + n2 = (n1 + n2) + 1 by omega]
    simp only [comp]
    rw [List.take_append_of_le_length (by omega), List.drop_append_of_le_length (by omega)]
    exact ih n2 _ _ _ (by simp; omega)
/-- Only the first blocks count. -/
theorem comp_take (n : Nat) : ∀ (s : List UInt32) (m : List UInt8), comp n s (m.take (64 * n)) = comp n s m := by
  induction n with
  | zero => intro s m; rfl
  | succ n ih =>
    intro s m
    simp only [comp]
    rw [List.take_take, show min 64 (64 * (n + 1)) = 64 by omega, List.drop_take, show 64 * (n + 1) - 64 = 64 * n by omega, ih]
theorem outb_len (s : List UInt32) : (outb s).length = 4 * s.length := by
  induction s with
  | nil => rfl
  | cons x s ih => simp [outb, be_len] at *; omega
theorem sha_len (m : List UInt8) : (sha m).length = 32 := by
  unfold sha; rw [outb_len, comp_len _ _ _ rfl]
end Go.Proofs.YtgbahfggnbpnmaaDoor
