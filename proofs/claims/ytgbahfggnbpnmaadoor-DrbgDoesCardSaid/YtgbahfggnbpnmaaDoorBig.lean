import Derived.Test.YtgbahfggnbpnmaaDoorPut
/-
  octet.big and its kin: a number in so many bytes.
-/
namespace Go.Proofs.YtgbahfggnbpnmaaDoor
open Go.RowKit

/-- The bytes so far (from the end), zeros before them. -/
def bez (size n k : Nat) : List UInt8 := List.replicate (size - k) 0 ++ (be size n).drop (size - k)
theorem bez_len (size n k : Nat) (h : k ≤ size) : (bez size n k).length = size := by simp [bez, be_len, h]
theorem bez_zero (size n : Nat) : bez size n 0 = List.replicate size 0 := by simp [bez, be_len]
theorem bez_full (size n : Nat) : bez size n size = be size n := by simp [bez]
theorem be_get (size n i : Nat) (h : i < size) : (be size n)[i]? = some (UInt8.ofNat (n / 256 ^ (size - 1 - i))) := by
  simp [be, h]
theorem bez_step (size n k : Nat) (h : k < size) : (bez size n k).set (size - 1 - k) (UInt8.ofNat (n / 256 ^ k)) = bez size n (k + 1) := by
  have e : List.replicate (size - k) (0 : UInt8) = List.replicate (size - (k + 1)) 0 ++ [0] := by
    rw [show size - k = (size - (k + 1)) + 1 by omega, List.replicate_succ']
  have e2 : (be size n).drop (size - (k + 1)) = UInt8.ofNat (n / 256 ^ k) :: (be size n).drop (size - k) := by
    rw [List.drop_eq_getElem_cons (by rw [be_len]; omega), show size - (k + 1) + 1 = size - k by omega]
    congr 1
    have := be_get size n (size - (k + 1)) (by omega)
    rw [List.getElem?_eq_getElem (by rw [be_len]; omega)] at this
    simp only [Option.some.injEq] at this
    rw [this, show size - 1 - (size - (k + 1)) = k by omega]
  unfold bez
  rw [e, e2, List.append_assoc]
  rw [List.set_append_right _ _ (by simp; omega)]
  simp [show size - 1 - k - (size - (k + 1)) = 0 by omega]

/-- 'make([]T, l, c)' of elements of one cell. -/
theorem wpList_make_abs {P : Program} {ops : Array Oper} {rest : List Oper} {o : Oper} {a : Act} {w : World} {Q : Exit → Act → World → Prop} (hgd : o.guard = none) (t : TypeId) (l c : Operand) (ho : o.op = .makeSlice t l c)
    (e : TypeId) (z : Value) (bytes : Nat) (h1 : P.underlying t = some (.slice e)) (h2 : (P.info? e).map (fun i => (i.zero, i.size, i.bytes)) = some (some z, 1, bytes)) (hz : z.cells = #[z])
    (kl kc : IntKind) (L C : Nat) (hl : a.eval l = .int kl L) (hc : a.eval c = .int kc C) (hLC : L ≤ C) (hb : bytes * C ≤ 281474976710656) (hC : C ≤ 9223372036854775807)
    (h : wpList P ops Q rest (a.put o.dst (.slice (some ⟨w.heap.size, 0, none⟩) L C)) (w.alloc (.cells (Array.replicate C z) e))) : wpList P ops Q (o :: rest) a w := by
  obtain ⟨i, i1, i2, i3, i4⟩ := info_parts h2
  refine wpList_plain hgd fun K hK => ?_
  have hr := run_make (P := P) w t e i z h1 i1 i2 kl kc L C (by omega) (by omega) (by rw [i4, ← Int.natCast_mul]; omega) (by omega)
  simp only [Int.toNat_natCast, i3, Nat.mul_one] at hr
  have em : madeCells z.cells C = (Array.replicate C z) := by
    rw [hz]
    apply Array.ext
    · simp [madeCells]
    · intro j h1 h2; simp [madeCells, Nat.mod_one]
  rw [em] at hr
  unfold Oper.wp
  simp [execOp, ho, hl, hc, hr, Result.andThen]
  exact hK _ _ h

theorem info_u8 : (Tryd.prog.info? 5).map (fun i => (i.zero, i.size, i.bytes)) = some (some (.int .u8 0), 1, 1) := by kernel_rfl
theorem rep_bytes (n : Nat) : Array.replicate n (Value.int .u8 0) = barr (List.replicate n 0) := by simp [barr]
theorem pow256 (n k : Nat) : (n : Int) / 2 ^ (8 * k) % 256 = ((UInt8.ofNat (n / 256 ^ k)).toNat : Int) := by
  have e3 : (2 : Int) ^ (8 * k) = ((256 ^ k : Nat) : Int) := by rw [show (256 : Nat) = 2 ^ 8 from rfl, ← Nat.pow_mul]; simp
  rw [e3]
  simp
set_option maxRecDepth 100000 in
set_option maxHeartbeats 1000000 in
theorem big_walk (n size : Nat) (hn : n < 2 ^ 64) (hs : size ≤ 8) (w : World) :
    Calls Tryd.prog 152 #[.int .u64 n, .int .i64 size] w fun e w' => ∃ g, e = .returned (.slice (some ⟨g, 0, none⟩) size size) ∧ g = w.heap.size ∧ Blk w' g (barr (be size n)) 5 ∧ Below w.heap.size w w' := by
  go_enter Tryd.func152, Tryd.ntmps152
  go_wp2_with (refine wpList_make_abs rfl 28 (.tmp 7) (.tmp 7) rfl 5 (.int .u8 0) 1 Tryd.underlying28 info_u8 rfl .i64 .i64 size size rfl rfl (Nat.le_refl _) (by omega) (by omega) ?_)
  rw [rep_bytes]
  go_loopw [11] (fun c wr => ∃ k : Nat, k ≤ size ∧ c = .int .i64 k ∧ Blk wr w.heap.size (barr (bez size n k)) 5 ∧ Below w.heap.size w wr) (fun c _ => size - (intOf c).toNat)
  case atStart =>
    obtain ⟨h0, h1⟩ := new1 w (barr (List.replicate size 0)) 5
    exact ⟨0, Nat.zero_le _, rfl, by rw [bez_zero]; exact h0, h1⟩
  case round =>
    obtain ⟨k, hk, rfl, hB, hbel⟩ := hrel
    by_cases hlt : k < size
    · have f1 : IntKind.i64.wrap ((size : Int) - 1) = (size : Int) - 1 := IntWalk.i64_in _ (by omega)
      have f2 : IntKind.i64.wrap ((size : Int) - 1 - (k : Int)) = (size : Int) - 1 - (k : Int) := IntWalk.i64_in _ (by omega)
      have f3 : IntKind.i64.wrap (8 * (k : Int)) = 8 * (k : Int) := IntWalk.i64_in _ (by omega)
      have n1 : ((size : Int) - 1 - (k : Int)).toNat = size - 1 - k := by omega
      have g1 : (0 : Int) ≤ (size : Int) - 1 - (k : Int) ∧ (size : Int) - 1 - (k : Int) < size := by omega
      have g2 : (0 : Int) ≤ 8 * (k : Int) ∧ 8 * (k : Int) < 64 := by omega
      have c0 := hB.cell (size - 1 - k) (barr_get (bez size n k) _ (by rw [bez_len _ _ _ hk]; omega))
      have c1 := hB.free (size - 1 - k)
      go_wp2
      go_roundw
      case rel =>
        refine ⟨k + 1, by omega, by go_num, ?_, below_setCell hbel (Nat.le_refl _) _⟩
        rw [barr_one _ _ (pow256 n k), ← bez_step size n k hlt, ← barr_set]
        exact hB.set _ _
      case measure => simp [intOf]; omega
    · go_wp2
      go_ret
      have HK := Lib.hid (show k = size by omega)
      refine ⟨_, rfl, rfl, ?_, hbel⟩
      rw [← bez_full size n]
      have := HK.out
      subst this
      exact hB
theorem u32_walk (x : UInt32) (w : World) :
    Calls Tryd.prog 101 #[wv x] w fun e w' => ∃ g, e = .returned (.slice (some ⟨g, 0, none⟩) 4 4) ∧ g = w.heap.size ∧ Blk w' g (barr (be 4 x.toNat)) 5 ∧ Below w.heap.size w w' := by
  have h := x.toNat_lt
  go_enter Tryd.func101, Tryd.ntmps101
  go_wp2_with (go_at_call 152; refine (big_walk x.toNat 4 (by omega) (by omega) _).mono ?_; rintro e w' ⟨g, rfl, hg, h1, h2⟩)
  go_ret
  exact ⟨_, rfl, rfl, hg ▸ h1, h2⟩
theorem u64_walk (n : Nat) (hn : n < 2 ^ 64) (w : World) :
    Calls Tryd.prog 100 #[.int .u64 n] w fun e w' => ∃ g, e = .returned (.slice (some ⟨g, 0, none⟩) 8 8) ∧ g = w.heap.size ∧ Blk w' g (barr (be 8 n)) 5 ∧ Below w.heap.size w w' := by
  go_enter Tryd.func100, Tryd.ntmps100
  go_wp2_with (go_at_call 152; refine (big_walk n 8 (by omega) (by omega) _).mono ?_; rintro e w' ⟨g, rfl, hg, h1, h2⟩)
  go_ret
  exact ⟨_, rfl, rfl, hg ▸ h1, h2⟩
theorem u16_walk (n : Nat) (hn : n < 65536) (w : World) :
    Calls Tryd.prog 163 #[.int .u16 n] w fun e w' => ∃ g, e = .returned (.slice (some ⟨g, 0, none⟩) 2 2) ∧ g = w.heap.size ∧ Blk w' g (barr (be 2 n)) 5 ∧ Below w.heap.size w w' := by
  go_enter Tryd.func163, Tryd.ntmps163
  go_wp2_with (go_at_call 152; refine (big_walk n 2 (by omega) (by omega) _).mono ?_; rintro e w' ⟨g, rfl, hg, h1, h2⟩)
  go_ret
  exact ⟨_, rfl, rfl, hg ▸ h1, h2⟩
end Go.Proofs.YtgbahfggnbpnmaaDoor
