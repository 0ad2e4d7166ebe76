import Derived.Test.YtgbahfggnbpnmaaLwW
/-
  Plain laws of a crash behind a script's writes; sectors as pieces of an image.
-/
namespace Go.Proofs.Ytgbahfggnbpnmaa
open Go.RowKit
def syncS (S : DS) : DS := { S with good := settle S.good S.wait (fun _ => true), wait := [], ops := S.ops + 1 }
theorem syncS_lim {S : DS} {k : Nat} (h : S.Lim k) : (syncS S).Lim (k + 1) := ⟨Nat.zero_le _, by have := h.2; show S.ops + 1 ≤ k + 1; omega⟩
theorem sync_eq {S : DS} (h : S.Calm) : S.sync = (0, syncS S) := calm_sync h
theorem whole_law (S : DS) (os : List KOp) (pk : List Bool) (hw : S.wait = []) (i : Nat) :
    ((os.foldl wrO S).crash pk).good.getD i [] = S.good.getD i [] ∨ ∃ o, o ∈ os ∧ o.act = 1 ∧ o.i = (i : Int) ∧ ((os.foldl wrO S).crash pk).good.getD i [] = blockL o.x := by
  rcases settle_from (os.foldl wrO S).good (os.foldl wrO S).wait (fun j => pk.getD j false) i with h | ⟨p, hp, h1, h2⟩
  · exact .inl (h.trans (by rw [wr_good]))
  · rcases wr_from S os p hp with q | ⟨o, h3, h4, h5, h6⟩
    · rw [hw] at q; cases q
    · exact .inr ⟨o, h3, h4, by rw [h5, h1], h2.trans h6⟩
def whB (q : Bool) (s : Sec) (i : Nat) (os : List KOp) (k : Nat) : Bool := q || (os.take k).any (fun o => o.act == 1 && (o.i == (i : Int) && decide (s = blockL o.x)))
theorem whB_zero (q : Bool) (s : Sec) (i : Nat) (os : List KOp) : whB q s i os 0 = q := by simp [whB]
theorem whB_succ (q : Bool) (s : Sec) (i : Nat) {os : List KOp} {k : Nat} (hk : k < os.length) {op : KOp} (hop : op = os.getD k kop0) : whB q s i os (k + 1) = (whB q s i os k || (op.act == 1 && (op.i == (i : Int) && decide (s = blockL op.x)))) := by
  unfold whB
  rw [List.take_succ_eq_append_getElem hk, List.any_append, hop, List.getD, List.getElem?_eq_getElem hk, Bool.or_assoc]
  simp
theorem whB_all {s a : Sec} {i : Nat} {os : List KOp} (h : s = a ∨ ∃ o, o ∈ os ∧ o.act = 1 ∧ o.i = (i : Int) ∧ s = blockL o.x) : whB (decide (s = a)) s i os os.length = true := by
  unfold whB
  rw [List.take_length]
  rcases h with h | ⟨o, h1, h2, h3, h4⟩
  · rw [decide_eq_true h]; rfl
  · rw [Bool.or_eq_true]
    exact .inr (List.any_eq_true.2 ⟨o, h1, by simp [h2, h3, h4]⟩)
/-- A sector as a piece of an image. -/
theorem sec_piece {w : World} {a : Option Addr} {ll c : Nat} {G : List Sec} (h : Txt w a ll c G.flatten) (hs : ∀ s, s ∈ G → s.length = 256) {i lo hi : Nat} (hi' : i < G.length) (hlo : lo = 256 * i) (hhi : hi = lo + 256) (hll : ll = 256 * G.length) :
    ∃ A C, (∀ W : World, (Instr.sliceAt 30 (.slice a ll c) (some (.int .i64 lo)) (some (.int .i64 hi)) none).run Try.prog W = .ok (.slice A 256 C) W) ∧ Txt w A 256 C (G.getD i []) := by
  obtain ⟨A, C, h1, h2⟩ := pslice_lk h hhi (by omega)
  refine ⟨A, C, h1, ?_⟩
  rw [hlo, Nat.mul_comm, flat_at hs i hi'] at h2
  exact h2
theorem Txt.tu {w : World} {a : Option Addr} {n c : Nat} {l : List UInt8} (h : Txt w a n c l) (hb : Below w.heap.size w w) : Txt w a n c l := h
/-- A text below the heap's end, boxed. -/
structure TxB (w : World) (a : Option Addr) (n c : Nat) (l : List UInt8) : Prop where
  t : Txt w a n c l
theorem TxB.on {w w' : World} {a : Option Addr} {n c : Nat} {l : List UInt8} (h : TxB w a n c l) (hb : Below w.heap.size w w') : TxB w' a n c l := ⟨h.t.below hb⟩
end Go.Proofs.Ytgbahfggnbpnmaa
