import Derived.Test.YtgbahfggnbpnmaaRfP
/-
  Texts of the law's own: pieces of them; what leaves them as they are.
-/
namespace Go.Proofs.Ytgbahfggnbpnmaa
open Go.RowKit
theorem Txt.sub {w : World} {k o n c : Nat} {l : List UInt8} (h : Txt w (some ⟨k, o, none⟩) n c l) (i m : Nat) (hi : i + m ≤ l.length) : Txt w (some ⟨k, o + i, none⟩) m (c - i) ((l.drop i).take m) := by
  refine ⟨by rw [List.length_take, List.length_drop]; omega, by have := h.fit; have := h.len; omega, fun j hj => ?_, fun b o' e h0 => ?_⟩
  · rw [List.length_map, List.length_take, List.length_drop] at hj
    obtain ⟨g, o', e, hc⟩ := h.rd (i + j) (by rw [List.length_map]; omega)
    cases e
    refine ⟨_, _, rfl, ?_⟩
    rw [Nat.add_assoc, hc]
    simp only [List.getElem?_map, List.getElem?_take, List.getElem?_drop]
    rw [if_pos (by omega)]
  · cases e
    rw [List.length_take, List.length_drop] at h0
    exact h.old _ _ rfl (by omega)
/-- A text in a block of bytes. -/
def TU (w : World) (v : Value) (l : List UInt8) : Prop := ∃ a n c, v = .slice a n c ∧ Txt w a n c l ∧ ∀ b o, a = some ⟨b, o, none⟩ → ∃ cur, Blk w b cur 5
theorem OwnB.tu {w : World} {lo : Nat} {v : Value} {l : List UInt8} (h : OwnB w lo v l) : TU w v l := by
  obtain ⟨a, c, rfl, h1, _, h3, h4, h5⟩ := h.form
  exact ⟨a, _, c, rfl, h.txt, fun b o e => by obtain ⟨_, cur, hb, _⟩ := h5 b o e; exact ⟨cur, hb⟩⟩
theorem TU.keep {w w' : World} {F : Nat → Prop} {v : Value} {l : List UInt8} (h : TU w v l) (hO : Only F w w') (hF : ∀ k cur, Blk w k cur 5 → ¬ F k) : TU w' v l := by
  obtain ⟨a, n, c, rfl, h1, h2⟩ := h
  refine ⟨a, n, c, rfl, ⟨h1.len, h1.fit, hO.rdB h1.rd (fun b o e _ => by obtain ⟨cur, hb⟩ := h2 b o e; exact hF b cur hb), fun b o e h0 => Nat.lt_of_lt_of_le (h1.old b o e h0) hO.size⟩, fun b o e => ?_⟩
  obtain ⟨cur, hb⟩ := h2 b o e
  exact ⟨cur, hO.blk hb (hF b cur hb)⟩
theorem TU.on {w w' : World} {v : Value} {l : List UInt8} (h : TU w v l) (hb : Below w.heap.size w w') : TU w' v l := h.keep (F := fun _ => False) (Only.of_below hb) (fun _ _ _ q => q)
theorem TU.keepD {w w' : World} {v v' : Value} {l : List UInt8} {b g n : Nat} {S : DS} (h : TU w v l) (hd : DiskAt w b g n v' S) (hO : Only (Foot b g v') w w') : TU w' v l := h.keep hO (fun _ _ hb q => hd.foot_ne hb q)
/-- A text of some length that begins its block or not: its pieces. -/
theorem TU.pos {w : World} {v : Value} {l : List UInt8} (h : TU w v l) (h0 : 0 < l.length) : ∃ k o n c, v = .slice (some ⟨k, o, none⟩) n c ∧ n = l.length ∧ n ≤ c ∧ Txt w (some ⟨k, o, none⟩) n c l := by
  obtain ⟨a, n, c, rfl, h1, _⟩ := h
  obtain ⟨g, o, rfl, _⟩ := h1.rd.at h0
  exact ⟨g, o, n, c, rfl, h1.len, h1.fit, h1⟩
end Go.Proofs.Ytgbahfggnbpnmaa
