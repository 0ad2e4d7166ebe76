import Derived.Test.YtgbahfggnbpnmaaDskP
import Derived.Test.YtgbahfggnbpnmaaRow
import Derived.Test.YtgbahfggnbpnmaaJn
/-
  A disk in memory: its six cells, its sectors, what waits.
-/
namespace Go.Proofs.Ytgbahfggnbpnmaa
open Go.RowKit
def wcell (p : Wt) : List Value := Value.int .i64 (p.1 : Nat) :: p.2.map bv
def wcells (l : List Wt) : List Value := l.flatMap wcell
theorem wcells_snoc (l : List Wt) (p : Wt) : wcells (l ++ [p]) = wcells l ++ wcell p := by simp [wcells]
theorem wcell_len {p : Wt} (h : p.2.length = 256) : (wcell p).length = 257 := by simp [wcell, h]
theorem wcells_len : ∀ {l : List Wt}, (∀ p, p ∈ l → p.2.length = 256) → (wcells l).length = l.length * 257 := by
  intro l
  induction l with
  | nil => intro _; rfl
  | cons p l ih =>
    intro h
    have e : wcells (p :: l) = wcell p ++ wcells l := rfl
    rw [e, List.length_append, wcell_len (h p (by simp)), ih (fun q hq => h q (by simp [hq])), List.length_cons]
    omega
theorem wcells_at {l : List Wt} (h : ∀ p, p ∈ l → p.2.length = 256) (i : Nat) (hi : i < l.length) : ((wcells l).drop (i * 257)).take 257 = wcell (l.getD i (0, [])) := by
  have e : l = l.take i ++ l.getD i (0, []) :: l.drop (i + 1) := by
    conv => lhs; rw [← List.take_append_drop i l, List.drop_eq_getElem_cons hi]
    rw [getD_of hi]
  have e2 : wcells l = wcells (l.take i) ++ (wcell (l.getD i (0, [])) ++ wcells (l.drop (i + 1))) := by
    conv => lhs; rw [e]
    simp only [wcells, List.flatMap_append, List.flatMap_cons]
  have h1 : (wcells (l.take i)).length = i * 257 := by
    rw [wcells_len (fun p hp => h p (List.mem_of_mem_take hp)), List.length_take]; congr 1; omega
  have h2 : (wcell (l.getD i (0, []))).length = 257 := wcell_len (h _ (by rw [getD_of hi]; exact List.getElem_mem _))
  rw [e2, ← h1, List.drop_left, ← h2, List.take_left]
theorem wcells_one (l : List Wt) : ∀ v ∈ wcells l, v.oneCell' = true := by
  intro v hv
  simp only [wcells, List.mem_flatMap, wcell, List.mem_cons, List.mem_map] at hv
  obtain ⟨p, _, rfl | ⟨x, _, rfl⟩⟩ := hv <;> rfl
structure DiskAt (w : World) (b g n : Nat) (v : Value) (S : DS) : Prop where
  ok : S.Ok n
  pos : 0 < n ∧ n ≤ 2048
  fz : ∀ f, S.fuse = some f → f ≤ 9223372036854775807
  blk : ∃ z : Int, Blk w b #[.slice (some ⟨g, 0, none⟩) n n, v, .bool S.gone, .bool S.fuse.isSome, .int .i64 z, .int .i64 (S.ops : Nat)] 62 ∧ ∀ f, S.fuse = some f → z = (f : Int)
  good : Blk w g (barr S.good.flatten) 65
  wait : w.ownsRow 0 67 257 v S.wait.length (wcells S.wait)
/-- The blocks of a disk. -/
def Foot (b g : Nat) (v : Value) (k : Nat) : Prop := k = b ∨ k = g ∨ v.ownBlock = some k
theorem row_blk {w : World} {lo n sz : Nat} {t : TypeId} {v : Value} {cs : List Value} (h : w.ownsRow lo t sz v n cs) {k : Nat} (e : v.ownBlock = some k) : ∃ cur, Blk w k cur t := by
  rcases h.2 with ⟨rfl, _⟩ | ⟨g, cap, cur, rfl, h2, h3, _⟩
  · cases e
  · simp [Value.ownBlock] at e
    subst e
    exact ⟨cur, h3⟩
theorem row_same {w w' : World} {lo n sz : Nat} {t : TypeId} {v : Value} {cs : List Value} (h : w.ownsRow lo t sz v n cs) (hk : ∀ k, v.ownBlock = some k → w'.heap[k]? = w.heap[k]?) : w'.ownsRow lo t sz v n cs := by
  refine ⟨h.1, ?_⟩
  rcases h.2 with h0 | ⟨g, cap, cur, rfl, h2, h3, h4⟩
  · exact .inl h0
  · exact .inr ⟨g, cap, cur, rfl, h2, (hk g rfl).trans h3, h4⟩
theorem row_form {w : World} {lo n sz : Nat} {t : TypeId} {v : Value} {cs : List Value} (h : w.ownsRow lo t sz v n cs) : ∃ a c, v = .slice a n c ∧ n ≤ c ∧ c ≤ maxLen ∧ (a = none → n = 0 ∧ c = 0) ∧ ∀ q, a = some q → ∃ g cur, q = ⟨g, 0, none⟩ ∧ v.ownBlock = some g ∧ Blk w g cur t ∧ cur.size = c * sz ∧ cur.toList.take (n * sz) = cs := by
  rcases h.2 with ⟨rfl, h0⟩ | ⟨g, cap, cur, rfl, h2, h3, h4, h5, h6, h7⟩
  · exact ⟨none, 0, by rw [h0], by omega, by simp [maxLen], fun _ => ⟨h0, rfl⟩, fun q e => (by cases e)⟩
  · exact ⟨_, cap, rfl, h4, h5, fun e => (by cases e), fun q e => (by cases e; exact ⟨g, cur, rfl, rfl, h3, h6, h7⟩)⟩
theorem DiskAt.foot_lt {w : World} {b g n : Nat} {v : Value} {S : DS} (h : DiskAt w b g n v S) {k : Nat} (hk : Foot b g v k) : k < w.heap.size := by
  obtain ⟨z, hb, _⟩ := h.blk
  rcases hk with rfl | rfl | e
  · exact hb.lt
  · exact h.good.lt
  · exact (row_blk h.wait e).choose_spec.lt
theorem DiskAt.gb {w : World} {b g n : Nat} {v : Value} {S : DS} (h : DiskAt w b g n v S) : g ≠ b := by
  obtain ⟨z, hb, _⟩ := h.blk
  exact blk_type_ne h.good hb (by decide)
theorem DiskAt.vb {w : World} {b g n : Nat} {v : Value} {S : DS} (h : DiskAt w b g n v S) : ∀ k, v.ownBlock = some k → k ≠ b ∧ k ≠ g := fun k e => by
  obtain ⟨z, hb, _⟩ := h.blk
  obtain ⟨cur, hc⟩ := row_blk h.wait e
  exact ⟨blk_type_ne hc hb (by decide), blk_type_ne hc h.good (by decide)⟩
theorem DiskAt.keep {w w' : World} {b g n : Nat} {v : Value} {S : DS} {F : Nat → Prop} (h : DiskAt w b g n v S) (hO : Only F w w') (hF : ∀ k, Foot b g v k → ¬ F k) : DiskAt w' b g n v S := by
  obtain ⟨z, hb, hz⟩ := h.blk
  exact ⟨h.ok, h.pos, h.fz, ⟨z, hO.blk hb (hF _ (.inl rfl)), hz⟩, hO.blk h.good (hF _ (.inr (.inl rfl))), row_same h.wait fun k e => hO.same k (h.foot_lt (.inr (.inr e))) (hF k (.inr (.inr e)))⟩
theorem DiskAt.on {w w' : World} {b g n : Nat} {v : Value} {S : DS} (h : DiskAt w b g n v S) (hb : Below w.heap.size w w') : DiskAt w' b g n v S :=
  h.keep (F := fun _ => False) (Only.of_below hb) (fun _ _ q => q)
/-- Plain cells of the disk turn. -/
theorem DiskAt.scal {w w' : World} {b g n : Nat} {v : Value} {S T : DS} (h : DiskAt w b g n v S) (hO : Only (· = b) w w') (z : Int)
    (hB : Blk w' b #[.slice (some ⟨g, 0, none⟩) n n, v, .bool T.gone, .bool T.fuse.isSome, .int .i64 z, .int .i64 (T.ops : Nat)] 62) (hz : ∀ f, T.fuse = some f → z = (f : Int)) (hf : ∀ f, T.fuse = some f → f ≤ 9223372036854775807)
    (h1 : T.good = S.good) (h2 : T.wait = S.wait) : DiskAt w' b g n v T :=
  ⟨h.ok.of h1 h2, h.pos, hf, ⟨z, hB, hz⟩, by rw [h1]; exact hO.blk h.good h.gb, by rw [h2]; exact row_same h.wait fun k e => hO.same k (h.foot_lt (.inr (.inr e))) (h.vb k e).1⟩
theorem Blk.on {w w' : World} {g : Nat} {cs : Array Value} {t : TypeId} (h : Blk w g cs t) (hb : Below w.heap.size w w') : Blk w' g cs t := h.below hb h.lt
end Go.Proofs.Ytgbahfggnbpnmaa
