import Derived.Test.YtgbahfggnbpnmaaLwF
import Derived.Test.YtgbahfggnbpnmaaDskO
/-
  A disk and a reference's disk of the law's own, side by side; what an act leaves.
-/
namespace Go.Proofs.Ytgbahfggnbpnmaa
open Go.RowKit
theorem stepO_1 {S : DS} {o : KOp} (h : o.act = 1) : stepO S o = (S.write o.i (blockL o.x)).2 := by unfold stepO; rw [if_pos h]
theorem stepO_2 {S : DS} {o : KOp} (h : o.act = 2) : stepO S o = S.sync.2 := by unfold stepO; rw [if_neg (by omega), if_pos h]
theorem stepO_3 {S : DS} {o : KOp} (h : o.act = 3) : stepO S o = (S.arm o.n).2 := by unfold stepO; rw [if_neg (by omega), if_neg (by omega), if_pos h]
theorem stepO_4 {S : DS} {o : KOp} (h : o.act = 4) : stepO S o = S.calm := by unfold stepO; rw [if_neg (by omega), if_neg (by omega), if_neg (by omega), if_pos h]
theorem stepO_5 {S : DS} {o : KOp} (h : o.act = 5) : stepO S o = S.crash o.pick := by unfold stepO; rw [if_neg (by omega), if_neg (by omega), if_neg (by omega), if_neg (by omega), if_pos h]
theorem stepO_7 {S : DS} {o : KOp} (h : o.act = 7) : stepO S o = (S.write o.i o.b).2 := by unfold stepO; rw [if_neg (by omega), if_neg (by omega), if_neg (by omega), if_neg (by omega), if_neg (by omega), if_pos h]
theorem stepO_no {S : DS} {o : KOp} (h : o.act ≠ 1 ∧ o.act ≠ 2 ∧ o.act ≠ 3 ∧ o.act ≠ 4 ∧ o.act ≠ 5 ∧ o.act ≠ 7) : stepO S o = S := by
  unfold stepO; rw [if_neg h.1, if_neg h.2.1, if_neg h.2.2.1, if_neg h.2.2.2.1, if_neg h.2.2.2.2.1, if_neg h.2.2.2.2.2]
theorem DiskAt.foot_ty {w : World} {b g n : Nat} {v : Value} {S : DS} (h : DiskAt w b g n v S) {k : Nat} {cur : Array Value} {t : TypeId} (hk : Blk w k cur t) (h1 : t ≠ 62 ∧ t ≠ 65 ∧ t ≠ 67) : ¬ Foot b g v k := fun q => by
  obtain ⟨z, hb, _⟩ := h.blk
  rcases q with rfl | rfl | e
  · exact blk_type_ne hk hb h1.1 rfl
  · exact blk_type_ne hk h.good h1.2.1 rfl
  · obtain ⟨c, hc⟩ := row_blk h.wait e; exact blk_type_ne hk hc h1.2.2 rfl
theorem RefAt.foot_ty {w : World} {av : Nat → Prop} {b n : Nat} {u v : Value} {S : DS} (h : RefAt w av b n u v S) {k : Nat} {cur : Array Value} {t : TypeId} (hk : Blk w k cur t) (h1 : t ≠ 71 ∧ t ≠ 30 ∧ t ≠ 76) : ¬ RFoot b u v k := fun q => by
  obtain ⟨gs, hg, hg2⟩ := h.good
  obtain ⟨ws, hw, hw2⟩ := h.wait
  rcases q with rfl | e | e
  · exact blk_type_ne hk h.blk h1.1 rfl
  · obtain ⟨c, hc⟩ := row_blk hg e; exact blk_type_ne hk hc h1.2.1 rfl
  · obtain ⟨c, hc⟩ := row_blk hw e; exact blk_type_ne hk hc h1.2.2 rfl
structure Two17 (w0 w : World) (av : Nat → Prop) (b g n : Nat) (v : Value) (S : DS) (b' n' : Nat) (u x : Value) (R : DS) : Prop where
  d : DiskAt w b g n v S
  r : RefAt w av b' n' u x R
  fd : ∀ k, Foot b g v k → w0.heap.size ≤ k
  fr : ∀ k, RFoot b' u x k → w0.heap.size ≤ k
  bl : Below w0.heap.size w0 w
section
variable {w0 w w' : World} {av av' : Nat → Prop} {b g n b' n' : Nat} {v v' u x x' : Value} {S S' R R' : DS}
theorem Two17.on (h : Two17 w0 w av b g n v S b' n' u x R) (hb : Below w.heap.size w w') : Two17 w0 w' av b g n v S b' n' u x R :=
  ⟨h.d.on hb, h.r.on hb, h.fd, h.fr, h.bl.trans (hb.mono h.bl.size)⟩
theorem Two17.mono (h : Two17 w0 w av b g n v S b' n' u x R) (hv : ∀ k, av k → k < w.heap.size → av' k) : Two17 w0 w av' b g n v S b' n' u x R := ⟨h.d, h.r.mono hv, h.fd, h.fr, h.bl⟩
theorem Two17.dstep (h : Two17 w0 w av b g n v S b' n' u x R) (hD : DiskAt w' b g n v' S') (hO : Only (Foot b g v) w w') (hv : ∀ k, v'.ownBlock = some k → v.ownBlock = some k ∨ w.heap.size ≤ k) : Two17 w0 w' av b g n v' S' b' n' u x R :=
  ⟨hD, h.r.keepD h.d hO, fun k hk => by
    rcases hk with e | e | e
    · exact h.fd k (.inl e)
    · exact h.fd k (.inr (.inl e))
    · rcases hv k e with q | q
      · exact h.fd k (.inr (.inr q))
      · have := h.bl.size; omega, h.fr, h.bl.trans (hO.below h.fd h.bl.size)⟩
theorem Two17.rstep (h : Two17 w0 w av b g n v S b' n' u x R) (hR : RefAt w' av' b' n' u x' R') (hO : Only (RFoot b' u x) w w') (hv : ∀ k, x'.ownBlock = some k → x.ownBlock = some k ∨ w.heap.size ≤ k) : Two17 w0 w' av' b g n v S b' n' u x' R' :=
  ⟨h.d.keepR h.r hO, hR, h.fd, fun k hk => by
    rcases hk with e | e | e
    · exact h.fr k (.inl e)
    · exact h.fr k (.inr (.inl e))
    · rcases hv k e with q | q
      · exact h.fr k (.inr (.inr q))
      · have := h.bl.size; omega, h.bl.trans (hO.below h.fr h.bl.size)⟩
end
theorem OwnB.keepO {w w' : World} {F : Nat → Prop} {lo : Nat} {v : Value} {l : List UInt8} (h : OwnB w lo v l) (hO : Only F w w') (hF : ∀ k cur, Blk w k cur 5 → ¬ F k) : OwnB w' lo v l :=
  row_same h fun k e => by obtain ⟨cur, hc⟩ := row_blk h e; exact hO.same k hc.lt (hF k cur hc)
theorem OwnB.setp {w : World} {lo g n c : Nat} {l : List UInt8} (h : OwnB w lo (.slice (some ⟨g, 0, none⟩) n c) l) (k : Nat) (y : UInt8) : OwnB (w.setCell ⟨g, k, none⟩ (bv y)) lo (.slice (some ⟨g, 0, none⟩) n c) (l.set k y) := by
  rcases h.2 with ⟨e, _⟩ | ⟨g', cap, cur, e, h2, h3, h4, h5, h6, h7⟩
  · cases e
  · simp only [Value.slice.injEq, Option.some.injEq, Addr.mk.injEq] at e
    obtain ⟨⟨rfl, _⟩, rfl, rfl⟩ := e
    refine ⟨by simp, .inr ⟨g, c, cur.setIfInBounds k (bv y), by simp, h2, (show Blk w g cur 5 from h3).set k (bv y), by simpa using h4, h5, by simpa using h6, ?_⟩⟩
    rw [Nat.mul_one] at h7 ⊢
    rw [List.length_set, Array.toList_setIfInBounds, List.take_set, h7, List.map_set]
theorem OwnB.at_ {w : World} {lo n c : Nat} {a : Option Addr} {l : List UInt8} (h : OwnB w lo (.slice a n c) l) {k : Nat} (hk : k < l.length) : ∃ g, a = some ⟨g, 0, none⟩ ∧ lo ≤ g ∧ w.cell? ⟨g, k, none⟩ = some (bv (l.getD k 0)) ∧ w.frozen? ⟨g, k, none⟩ = false ∧ ∃ cur, Blk w g cur 5 := by
  obtain ⟨a', c', e, _, _, h3, h4, h5⟩ := h.form
  simp only [Value.slice.injEq] at e
  obtain ⟨rfl, _, _⟩ := e
  obtain ⟨g, o, rfl, hc⟩ := h3.at hk
  obtain ⟨rfl, cur, hb, _⟩ := h5 g o rfl
  refine ⟨g, rfl, (h4 g 0 rfl).1, ?_, hb.free k, cur, hb⟩
  rw [Nat.zero_add] at hc
  rw [hc]
end Go.Proofs.Ytgbahfggnbpnmaa
