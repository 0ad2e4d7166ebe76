import Derived.Test.YtgbahfggnbpnmaaLwV
import Derived.Maps.OwnOps
import Derived.Maps.Views
/-
  The counts of liverylaw17.DiskStays: a map of the law's own.
-/
namespace Go.Proofs.Ytgbahfggnbpnmaa
open Go.RowKit Go.Maps
abbrev CD := DataW Unit
abbrev ik (j : Int) : Lit := .int .i64 j
abbrev iv (c : Int) : CD := .lit (.int .i64 c)
theorem lawI : Keyed Try.prog 3 := int_keyed Try.underlying3
theorem zeroI (w : World) : (zeroValue 3).run Try.prog w = .ok (.int .i64 0) w := by kernel_rfl
def MapOwn (w : World) (bm n : Nat) (D : CD) : Prop := w.ownsMap Try.prog 3 (plainElem Try.prog 3) bm n D
theorem MapOwn.only {w w' : World} {F : Nat → Prop} {bm n : Nat} {D : CD} (h : MapOwn w bm n D) (hO : Only F w w') (hF : ¬ F bm) : MapOwn w' bm n D := by
  obtain ⟨es, clock, hb, h2⟩ := h
  exact ⟨es, clock, (hO.same bm (Array.getElem?_eq_some_iff.1 hb).1 hF).trans hb, h2⟩
theorem MapOwn.on {w w' : World} {bm n : Nat} {D : CD} (h : MapOwn w bm n D) (hb : Below w.heap.size w w') : MapOwn w' bm n D := h.only (F := fun _ => False) (Only.of_below hb) (fun q => q)
theorem MapOwn.not_blk {w : World} {bm n k : Nat} {D : CD} {cs : Array Value} {t : TypeId} (h : MapOwn w bm n D) (hk : Blk w k cs t) : bm ≠ k := fun e => by
  obtain ⟨es, clock, hb, _⟩ := h
  unfold Blk at hk
  rw [← e, hb] at hk
  cases hk
theorem MapOwn.not_foot {w : World} {bm n b g nn : Nat} {D : CD} {v : Value} {S : DS} (h : MapOwn w bm n D) (hd : DiskAt w b g nn v S) : ¬ Foot b g v bm := fun q => by
  obtain ⟨z, hb, _⟩ := hd.blk
  rcases q with e | e | e
  · exact h.not_blk hb e
  · exact h.not_blk hd.good e
  · obtain ⟨cur, hc⟩ := row_blk hd.wait e; exact h.not_blk hc rfl
theorem MapOwn.more {w : World} {bm n : Nat} {D : CD} (h : MapOwn w bm n D) : MapOwn w bm (n + 1) D := World.ownsMap.mono h (by omega)
theorem WJ.aside {w0 wr w' : World} {b g n k bm m : Nat} {S0 : DS} {os : List KOp} {D : CD} (h : WJ w0 wr b g n S0 os k) (hm : MapOwn wr bm m D) (hO : Only (· = bm) wr w') (hb : w0.heap.size ≤ bm) : WJ w0 w' b g n S0 os k := by
  obtain ⟨v, h1, h2, h3, h4⟩ := h
  exact ⟨v, h1.keep hO (fun j hj e => hm.not_foot h1 (e ▸ hj)), h2, h3, h4.trans (hO.below (fun j e => by rw [e]; exact hb) h4.size)⟩
/-- What the counts say of what waits. -/
structure MapC (D : CD) (k : Nat) (W : List Wt) : Prop where
  isMap : IsMap D
  small : ∀ j c, D.atKey (ik j) (iv 0) = iv c → 0 ≤ c ∧ c ≤ (k : Int)
  has : ∀ p, p ∈ W → ∀ c, D.atKey (ik (p.1 : Nat)) (iv 0) = iv c → 0 < c
theorem mapC_zero : MapC (.map []) 0 [] := by
  refine ⟨isMap_empty, fun j c h => ?_, fun p hp => by cases hp⟩
  have h2 : iv 0 = iv c := h
  simp only [DataW.lit.injEq, Lit.int.injEq] at h2
  omega
theorem MapC.mono {D : CD} {k m : Nat} {W : List Wt} (h : MapC D k W) (hm : k ≤ m) : MapC D m W := ⟨h.isMap, fun j c e => by have := h.small j c e; omega, h.has⟩
theorem MapC.put {D : CD} {k : Nat} {W : List Wt} (h : MapC D k W) {j c : Int} (hj : 0 ≤ j) (hc : D.atKey (ik j) (iv 0) = iv c) (b : Sec) : MapC (D.put (ik j) (iv (c + 1))) (k + 1) (W ++ [(j.toNat, b)]) := by
  have hs := h.small j c hc
  refine ⟨h.isMap.put _ _, fun j' c' e => ?_, fun p hp c' e => ?_⟩
  · by_cases q : j' = j
    · subst q
      rw [atKey_put_same h.isMap (by trivial)] at e
      simp only [DataW.lit.injEq, Lit.int.injEq] at e
      omega
    · rw [atKey_put_other (by simpa using q)] at e
      have := h.small j' c' e
      omega
  · by_cases q : (p.1 : Int) = j
    · rw [q, atKey_put_same h.isMap (by trivial)] at e
      simp only [DataW.lit.injEq, Lit.int.injEq] at e
      omega
    · rw [atKey_put_other (by simpa using q)] at e
      rcases List.mem_append.1 hp with r | r
      · exact h.has p r c' e
      · have := List.mem_singleton.1 r
        rw [this] at q
        exact absurd (show ((j.toNat : Nat) : Int) = j by omega) q
theorem stays_law (T : DS) (pk : List Bool) {D : CD} {k i : Nat} (h : MapC D k T.wait) {c : Int} (hc : D.atKey (ik (i : Nat)) (iv 0) = iv c) (h0 : c = 0) : (T.crash pk).good.getD i [] = T.good.getD i [] := by
  rcases settle_from T.good T.wait (fun j => pk.getD j false) i with e | ⟨p, hp, h1, h2⟩
  · exact e
  · have := h.has p hp c (by rw [h1]; exact hc)
    omega
/-- A lookup, at every world that is the same in memory. -/
theorem MapOwn.look {w : World} {bm n : Nat} {D : CD} (h : MapOwn w bm n D) (j : Int) (hw : (Lit.int .i64 j).wf = true) :
    ∃ c : Int, (∀ q, (Instr.lookup 40 (.map (some bm)) (.int .i64 j) false).run Try.prog (w.drewN q) = .ok (.int .i64 c) (w.drewN q)) ∧ D.atKey (ik j) (iv 0) = iv c := by
  obtain ⟨c, h1, h2, _⟩ := World.ownsMap.lookup_int (show w.ownsMap Try.prog 3 (plainElem Try.prog 3) bm n D from h) lawI Try.underlying40 Try.underlying3 (zeroI w) (keyOf_int_mk Try.underlying3 hw)
  refine ⟨c, fun q => ?_, h2⟩
  obtain ⟨c', h1', h2', _⟩ := World.ownsMap.lookup_int (show (w.drewN q).ownsMap Try.prog 3 (plainElem Try.prog 3) bm n D from h) lawI Try.underlying40 Try.underlying3 (zeroI _) (keyOf_int_mk Try.underlying3 hw)
  rw [h2] at h2'
  simp only [DataW.lit.injEq, Lit.int.injEq] at h2'
  rw [h2'.2]
  exact h1'
theorem WJ.writeR {w0 wr : World} {b g n k : Nat} {S0 : DS} {os : List KOp} (h : WJ w0 wr b g n S0 os k) (hk : k < os.length) (h200 : os.length ≤ 200) {op : KOp} (hop : op = os.getD k kop0) (ha : op.act = 1) {c : Nat} {pb : Option Addr} (ht : Txt wr pb 256 c (blockL op.x)) :
    Calls Try.prog 15 #[.pointer (some ⟨b, 0, none⟩), .int .i64 op.i, .slice pb 256 c] wr fun e w' => e = .returned (.int .i64 (((os.take k).foldl wrO S0).write op.i (blockL op.x)).1) ∧ WJ w0 w' b g n S0 os (k + 1) ∧ ∃ v, DiskAt wr b g n v ((os.take k).foldl wrO S0) ∧ Only (Foot b g v) wr w' := by
  obtain ⟨v, h1, h2, h3, h4⟩ := h
  refine (dwrite_at op.i pb 256 c (blockL op.x) wr h1 (by have := h3.2; omega) (by have := h3.1; omega) ht).mono ?_
  rintro e w2 ⟨rfl, v2, hD, hO, hv⟩
  have e : (os.take (k + 1)).foldl wrO S0 = (((os.take k).foldl wrO S0).write op.i (blockL op.x)).2 := by
    rw [fold_take wrO S0 k hk, ← hop]; unfold wrO; rw [if_pos ha]
  exact ⟨rfl, ⟨v2, by rw [e]; exact hD, foot_new h2 h4.size hv, by rw [e]; exact h3.write _ _, h4.trans (hO.below h2 h4.size)⟩, v, h1, hO⟩
/-- What a round does to what waits. -/
theorem wait_round {S0 : DS} (hc : S0.Calm) {os : List KOp} {k : Nat} (hk : k < os.length) {op : KOp} (hop : op = os.getD k kop0) (ha : op.act = 1) :
    (((os.take k).foldl wrO S0).write op.i (blockL op.x)).1 = 0 ∧ ((os.take (k + 1)).foldl wrO S0).wait = ((os.take k).foldl wrO S0).wait ++ [(op.i.toNat, blockL op.x)] ∧ 0 ≤ op.i ∨
      (((os.take k).foldl wrO S0).write op.i (blockL op.x)).1 = 1 ∧ ((os.take (k + 1)).foldl wrO S0).wait = ((os.take k).foldl wrO S0).wait := by
  have e : (os.take (k + 1)).foldl wrO S0 = (((os.take k).foldl wrO S0).write op.i (blockL op.x)).2 := by
    rw [fold_take wrO S0 k hk, ← hop]; unfold wrO; rw [if_pos ha]
  rw [e]
  rcases calm_write (Calm.wrs hc (os.take k)) op.i (blockL op.x) with ⟨h1, h2, h3, _⟩ | ⟨h1, h2⟩
  · exact .inl ⟨h1, h2, h3⟩
  · exact .inr ⟨h1, by rw [h2]⟩
theorem wait_skip {S0 : DS} {os : List KOp} {k : Nat} (hk : k < os.length) {op : KOp} (hop : op = os.getD k kop0) (ha : op.act ≠ 1) : ((os.take (k + 1)).foldl wrO S0).wait = ((os.take k).foldl wrO S0).wait := by
  rw [fold_take wrO S0 k hk, ← hop]; unfold wrO; rw [if_neg ha]
end Go.Proofs.Ytgbahfggnbpnmaa
