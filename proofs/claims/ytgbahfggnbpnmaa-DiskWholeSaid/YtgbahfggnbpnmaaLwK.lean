import Derived.Test.YtgbahfggnbpnmaaLwH
import Derived.Test.YtgbahfggnbpnmaaDskZ
/-
  Several disks of the law's own side by side; a script done on one of them.
-/
namespace Go.Proofs.Ytgbahfggnbpnmaa
open Go.RowKit
def Apart (b g : Nat) (v : Value) (c gc : Nat) (vc : Value) : Prop := ∀ k, Foot b g v k → ¬ Foot c gc vc k
theorem Apart.symm {b g c gc : Nat} {v vc : Value} (h : Apart b g v c gc vc) : Apart c gc vc b g v := fun k hk q => h k q hk
theorem Apart.grow {b g c gc m : Nat} {v v' vc : Value} (h : Apart b g v c gc vc) (hv : ∀ k, v'.ownBlock = some k → v.ownBlock = some k ∨ m ≤ k) (hc : ∀ k, Foot c gc vc k → k < m) : Apart b g v' c gc vc := fun k hk q => by
  rcases hk with e | e | e
  · exact h k (.inl e) q
  · exact h k (.inr (.inl e)) q
  · rcases hv k e with p | p
    · exact h k (.inr (.inr p)) q
    · have := hc k q; omega
theorem Apart.new {w : World} {b g n c gc : Nat} {v vc : Value} {S : DS} (h : DiskAt w b g n v S) (hc : ∀ k, Foot c gc vc k → w.heap.size ≤ k) : Apart b g v c gc vc := fun k hk q => by have := h.foot_lt hk; have := hc k q; omega
theorem fold_take {os : List KOp} (f : DS → KOp → DS) (S : DS) (k : Nat) (hk : k < os.length) : (os.take (k + 1)).foldl f S = f ((os.take k).foldl f S) (os.getD k kop0) := by
  rw [List.take_succ_eq_append_getElem hk, List.foldl_append, List.getD, List.getElem?_eq_getElem hk]; rfl
/-- A disk's own act leaves another disk. -/
theorem disk_aside {w0 w w' : World} {av : Nat → Prop} {b g n b' n' c gc nc : Nat} {v v' u x vc : Value} {S R S1 : DS} (hT : Two17 w0 w av b g n v S b' n' u x R) (hO : Only (fun k => Foot b g v k ∨ RFoot b' u x k) w w') (hc : DiskAt w c gc nc vc S1) (ha : Apart b g v c gc vc) (hv : ∀ k, v'.ownBlock = some k → v.ownBlock = some k ∨ w.heap.size ≤ k) :
    DiskAt w' c gc nc vc S1 ∧ Apart b g v' c gc vc :=
  ⟨hc.keep hO (fun k hk q => q.elim (fun e => ha k e hk) (fun e => foot_apart hc hT.r hk e)), ha.grow hv fun k hk => hc.foot_lt hk⟩
theorem tu_aside {w0 w w' : World} {av : Nat → Prop} {b g n b' n' : Nat} {v u x z : Value} {S R : DS} {l : List UInt8} (hT : Two17 w0 w av b g n v S b' n' u x R) (hO : Only (fun k => Foot b g v k ∨ RFoot b' u x k) w w') (h : TU w z l) : TU w' z l :=
  h.keep hO fun k cur hb q => q.elim (fun e => hT.d.foot_ne hb e) (fun e => hT.r.foot_ne hb e)
/-- A script is done on one disk (beside a reference's disk); two others and a text stand by. -/
def DJ (w0 wr : World) (b g n : Nat) (c gc : Nat) (vc : Value) (S1 : DS) (h gh : Nat) (vh : Value) (S2 : DS) (b' : Nat) (u : Value) (S0 : DS) (was : Value) (img : List UInt8) (os : List KOp) (rl k : Nat) : Prop :=
  ∃ av v x R, Two17 w0 wr av b g n v ((os.take k).foldl stepO S0) b' 8 u x R ∧ ((os.take k).foldl stepO S0).Lim (200 + k) ∧ R.Lim (rl + k) ∧ DiskAt wr c gc n vc S1 ∧ DiskAt wr h gh n vh S2 ∧ Apart b g v c gc vc ∧ Apart b g v h gh vh ∧ TU wr was img
section
variable {w0 wr w' : World} {b g n c gc h gh b' rl k : Nat} {vc vh u was : Value} {S0 S1 S2 : DS} {img : List UInt8} {os : List KOp}
theorem DJ.on (hJ : DJ w0 wr b g n c gc vc S1 h gh vh S2 b' u S0 was img os rl k) (hb : Below wr.heap.size wr w') : DJ w0 w' b g n c gc vc S1 h gh vh S2 b' u S0 was img os rl k := by
  obtain ⟨av, v, x, R, h1, h2, h3, h4, h5, h6, h7, h8⟩ := hJ
  exact ⟨av, v, x, R, h1.on hb, h2, h3, h4.on hb, h5.on hb, h6, h7, h8.on hb⟩
theorem DJ.bl (hJ : DJ w0 wr b g n c gc vc S1 h gh vh S2 b' u S0 was img os rl k) : Below w0.heap.size w0 wr := by
  obtain ⟨av, v, x, R, h1, _⟩ := hJ; exact h1.bl
theorem DJ.does (hJ : DJ w0 wr b g n c gc vc S1 h gh vh S2 b' u S0 was img os rl k) (hrl : rl ≤ 500) (hk : k < os.length) (h200 : os.length ≤ 200) {op : KOp} (hop : op = os.getD k kop0) {ab ap : Option Addr} {nb cb np cp : Nat} (hnl : ¬ longK op) (hin : op.In) (hB : Txt w0 ab nb cb op.b) (hP : BTx w0 ap np cp op.pick) :
    Calls Try.prog 24 #[.pointer (some ⟨b, 0, none⟩), .pointer (some ⟨b', 0, none⟩), .agg (kcells op ab ap nb cb np cp).toArray] wr fun e w' => ∃ t, e = .returned (.bool t) ∧ DJ w0 w' b g n c gc vc S1 h gh vh S2 b' u S0 was img os rl (k + 1) := by
  obtain ⟨av, v, x, R, h1, h2, h3, h4, h5, h6, h7, h8⟩ := hJ
  refine (does17_walk op ab ap nb cb np cp w0 wr h1 (h2.mono (by omega)) (h3.mono (by omega)) hnl hin hB hP).mono ?_
  rintro e w2 ⟨t, rfl, _, v2, x2, hT, hO, hv, _⟩
  have q1 := disk_aside h1 hO h4 h6 hv
  have q2 := disk_aside h1 hO h5 h7 hv
  refine ⟨t, rfl, fun j => av j ∨ wr.heap.size ≤ j, v2, x2, stepO R op, ?_, ?_, (by have := h3.step op; rwa [Nat.add_assoc] at this), q1.1, q2.1, q1.2, q2.2, tu_aside h1 hO h8⟩
  · rw [fold_take stepO S0 k hk, ← hop]; exact hT
  · rw [fold_take stepO S0 k hk, ← hop]; exact h2.step op
end
/-- An act of a script, where it lies: what a round needs. -/
theorem KsIn.at_ {w0 : World} {a : Option Addr} {m c : Nat} {os : List KOp} (hK : KsIn w0 a m c os) {k : Nat} (hk : k < m) (hf : fewK os) :
    ∃ gk ok op ab ap nb cb np cp, a = some ⟨gk, ok, none⟩ ∧ op = os.getD k kop0 ∧ w0.rangeAt gk (ok + k * 6) (kcells op ab ap nb cb np cp) ∧ Txt w0 ab nb cb op.b ∧ BTx w0 ap np cp op.pick ∧ op.In ∧ ¬ longK op := by
  obtain ⟨gk, ok, ha, _, ⟨ab, ap, nb, cb, np, cp, hr, htb, htp⟩, hin⟩ := hK.2.2.2 k (by have := hK.1; omega)
  exact ⟨gk, ok, _, ab, ap, nb, cb, np, cp, ha, rfl, hr, htb, htp, hin, hf.1 _ (by rw [List.getD, List.getElem?_eq_getElem (by have := hK.1; omega)]; exact List.getElem_mem _)⟩
theorem range_on {w0 w : World} {g o : Nat} {cs : List Value} (hr : w0.rangeAt g o cs) (hb : Below w0.heap.size w0 w) : w.rangeAt g o cs := fun j y hj => by
  have h := hr j y hj
  exact (hb.cell (p := ⟨g, o + j, none⟩) (block_lt_of_cell h)).trans h
theorem kz_kop (op : KOp) (ab ap : Option Addr) (nb cb np cp : Nat) : (Try.prog.info? 33).map (·.size) = some (kcells op ab ap nb cb np cp).toArray.size := size_kop
end Go.Proofs.Ytgbahfggnbpnmaa
