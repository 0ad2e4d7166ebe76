import Derived.Test.YtgbahfggnbpnmaaDoorSum256
import Derived.ChangeKeysEq
/-
  Arrays of integers, compared.
-/
namespace Go.Proofs.YtgbahfggnbpnmaaDoor
open Go.RowKit

def iarr (q : IntKind) (l : List Int) : Array Value := (l.map (Value.int q)).toArray
theorem barr_iarr (l : List UInt8) : barr l = iarr .u8 (l.map fun x => (x.toNat : Int)) := by simp [barr, iarr]
theorem warr_iarr (l : List UInt32) : warr l = iarr .u32 (l.map fun x => (x.toNat : Int)) := by simp [warr, iarr]
section
variable {P : Program}
theorem part_int {e : TypeId} (q : IntKind) (hag : ∀ w, (isAgg e).run P w = .ok false w) (l : List Int) (i : Nat) (hi : i < l.length) (w : World) : (part e (iarr q l) i).run P w = .ok (.int q (l.getD i 0)) w := by
  simp [part, hag, iarr, hi]
theorem eqItems_ints (d : Nat) {e : TypeId} (q k : IntKind) (he : P.underlying e = some (.int k)) (hag : ∀ w, (isAgg e).run P w = .ok false w) (xs ys : List Int) (w : World) :
    ∀ is : List Nat, (∀ i ∈ is, i < xs.length ∧ i < ys.length) → (Op.eqItems (d + 1) e 1 (iarr q xs) (iarr q ys) is).run P w = .ok (is.all fun i => xs.getD i 0 == ys.getD i 0) w
  | [], _ => by simp [Op.eqItems]
  | i :: is, h => by
    have h0 := h i (by simp)
    have ih := eqItems_ints d q k he hag xs ys w is (fun j hj => h j (by simp [hj]))
    simp only [Op.eqItems, Sem.run_bind, Nat.mul_one, part_int q hag xs i h0.1, part_int q hag ys i h0.2, Result.andThen_ok, run_equalIn_int w d e q k _ _ he, List.all_cons]
    cases hb : (xs.getD i 0 == ys.getD i 0) with
    | true => simp only [Bool.not_true, Bool.false_eq_true, if_false, Bool.true_and]; exact ih
    | false => simp
theorem eq_ints (d : Nat) {t e : TypeId} {n : Nat} (q k : IntKind) (hu : P.underlying t = some (.array n e)) (hs : (P.info? e).map (·.size) = some 1) (he : P.underlying e = some (.int k)) (hag : ∀ w, (isAgg e).run P w = .ok false w)
    (xs ys : List Int) (hx : xs.length = n) (hy : ys.length = n) (w : World) : (Op.equalIn (d + 1 + 1) t (.agg (iarr q xs)) (.agg (iarr q ys))).run P w = .ok (decide (xs = ys)) w := by
  obtain ⟨i, i1, i2⟩ := Option.map_eq_some_iff.1 hs
  have hc : P.cellsOf e = 1 := by unfold Program.cellsOf; simp [i1, i2]
  rw [run_equalIn_array w (d + 1) _ _ hu i1, hc, eqItems_ints d q k he hag xs ys w (List.range n) (fun j hj => by simp at hj; omega)]
  congr 1
  rw [Bool.eq_iff_iff]
  simp only [List.all_eq_true, List.mem_range, beq_iff_eq, decide_eq_true_eq]
  constructor
  · intro h
    apply List.ext_getElem (by omega)
    intro j h1 h2
    have := h j (by omega)
    simpa [h1, h2] using this
  · intro h; simp [h]
end
set_option maxRecDepth 100000 in
theorem eq_bytes (n : Nat) {t : TypeId} (hu : Tryd.prog.underlying t = some (.array n 5)) (a b : List UInt8) (ha : a.length = n) (hb : b.length = n) (w : World) :
    (Op.equalIn 10000 t (.agg (barr a)) (.agg (barr b))).run Tryd.prog w = .ok (decide (a = b)) w := by
  have h := eq_ints 9998 .u8 .u8 hu size_u8 Tryd.underlying5 (fun _ => by kernel_rfl) (a.map fun x => (x.toNat : Int)) (b.map fun x => (x.toNat : Int)) (by simpa using ha) (by simpa using hb) w
  rw [← barr_iarr, ← barr_iarr] at h
  refine Eq.trans h ?_
  congr 1
  rw [Bool.eq_iff_iff]
  simp only [decide_eq_true_eq]
  constructor
  · intro h
    exact (List.map_inj_right (fun x y hxy => by have : x.toNat = y.toNat := by omega
                                                 exact UInt8.toNat_inj.1 this)).1 h
  · intro h; rw [h]
set_option maxRecDepth 100000 in
theorem eq_words (n : Nat) {t : TypeId} (hu : Tryd.prog.underlying t = some (.array n 22)) (a b : List UInt32) (ha : a.length = n) (hb : b.length = n) (w : World) :
    (Op.equalIn 10000 t (.agg (warr a)) (.agg (warr b))).run Tryd.prog w = .ok (decide (a = b)) w := by
  have h := eq_ints 9998 .u32 .u32 hu size_u32 Tryd.underlying22 (fun _ => by kernel_rfl) (a.map fun x => (x.toNat : Int)) (b.map fun x => (x.toNat : Int)) (by simpa using ha) (by simpa using hb) w
  rw [← warr_iarr, ← warr_iarr] at h
  refine Eq.trans h ?_
  congr 1
  rw [Bool.eq_iff_iff]
  simp only [decide_eq_true_eq]
  constructor
  · intro h
    exact (List.map_inj_right (fun x y hxy => by have : x.toNat = y.toNat := by omega
                                                 exact UInt32.toNat_inj.1 this)).1 h
  · intro h; rw [h]
end Go.Proofs.YtgbahfggnbpnmaaDoor
