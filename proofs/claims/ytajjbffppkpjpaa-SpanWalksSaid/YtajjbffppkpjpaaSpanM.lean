import Derived.Test.YtajjbffppkpjpaaMem
import Derived.Test.YtajjbffppkpjpaaChecked
import Derived.Test.YtajjbffppkpjpaaSpanS
/-
  Ranges in memory; one, lower, both.
-/
namespace Go.Proofs.Ytajjbffppkpjpaa
open Go.RowKit
def rcl (r : Rg) : List Value := [.int .u64 (r.lo : Nat), .int .u64 (r.hi : Nat)]
abbrev rag (r : Rg) : Value := .agg #[.int .u64 (r.lo : Nat), .int .u64 (r.hi : Nat)]
/-- Ranges that came in. -/
structure RgsIn (w : World) (a : Option Addr) (n c : Nat) (l : List Rg) : Prop where
  len : n = l.length
  fit : n ≤ c
  top : c ≤ maxLen
  rd : ∀ i, i < l.length → ∃ g o, a = some ⟨g, o, none⟩ ∧ g < w.heap.size ∧ w.rangeAt g (o + i * 2) (rcl (l.getD i r0))
  b64 : ∀ r, r ∈ l → r.lo < 18446744073709551616 ∧ r.hi < 18446744073709551616
theorem RgsIn.on {w w' : World} {a : Option Addr} {n c : Nat} {l : List Rg} (h : RgsIn w a n c l) (hb : Below w.heap.size w w') : RgsIn w' a n c l :=
  ⟨h.len, h.fit, h.top, fun i hi => by
    obtain ⟨g, o, e, hg, hr⟩ := h.rd i hi
    exact ⟨g, o, e, Nat.lt_of_lt_of_le hg hb.size, fun j v hv => (hb.cell (p := ⟨g, o + i * 2 + j, none⟩) hg).trans (hr j v hv)⟩, h.b64⟩
theorem size_rg : (Try.prog.info? 25).map (·.size) = some 2 := by kernel_rfl
theorem below_one1 (W : World) (o : Obj) : Below W.heap.size W (W.alloc o) := (Below.refl _ W).alloc (Nat.le_refl _) o
set_option maxRecDepth 100000 in
theorem one_walk (r : Rg) (w : World) : Calls Try.prog 74 #[rag r] w fun e w' => e = .returned (.bool (decide (oneP r))) ∧ Below w.heap.size w w' := by
  have hb := below_one1 w (.cells #[.int .u64 (r.lo : Nat), .int .u64 (r.hi : Nat)] 25)
  have HB := Lib.hid hb
  clear hb
  by_cases h1 : r.lo < r.hi
  · have g1 : (r.lo : Int) < (r.hi : Int) := by omega
    by_cases h2 : r.hi ≤ maxIx
    · rw [decide_eq_true (show oneP r from ⟨h1, h2⟩)]
      have g2 : (r.hi : Int) ≤ 1152921504606846976 := by unfold maxIx at h2; omega
      go_enter Try.func74, Try.ntmps74
      go_wp2
      go_ret
      exact ⟨rfl, HB.out⟩
    · rw [decide_eq_false (show ¬ oneP r from fun h => h2 h.2)]
      have g2 : ¬ (r.hi : Int) ≤ 1152921504606846976 := by unfold maxIx at h2; omega
      go_enter Try.func74, Try.ntmps74
      go_wp2
      go_ret
      exact ⟨rfl, HB.out⟩
  · rw [decide_eq_false (show ¬ oneP r from fun h => h1 h.1)]
    have g1 : ¬ (r.lo : Int) < (r.hi : Int) := by omega
    go_enter Try.func74, Try.ntmps74
    go_wp2
    go_ret
    exact ⟨rfl, HB.out⟩
set_option maxRecDepth 100000 in
theorem rone_walk (r : Rg) (w : World) : Calls Try.prog 18 #[rag r] w fun e w' => e = .returned (.bool (decide (oneP r))) ∧ Below w.heap.size w w' := by
  have hb := below_one1 w (.cells #[.int .u64 (r.lo : Nat), .int .u64 (r.hi : Nat)] 25)
  have HB := Lib.hid hb
  clear hb
  by_cases h1 : r.lo < r.hi
  · have g1 : (r.lo : Int) < (r.hi : Int) := by omega
    by_cases h2 : r.hi ≤ maxIx
    · rw [decide_eq_true (show oneP r from ⟨h1, h2⟩)]
      have g2 : (r.hi : Int) ≤ 1152921504606846976 := by unfold maxIx at h2; omega
      go_enter Try.func18, Try.ntmps18
      go_wp2
      go_ret
      exact ⟨rfl, HB.out⟩
    · rw [decide_eq_false (show ¬ oneP r from fun h => h2 h.2)]
      have g2 : ¬ (r.hi : Int) ≤ 1152921504606846976 := by unfold maxIx at h2; omega
      go_enter Try.func18, Try.ntmps18
      go_wp2
      go_ret
      exact ⟨rfl, HB.out⟩
  · rw [decide_eq_false (show ¬ oneP r from fun h => h1 h.1)]
    have g1 : ¬ (r.lo : Int) < (r.hi : Int) := by omega
    go_enter Try.func18, Try.ntmps18
    go_wp2
    go_ret
    exact ⟨rfl, HB.out⟩
theorem results_ct {P : Program} {fn : Func} {p u : Tmp} {ty : TypeId} (h : fn.results = #[.cell p ty, .tmp u]) (tmps : Array Value) {w : World} {g : Nat} {t : TypeId} {cs : Array Value} {d : TypeDesc} (hg : Blk w g cs t)
    (hp : tmps.getD p undef = .pointer (some ⟨g, 0, none⟩)) (hu : P.underlying ty = some d) (hd : (match d with | .struct _ | .array _ _ => true | _ => false) = true) (hi : (P.info? ty).map (·.size) = some cs.size) :
    (results fn tmps).run P w = .ok (.tuple #[.agg cs, tmps.getD u undef]) w := by
  rw [results_cell_tmp h, hp]
  simp [asAddr, run_loadVar_row w g t ty cs (0, 0) d hg hu hd hi, Result.andThen]
theorem below_two2 (w : World) (o p : Obj) : Below w.heap.size w ((w.alloc o).alloc p) := (below_one1 w o).alloc (by simp) p
theorem below_four (w : World) (o p q s : Obj) : Below w.heap.size w ((((w.alloc o).alloc p).alloc q).alloc s).drew := (((below_two2 w o p).alloc (by simp; omega) q).alloc (by simp; omega) s).drew
theorem blk_third (w : World) (o p : Obj) (cs : Array Value) (t : TypeId) (s : Obj) : Blk ((((w.alloc o).alloc p).alloc (.cells cs t)).alloc s).drew (w.heap.size + 1 + 1) cs t :=
  ((Blk.new' ((w.alloc o).alloc p) cs t (g := w.heap.size + 1 + 1) (by simp)).alloc s).drew
set_option maxRecDepth 100000 in
theorem both_walk (x y : Rg) (w : World) : Calls Try.prog 79 #[rag x, rag y] w fun e w' => e = .returned (.tuple #[rag (inter x y), .bool (decide ((inter x y).lo < (inter x y).hi))]) ∧ Below w.heap.size w w' := by
  rcases Nat.lt_or_ge x.lo y.lo with h1 | h1
  · have g1 : (x.lo : Int) < (y.lo : Int) := by omega
    rcases Nat.lt_or_ge y.hi x.hi with h2 | h2
    · have e1 : inter x y = ⟨y.lo, y.hi⟩ := by unfold inter; rw [Nat.max_eq_right (by omega), Nat.min_eq_right (by omega)]
      have g2 : (y.hi : Int) < (x.hi : Int) := by omega
      rw [e1]
      go_enter Try.func79, Try.ntmps79
      go_wp2
      go_region
      go_wp2
      refine bodyPost_ret (v := .tuple #[rag ⟨y.lo, y.hi⟩, .bool (decide (y.lo < y.hi))]) ?_ rfl ⟨rfl, below_four w _ _ _ _⟩
      exact (results_ct rfl _ (blk_third w _ _ #[.int .u64 (y.lo : Nat), .int .u64 (y.hi : Nat)] 25 _) (by rfl) Try.underlying25 rfl size_rg).trans rfl
    · have e1 : inter x y = ⟨y.lo, x.hi⟩ := by unfold inter; rw [Nat.max_eq_right (by omega), Nat.min_eq_left (by omega)]
      have g2 : ¬ (y.hi : Int) < (x.hi : Int) := by omega
      have g3 : (x.hi : Int) ≤ (y.hi : Int) := by omega
      rw [e1]
      go_enter Try.func79, Try.ntmps79
      go_wp2
      go_region
      go_wp2
      refine bodyPost_ret (v := .tuple #[rag ⟨y.lo, x.hi⟩, .bool (decide (y.lo < x.hi))]) ?_ rfl ⟨rfl, below_four w _ _ _ _⟩
      exact (results_ct rfl _ (blk_third w _ _ #[.int .u64 (y.lo : Nat), .int .u64 (x.hi : Nat)] 25 _) (by rfl) Try.underlying25 rfl size_rg).trans rfl
  · have g1 : (y.lo : Int) ≤ (x.lo : Int) := by omega
    rcases Nat.lt_or_ge y.hi x.hi with h2 | h2
    · have e1 : inter x y = ⟨x.lo, y.hi⟩ := by unfold inter; rw [Nat.max_eq_left (by omega), Nat.min_eq_right (by omega)]
      have g2 : (y.hi : Int) < (x.hi : Int) := by omega
      rw [e1]
      go_enter Try.func79, Try.ntmps79
      go_wp2
      go_region
      go_wp2
      refine bodyPost_ret (v := .tuple #[rag ⟨x.lo, y.hi⟩, .bool (decide (x.lo < y.hi))]) ?_ rfl ⟨rfl, below_four w _ _ _ _⟩
      exact (results_ct rfl _ (blk_third w _ _ #[.int .u64 (x.lo : Nat), .int .u64 (y.hi : Nat)] 25 _) (by rfl) Try.underlying25 rfl size_rg).trans rfl
    · have e1 : inter x y = ⟨x.lo, x.hi⟩ := by unfold inter; rw [Nat.max_eq_left (by omega), Nat.min_eq_left (by omega)]
      have g2 : ¬ (y.hi : Int) < (x.hi : Int) := by omega
      have g3 : (x.hi : Int) ≤ (y.hi : Int) := by omega
      rw [e1]
      go_enter Try.func79, Try.ntmps79
      go_wp2
      go_region
      go_wp2
      refine bodyPost_ret (v := .tuple #[rag ⟨x.lo, x.hi⟩, .bool (decide (x.lo < x.hi))]) ?_ rfl ⟨rfl, below_four w _ _ _ _⟩
      exact (results_ct rfl _ (blk_third w _ _ #[.int .u64 (x.lo : Nat), .int .u64 (x.hi : Nat)] 25 _) (by rfl) Try.underlying25 rfl size_rg).trans rfl
end Go.Proofs.Ytajjbffppkpjpaa
