import Derived.Test.YtajjbffppkpjpaaRow
import Derived.Test.YtajjbffppkpjpaaJn
/-
  A letter's own copy; the smaller functions of a net.
-/
namespace Go.Proofs.Ytajjbffppkpjpaa
set_option linter.unusedSimpArgs false
set_option linter.unusedVariables false
open Go.RowKit
/-- A letter: from, to, its bytes. -/
structure Snt where
  f : Int
  t : Int
  d : List UInt8
abbrev sag (f t : Int) (a : Option Addr) (n c : Nat) : Value := .agg #[.int .i64 f, .int .i64 t, .slice a n c]
theorem size_sent : (Try.prog.info? 47).map (·.size) = some 3 := by kernel_rfl
theorem info_u8n : (Try.prog.info? 5).map (fun i => (i.zero, i.size, i.bytes)) = some (some (.int .u8 0), 1, 1) := by kernel_rfl
theorem size_u8n : (Try.prog.info? 5).map (·.size) = some 1 := by kernel_rfl
theorem size_txt : (Try.prog.info? 45).map (·.size) = some 1 := by kernel_rfl
theorem splice_all {cur : List Value} {l : List UInt8} (h : cur.length = l.length) : (splice cur 0 (l.map bv)).toArray = barr l := by
  unfold splice barr
  simp [h, List.drop_eq_nil_of_le]
theorem rep_barr (n : Nat) : Array.replicate n (Value.int .u8 0) = barr (List.replicate n 0) := by simp [barr]
set_option maxRecDepth 100000 in
set_option maxHeartbeats 1000000 in
theorem own_walk (f t : Int) (a : Option Addr) (n c : Nat) (l : List UInt8) (hl : l.length ≤ 1000000) (w : World) (hT : Txt w a n c l) :
    Calls Try.prog 84 #[sag f t a n c] w fun e w' => ∃ g, e = .returned (sag f t (some ⟨g, 0, none⟩) n n) ∧ Blk w' g (barr l) 5 ∧ w.heap.size ≤ g ∧ Below w.heap.size w w' := by
  have HT := Lib.hid hT
  have HN := Lib.hid hT.len
  have hn : n ≤ 1000000 := by have := hT.len; omega
  clear hT hl
  go_enter Try.func84, Try.ntmps84
  have hb3 : ∀ x y z : Obj, Below w.heap.size w (((w.alloc x).alloc y).alloc z) := fun x y z => (((Below.refl _ w).alloc (Nat.le_refl _) x).alloc (by simp) y).alloc (by simp; omega) z
  have HB3 := Lib.hid hb3
  have HL := Lib.hid (show (l.map bv).length = min n n by rw [List.length_map, Nat.min_self]; exact HN.out.symm)
  have H1 := Lib.hid (show ∀ v ∈ l.map bv, v.oneCell' = true from fun v hv => by obtain ⟨x, _, rfl⟩ := List.mem_map.1 hv; rfl)
  clear hb3
  go_wp2_with (first | (refine wpList_make_rows rfl 45 (.tmp 6) (.tmp 6) rfl 5 (.int .u8 0) (.int .u8 0) 1 1 Try.underlying45 info_u8n (by rfl) (by decide) .i64 .i64 n n rfl rfl (Nat.le_refl _) (by omega) (by omega) ?_) | (refine wpList_copy_abs rfl (.tmp 8) (.tmp 10) 45 45 rfl 5 Try.underlying45 size_u8n (some ⟨w.heap.size + 1 + 1, 0, none⟩) a n n n c (by rfl) (by rfl) (w.heap.size + 1 + 1) 0 (Blk.new' _ _ _ (by simp)) (l.map bv) HL.out (fun _ => rfl) (HT.out.below (HB3.out _ _ _)).rd (by rw [HL.out]; simp) H1.out n (by rw [HL.out, Nat.min_self]) ?_; intro W hW hBg; have b0 := hW.blk (((Blk.new w #[.int .i64 f, .int .i64 t, .slice a n c] 47).alloc _).alloc _) (by omega); have b1 := hW.blk ((Blk.new' (w.alloc _) #[.int .i64 0, .int .i64 0, .slice none 0 0] 47 (g := w.heap.size + 1) (by simp)).alloc _) (by omega); have HBe := Lib.hid (hW.below (HB3.out _ _ _) (by omega)); have HBG := Lib.hid hBg; have HB0 := Lib.hid b0; have HB1 := Lib.hid b1; clear hW hBg b0 b1) | (refine wpList_store_one rfl (.tmp 13) (.tmp 12) 45 size_txt (by rfl) w.heap.size 2 (.slice (some ⟨w.heap.size + 1 + 1, 0, none⟩) n n) (by rfl) (by rfl) (by rfl) (by rfl) HB0.out (by simp) ?_; intro W hW p; have HB0 := Lib.hid p; have HB1 := Lib.hid (hW.blk HB1.out (by omega)); have HBG := Lib.hid (hW.blk HBG.out (by omega)); have HBe := Lib.hid (hW.below HBe.out (Nat.le_refl _)); clear hW p) | (refine wpList_load_sub rfl 47 (.tmp 1) (by rfl) w.heap.size 0 (by rfl) HB0.out [.int .i64 f, .int .i64 t, .slice (some ⟨w.heap.size + 1 + 1, 0, none⟩) n n] (by intro i hi; simp at hi ⊢) _ Try.underlying47 rfl size_sent ?_) | (refine wpList_store_abs rfl 47 (.tmp 2) (.tmp 14) (by rfl) (w.heap.size + 1) #[.int .i64 f, .int .i64 t, .slice (some ⟨w.heap.size + 1 + 1, 0, none⟩) n n] (by rfl) (by rfl) 47 _ HB1.out size_sent (by rfl) (by simp [Value.oneCell']) ?_; intro W hW p; have HB1 := Lib.hid p; have HBG := Lib.hid (hW.blk HBG.out (by omega)); have HBe := Lib.hid (hW.below HBe.out (by omega)); clear hW p HB0))
  have HQ := HBG.out
  rw [splice_all (by simp [HN.out])] at HQ
  refine bodyPost_ret (v := sag f t (some ⟨w.heap.size + 1 + 1, 0, none⟩) n n) ?_ rfl ⟨_, rfl, HQ, by omega, HBe.out⟩
  exact results_cell_row (P := Try.prog) rfl _ _ _ _ _ (0, 0) _ (by rfl) HB1.out Try.underlying47 rfl size_sent
end Go.Proofs.Ytajjbffppkpjpaa
