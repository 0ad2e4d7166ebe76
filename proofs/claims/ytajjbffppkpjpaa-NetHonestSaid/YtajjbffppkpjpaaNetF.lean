import Derived.Test.YtajjbffppkpjpaaNetE
/-
  What a net that no call made answers.
-/
namespace Go.Proofs.Ytajjbffppkpjpaa
set_option linter.unusedSimpArgs false
set_option linter.unusedVariables false
open Go.RowKit
set_option maxRecDepth 100000 in
theorem ndrop_no {p : Option Addr} (i : Int) (w : World) (h : NoNet w p) : Calls Try.prog 30 #[.pointer p, .int .i64 i] w fun e w' => e = .returned (.int .i64 2) ∧ w' = w := by
  have H := Lib.hid h
  clear h
  go_enter Try.func30, Try.ntmps30
  go_wp2_with fail
  refine (nat_no i _ H.out).mono ?_
  rintro e w2 ⟨rfl, rfl⟩
  go_wp2
  go_ret
  exact ⟨rfl, rfl⟩
set_option maxRecDepth 100000 in
theorem ndouble_no {p : Option Addr} (i : Int) (w : World) (h : NoNet w p) : Calls Try.prog 31 #[.pointer p, .int .i64 i] w fun e w' => e = .returned (.int .i64 2) ∧ w' = w := by
  have H := Lib.hid h
  clear h
  go_enter Try.func31, Try.ntmps31
  go_wp2_with fail
  refine (nat_no i _ H.out).mono ?_
  rintro e w2 ⟨rfl, rfl⟩
  go_wp2
  go_ret
  exact ⟨rfl, rfl⟩
set_option maxRecDepth 100000 in
theorem nclone_no {p : Option Addr} (w : World) (h : NoNet w p) : Calls Try.prog 37 #[.pointer p] w fun e w' => e = .returned (.pointer none) ∧ w' = w := by
  have H := Lib.hid h
  clear h
  go_enter Try.func37, Try.ntmps37
  go_wp2_with fail
  refine (nnone_no _ H.out).mono ?_
  rintro e w2 ⟨rfl, rfl⟩
  go_wp2
  go_ret
  exact ⟨rfl, rfl⟩
theorem below_boxes (w : World) (o p : Obj) : Below w.heap.size w ((w.alloc o).alloc p) := (below_one' w o).trans ((below_one' _ p).mono (by simp))
set_option maxRecDepth 100000 in
theorem nsaid_no {p : Option Addr} (f : Int) (pb : Option Addr) (m c : Nat) (w : World) (h : NoNet w p) : Calls Try.prog 36 #[.pointer p, .int .i64 f, .slice pb m c] w fun e w' => e = .returned (.bool false) ∧ Below w.heap.size w w' := by
  have hb := below_boxes w (.cells #[.int .i64 f] 3) (.cells #[.slice pb m c] 45)
  have H := Lib.hid (h.on hb)
  have HB := Lib.hid hb
  clear h hb
  go_enter Try.func36, Try.ntmps36
  go_wp2_with fail
  refine (nnone_no _ H.out).mono ?_
  rintro e w2 ⟨rfl, rfl⟩
  go_wp2
  go_ret
  exact ⟨rfl, HB.out⟩
end Go.Proofs.Ytajjbffppkpjpaa
