import Derived.Test.YtgbahfggnbpnmaaDskV
/-
  The walk of liverylaw17.DiskNone.
-/
namespace Go.Proofs.Ytgbahfggnbpnmaa
open Go.RowKit
set_option maxRecDepth 100000 in
theorem dclone_nil (w : World) : Calls Try.prog 22 #[.pointer none] w fun e w' => e = .returned (.pointer none) ∧ w' = w := by
  go_enter Try.func22, Try.ntmps22
  go_wp2_with fail
  refine (dnone_nil _).mono ?_
  rintro e w2 ⟨rfl, rfl⟩
  go_wp2
  go_ret
  exact ⟨rfl, rfl⟩
/-- An act, as a value. -/
abbrev oag (d i n x : Int) (pb : Option Addr) (nb cb : Nat) (pp : Option Addr) (np cp : Nat) : Value := .agg #[.int .i64 d, .int .i64 i, .int .i64 n, .int .u8 x, .slice pb nb cb, .slice pp np cp]
set_option maxRecDepth 100000 in
set_option maxHeartbeats 2000000 in
theorem disknone_walk (d i n x : Int) (pb : Option Addr) (nb cb : Nat) (pp : Option Addr) (np cp : Nat) (w : World) :
    Calls Try.prog 9 #[oag d i n x pb nb cb pp np cp] w fun e w' => e = .returned (.bool true) ∧ Below w.heap.size w w' := by
  have hb := below_one' w (.cells #[.int .i64 d, .int .i64 i, .int .i64 n, .int .u8 x, .slice pb nb cb, .slice pp np cp] 33)
  have HB := Lib.hid hb
  have HX := Lib.hid (Blk.new w #[.int .i64 d, .int .i64 i, .int .i64 n, .int .u8 x, .slice pb nb cb, .slice pp np cp] 33)
  clear hb
  have e1 : (w.alloc (.cells #[.int .i64 d, .int .i64 i, .int .i64 n, .int .u8 x, .slice pb nb cb, .slice pp np cp] 33)).cell? ⟨w.heap.size, 1, none⟩ = some (.int .i64 i) := HX.out.cell 1 rfl
  go_enter Try.func9, Try.ntmps9
  go_wp2_with fail
  refine (dread_nil i _).mono ?_
  rintro e w2 ⟨rfl, hb⟩
  generalize hbo : w.heap.size = bo at *
  generalize w.alloc _ = w1 at *
  have HX2 := Lib.hid (HX.out.on hb)
  have HB2 := Lib.hid (HB.out.trans (hb.mono (Nat.le_of_lt HX.out.lt)))
  clear hb e1 HX HB
  go_wp2_with fail
  refine (dcalm_nil _).mono ?_
  rintro e w3 ⟨⟨u, rfl⟩, rfl⟩
  have e5 : w3.cell? ⟨bo, 5, none⟩ = some (.slice pp np cp) := HX2.out.cell 5 rfl
  go_wp2_with fail
  refine (dcrash_nil pp np cp _).mono ?_
  rintro e w4 ⟨⟨u2, rfl⟩, hb⟩
  have HX4 := Lib.hid (HX2.out.on hb)
  have HB4 := Lib.hid (HB2.out.trans (hb.mono (Nat.le_of_lt HX2.out.lt)))
  clear hb e5 HX2 HB2
  go_wp2_with fail
  refine (live17_walk _).mono ?_
  rintro e w5 ⟨rfl, hb⟩
  have HX5 := Lib.hid (HX4.out.on hb)
  have HB5 := Lib.hid (HB4.out.trans (hb.mono (Nat.le_of_lt HX4.out.lt)))
  clear hb HX4 HB4
  have e1 : w5.cell? ⟨bo, 1, none⟩ = some (.int .i64 i) := HX5.out.cell 1 rfl
  have e4 : w5.cell? ⟨bo, 4, none⟩ = some (.slice pb nb cb) := HX5.out.cell 4 rfl
  have e2 : w5.cell? ⟨bo, 2, none⟩ = some (.int .i64 n) := HX5.out.cell 2 rfl
  go_wp2_with fail
  refine (dwrite_nil i pb nb cb _).mono ?_
  rintro e w6 ⟨rfl, rfl⟩
  go_wp2_with fail
  refine (dsync_nil _).mono ?_
  rintro e w7 ⟨rfl, rfl⟩
  go_wp2_with fail
  refine (darm_nil n _).mono ?_
  rintro e w8 ⟨rfl, rfl⟩
  go_wp2_with fail
  refine (dsec_nil _).mono ?_
  rintro e w9 ⟨rfl, rfl⟩
  go_wp2_with fail
  refine (don_nil _).mono ?_
  rintro e w10 ⟨rfl, rfl⟩
  go_wp2_with fail
  refine (dwaits_nil _).mono ?_
  rintro e w11 ⟨rfl, rfl⟩
  go_wp2_with fail
  refine (dops_nil _).mono ?_
  rintro e w12 ⟨rfl, rfl⟩
  go_wp2_with fail
  refine (dimage_nil _).mono ?_
  rintro e w13 ⟨rfl, rfl⟩
  go_wp2_with fail
  refine (dclone_nil _).mono ?_
  rintro e w14 ⟨rfl, rfl⟩
  go_wp2
  go_ret
  exact ⟨rfl, by rw [hbo]; exact HB5.out⟩
end Go.Proofs.Ytgbahfggnbpnmaa
