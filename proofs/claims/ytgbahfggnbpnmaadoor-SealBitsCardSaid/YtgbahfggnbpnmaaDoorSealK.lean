import Derived.Test.YtgbahfggnbpnmaaDoorSealP
import Derived.Test.YtgbahfggnbpnmaaDoorPieces
/-
  seal.Keys; octet.Same.
-/
namespace Go.Proofs.YtgbahfggnbpnmaaDoor
open Go.RowKit
theorem below_box (w : World) (o : Obj) : Below w.heap.size w (w.alloc o) := below_one' w o
set_option maxRecDepth 100000 in
set_option maxHeartbeats 1000000 in
theorem keys_walk (key : List UInt8) (hk : key.length = 32) (w : World) (hT : Two w) :
    Calls Tryd.prog 52 #[.agg (barr key)] w fun e w' => ∃ a c b d, e = .returned (.tuple #[.slice a 32 c, .slice b 32 d]) ∧ Txt w' a 32 c (encK key) ∧ Txt w' b 32 d (macK key) ∧ Below w.heap.size w w' := by
  obtain ⟨q0, qb⟩ := new1 w (barr key) 31
  have HKL := Lib.hid hk
  have HT0 := Lib.hid (hT.on qb)
  have HK0 := Lib.hid (out32 q0 hk (Below.refl _ _))
  have HB0 := Lib.hid qb
  have HC1 := Lib.hid (below_one' (w.alloc (.cells (barr key) 31)) (.cells (barr encT) 5 (10, 11)))
  have hcA := conv_const (P := Tryd.prog) (w.alloc (.cells (barr key) 31)) 28 5 #[.int .u8 108, .int .u8 105, .int .u8 118, .int .u8 101, .int .u8 114, .int .u8 121, .int .u8 32, .int .u8 101, .int .u8 110, .int .u8 99] 10 10 (w.heap.size + 1) (by simp) Tryd.underlying28 Tryd.underlying5
  have TE := Lib.hid (Txt.new (w.alloc (.cells (barr key) 31)) encT 5 (10, 11) (n := 10) (g := w.heap.size + 1) rfl (by simp))
  clear hk hT q0 qb
  go_enter Tryd.func52, Tryd.ntmps52
  go_wp2_with fail
  refine (expand_walk key encT _ _ _ _ _ _ 32 (by omega) _ (HK0.out.on HC1.out) TE.out (HT0.out.on HC1.out) (by have := HKL.out; omega) (by decide)).mono ?_
  rintro e w1 ⟨a1, c1, rfl, hT1, _, hb1⟩
  have HE1 := Lib.hid hT1
  have HB1 := Lib.hid ((HB0.out.trans (HC1.out.mono HB0.out.size)).trans (hb1.mono (HB0.out.trans (HC1.out.mono HB0.out.size)).size))
  have HK1 := Lib.hid ((HK0.out.on HC1.out).on hb1)
  have HT1 := Lib.hid ((HT0.out.on HC1.out).on hb1)
  clear hT1 hb1 hcA TE HC1
  have hcB := conv_const (P := Tryd.prog) w1 28 5 #[.int .u8 108, .int .u8 105, .int .u8 118, .int .u8 101, .int .u8 114, .int .u8 121, .int .u8 32, .int .u8 109, .int .u8 97, .int .u8 99] 10 10 w1.heap.size rfl Tryd.underlying28 Tryd.underlying5
  have HC2 := Lib.hid (below_one' w1 (.cells (barr macT) 5 (10, 11)))
  have TM := Lib.hid (Txt.new w1 macT 5 (10, 11) (n := 10) (g := w1.heap.size) rfl rfl)
  go_wp2_with fail
  refine (expand_walk key macT _ _ _ _ _ _ 32 (by omega) _ (HK1.out.on HC2.out) TM.out (HT1.out.on HC2.out) (by have := HKL.out; omega) (by decide)).mono ?_
  rintro e w2 ⟨a2, c2, rfl, hT2, _, hb2⟩
  have HM2 := Lib.hid hT2
  have HE2 := Lib.hid ((HE1.out.on HC2.out).on hb2)
  have HB2 := Lib.hid ((HB1.out.trans (HC2.out.mono HB1.out.size)).trans (hb2.mono (HB1.out.trans (HC2.out.mono HB1.out.size)).size))
  clear hT2 hb2 hcB TM HC2
  go_wp2
  go_ret2
  exact ⟨a1, c1, a2, c2, rfl, HE2.out, HM2.out, HB2.out⟩
end Go.Proofs.YtgbahfggnbpnmaaDoor
