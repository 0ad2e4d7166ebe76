import Derived.Test.YtajjbffppkpjpaaNetR
/-
  The walk of liverylaw26.NetNone.
-/
namespace Go.Proofs.Ytajjbffppkpjpaa
set_option linter.unusedSimpArgs false
set_option linter.unusedVariables false
open Go.RowKit
set_option maxRecDepth 100000 in
set_option maxHeartbeats 1000000 in
theorem ntake_no {p : Option Addr} (i : Int) (w : World) (h : NoNet w p) : Calls Try.prog 25 #[.pointer p, .int .i64 i] w fun e w' => e = .returned (.tuple #[sag 0 0 none 0 0, .int .i64 2]) ∧ Below w.heap.size w w' := by
  have hb1 := below_one' w (.cells #[.int .i64 0, .int .i64 0, .slice none 0 0] 47)
  have H1 := Lib.hid (h.on hb1)
  have HB1 := Lib.hid hb1
  have HB4 := Lib.hid (Blk.new w #[.int .i64 0, .int .i64 0, .slice none 0 0] 47)
  clear h hb1
  go_enter Try.func25, Try.ntmps25
  go_wp2_with fail
  refine (nat_no i _ H1.out).mono ?_
  rintro e w2 ⟨rfl, rfl⟩
  go_wp2_with (refine wpList_store_abs rfl 47 (.tmp 4) (.tmp 13) rfl w.heap.size #[.int .i64 0, .int .i64 0, .slice none 0 0] (by rfl) (by rfl) 47 _ HB4.out size_sent (by rfl) (by simp [Value.oneCell']) ?_; intro W hW p; have HP := Lib.hid p; have HW := Lib.hid (hW.below HB1.out (Nat.le_refl _)); clear hW p)
  exact bodyPost_ret (results_ctn rfl _ HP.out (by rfl) Try.underlying47 rfl size_sent) rfl ⟨rfl, HW.out⟩
theorem SRow.nil_form {w : World} {av : Nat → Prop} {v : Value} (h : SRow w av v []) : ∃ a c, v = .slice a 0 c := by
  obtain ⟨a, c, e, _⟩ := h.form; exact ⟨a, c, e⟩
/-- What the loop of NetNone holds. -/
structure NJ (w W : World) (o0 o1 o2 : Int) (oa : Option Addr) (on oc : Nat) : Prop where
  op : Blk W w.heap.size #[.int .i64 o0, .int .i64 o1, .int .i64 o2, .slice oa on oc] 39
  zero : W.cell? ⟨w.heap.size + 1, 0, none⟩ = some (.bool false)
  row : Blk W (w.heap.size + 1 + 1) #[.pointer none, .pointer (some ⟨w.heap.size + 1, 0, none⟩)] 40
  below : Below w.heap.size w W
theorem NJ.on {w W W' : World} {o0 o1 o2 : Int} {oa : Option Addr} {on oc : Nat} (h : NJ w W o0 o1 o2 oa on oc) (hb : Below W.heap.size W W') : NJ w W' o0 o1 o2 oa on oc :=
  ⟨h.op.on hb, (hb.cell (p := ⟨w.heap.size + 1, 0, none⟩) (block_lt_of_cell h.zero)).trans h.zero, h.row.on hb, h.below.trans (hb.mono h.below.size)⟩
theorem NJ.pick {w W : World} {o0 o1 o2 : Int} {oa : Option Addr} {on oc : Nat} (h : NJ w W o0 o1 o2 oa on oc) {k : Nat} (hk : k < 2) : ∃ p, W.cell? ⟨w.heap.size + 1 + 1, k, none⟩ = some (.pointer p) ∧ NoNet W p := by
  have : k = 0 ∨ k = 1 := by omega
  rcases this with rfl | rfl
  · exact ⟨_, h.row.cell 0 rfl, .inl rfl⟩
  · exact ⟨_, h.row.cell 1 rfl, .inr ⟨_, rfl, h.zero⟩⟩
set_option maxRecDepth 100000 in
set_option maxHeartbeats 4000000 in
theorem netNone_walk (o0 o1 o2 : Int) (oa : Option Addr) (on oc : Nat) (w : World) :
    Calls Try.prog 4 #[.agg #[.int .i64 o0, .int .i64 o1, .int .i64 o2, .slice oa on oc]] w fun e w' => e = .returned (.bool true) ∧ Below w.heap.size w w' := by
  have HJ0 := Lib.hid (show NJ w (((w.alloc (.cells #[.int .i64 o0, .int .i64 o1, .int .i64 o2, .slice oa on oc] 39)).alloc (.cells #[.bool false, .slice none 0 0, .slice none 0 0, .slice none 0 0] 43)).alloc (.cells #[.pointer none, .pointer (some ⟨w.heap.size + 1, 0, none⟩)] 40)) o0 o1 o2 oa on oc from
    ⟨((Blk.new w _ _).alloc _).alloc _, ((Blk.new' (w.alloc _) #[.bool false, .slice none 0 0, .slice none 0 0, .slice none 0 0] 43 (g := w.heap.size + 1) (by simp)).alloc _).cell 0 rfl, Blk.new' _ _ _ (by simp), (((Below.refl _ w).alloc (Nat.le_refl _) _).alloc (by simp) _).alloc (by simp; omega) _⟩)
  go_enter Try.func4, Try.ntmps4
  go_wp2
  go_loopw [13] (fun y wr => ∃ k : Nat, k ≤ 2 ∧ y = .int .i64 (k : Nat) ∧ Hid (NJ w wr o0 o1 o2 oa on oc)) (fun y _ => 2 - (intOf y).toNat)
  case atStart => exact ⟨0, by omega, rfl, HJ0.out⟩
  case round =>
    obtain ⟨k, hk, rfl, HJ⟩ := hrel
    by_cases hlt : k < 2
    · obtain ⟨p, hp, hN⟩ := HJ.out.pick hlt
      have HN := Lib.hid hN
      clear hN
      have d1 := HJ.out.op.cell 1 rfl
      have d2 := HJ.out.op.cell 2 rfl
      have d3 := HJ.out.op.cell 3 rfl
      go_wp2_with fail
      clear d1 d2 d3 hp
      refine (ntake_no o2 _ HN.out).mono ?_
      rintro e w2 ⟨rfl, hb⟩
      have HJ := Lib.hid (HJ.out.on hb)
      have HN := Lib.hid (HN.out.on hb)
      clear hb
      have d1 := HJ.out.op.cell 1 rfl
      have d2 := HJ.out.op.cell 2 rfl
      have d3 := HJ.out.op.cell 3 rfl
      go_wp2_with fail
      clear d1 d2 d3
      have hb5 := below_one' w2 (.cells #[.int .i64 0, .int .i64 0, .slice none 0 0] 47)
      have HS := Lib.hid (Blk.new w2 #[.int .i64 0, .int .i64 0, .slice none 0 0] 47)
      have HJ := Lib.hid (HJ.out.on hb5)
      have HN := Lib.hid (HN.out.on hb5)
      clear hb5
      refine (way_no 9 _ HN.out).mono ?_
      rintro e w2 ⟨x, rfl, hr, _, hb⟩
      obtain ⟨xa, xc, rfl⟩ := hr.nil_form
      clear hr
      have HJ := Lib.hid (HJ.out.on hb)
      have HN := Lib.hid (HN.out.on hb)
      have HS := Lib.hid (HS.out.on hb)
      clear hb
      have d1 := HJ.out.op.cell 1 rfl
      have d2 := HJ.out.op.cell 2 rfl
      have d3 := HJ.out.op.cell 3 rfl
      go_wp2_with fail
      clear d1 d2 d3
      refine (nsend_no o1 oa on oc _ HN.out).mono ?_
      rintro e w2 ⟨rfl, rfl⟩
      have d1 := HJ.out.op.cell 1 rfl
      have d2 := HJ.out.op.cell 2 rfl
      have d3 := HJ.out.op.cell 3 rfl
      go_wp2_with fail
      clear d1 d2 d3
      refine (ninject_no o1 none 0 0 _ HN.out).mono ?_
      rintro e w2 ⟨rfl, rfl⟩
      have d1 := HJ.out.op.cell 1 rfl
      have d2 := HJ.out.op.cell 2 rfl
      have d3 := HJ.out.op.cell 3 rfl
      have s0 := HS.out.cell 0 rfl
      have s1 := HS.out.cell 1 rfl
      have s2 := HS.out.cell 2 rfl
      go_wp2_with fail
      clear d1 d2 d3 s0 s1 s2
      refine (rsame_walk snt0 snt0 none none 0 0 0 0 _ (Txt.nil _ _) (Txt.nil _ _) true rfl).mono ?_
      rintro e w2 ⟨rfl, hb⟩
      have HJ := Lib.hid (HJ.out.on hb)
      have HN := Lib.hid (HN.out.on hb)
      have HS := Lib.hid (HS.out.on hb)
      clear hb
      have d1 := HJ.out.op.cell 1 rfl
      have d2 := HJ.out.op.cell 2 rfl
      have d3 := HJ.out.op.cell 3 rfl
      go_wp2_with fail
      clear d1 d2 d3
      refine (ndrop_no o2 _ HN.out).mono ?_
      rintro e w2 ⟨rfl, rfl⟩
      have d1 := HJ.out.op.cell 1 rfl
      have d2 := HJ.out.op.cell 2 rfl
      have d3 := HJ.out.op.cell 3 rfl
      go_wp2_with fail
      clear d1 d2 d3
      refine (ndouble_no o2 _ HN.out).mono ?_
      rintro e w2 ⟨rfl, rfl⟩
      have d1 := HJ.out.op.cell 1 rfl
      have d2 := HJ.out.op.cell 2 rfl
      have d3 := HJ.out.op.cell 3 rfl
      go_wp2_with fail
      clear d1 d2 d3
      refine (nlen_no _ HN.out).mono ?_
      rintro e w2 ⟨rfl, rfl⟩
      have d1 := HJ.out.op.cell 1 rfl
      have d2 := HJ.out.op.cell 2 rfl
      have d3 := HJ.out.op.cell 3 rfl
      go_wp2_with fail
      clear d1 d2 d3
      refine (never_no' _ HN.out).mono ?_
      rintro e w2 ⟨g, rfl, hg, hb⟩
      have HG := Lib.hid hg
      clear hg
      have HJ := Lib.hid (HJ.out.on hb)
      have HN := Lib.hid (HN.out.on hb)
      clear hb
      have d1 := HJ.out.op.cell 1 rfl
      have d2 := HJ.out.op.cell 2 rfl
      have d3 := HJ.out.op.cell 3 rfl
      go_wp2_with fail
      clear d1 d2 d3
      refine (toldl_walk (av := fun _ => False) (L := []) _ 9 (by omega) _ _ HG.out (SRow.nil _ _) (by simp) (fun s h => by cases h)).mono ?_
      rintro e w2 ⟨x, rfl, hr, _, hb⟩
      rw [List.take_nil] at hr
      obtain ⟨xnever, cnever, rfl⟩ := hr.nil_form
      clear hr
      have HJ := Lib.hid (HJ.out.on hb)
      have HN := Lib.hid (HN.out.on hb)
      clear hb
      have d1 := HJ.out.op.cell 1 rfl
      have d2 := HJ.out.op.cell 2 rfl
      have d3 := HJ.out.op.cell 3 rfl
      go_wp2_with fail
      clear d1 d2 d3
      refine (ncame_no' _ HN.out).mono ?_
      rintro e w2 ⟨g, rfl, hg, hb⟩
      have HG := Lib.hid hg
      clear hg
      have HJ := Lib.hid (HJ.out.on hb)
      have HN := Lib.hid (HN.out.on hb)
      clear hb
      have d1 := HJ.out.op.cell 1 rfl
      have d2 := HJ.out.op.cell 2 rfl
      have d3 := HJ.out.op.cell 3 rfl
      go_wp2_with fail
      clear d1 d2 d3
      refine (toldl_walk (av := fun _ => False) (L := []) _ 9 (by omega) _ _ HG.out (SRow.nil _ _) (by simp) (fun s h => by cases h)).mono ?_
      rintro e w2 ⟨x, rfl, hr, _, hb⟩
      rw [List.take_nil] at hr
      obtain ⟨xncame, cncame, rfl⟩ := hr.nil_form
      clear hr
      have HJ := Lib.hid (HJ.out.on hb)
      have HN := Lib.hid (HN.out.on hb)
      clear hb
      have d1 := HJ.out.op.cell 1 rfl
      have d2 := HJ.out.op.cell 2 rfl
      have d3 := HJ.out.op.cell 3 rfl
      go_wp2_with fail
      clear d1 d2 d3
      refine (nsaid_no o1 none 0 0 _ HN.out).mono ?_
      rintro e w2 ⟨rfl, hb⟩
      have HJ := Lib.hid (HJ.out.on hb)
      have HN := Lib.hid (HN.out.on hb)
      clear hb
      have d1 := HJ.out.op.cell 1 rfl
      have d2 := HJ.out.op.cell 2 rfl
      have d3 := HJ.out.op.cell 3 rfl
      go_wp2_with fail
      clear d1 d2 d3
      refine (nclone_no _ HN.out).mono ?_
      rintro e w2 ⟨rfl, rfl⟩
      go_wp2
      go_roundw
      case rel => exact ⟨k + 1, by omega, by go_num, HJ.out⟩
      case measure => simp [intOf]; omega
    · go_wp2_with fail
      refine (live26_walk _).mono ?_
      rintro e w3 ⟨rfl, hb⟩
      have HB := Lib.hid (HJ.out.below.trans (hb.mono HJ.out.below.size))
      clear hb
      go_wp2
      go_ret
      exact ⟨rfl, HB.out⟩
end Go.Proofs.Ytajjbffppkpjpaa
