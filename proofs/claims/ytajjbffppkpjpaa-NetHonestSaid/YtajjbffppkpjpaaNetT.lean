import Derived.Test.YtajjbffppkpjpaaNetL
/-
  slices.Grow of nothing; slices.Concat of two rows of letters.
-/
namespace Go.Proofs.Ytajjbffppkpjpaa
set_option linter.unusedSimpArgs false
set_option linter.unusedVariables false
open Go.RowKit
theorem run_append_zeros {P : Program} (w : World) (t u ty e : TypeId) (i : TypeInfo) (z : Value) (ht : P.underlying t = some (.slice e)) (hu : P.underlying u = some (.int .i64)) (hi : P.info? e = some i) (hz : i.zero = some z) (hzs : z.cells.size = i.size) (hsz : 0 < i.size)
    (n : Nat) (h0 : 0 < n) (h63 : (n : Int) ≤ 9223372036854775807) (h48 : n * i.bytes ≤ 281474976710656) :
    (Builtin.append_ #[t, u] ty #[.slice none 0 0, .int .i64 (n : Int)]).run P w =
      .ok (.slice (some ⟨w.heap.size, 0, none⟩) n (grownCap w n 0 e)) (w.drew.alloc (.cells (Builtin.zeroCells z.cells n ++ Builtin.zeroCells z.cells (grownCap w n 0 e - n)) e)) := by
  have hn : n ≠ 0 := by omega
  have h63' : ¬ (9223372036854775807 < (n : Int)) := by omega
  have h48' : ¬ (281474976710656 < Builtin.nextslicecap n 0 * i.bytes) := by rw [nextslicecap_zero h0]; omega
  have hw : IntKind.i64.wrap (n : Int) = (n : Int) := IntWalk.i64_in _ (by omega)
  have h48i : ¬ (281474976710656 : Int) < (n : Int) * (i.bytes : Int) := by
    have h5 : ((n * i.bytes : Nat) : Int) ≤ ((281474976710656 : Nat) : Int) := Int.ofNat_le.2 h48
    rw [Int.natCast_mul] at h5
    omega
  have hnn : ¬ (n : Int) < 0 := by omega
  have hs0 : ¬ i.size = 0 := by omega
  have hns : ¬ n * i.size = 0 := by have := Nat.mul_pos h0 hsz; omega
  simp [Builtin.append_, run_underlying ht, run_underlying hu, sizeOf, typeInfo, zeroValue, hi, hz, asInt, asIntOf, hw, hnn, h48i, hn, hs0, hns, h63', h48', Question.forced, newRow, grownCap, run_firstCells_none]
theorem wpList_append_run {P : Program} {ops : Array Oper} {rest : List Oper} {o : Oper} {a : Act} {w : World} {Q : Exit → Act → World → Prop} (hgd : o.guard = none) (s x : Operand) (t u : TypeId) (ho : o.op = .call { callee := .builtin .append, args := #[s, x], argTypes := #[t, u] })
    (sv xv r : Value) (W : World) (hs : a.eval s = sv) (hx : a.eval x = xv) (hr : ∀ ty, (Builtin.append_ #[t, u] ty #[sv, xv]).run P w = .ok r W) (h : wpList P ops Q rest (a.put o.dst r) W) : wpList P ops Q (o :: rest) a w := by
  refine wpList_plain hgd fun K hK => ?_
  unfold Oper.wp execOp
  simp only [ho, resolve, invoke, builtin, Sem.run_bind, Sem.run_pure, Result.andThen_ok, List.map_toArray, List.map_cons, List.map_nil, hs, hx, hr]
  exact hK _ _ h
set_option maxRecDepth 100000 in
set_option maxHeartbeats 2000000 in
theorem grow_walk (n : Nat) (hn : n ≤ 2000000) (w : World) :
    Calls Try.prog 99 #[.slice none 0 0, .int .i64 (n : Nat)] w fun e w' => ∃ x, e = .returned x ∧ w'.ownsRow 0 47 3 x 0 [] ∧ (∀ k, x.ownBlock = some k → w.heap.size ≤ k) ∧ Below w.heap.size w w' := by
  rcases Nat.eq_zero_or_pos n with rfl | h0
  · go_enter Try.func99, Try.ntmps99
    go_wp2
    go_ret
    exact ⟨.slice none 0 0, rfl, World.ownsRow_nil w 0 _ _, (fun k e => by cases e), Below.refl _ _⟩
  · obtain ⟨i, i1, i2, i3, i4⟩ := info_parts info_sent
    have hr := fun ty => run_append_zeros (P := Try.prog) w 41 3 ty 47 i (.agg #[.int .i64 0, .int .i64 0, .slice none 0 0]) Try.underlying41 Try.underlying3 i1 i2 (by rw [i3]; rfl) (by rw [i3]; decide) n h0 (by omega) (by rw [i4]; omega)
    have hge := grownCap_ge w n 0 47
    have hcm : grownCap w n 0 47 ≤ maxLen := grownCap_le_maxLen w n 0 47 (by unfold maxLen; omega)
    obtain ⟨c, hc⟩ : ∃ c, c = grownCap w n 0 47 := ⟨_, rfl⟩
    simp only [← hc] at hr
    rw [← hc] at hge hcm
    obtain ⟨cur, hcur⟩ : ∃ cur, cur = Builtin.zeroCells (Value.agg #[.int .i64 0, .int .i64 0, .slice none 0 0]).cells n ++ Builtin.zeroCells (Value.agg #[.int .i64 0, .int .i64 0, .slice none 0 0]).cells (c - n) := ⟨_, rfl⟩
    simp only [← hcur] at hr
    have HRR := Lib.hid hr
    have HSZ := Lib.hid (show cur.size = c * 3 by
      rw [hcur]
      simp only [Array.size_append, Builtin.zeroCells, Array.size_map, Array.size_range]
      have e : (Value.agg #[.int .i64 0, .int .i64 0, .slice none 0 0]).cells.size = 3 := rfl
      rw [e]; omega)
    have HCM := Lib.hid hcm
    have HGE := Lib.hid hge
    have hb := below_one' w.drew (.cells cur 47)
    have HB := Lib.hid (show Below w.heap.size w (w.drew.alloc (.cells cur 47)) from ((Below.refl _ w).drew).trans hb)
    have hc63 : c ≤ 9223372036854775807 := by unfold maxLen at hcm; exact hcm
    have hp : (0 : Int) < (n : Int) := by omega
    clear hc hcur i1 i2 i3 i4 hcm hge hb hr
    go_enter Try.func99, Try.ntmps99
    go_wp2_with (refine wpList_append_run rfl (.tmp 20) (.tmp 21) 41 3 rfl (.slice none 0 0) (.int .i64 (n : Nat)) (.slice (some ⟨w.heap.size, 0, none⟩) n c) (w.drew.alloc (.cells cur 47)) (by rfl) (by rfl) HRR.out ?_)
    go_ret
    refine ⟨.slice (some ⟨w.heap.size, 0, none⟩) 0 c, rfl, ⟨by simp, .inr ⟨w.heap.size, c, cur, rfl, Nat.zero_le _, heap_alloc_new w.drew _, Nat.zero_le _, HCM.out, HSZ.out, by simp⟩⟩, fun k e => ?_, HB.out⟩
    simp [Value.ownBlock] at e; omega
end Go.Proofs.Ytajjbffppkpjpaa
