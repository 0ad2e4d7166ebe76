import Derived.RangeFuncNested
import Derived.RangeFuncBound
import Derived.RangeFuncCalls
import Derived.RangeFuncLeaves
import Derived.Shelf.Abstract
import Derived.Shelf.RegionOpen
import Derived.WalkKit
import Derived.OwnWalkIn
import Derived.TacticsInMore
import Derived.LoopNIn
import Derived.LoopIn
import Derived.Test.YtajjbffppkpjpaaSpanZ
/-
  span.ranges and its closure: for every loop body that leaves the list as it lies.
-/
namespace Go.Proofs.Ytajjbffppkpjpaa
open Go.RowKit Go.Shelf
attribute [local go_sem] Oper.semAt_some
/-- The statement: its record, the one call, the pending jump. -/
theorem range_stmt {P : Program} {m : Nat} {g : Operand} {ps : Array Tmp} {assign body : Code} {Q : Exit → Act → World → Prop} {a : Act} {w : World} {gf : Nat} {lb : Array Value} (hg : a.eval g = .func (.func gf) #[] lb)
    (eg : ∀ args w, (callFunc gf args).run P w = .ok (.enter gf args) w)
    (h : ∀ (r : Loop), r.state = .ready → r.pending = none → r.params = ps → r.assign = assign → r.body = body → r.tmps = a.tmps →
      CallsIn Fence.wide (m - 1) P gf (#[.func (.yield (w.heap.size + 1)) #[] #[]] ++ lb) ((w.alloc (.deferred (some []))).alloc (.loop r))
        (rangePost Fence.wide m P (w.heap.size + 1) Q { a with defers := { target := .collected w.heap.size, args := #[] } :: a.defers })) :
    (Code.rangeFunc g ps assign body).wpIn Fence.wide m P Q a w := by
  refine wpIn_rangeFunc fun fn _ => ?_
  obtain ⟨r, hr⟩ : ∃ r : Loop, r = { state := .ready, pending := none, fn, tmps := a.tmps, params := ps, assign, body, defers := w.heap.size } := ⟨_, rfl⟩
  refine ⟨w.heap.size + 1, [{ target := .collected w.heap.size, args := #[] }], (w.alloc (.deferred (some []))).alloc (.loop r), { target := .fn (.func gf) lb, args := #[.func (.yield (w.heap.size + 1)) #[] #[]] }, (w.alloc (.deferred (some []))).alloc (.loop r), gf, #[.func (.yield (w.heap.size + 1)) #[] #[]] ++ lb, (w.alloc (.deferred (some []))).alloc (.loop r),
    ?_, ?_, ?_, ?_, ?_, ?_⟩
  · rw [hr]; exact run_enterLoop_outer _ _ _ _ _
  · simp only [resolve, hg]
    simp [go_sem]
  · intro f' _; trivial
  · simp [invoke, go_sem, eg]
  · intro e; simp [Fence.wide] at e
  · exact h r (by rw [hr]) (by rw [hr]) (by rw [hr]) (by rw [hr]) (by rw [hr]) (by rw [hr])
theorem round_at {P : Program} {q l : Nat} {r : Loop} {args : Array Value} {W : World} {R : Ending → World → Prop} (hl : W.heap[l]? = some (.loop r)) (hs : args.size = r.params.size)
    (h : r.assign.wpIn (Fence.wide.inRound l) q P (Exit.then (fun a₁ w₁ => ∃ w₂, (Instr.beginRound l).run P w₁ = .ok () w₂ ∧ r.body.wpIn (Fence.wide.inRound l) q P (roundPost P l R) a₁ w₂) (fun _ _ _ => False))
      { tmps := (r.params.zip args).foldl (fun tmps (t, a) => tmps.setIfInBounds t a) r.tmps, defers := [] } W) : YieldAt Fence.wide q P l args W R :=
  ⟨_, _, _, _, run_yield hl hs, roundIn_of_wpIn trivial h⟩
theorem ranges_walk (a : Option Addr) (n c : Nat) (w : World) :
    Calls Try.prog 102 #[.slice a n c] w fun e w' => e = .returned (.func (.func 118) #[] #[.pointer (some ⟨w.heap.size, 0, none⟩)]) ∧ w' = w.alloc (.cells #[.slice a n c] 22) := by
  go_enter Try.func102, Try.ntmps102
  go_wp2
  go_ret
  exact ⟨rfl, rfl⟩
set_option maxRecDepth 100000 in
set_option maxHeartbeats 2000000 in
theorem ranges1_in (m L n₀ B : Nat) (l : List Rg) (a : Option Addr) (n c : Nat) (J Jx : List Rg → World → Prop)
    (hJ : ∀ s W W', J s W → Below W.heap.size W W' → J s W')
    (hold : ∀ g o, a = some ⟨g, o, none⟩ → 0 < l.length → g < n₀)
    (hY : ∀ pre x W, MayP l → pre ++ [x] <+: l → J pre W → YieldAt Fence.wide (m - 1) Try.prog L #[rag x] W fun e W' =>
      (e = .returned (.bool true) ∧ J (pre ++ [x]) W' ∧ Below n₀ W W') ∨ (e = .returned (.bool false) ∧ Jx (pre ++ [x]) W'))
    (W : World) (hB : W.cell? ⟨B, 0, none⟩ = some (.slice a n c)) (hL : RgsIn W a n c l) (h0 : J [] W) :
    CallsIn Fence.wide m Try.prog 118 #[.func (.yield L) #[] #[], .pointer (some ⟨B, 0, none⟩)] W fun e W' => (∃ v, e = .returned v) ∧
      ((∃ k, (MayP l → k = l) ∧ (¬ MayP l → k = []) ∧ J k W') ∨ (∃ k, MayP l ∧ k <+: l ∧ Jx k W')) := by
  have HL := Lib.hid hL
  obtain ⟨M, h1⟩ := bool_of (MayP l)
  have H1 := Lib.hid h1
  have HB := Lib.hid hB
  clear hL h1
  refine callsIn_of_wp Try.func118 rfl trivial ?_ rfl
  simp only [Try.ntmps118, List.size_toArray, List.length_cons, List.length_nil, Nat.reduceAdd, Nat.reduceSub, Array.replicate_succ, Array.replicate_zero, List.push_toArray, List.append_toArray, List.nil_append, List.cons_append]
  gi_wp2
  refine ⟨trivial, fun h => (by cases h), (callsIn_wide.2 (may_walkS l a n c _ HL.out M H1.out)).mono ?_⟩
  rintro e w2 ⟨rfl, hb2⟩
  have h2 := hJ _ _ _ h0 hb2
  have HL2 := Lib.hid (HL.out.on hb2)
  have hB2 : w2.cell? ⟨B, 0, none⟩ = some (.slice a n c) := (hb2.cell (p := ⟨B, 0, none⟩) (block_lt_of_cell HB.out)).trans HB.out
  clear hb2 HL hB h0
  cases M with
  | false =>
    have HM := Lib.hid (show ¬ MayP l from fun h => by have := H1.out.2 h; cases this)
    gi_wp2
    refine bodyPost_ret (results_none rfl _ _ _) rfl ?_
    exact ⟨⟨_, rfl⟩, .inl ⟨[], fun h => absurd h HM.out, fun _ => rfl, h2⟩⟩
  | true =>
    have HM := Lib.hid (H1.out.1 rfl)
    obtain rfl : n = l.length := HL2.out.len
    have hn63 : l.length ≤ 9223372036854775807 := by have := HM.out.2.2; omega
    gi_wp2
    gi_loopw [10] (fun x wr => ∃ i : Nat, i ≤ l.length ∧ x = .int .i64 (i : Nat) ∧ J (l.take i) wr ∧ RgsIn wr a l.length c l) (fun x _ => l.length - (intOf x).toNat)
    case atStart => exact ⟨0, Nat.zero_le _, rfl, h2, HL2.out⟩
    case round =>
      obtain ⟨i, hi, rfl, hJi, hLr⟩ := hrel
      by_cases hlt : i < l.length
      · obtain ⟨g, o, rfl, hg, hr⟩ := hLr.rd i hlt
        have HR := Lib.hid hr
        obtain ⟨x, hx⟩ : ∃ x, x = l.getD i r0 := ⟨_, rfl⟩
        rw [← hx] at HR
        have HLr := Lib.hid hLr
        have HTS := Lib.hid (show l.take (i + 1) = l.take i ++ [x] by rw [List.take_add_one, hx]; simp [List.getD, hlt])
        have HI := Lib.hid hlt
        have HGN := Lib.hid (hold g o rfl (by omega))
        clear hr hx hg hLr hlt
        have c0 := HR.out 0 _ rfl
        have c1 := HR.out 1 _ rfl
        simp only [Nat.add_zero] at c0
        have hal := below_one1 wr (.cells #[.int .u64 (x.lo : Nat), .int .u64 (x.hi : Nat)] 25)
        have HLa := Lib.hid (HLr.out.on hal)
        obtain ⟨fn, tmps, assign, body, hy, hR⟩ := hY (l.take i) x _ HM.out (by rw [← HTS.out]; exact List.take_prefix _ _) (hJ _ _ _ hJi hal)
        clear hal hJi
        gi_wp2
        refine ⟨fun h => (by cases h), hR.mono ?_⟩
        rintro e W3 (⟨rfl, hJ3, hk3⟩ | ⟨rfl, hJx3⟩)
        · rw [← HTS.out] at hJ3
          have HL3 := Lib.hid (show RgsIn W3 (some ⟨g, o, none⟩) l.length c l from ⟨rfl, HLa.out.fit, HLa.out.top, fun j hj => by
            obtain ⟨g', o', e, hg, hr⟩ := HLa.out.rd j hj
            simp only [Option.some.injEq, Addr.mk.injEq] at e
            obtain ⟨rfl, rfl, _⟩ := e
            exact ⟨g, o, rfl, Nat.lt_of_lt_of_le hg hk3.size, fun q v hv => (hk3.cell (p := ⟨g, o + j * 2 + q, none⟩) HGN.out).trans (hr q v hv)⟩, HLa.out.b64⟩)
          clear hk3 c0 c1 hR hy
          gi_wp2
          go_roundw
          case rel => exact ⟨i + 1, by have := HI.out; omega, by go_num, hJ3, HL3.out⟩
          case measure => have := HI.out; simp [intOf]; omega
        · clear c0 c1 hR hy
          gi_wp2
          refine bodyPost_ret (results_none rfl _ _ _) rfl ?_
          exact ⟨⟨_, rfl⟩, .inr ⟨_, HM.out, by rw [← HTS.out]; exact List.take_prefix _ _, hJx3⟩⟩
      · rw [List.take_of_length_le (by omega)] at hJi
        gi_wp2
        go_end0
        exact ⟨⟨_, rfl⟩, .inl ⟨l, fun _ => rfl, fun h => absurd HM.out h, hJi⟩⟩
end Go.Proofs.Ytajjbffppkpjpaa
