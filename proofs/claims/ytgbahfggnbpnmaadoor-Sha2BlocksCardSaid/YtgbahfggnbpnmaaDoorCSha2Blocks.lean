/-
  Sha2Blocks: Compress returns the specified state: for every state and every block the law returns true and leaves its arguments as they are.
  The card ties the two tables that the row lists to the program's text; no other condition.
-/
import Derived.Test.YtgbahfggnbpnmaaDoorLawD
import Derived.Test.YtgbahfggnbpnmaaDoorLawBlocks
import Derived.SevenTiedAt
namespace Go.Proofs.YtgbahfggnbpnmaaDoor.sha2Blocks
open Go.ChangeShapes Go.WideShapes Go.ChangeAt Go.RowKit

set_option maxRecDepth 100000 in
/-- What the walk gives, for every argument and every world that holds the tables. -/
theorem contract (H : Type) (enc : TypeId × Value → H) (W : World) (base : Nat) (args : Array Value) (ds gs : List (DataW H)) (before : List MemPlace)
    (hval : ∀ (j : Nat) t v, Tryd.f3.params[j]? = some t → args[j]? = some v → Value.okWide Tryd.prog W .any base t v)
    (hW : DataW.Whole enc Tryd.prog Tryd.f3.params.toList Rows.sha2BlocksSpec.vars false W args.toList ds gs before) (hL : laidMetH Tryd.prog Rows.sha2BlocksRow.laid W) :
    Calls Tryd.prog 3 args W fun e W' => ∃ v, e = .returned v ∧ Rows.sha2BlocksSpec.post enc Tryd.prog Tryd.f3 false true false false W args v W' := by
  have hW' := hW
  have hT : Two W := two_of_laid hL
  obtain ⟨p, q, hA0, hV, hbe, hfz, hnd⟩ := hW
  have hA : DataW.TrodAll enc Tryd.prog W 0 (fun _ => true) true Tryd.f3.params.toList args.toList ds p := hA0
  rw [Tryd.params3] at hA hval
  obtain ⟨v0, vs0, d0, ds0, p0, q0, hargs, rfl, rfl, h0, r0⟩ := trodAll_cons hA
  obtain ⟨v1, vs1, d1, ds1, p1, q1, rfl, rfl, rfl, h1, r1⟩ := trodAll_cons r0
  obtain ⟨rfl, rfl, rfl⟩ := trodAll_nil r1
  obtain rfl : args = #[v0, v1] := by cases args; simp_all
  obtain ⟨rfl, rfl⟩ := trodVars_none hV
  obtain ⟨z0, rfl, l0, w0⟩ := open_arr_ints Tryd.underlying23 Tryd.underlying22 cells_u32 cells_u32x8 (hval 0 23 v0 rfl rfl) h0
  rw [warr_of z0 w0] at hW' ⊢
  obtain ⟨z1, rfl, l1, w1⟩ := open_arr_ints Tryd.underlying24 Tryd.underlying5 cells_u8 cells_u8x64 (hval 1 24 v1 rfl rfl) h1
  rw [barr_of z1 w1] at hW' ⊢
  refine (blocks_walk (u32s z0) (u8s z1) (by rw [u32s_len]; exact l0) (by rw [u8s_len]; exact l1) W hT).mono fun e W' ⟨he, hg⟩ => ?_
  subst he
  exact ⟨_, rfl, law_post laidOut hW' hg rfl Tryd.underlying4 rfl (by kernel_rfl) rfl rfl rfl⟩

theorem laid_met (os : Os) : laidMet Tryd.prog Rows.sha2BlocksRow.laid ((laidWorld os).forCall (fun _ _ => 0) ⟨#[], #[.agg (warr (List.replicate 8 0)), .agg (barr (List.replicate 64 0))], []⟩).memory :=
  laidMet_of_run' 8 (by kernel_rfl) (by kernel_rfl)
theorem reads (os : Os) {H : Type} (enc : TypeId × Value → H) : ∃ places, DataW.whole enc Tryd.prog ((laidWorld os).forCall (fun _ _ => 0) ⟨#[], #[.agg (warr (List.replicate 8 0)), .agg (barr (List.replicate 64 0))], []⟩).memory Tryd.f3.params.toList Rows.sha2BlocksSpec.vars false (#[.agg (warr (List.replicate 8 0)), .agg (barr (List.replicate 64 0))] : Array Value).toList 8 = some ([.agg (List.replicate 8 (.lit (.int .u32 0))), .agg (List.replicate 64 (.lit (.int .u8 0)))], [], places) :=
  ⟨[], by kernel_rfl⟩
set_option maxRecDepth 100000 in
theorem lifted (os : Os) (started : os.Started) (H : Type) (enc : TypeId × Value → H) (F : Stop.Interp) :
    ReturnsInHanded {} Tryd.checked os 3 .any ((OpenSpec.ofChange Rows.sha2BlocksSpec).preRow enc Tryd.prog Tryd.f3 Rows.sha2BlocksRow.domain false Rows.sha2BlocksRow.laid) (((OpenSpec.ofChange Rows.sha2BlocksSpec).at F).post enc Tryd.prog Tryd.f3 false true false false) := by
  obtain ⟨places, hx⟩ := reads os enc
  refine returnsInHanded_of_row (C := Tryd.checked) (s := OpenSpec.ofChange Rows.sha2BlocksSpec) own started (by kernel_rfl) Tryd.func3
    (witness_row_at (enc := enc) (C := Tryd.checked) false (laidWorld os) #[.agg (warr (List.replicate 8 0)), .agg (barr (List.replicate 64 0))] rfl (by kernel_rfl) (by kernel_rfl) (by kernel_rfl)
      (OpenSpec.preRow_of_cond 8 hx (by kernel_rfl) (fun k hk => by cases hk) (by kernel_rfl) (laid_met os))) ?_
  intro W base args ds gs before hval hW _ _ _ hL _ _
  exact contract H enc W base args ds gs before hval hW hL
theorem named : Tryd.pinned.checked.prog.funcNamed Rows.sha2BlocksRow.func = some 3 := by kernel_rfl
theorem k1 : Rows.sha2BlocksRow.wf (OpenSpec.ofChange Rows.sha2BlocksSpec) = true := by kernel_rfl
theorem k4 : Tryd.f3.params.all (Tryd.prog.readableRec ·) = true := by kernel_rfl
theorem k5 : namedTie Tryd.prog Rows.sha2BlocksRow.named Rows.sha2BlocksSpec.vars = true := by kernel_rfl
theorem k6 : (Rows.sha2BlocksRow.stops == []) = true := by kernel_rfl
theorem k8 : (Rows.sha2BlocksRow.knobs == []) = true := by kernel_rfl
theorem k10 : (Rows.sha2BlocksRow.inPlace == Tryd.prog.inPlace 3) = true := by kernel_rfl
theorem k11 : (Rows.sha2BlocksRow.unfollowed == Tryd.prog.unfollowed 3) = true := by kernel_rfl
theorem k12 : (Rows.sha2BlocksRow.recurses == Tryd.prog.recurses 3) = true := by kernel_rfl
theorem k13 : (Rows.sha2BlocksRow.named == Tryd.prog.varsNamed 3) = true := by kernel_rfl
theorem k14 : (Rows.sha2BlocksRow.maps == (Tryd.f3.params.toList ++ Rows.sha2BlocksSpec.plain.varTypes Tryd.prog).any (Tryd.prog.mapsRec ·)) = true := by kernel_rfl
theorem k15 : (Rows.sha2BlocksRow.ifaces == (Tryd.f3.params.toList ++ Rows.sha2BlocksSpec.plain.varTypes Tryd.prog).any (Tryd.prog.ifacesRec ·)) = true := by kernel_rfl
theorem k16 : (Rows.sha2BlocksRow.mapsOut == Tryd.prog.mapsAmong Tryd.f3.resultTypes.toList) = true := by kernel_rfl
theorem k17 : (Rows.sha2BlocksRow.loops == (Tryd.f3.params.toList ++ Rows.sha2BlocksSpec.plain.varTypes Tryd.prog).any (Tryd.prog.loopsFrom ·)) = true := by kernel_rfl
theorem k17b : (Rows.sha2BlocksRow.wideKeys == (Tryd.f3.params.toList ++ Rows.sha2BlocksSpec.plain.varTypes Tryd.prog ++ Tryd.f3.resultTypes.toList).any (Tryd.prog.wideKeysFrom ·)) = true := by kernel_rfl
theorem k18 : Rows.sha2BlocksSpec.vars.all (Tryd.prog.varReadable ·) = true := by kernel_rfl
theorem k19 : Tryd.f3.resultTypes.all (fun t => Tryd.prog.readableRec t && decide (t < Tryd.prog.types.size)) = true := by kernel_rfl
theorem k20 : (Rows.sha2BlocksRow.ifacesOut == Tryd.f3.resultTypes.toList.any (Tryd.prog.ifacesRec ·)) = true := by kernel_rfl
theorem k21 : (Rows.sha2BlocksRow.loopsOut == Tryd.f3.resultTypes.toList.any (Tryd.prog.loopsFrom ·)) = true := by kernel_rfl
theorem k22 : (Rows.sha2BlocksRow.plainKeys == Tryd.prog.plainKeys) = true := by kernel_rfl
theorem k23 : Rows.sha2BlocksRow.shortTexts.isNone = true := by kernel_rfl
theorem k24b : (Rows.sha2BlocksRow.lifted == Tryd.prog.liftsFinal) = true := by kernel_rfl
theorem k24c : (Tryd.prog.make == some Rows.sha2BlocksRow.make) = true := by kernel_rfl
theorem k25 : (Rows.sha2BlocksRow.kinds == (if Rows.sha2BlocksRow.domain.isEmpty then [] else Tryd.f3.params.toList.map fun t => match Tryd.prog.underlying t with | some (.int k) => some k | _ => none)) = true := by kernel_rfl
theorem k26 : (Rows.sha2BlocksRow.pinned == Rows.sha2BlocksRow.pinnedBy) = true := by kernel_rfl
theorem k27 : (Rows.sha2BlocksRow.veiled == (Tryd.f3.params.toList ++ Rows.sha2BlocksSpec.plain.varTypes Tryd.prog ++ Tryd.f3.resultTypes.toList).any (Tryd.prog.veiledRec ·)) = true := by kernel_rfl
theorem k28 : Rows.sha2BlocksRow.veiledFits Tryd.prog Tryd.f3.params.toList (Tryd.f3.params.toList ++ Rows.sha2BlocksSpec.plain.varTypes Tryd.prog ++ Tryd.f3.resultTypes.toList) = true := by kernel_rfl
set_option maxRecDepth 100000 in
theorem closed : joinedFacts Tryd.pinned.checked.prog 3 Tryd.f3 (OpenSpec.ofChange Rows.sha2BlocksSpec).bare Rows.sha2BlocksRow = true :=
  a2 (a2 (a2 (a2 (a2 (a2 (a2 (a2 (a2 (a2 (a2 (a2 (a2 (a2 (a2 (a2 (a2 (a2 (a2 (a2 (a2 (a2 (a2 (a2 (a2 (a2 (a2 (a2 (a2 (a2 (a2 (k1) k2) k3) k4) k5) k6) k7) k8) k9) k10) k11) k12) k13) k14) k15) k16) k17) k17b) k18) k19) k20) k21) k22) k23) k23b) k24) k24b) k24c) k25) k26) k27) k28
theorem inst : Tryd.f3.isInstance Tryd.pinned.checked.prog Rows.sha2BlocksRow.origin Rows.sha2BlocksRow.targs := of_decide_eq_true (by kernel_rfl)
theorem wrap : Tryd.f3.isWrapper Tryd.pinned.checked.prog Rows.sha2BlocksRow.wrapper Rows.sha2BlocksRow.mainSum := by
  unfold Func.isWrapper; first | (rw [if_pos (by decide +kernel)]; kernel_rfl) | (rw [if_neg (by decide +kernel)]; exact ⟨rfl, rfl⟩)
theorem said : Rows.Sha2BlocksSaid :=
  OpenClaim.holds_of_cond 3 Tryd.f3 rfl rfl rfl rfl rfl rfl rfl ⟨rfl, rfl, rfl, rfl, rfl⟩ rfl rfl rfl rfl rfl named Tryd.func3 closed inst wrap
    (fun os started H enc _ F => by rw [OpenClaim.pre_eq_preRow]; exact lifted os started H enc F)
theorem cw : Rows.sha2BlocksRow.wfByText (OpenSpec.ofChange Rows.sha2BlocksSpec) = true := by kernel_rfl
theorem cg : false = Rows.sha2BlocksRow.goesBy Tryd.pinned.checked.prog := by kernel_rfl
theorem plain (f : FuncId) (fn : Func) (hf : Tryd.pinned.checked.prog.funcNamed "livery/liverylaw02.Sha2Blocks" = some f) (hfn : Tryd.pinned.checked.prog.funcs[f]? = some fn) :
    false = Tryd.pinned.checked.prog.looks [] ∧ ∀ (j : Nat) t, fn.params[j]? = some t → Tryd.pinned.checked.prog.wantsStandIn t = false := by
  obtain rfl : f = 3 := Option.some.inj ((show Tryd.prog.funcNamed "livery/liverylaw02.Sha2Blocks" = some 3 by kernel_rfl).symm.trans hf) |>.symm
  obtain rfl : fn = Tryd.f3 := (Option.some.inj (Tryd.func3.symm.trans hfn)).symm
  refine ⟨looksOff, fun j t ht => ?_⟩
  rw [Tryd.params3] at ht
  have hm : t ∈ [23, 24] := by simpa using Array.mem_of_getElem? ht
  have hall : ([23, 24].all fun u => !Tryd.prog.wantsStandIn u) = true := by kernel_rfl
  exact (show Tryd.prog.wantsStandIn t = false by simpa using List.all_eq_true.1 hall t hm)
end Go.Proofs.YtgbahfggnbpnmaaDoor.sha2Blocks
namespace Go.Proofs.YtgbahfggnbpnmaaDoor
open Go
/-- The card of Sha2Blocks. -/
theorem sha2Blocks_card : Rows.Sha2BlocksCardSaid :=
  Claim7.holds_tied_plain_at .later [] _ _ _ _ sha2Blocks.said (fun _ h => by cases h) sha2Blocks.cw (fun _ h => by cases h) sha2Blocks_row_tie rfl ⟨rfl, rfl⟩ mainIs rfl sha2Blocks.plain sha2Blocks.cg
#print axioms sha2Blocks_card
end Go.Proofs.YtgbahfggnbpnmaaDoor
