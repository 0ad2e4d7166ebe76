/-
  Sha2Hashes: any sequence of writes, clones and queries returns the specified hashes and lengths, and arguments are not modified: for every list of texts and every list of marks the law returns true and leaves its arguments as they are.
  The card ties the two tables that the row lists to the program's text; no other condition.
-/
import Derived.Test.YtgbahfggnbpnmaaDoorLawD
import Derived.Test.YtgbahfggnbpnmaaDoorLawP
import Derived.Test.YtgbahfggnbpnmaaDoorLawB
import Derived.Test.YtgbahfggnbpnmaaDoorLawHashes
import Derived.SevenTiedAt
namespace Go.Proofs.YtgbahfggnbpnmaaDoor.sha2Hashes
open Go.ChangeShapes Go.WideShapes Go.ChangeAt Go.RowKit

set_option maxRecDepth 100000 in
/-- What the walk gives, for every argument and every world that holds the tables. -/
theorem contract (H : Type) (enc : TypeId × Value → H) (W : World) (base : Nat) (args : Array Value) (ds gs : List (DataW H)) (before : List MemPlace)
    (hval : ∀ (j : Nat) t v, Tryd.f6.params[j]? = some t → args[j]? = some v → Value.okWide Tryd.prog W .any base t v)
    (hW : DataW.Whole enc Tryd.prog Tryd.f6.params.toList Rows.sha2HashesSpec.vars false W args.toList ds gs before) (hL : laidMetH Tryd.prog Rows.sha2HashesRow.laid W) :
    Calls Tryd.prog 6 args W fun e W' => ∃ v, e = .returned v ∧ Rows.sha2HashesSpec.post enc Tryd.prog Tryd.f6 false true false false W args v W' := by
  have hW' := hW
  have hT : Two W := two_of_laid hL
  obtain ⟨p, q, hA0, hV, hbe, hfz, hnd⟩ := hW
  have hA : DataW.TrodAll enc Tryd.prog W 0 (fun _ => true) true Tryd.f6.params.toList args.toList ds p := hA0
  rw [Tryd.params6] at hA hval
  obtain ⟨v0, vs0, d0, ds0, p0, q0, hargs, rfl, rfl, h0, r0⟩ := trodAll_cons hA
  obtain ⟨v1, vs1, d1, ds1, p1, q1, rfl, rfl, rfl, h1, r1⟩ := trodAll_cons r0
  obtain ⟨rfl, rfl, rfl⟩ := trodAll_nil r1
  obtain rfl : args = #[v0, v1] := by cases args; simp_all
  obtain ⟨rfl, rfl⟩ := trodVars_none hV
  obtain ⟨a0, n0, c0, ls0, rfl, t0⟩ := open_texts Tryd.underlying35 Tryd.underlying28 Tryd.underlying5 cells_u8s cells_u8 (hval 0 35 v0 rfl rfl) h0
  obtain ⟨a1, n1, c1, z1, rfl, t1⟩ := open_boolsIn Tryd.underlying48 Tryd.underlying4 cells_bool (hval 1 48 v1 rfl rfl) h1
  refine (sha2hashes_walk ls0 n0 c0 t0.1 a0 z1 a1 n1 c1 W (parts_in t0.2.2.2.2) t1 hT (by have h1 := t0.1; have h2 := t0.2.1; have h3 := t0.2.2.1; unfold maxLen at h3; omega)).mono fun e W' ⟨he, hg⟩ => ?_
  subst he
  exact ⟨_, rfl, law_post laidOut hW' hg rfl Tryd.underlying4 rfl (by kernel_rfl) rfl rfl rfl⟩

theorem laid_met (os : Os) : laidMet Tryd.prog Rows.sha2HashesRow.laid ((laidWorld os).forCall (fun _ _ => 0) ⟨#[], #[.slice none 0 0, .slice none 0 0], []⟩).memory :=
  laidMet_of_run' 8 (by kernel_rfl) (by kernel_rfl)
theorem reads (os : Os) {H : Type} (enc : TypeId × Value → H) : ∃ places, DataW.whole enc Tryd.prog ((laidWorld os).forCall (fun _ _ => 0) ⟨#[], #[.slice none 0 0, .slice none 0 0], []⟩).memory Tryd.f6.params.toList Rows.sha2HashesSpec.vars false (#[.slice none 0 0, .slice none 0 0] : Array Value).toList 8 = some ([.nil, .nil], [], places) :=
  ⟨[], by kernel_rfl⟩
set_option maxRecDepth 100000 in
theorem lifted (os : Os) (started : os.Started) (H : Type) (enc : TypeId × Value → H) (F : Stop.Interp) :
    ReturnsInHanded {} Tryd.checked os 6 .any ((OpenSpec.ofChange Rows.sha2HashesSpec).preRow enc Tryd.prog Tryd.f6 Rows.sha2HashesRow.domain false Rows.sha2HashesRow.laid) (((OpenSpec.ofChange Rows.sha2HashesSpec).at F).post enc Tryd.prog Tryd.f6 false true false false) := by
  obtain ⟨places, hx⟩ := reads os enc
  refine returnsInHanded_of_row (C := Tryd.checked) (s := OpenSpec.ofChange Rows.sha2HashesSpec) own started (by kernel_rfl) Tryd.func6
    (witness_row_at (enc := enc) (C := Tryd.checked) false (laidWorld os) #[.slice none 0 0, .slice none 0 0] rfl (by kernel_rfl) (by kernel_rfl) (by kernel_rfl)
      (OpenSpec.preRow_of_cond 8 hx (by kernel_rfl) (fun k hk => by cases hk) (by kernel_rfl) (laid_met os))) ?_
  intro W base args ds gs before hval hW _ _ _ hL _ _
  exact contract H enc W base args ds gs before hval hW hL
theorem named : Tryd.pinned.checked.prog.funcNamed Rows.sha2HashesRow.func = some 6 := by kernel_rfl
theorem k1 : Rows.sha2HashesRow.wf (OpenSpec.ofChange Rows.sha2HashesSpec) = true := by kernel_rfl
theorem k4 : Tryd.f6.params.all (Tryd.prog.readableRec ·) = true := by kernel_rfl
theorem k5 : namedTie Tryd.prog Rows.sha2HashesRow.named Rows.sha2HashesSpec.vars = true := by kernel_rfl
theorem k6 : (Rows.sha2HashesRow.stops == []) = true := by kernel_rfl
theorem k8 : (Rows.sha2HashesRow.knobs == []) = true := by kernel_rfl
theorem k10 : (Rows.sha2HashesRow.inPlace == Tryd.prog.inPlace 6) = true := by kernel_rfl
theorem k11 : (Rows.sha2HashesRow.unfollowed == Tryd.prog.unfollowed 6) = true := by kernel_rfl
theorem k12 : (Rows.sha2HashesRow.recurses == Tryd.prog.recurses 6) = true := by kernel_rfl
theorem k13 : (Rows.sha2HashesRow.named == Tryd.prog.varsNamed 6) = true := by kernel_rfl
theorem k14 : (Rows.sha2HashesRow.maps == (Tryd.f6.params.toList ++ Rows.sha2HashesSpec.plain.varTypes Tryd.prog).any (Tryd.prog.mapsRec ·)) = true := by kernel_rfl
theorem k15 : (Rows.sha2HashesRow.ifaces == (Tryd.f6.params.toList ++ Rows.sha2HashesSpec.plain.varTypes Tryd.prog).any (Tryd.prog.ifacesRec ·)) = true := by kernel_rfl
theorem k16 : (Rows.sha2HashesRow.mapsOut == Tryd.prog.mapsAmong Tryd.f6.resultTypes.toList) = true := by kernel_rfl
theorem k17 : (Rows.sha2HashesRow.loops == (Tryd.f6.params.toList ++ Rows.sha2HashesSpec.plain.varTypes Tryd.prog).any (Tryd.prog.loopsFrom ·)) = true := by kernel_rfl
theorem k17b : (Rows.sha2HashesRow.wideKeys == (Tryd.f6.params.toList ++ Rows.sha2HashesSpec.plain.varTypes Tryd.prog ++ Tryd.f6.resultTypes.toList).any (Tryd.prog.wideKeysFrom ·)) = true := by kernel_rfl
theorem k18 : Rows.sha2HashesSpec.vars.all (Tryd.prog.varReadable ·) = true := by kernel_rfl
theorem k19 : Tryd.f6.resultTypes.all (fun t => Tryd.prog.readableRec t && decide (t < Tryd.prog.types.size)) = true := by kernel_rfl
theorem k20 : (Rows.sha2HashesRow.ifacesOut == Tryd.f6.resultTypes.toList.any (Tryd.prog.ifacesRec ·)) = true := by kernel_rfl
theorem k21 : (Rows.sha2HashesRow.loopsOut == Tryd.f6.resultTypes.toList.any (Tryd.prog.loopsFrom ·)) = true := by kernel_rfl
theorem k22 : (Rows.sha2HashesRow.plainKeys == Tryd.prog.plainKeys) = true := by kernel_rfl
theorem k23 : Rows.sha2HashesRow.shortTexts.isNone = true := by kernel_rfl
theorem k24b : (Rows.sha2HashesRow.lifted == Tryd.prog.liftsFinal) = true := by kernel_rfl
theorem k24c : (Tryd.prog.make == some Rows.sha2HashesRow.make) = true := by kernel_rfl
theorem k25 : (Rows.sha2HashesRow.kinds == (if Rows.sha2HashesRow.domain.isEmpty then [] else Tryd.f6.params.toList.map fun t => match Tryd.prog.underlying t with | some (.int k) => some k | _ => none)) = true := by kernel_rfl
theorem k26 : (Rows.sha2HashesRow.pinned == Rows.sha2HashesRow.pinnedBy) = true := by kernel_rfl
theorem k27 : (Rows.sha2HashesRow.veiled == (Tryd.f6.params.toList ++ Rows.sha2HashesSpec.plain.varTypes Tryd.prog ++ Tryd.f6.resultTypes.toList).any (Tryd.prog.veiledRec ·)) = true := by kernel_rfl
theorem k28 : Rows.sha2HashesRow.veiledFits Tryd.prog Tryd.f6.params.toList (Tryd.f6.params.toList ++ Rows.sha2HashesSpec.plain.varTypes Tryd.prog ++ Tryd.f6.resultTypes.toList) = true := by kernel_rfl
set_option maxRecDepth 100000 in
theorem closed : joinedFacts Tryd.pinned.checked.prog 6 Tryd.f6 (OpenSpec.ofChange Rows.sha2HashesSpec).bare Rows.sha2HashesRow = true :=
  a2 (a2 (a2 (a2 (a2 (a2 (a2 (a2 (a2 (a2 (a2 (a2 (a2 (a2 (a2 (a2 (a2 (a2 (a2 (a2 (a2 (a2 (a2 (a2 (a2 (a2 (a2 (a2 (a2 (a2 (a2 (k1) k2) k3) k4) k5) k6) k7) k8) k9) k10) k11) k12) k13) k14) k15) k16) k17) k17b) k18) k19) k20) k21) k22) k23) k23b) k24) k24b) k24c) k25) k26) k27) k28
theorem inst : Tryd.f6.isInstance Tryd.pinned.checked.prog Rows.sha2HashesRow.origin Rows.sha2HashesRow.targs := of_decide_eq_true (by kernel_rfl)
theorem wrap : Tryd.f6.isWrapper Tryd.pinned.checked.prog Rows.sha2HashesRow.wrapper Rows.sha2HashesRow.mainSum := by
  unfold Func.isWrapper; first | (rw [if_pos (by decide +kernel)]; kernel_rfl) | (rw [if_neg (by decide +kernel)]; exact ⟨rfl, rfl⟩)
theorem said : Rows.Sha2HashesSaid :=
  OpenClaim.holds_of_cond 6 Tryd.f6 rfl rfl rfl rfl rfl rfl rfl ⟨rfl, rfl, rfl, rfl, rfl⟩ rfl rfl rfl rfl rfl named Tryd.func6 closed inst wrap
    (fun os started H enc _ F => by rw [OpenClaim.pre_eq_preRow]; exact lifted os started H enc F)
theorem cw : Rows.sha2HashesRow.wfByText (OpenSpec.ofChange Rows.sha2HashesSpec) = true := by kernel_rfl
theorem cg : false = Rows.sha2HashesRow.goesBy Tryd.pinned.checked.prog := by kernel_rfl
theorem plain (f : FuncId) (fn : Func) (hf : Tryd.pinned.checked.prog.funcNamed "livery/liverylaw02.Sha2Hashes" = some f) (hfn : Tryd.pinned.checked.prog.funcs[f]? = some fn) :
    false = Tryd.pinned.checked.prog.looks [] ∧ ∀ (j : Nat) t, fn.params[j]? = some t → Tryd.pinned.checked.prog.wantsStandIn t = false := by
  obtain rfl : f = 6 := Option.some.inj ((show Tryd.prog.funcNamed "livery/liverylaw02.Sha2Hashes" = some 6 by kernel_rfl).symm.trans hf) |>.symm
  obtain rfl : fn = Tryd.f6 := (Option.some.inj (Tryd.func6.symm.trans hfn)).symm
  refine ⟨looksOff, fun j t ht => ?_⟩
  rw [Tryd.params6] at ht
  have hm : t ∈ [35, 48] := by simpa using Array.mem_of_getElem? ht
  have hall : ([35, 48].all fun u => !Tryd.prog.wantsStandIn u) = true := by kernel_rfl
  exact (show Tryd.prog.wantsStandIn t = false by simpa using List.all_eq_true.1 hall t hm)
end Go.Proofs.YtgbahfggnbpnmaaDoor.sha2Hashes
namespace Go.Proofs.YtgbahfggnbpnmaaDoor
open Go
/-- The card of Sha2Hashes. -/
theorem sha2Hashes_card : Rows.Sha2HashesCardSaid :=
  Claim7.holds_tied_plain_at .later [] _ _ _ _ sha2Hashes.said (fun _ h => by cases h) sha2Hashes.cw (fun _ h => by cases h) sha2Hashes_row_tie rfl ⟨rfl, rfl⟩ mainIs rfl sha2Hashes.plain sha2Hashes.cg
#print axioms sha2Hashes_card
end Go.Proofs.YtgbahfggnbpnmaaDoor
