/-
  DrbgDoes: whatever is drawn, reseeded and cloned, each answer is as specified: for every entropy, nonce, personal text and script the law returns true and leaves its arguments as they are.
  The card ties the two tables that the row lists to the program's text; no other condition.
-/
import Derived.Test.YtgbahfggnbpnmaaDoorLawA
import Derived.Test.YtgbahfggnbpnmaaDoorLawP
import Derived.Test.YtgbahfggnbpnmaaDoorLawDrbgDoes
import Derived.SevenTiedAt
namespace Go.Proofs.YtgbahfggnbpnmaaDoor.drbgDoes
open Go.ChangeShapes Go.WideShapes Go.ChangeAt Go.RowKit

set_option maxRecDepth 100000 in
/-- What the walk gives, for every argument and every world that holds the tables. -/
theorem contract (H : Type) (enc : TypeId × Value → H) (W : World) (base : Nat) (args : Array Value) (ds gs : List (DataW H)) (before : List MemPlace)
    (hval : ∀ (j : Nat) t v, Tryd.f20.params[j]? = some t → args[j]? = some v → Value.okWide Tryd.prog W .any base t v)
    (hW : DataW.Whole enc Tryd.prog Tryd.f20.params.toList Rows.drbgDoesSpec.vars false W args.toList ds gs before) (hL : laidMetH Tryd.prog Rows.drbgDoesRow.laid W) :
    Calls Tryd.prog 20 args W fun e W' => ∃ v, e = .returned v ∧ Rows.drbgDoesSpec.post enc Tryd.prog Tryd.f20 false true false false W args v W' := by
  have hW' := hW
  have hT : Two W := two_of_laid hL
  obtain ⟨p, q, hA0, hV, hbe, hfz, hnd⟩ := hW
  have hA : DataW.TrodAll enc Tryd.prog W 0 (fun _ => true) true Tryd.f20.params.toList args.toList ds p := hA0
  rw [Tryd.params20] at hA hval
  obtain ⟨v0, vs0, d0, ds0, p0, q0, hargs, rfl, rfl, h0, r0⟩ := trodAll_cons hA
  obtain ⟨v1, vs1, d1, ds1, p1, q1, rfl, rfl, rfl, h1, r1⟩ := trodAll_cons r0
  obtain ⟨v2, vs2, d2, ds2, p2, q2, rfl, rfl, rfl, h2, r2⟩ := trodAll_cons r1
  obtain ⟨v3, vs3, d3, ds3, p3, q3, rfl, rfl, rfl, h3, r3⟩ := trodAll_cons r2
  obtain ⟨rfl, rfl, rfl⟩ := trodAll_nil r3
  obtain rfl : args = #[v0, v1, v2, v3] := by cases args; simp_all
  obtain ⟨rfl, rfl⟩ := trodVars_none hV
  obtain ⟨a0, n0, c0, l0, rfl, t0⟩ := open_text Tryd.underlying28 Tryd.underlying5 cells_u8 (hval 0 28 v0 rfl rfl) h0
  obtain ⟨a1, n1, c1, l1, rfl, t1⟩ := open_text Tryd.underlying28 Tryd.underlying5 cells_u8 (hval 1 28 v1 rfl rfl) h1
  obtain ⟨a2, n2, c2, l2, rfl, t2⟩ := open_text Tryd.underlying28 Tryd.underlying5 cells_u8 (hval 2 28 v2 rfl rfl) h2
  obtain ⟨a3, n3, c3, os3, rfl, t3⟩ := open_ops (hval 3 81 v3 rfl rfl) h3
  refine (drbgdoes_walk l0 l1 l2 a0 a1 a2 n0 c0 n1 c1 n2 c2 os3 a3 n3 c3 W t0.txt t1.txt t2.txt t3 hT).mono fun e W' ⟨he, hg⟩ => ?_
  subst he
  exact ⟨_, rfl, law_post laidOut hW' hg rfl Tryd.underlying4 rfl (by kernel_rfl) rfl rfl rfl⟩

theorem laid_met (os : Os) : laidMet Tryd.prog Rows.drbgDoesRow.laid ((laidWorld os).forCall (fun _ _ => 0) ⟨#[], #[.slice none 0 0, .slice none 0 0, .slice none 0 0, .slice none 0 0], []⟩).memory :=
  laidMet_of_run' 8 (by kernel_rfl) (by kernel_rfl)
theorem reads (os : Os) {H : Type} (enc : TypeId × Value → H) : ∃ places, DataW.whole enc Tryd.prog ((laidWorld os).forCall (fun _ _ => 0) ⟨#[], #[.slice none 0 0, .slice none 0 0, .slice none 0 0, .slice none 0 0], []⟩).memory Tryd.f20.params.toList Rows.drbgDoesSpec.vars false (#[.slice none 0 0, .slice none 0 0, .slice none 0 0, .slice none 0 0] : Array Value).toList 8 = some ([.nil, .nil, .nil, .nil], [], places) :=
  ⟨[], by kernel_rfl⟩
set_option maxRecDepth 100000 in
theorem lifted (os : Os) (started : os.Started) (H : Type) (enc : TypeId × Value → H) (F : Stop.Interp) :
    ReturnsInHanded {} Tryd.checked os 20 .any ((OpenSpec.ofChange Rows.drbgDoesSpec).preRow enc Tryd.prog Tryd.f20 Rows.drbgDoesRow.domain false Rows.drbgDoesRow.laid) (((OpenSpec.ofChange Rows.drbgDoesSpec).at F).post enc Tryd.prog Tryd.f20 false true false false) := by
  obtain ⟨places, hx⟩ := reads os enc
  refine returnsInHanded_of_row (C := Tryd.checked) (s := OpenSpec.ofChange Rows.drbgDoesSpec) own started (by kernel_rfl) Tryd.func20
    (witness_row_at (enc := enc) (C := Tryd.checked) false (laidWorld os) #[.slice none 0 0, .slice none 0 0, .slice none 0 0, .slice none 0 0] rfl (by kernel_rfl) (by kernel_rfl) (by kernel_rfl)
      (OpenSpec.preRow_of_cond 8 hx (by kernel_rfl) (fun k hk => by cases hk) (by kernel_rfl) (laid_met os))) ?_
  intro W base args ds gs before hval hW _ _ _ hL _ _
  exact contract H enc W base args ds gs before hval hW hL
theorem named : Tryd.pinned.checked.prog.funcNamed Rows.drbgDoesRow.func = some 20 := by kernel_rfl
theorem k1 : Rows.drbgDoesRow.wf (OpenSpec.ofChange Rows.drbgDoesSpec) = true := by kernel_rfl
theorem k4 : Tryd.f20.params.all (Tryd.prog.readableRec ·) = true := by kernel_rfl
theorem k5 : namedTie Tryd.prog Rows.drbgDoesRow.named Rows.drbgDoesSpec.vars = true := by kernel_rfl
theorem k6 : (Rows.drbgDoesRow.stops == []) = true := by kernel_rfl
theorem k8 : (Rows.drbgDoesRow.knobs == []) = true := by kernel_rfl
theorem k10 : (Rows.drbgDoesRow.inPlace == Tryd.prog.inPlace 20) = true := by kernel_rfl
theorem k11 : (Rows.drbgDoesRow.unfollowed == Tryd.prog.unfollowed 20) = true := by kernel_rfl
theorem k12 : (Rows.drbgDoesRow.recurses == Tryd.prog.recurses 20) = true := by kernel_rfl
theorem k13 : (Rows.drbgDoesRow.named == Tryd.prog.varsNamed 20) = true := by kernel_rfl
theorem k14 : (Rows.drbgDoesRow.maps == (Tryd.f20.params.toList ++ Rows.drbgDoesSpec.plain.varTypes Tryd.prog).any (Tryd.prog.mapsRec ·)) = true := by kernel_rfl
theorem k15 : (Rows.drbgDoesRow.ifaces == (Tryd.f20.params.toList ++ Rows.drbgDoesSpec.plain.varTypes Tryd.prog).any (Tryd.prog.ifacesRec ·)) = true := by kernel_rfl
theorem k16 : (Rows.drbgDoesRow.mapsOut == Tryd.prog.mapsAmong Tryd.f20.resultTypes.toList) = true := by kernel_rfl
theorem k17 : (Rows.drbgDoesRow.loops == (Tryd.f20.params.toList ++ Rows.drbgDoesSpec.plain.varTypes Tryd.prog).any (Tryd.prog.loopsFrom ·)) = true := by kernel_rfl
theorem k17b : (Rows.drbgDoesRow.wideKeys == (Tryd.f20.params.toList ++ Rows.drbgDoesSpec.plain.varTypes Tryd.prog ++ Tryd.f20.resultTypes.toList).any (Tryd.prog.wideKeysFrom ·)) = true := by kernel_rfl
theorem k18 : Rows.drbgDoesSpec.vars.all (Tryd.prog.varReadable ·) = true := by kernel_rfl
theorem k19 : Tryd.f20.resultTypes.all (fun t => Tryd.prog.readableRec t && decide (t < Tryd.prog.types.size)) = true := by kernel_rfl
theorem k20 : (Rows.drbgDoesRow.ifacesOut == Tryd.f20.resultTypes.toList.any (Tryd.prog.ifacesRec ·)) = true := by kernel_rfl
theorem k21 : (Rows.drbgDoesRow.loopsOut == Tryd.f20.resultTypes.toList.any (Tryd.prog.loopsFrom ·)) = true := by kernel_rfl
theorem k22 : (Rows.drbgDoesRow.plainKeys == Tryd.prog.plainKeys) = true := by kernel_rfl
theorem k23 : Rows.drbgDoesRow.shortTexts.isNone = true := by kernel_rfl
theorem k24b : (Rows.drbgDoesRow.lifted == Tryd.prog.liftsFinal) = true := by kernel_rfl
theorem k24c : (Tryd.prog.make == some Rows.drbgDoesRow.make) = true := by kernel_rfl
theorem k25 : (Rows.drbgDoesRow.kinds == (if Rows.drbgDoesRow.domain.isEmpty then [] else Tryd.f20.params.toList.map fun t => match Tryd.prog.underlying t with | some (.int k) => some k | _ => none)) = true := by kernel_rfl
theorem k26 : (Rows.drbgDoesRow.pinned == Rows.drbgDoesRow.pinnedBy) = true := by kernel_rfl
theorem k27 : (Rows.drbgDoesRow.veiled == (Tryd.f20.params.toList ++ Rows.drbgDoesSpec.plain.varTypes Tryd.prog ++ Tryd.f20.resultTypes.toList).any (Tryd.prog.veiledRec ·)) = true := by kernel_rfl
theorem k28 : Rows.drbgDoesRow.veiledFits Tryd.prog Tryd.f20.params.toList (Tryd.f20.params.toList ++ Rows.drbgDoesSpec.plain.varTypes Tryd.prog ++ Tryd.f20.resultTypes.toList) = true := by kernel_rfl
set_option maxRecDepth 100000 in
theorem closed : joinedFacts Tryd.pinned.checked.prog 20 Tryd.f20 (OpenSpec.ofChange Rows.drbgDoesSpec).bare Rows.drbgDoesRow = true :=
  a2 (a2 (a2 (a2 (a2 (a2 (a2 (a2 (a2 (a2 (a2 (a2 (a2 (a2 (a2 (a2 (a2 (a2 (a2 (a2 (a2 (a2 (a2 (a2 (a2 (a2 (a2 (a2 (a2 (a2 (a2 (k1) k2) k3) k4) k5) k6) k7) k8) k9) k10) k11) k12) k13) k14) k15) k16) k17) k17b) k18) k19) k20) k21) k22) k23) k23b) k24) k24b) k24c) k25) k26) k27) k28
theorem inst : Tryd.f20.isInstance Tryd.pinned.checked.prog Rows.drbgDoesRow.origin Rows.drbgDoesRow.targs := of_decide_eq_true (by kernel_rfl)
theorem wrap : Tryd.f20.isWrapper Tryd.pinned.checked.prog Rows.drbgDoesRow.wrapper Rows.drbgDoesRow.mainSum := by
  unfold Func.isWrapper; first | (rw [if_pos (by decide +kernel)]; kernel_rfl) | (rw [if_neg (by decide +kernel)]; exact ⟨rfl, rfl⟩)
theorem said : Rows.DrbgDoesSaid :=
  OpenClaim.holds_of_cond 20 Tryd.f20 rfl rfl rfl rfl rfl rfl rfl ⟨rfl, rfl, rfl, rfl, rfl⟩ rfl rfl rfl rfl rfl named Tryd.func20 closed inst wrap
    (fun os started H enc _ F => by rw [OpenClaim.pre_eq_preRow]; exact lifted os started H enc F)
theorem cw : Rows.drbgDoesRow.wfByText (OpenSpec.ofChange Rows.drbgDoesSpec) = true := by kernel_rfl
theorem cg : false = Rows.drbgDoesRow.goesBy Tryd.pinned.checked.prog := by kernel_rfl
theorem plain (f : FuncId) (fn : Func) (hf : Tryd.pinned.checked.prog.funcNamed "livery/liverylaw05.DrbgDoes" = some f) (hfn : Tryd.pinned.checked.prog.funcs[f]? = some fn) :
    false = Tryd.pinned.checked.prog.looks [] ∧ ∀ (j : Nat) t, fn.params[j]? = some t → Tryd.pinned.checked.prog.wantsStandIn t = false := by
  obtain rfl : f = 20 := Option.some.inj ((show Tryd.prog.funcNamed "livery/liverylaw05.DrbgDoes" = some 20 by kernel_rfl).symm.trans hf) |>.symm
  obtain rfl : fn = Tryd.f20 := (Option.some.inj (Tryd.func20.symm.trans hfn)).symm
  refine ⟨looksOff, fun j t ht => ?_⟩
  rw [Tryd.params20] at ht
  have hm : t ∈ [28, 28, 28, 81] := by simpa using Array.mem_of_getElem? ht
  have hall : ([28, 28, 28, 81].all fun u => !Tryd.prog.wantsStandIn u) = true := by kernel_rfl
  exact (show Tryd.prog.wantsStandIn t = false by simpa using List.all_eq_true.1 hall t hm)
end Go.Proofs.YtgbahfggnbpnmaaDoor.drbgDoes
namespace Go.Proofs.YtgbahfggnbpnmaaDoor
open Go
/-- The card of DrbgDoes. -/
theorem drbgDoes_card : Rows.DrbgDoesCardSaid :=
  Claim7.holds_tied_plain_at .later [] _ _ _ _ drbgDoes.said (fun _ h => by cases h) drbgDoes.cw (fun _ h => by cases h) drbgDoes_row_tie rfl ⟨rfl, rfl⟩ mainIs rfl drbgDoes.plain drbgDoes.cg
#print axioms drbgDoes_card
end Go.Proofs.YtgbahfggnbpnmaaDoor
