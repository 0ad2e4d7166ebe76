/-
  DrbgNone: a generator that no call made returns ErrMade, nothing and nil: for every number and every text the law returns true and leaves its arguments as they are.
  The card ties the two tables that the row lists to the program's text; no other condition.
-/
import Derived.Test.YtgbahfggnbpnmaaDoorLawA
import Derived.Test.YtgbahfggnbpnmaaDoorLawP
import Derived.Test.YtgbahfggnbpnmaaDoorLawDrbgNone
import Derived.SevenTiedAt
namespace Go.Proofs.YtgbahfggnbpnmaaDoor.drbgNone
open Go.ChangeShapes Go.WideShapes Go.ChangeAt Go.RowKit

set_option maxRecDepth 100000 in
/-- What the walk gives, for every argument and every world that holds the tables. -/
theorem contract (H : Type) (enc : TypeId × Value → H) (W : World) (base : Nat) (args : Array Value) (ds gs : List (DataW H)) (before : List MemPlace)
    (hval : ∀ (j : Nat) t v, Tryd.f21.params[j]? = some t → args[j]? = some v → Value.okWide Tryd.prog W .any base t v)
    (hW : DataW.Whole enc Tryd.prog Tryd.f21.params.toList Rows.drbgNoneSpec.vars false W args.toList ds gs before) (hL : laidMetH Tryd.prog Rows.drbgNoneRow.laid W) :
    Calls Tryd.prog 21 args W fun e W' => ∃ v, e = .returned v ∧ Rows.drbgNoneSpec.post enc Tryd.prog Tryd.f21 false true false false W args v W' := by
  have hW' := hW
  have hT : Two W := two_of_laid hL
  obtain ⟨p, q, hA0, hV, hbe, hfz, hnd⟩ := hW
  have hA : DataW.TrodAll enc Tryd.prog W 0 (fun _ => true) true Tryd.f21.params.toList args.toList ds p := hA0
  rw [Tryd.params21] at hA hval
  obtain ⟨v0, vs0, d0, ds0, p0, q0, hargs, rfl, rfl, h0, r0⟩ := trodAll_cons hA
  obtain ⟨v1, vs1, d1, ds1, p1, q1, rfl, rfl, rfl, h1, r1⟩ := trodAll_cons r0
  obtain ⟨rfl, rfl, rfl⟩ := trodAll_nil r1
  obtain rfl : args = #[v0, v1] := by cases args; simp_all
  obtain ⟨rfl, rfl⟩ := trodVars_none hV
  obtain ⟨m0, rfl, rfl, rfl, w0⟩ := open_int Tryd.underlying3 (hval 0 3 v0 rfl rfl) h0
  obtain ⟨a1, n1, c1, l1, rfl, t1⟩ := open_text Tryd.underlying28 Tryd.underlying5 cells_u8 (hval 1 28 v1 rfl rfl) h1
  refine (drbgnone_walk m0 a1 n1 c1 W hT).mono fun e W' ⟨he, hg⟩ => ?_
  subst he
  exact ⟨_, rfl, law_post laidOut hW' hg rfl Tryd.underlying4 rfl (by kernel_rfl) rfl rfl rfl⟩

theorem laid_met (os : Os) : laidMet Tryd.prog Rows.drbgNoneRow.laid ((laidWorld os).forCall (fun _ _ => 0) ⟨#[], #[.int .i64 0, .slice none 0 0], []⟩).memory :=
  laidMet_of_run' 8 (by kernel_rfl) (by kernel_rfl)
theorem reads (os : Os) {H : Type} (enc : TypeId × Value → H) : ∃ places, DataW.whole enc Tryd.prog ((laidWorld os).forCall (fun _ _ => 0) ⟨#[], #[.int .i64 0, .slice none 0 0], []⟩).memory Tryd.f21.params.toList Rows.drbgNoneSpec.vars false (#[.int .i64 0, .slice none 0 0] : Array Value).toList 8 = some ([.lit (.int .i64 0), .nil], [], places) :=
  ⟨[], by kernel_rfl⟩
set_option maxRecDepth 100000 in
theorem lifted (os : Os) (started : os.Started) (H : Type) (enc : TypeId × Value → H) (F : Stop.Interp) :
    ReturnsInHanded {} Tryd.checked os 21 .any ((OpenSpec.ofChange Rows.drbgNoneSpec).preRow enc Tryd.prog Tryd.f21 Rows.drbgNoneRow.domain false Rows.drbgNoneRow.laid) (((OpenSpec.ofChange Rows.drbgNoneSpec).at F).post enc Tryd.prog Tryd.f21 false true false false) := by
  obtain ⟨places, hx⟩ := reads os enc
  refine returnsInHanded_of_row (C := Tryd.checked) (s := OpenSpec.ofChange Rows.drbgNoneSpec) own started (by kernel_rfl) Tryd.func21
    (witness_row_at (enc := enc) (C := Tryd.checked) false (laidWorld os) #[.int .i64 0, .slice none 0 0] rfl (by kernel_rfl) (by kernel_rfl) (by kernel_rfl)
      (OpenSpec.preRow_of_cond 8 hx (by kernel_rfl) (fun k hk => by cases hk) (by kernel_rfl) (laid_met os))) ?_
  intro W base args ds gs before hval hW _ _ _ hL _ _
  exact contract H enc W base args ds gs before hval hW hL
theorem named : Tryd.pinned.checked.prog.funcNamed Rows.drbgNoneRow.func = some 21 := by kernel_rfl
theorem k1 : Rows.drbgNoneRow.wf (OpenSpec.ofChange Rows.drbgNoneSpec) = true := by kernel_rfl
theorem k4 : Tryd.f21.params.all (Tryd.prog.readableRec ·) = true := by kernel_rfl
theorem k5 : namedTie Tryd.prog Rows.drbgNoneRow.named Rows.drbgNoneSpec.vars = true := by kernel_rfl
theorem k6 : (Rows.drbgNoneRow.stops == []) = true := by kernel_rfl
theorem k8 : (Rows.drbgNoneRow.knobs == []) = true := by kernel_rfl
theorem k10 : (Rows.drbgNoneRow.inPlace == Tryd.prog.inPlace 21) = true := by kernel_rfl
theorem k11 : (Rows.drbgNoneRow.unfollowed == Tryd.prog.unfollowed 21) = true := by kernel_rfl
theorem k12 : (Rows.drbgNoneRow.recurses == Tryd.prog.recurses 21) = true := by kernel_rfl
theorem k13 : (Rows.drbgNoneRow.named == Tryd.prog.varsNamed 21) = true := by kernel_rfl
theorem k14 : (Rows.drbgNoneRow.maps == (Tryd.f21.params.toList ++ Rows.drbgNoneSpec.plain.varTypes Tryd.prog).any (Tryd.prog.mapsRec ·)) = true := by kernel_rfl
theorem k15 : (Rows.drbgNoneRow.ifaces == (Tryd.f21.params.toList ++ Rows.drbgNoneSpec.plain.varTypes Tryd.prog).any (Tryd.prog.ifacesRec ·)) = true := by kernel_rfl
theorem k16 : (Rows.drbgNoneRow.mapsOut == Tryd.prog.mapsAmong Tryd.f21.resultTypes.toList) = true := by kernel_rfl
theorem k17 : (Rows.drbgNoneRow.loops == (Tryd.f21.params.toList ++ Rows.drbgNoneSpec.plain.varTypes Tryd.prog).any (Tryd.prog.loopsFrom ·)) = true := by kernel_rfl
theorem k17b : (Rows.drbgNoneRow.wideKeys == (Tryd.f21.params.toList ++ Rows.drbgNoneSpec.plain.varTypes Tryd.prog ++ Tryd.f21.resultTypes.toList).any (Tryd.prog.wideKeysFrom ·)) = true := by kernel_rfl
theorem k18 : Rows.drbgNoneSpec.vars.all (Tryd.prog.varReadable ·) = true := by kernel_rfl
theorem k19 : Tryd.f21.resultTypes.all (fun t => Tryd.prog.readableRec t && decide (t < Tryd.prog.types.size)) = true := by kernel_rfl
theorem k20 : (Rows.drbgNoneRow.ifacesOut == Tryd.f21.resultTypes.toList.any (Tryd.prog.ifacesRec ·)) = true := by kernel_rfl
theorem k21 : (Rows.drbgNoneRow.loopsOut == Tryd.f21.resultTypes.toList.any (Tryd.prog.loopsFrom ·)) = true := by kernel_rfl
theorem k22 : (Rows.drbgNoneRow.plainKeys == Tryd.prog.plainKeys) = true := by kernel_rfl
theorem k23 : Rows.drbgNoneRow.shortTexts.isNone = true := by kernel_rfl
theorem k24b : (Rows.drbgNoneRow.lifted == Tryd.prog.liftsFinal) = true := by kernel_rfl
theorem k24c : (Tryd.prog.make == some Rows.drbgNoneRow.make) = true := by kernel_rfl
theorem k25 : (Rows.drbgNoneRow.kinds == (if Rows.drbgNoneRow.domain.isEmpty then [] else Tryd.f21.params.toList.map fun t => match Tryd.prog.underlying t with | some (.int k) => some k | _ => none)) = true := by kernel_rfl
theorem k26 : (Rows.drbgNoneRow.pinned == Rows.drbgNoneRow.pinnedBy) = true := by kernel_rfl
theorem k27 : (Rows.drbgNoneRow.veiled == (Tryd.f21.params.toList ++ Rows.drbgNoneSpec.plain.varTypes Tryd.prog ++ Tryd.f21.resultTypes.toList).any (Tryd.prog.veiledRec ·)) = true := by kernel_rfl
theorem k28 : Rows.drbgNoneRow.veiledFits Tryd.prog Tryd.f21.params.toList (Tryd.f21.params.toList ++ Rows.drbgNoneSpec.plain.varTypes Tryd.prog ++ Tryd.f21.resultTypes.toList) = true := by kernel_rfl
set_option maxRecDepth 100000 in
theorem closed : joinedFacts Tryd.pinned.checked.prog 21 Tryd.f21 (OpenSpec.ofChange Rows.drbgNoneSpec).bare Rows.drbgNoneRow = true :=
  a2 (a2 (a2 (a2 (a2 (a2 (a2 (a2 (a2 (a2 (a2 (a2 (a2 (a2 (a2 (a2 (a2 (a2 (a2 (a2 (a2 (a2 (a2 (a2 (a2 (a2 (a2 (a2 (a2 (a2 (a2 (k1) k2) k3) k4) k5) k6) k7) k8) k9) k10) k11) k12) k13) k14) k15) k16) k17) k17b) k18) k19) k20) k21) k22) k23) k23b) k24) k24b) k24c) k25) k26) k27) k28
theorem inst : Tryd.f21.isInstance Tryd.pinned.checked.prog Rows.drbgNoneRow.origin Rows.drbgNoneRow.targs := of_decide_eq_true (by kernel_rfl)
theorem wrap : Tryd.f21.isWrapper Tryd.pinned.checked.prog Rows.drbgNoneRow.wrapper Rows.drbgNoneRow.mainSum := by
  unfold Func.isWrapper; first | (rw [if_pos (by decide +kernel)]; kernel_rfl) | (rw [if_neg (by decide +kernel)]; exact ⟨rfl, rfl⟩)
theorem said : Rows.DrbgNoneSaid :=
  OpenClaim.holds_of_cond 21 Tryd.f21 rfl rfl rfl rfl rfl rfl rfl ⟨rfl, rfl, rfl, rfl, rfl⟩ rfl rfl rfl rfl rfl named Tryd.func21 closed inst wrap
    (fun os started H enc _ F => by rw [OpenClaim.pre_eq_preRow]; exact lifted os started H enc F)
theorem cw : Rows.drbgNoneRow.wfByText (OpenSpec.ofChange Rows.drbgNoneSpec) = true := by kernel_rfl
theorem cg : false = Rows.drbgNoneRow.goesBy Tryd.pinned.checked.prog := by kernel_rfl
theorem plain (f : FuncId) (fn : Func) (hf : Tryd.pinned.checked.prog.funcNamed "livery/liverylaw05.DrbgNone" = some f) (hfn : Tryd.pinned.checked.prog.funcs[f]? = some fn) :
    false = Tryd.pinned.checked.prog.looks [] ∧ ∀ (j : Nat) t, fn.params[j]? = some t → Tryd.pinned.checked.prog.wantsStandIn t = false := by
  obtain rfl : f = 21 := Option.some.inj ((show Tryd.prog.funcNamed "livery/liverylaw05.DrbgNone" = some 21 by kernel_rfl).symm.trans hf) |>.symm
  obtain rfl : fn = Tryd.f21 := (Option.some.inj (Tryd.func21.symm.trans hfn)).symm
  refine ⟨looksOff, fun j t ht => ?_⟩
  rw [Tryd.params21] at ht
  have hm : t ∈ [3, 28] := by simpa using Array.mem_of_getElem? ht
  have hall : ([3, 28].all fun u => !Tryd.prog.wantsStandIn u) = true := by kernel_rfl
  exact (show Tryd.prog.wantsStandIn t = false by simpa using List.all_eq_true.1 hall t hm)
end Go.Proofs.YtgbahfggnbpnmaaDoor.drbgNone
namespace Go.Proofs.YtgbahfggnbpnmaaDoor
open Go
/-- The card of DrbgNone. -/
theorem drbgNone_card : Rows.DrbgNoneCardSaid :=
  Claim7.holds_tied_plain_at .later [] _ _ _ _ drbgNone.said (fun _ h => by cases h) drbgNone.cw (fun _ h => by cases h) drbgNone_row_tie rfl ⟨rfl, rfl⟩ mainIs rfl drbgNone.plain drbgNone.cg
#print axioms drbgNone_card
end Go.Proofs.YtgbahfggnbpnmaaDoor
