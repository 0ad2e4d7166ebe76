/-
  Sha2Padded: a short key is equivalent to the key padded with zero bytes, a long one to its hash: for every key, every number of zeros and every text the law returns true and leaves its arguments as they are.
  The card ties the two tables that the row lists to the program's text; no other condition.
-/
import Derived.Test.YtgbahfggnbpnmaaDoorLawD
import Derived.Test.YtgbahfggnbpnmaaDoorLawP
import Derived.Test.YtgbahfggnbpnmaaDoorLawPadded
import Derived.SevenTiedAt
namespace Go.Proofs.YtgbahfggnbpnmaaDoor.sha2Padded
open Go.ChangeShapes Go.WideShapes Go.ChangeAt Go.RowKit

set_option maxRecDepth 100000 in
/-- What the walk gives, for every argument and every world that holds the tables. -/
theorem contract (H : Type) (enc : TypeId × Value → H) (W : World) (base : Nat) (args : Array Value) (ds gs : List (DataW H)) (before : List MemPlace)
    (hval : ∀ (j : Nat) t v, Tryd.f8.params[j]? = some t → args[j]? = some v → Value.okWide Tryd.prog W .any base t v)
    (hW : DataW.Whole enc Tryd.prog Tryd.f8.params.toList Rows.sha2PaddedSpec.vars false W args.toList ds gs before) (hL : laidMetH Tryd.prog Rows.sha2PaddedRow.laid W) :
    Calls Tryd.prog 8 args W fun e W' => ∃ v, e = .returned v ∧ Rows.sha2PaddedSpec.post enc Tryd.prog Tryd.f8 false true false false W args v W' := by
  have hW' := hW
  have hT : Two W := two_of_laid hL
  obtain ⟨p, q, hA0, hV, hbe, hfz, hnd⟩ := hW
  have hA : DataW.TrodAll enc Tryd.prog W 0 (fun _ => true) true Tryd.f8.params.toList args.toList ds p := hA0
  rw [Tryd.params8] at hA hval
  obtain ⟨v0, vs0, d0, ds0, p0, q0, hargs, rfl, rfl, h0, r0⟩ := trodAll_cons hA
  obtain ⟨v1, vs1, d1, ds1, p1, q1, rfl, rfl, rfl, h1, r1⟩ := trodAll_cons r0
  obtain ⟨v2, vs2, d2, ds2, p2, q2, rfl, rfl, rfl, h2, r2⟩ := trodAll_cons r1
  obtain ⟨rfl, rfl, rfl⟩ := trodAll_nil r2
  obtain rfl : args = #[v0, v1, v2] := by cases args; simp_all
  obtain ⟨rfl, rfl⟩ := trodVars_none hV
  obtain ⟨a0, n0, c0, l0, rfl, t0⟩ := open_text Tryd.underlying28 Tryd.underlying5 cells_u8 (hval 0 28 v0 rfl rfl) h0
  obtain ⟨m1, rfl, rfl, rfl, w1⟩ := open_int Tryd.underlying5 (hval 1 5 v1 rfl rfl) h1
  obtain ⟨N1, rfl⟩ := nat_u8 w1
  obtain ⟨a2, n2, c2, l2, rfl, t2⟩ := open_text Tryd.underlying28 Tryd.underlying5 cells_u8 (hval 2 28 v2 rfl rfl) h2
  refine (sha2padded_walk l0 l2 a0 a2 n0 c0 n2 c2 N1 W t0.txt t2.txt hT).mono fun e W' ⟨he, hg⟩ => ?_
  subst he
  exact ⟨_, rfl, law_post laidOut hW' hg rfl Tryd.underlying4 rfl (by kernel_rfl) rfl rfl rfl⟩

theorem laid_met (os : Os) : laidMet Tryd.prog Rows.sha2PaddedRow.laid ((laidWorld os).forCall (fun _ _ => 0) ⟨#[], #[.slice none 0 0, .int .u8 0, .slice none 0 0], []⟩).memory :=
  laidMet_of_run' 8 (by kernel_rfl) (by kernel_rfl)
theorem reads (os : Os) {H : Type} (enc : TypeId × Value → H) : ∃ places, DataW.whole enc Tryd.prog ((laidWorld os).forCall (fun _ _ => 0) ⟨#[], #[.slice none 0 0, .int .u8 0, .slice none 0 0], []⟩).memory Tryd.f8.params.toList Rows.sha2PaddedSpec.vars false (#[.slice none 0 0, .int .u8 0, .slice none 0 0] : Array Value).toList 8 = some ([.nil, .lit (.int .u8 0), .nil], [], places) :=
  ⟨[], by kernel_rfl⟩
set_option maxRecDepth 100000 in
theorem lifted (os : Os) (started : os.Started) (H : Type) (enc : TypeId × Value → H) (F : Stop.Interp) :
    ReturnsInHanded {} Tryd.checked os 8 .any ((OpenSpec.ofChange Rows.sha2PaddedSpec).preRow enc Tryd.prog Tryd.f8 Rows.sha2PaddedRow.domain false Rows.sha2PaddedRow.laid) (((OpenSpec.ofChange Rows.sha2PaddedSpec).at F).post enc Tryd.prog Tryd.f8 false true false false) := by
  obtain ⟨places, hx⟩ := reads os enc
  refine returnsInHanded_of_row (C := Tryd.checked) (s := OpenSpec.ofChange Rows.sha2PaddedSpec) own started (by kernel_rfl) Tryd.func8
    (witness_row_at (enc := enc) (C := Tryd.checked) false (laidWorld os) #[.slice none 0 0, .int .u8 0, .slice none 0 0] rfl (by kernel_rfl) (by kernel_rfl) (by kernel_rfl)
      (OpenSpec.preRow_of_cond 8 hx (by kernel_rfl) (fun k hk => by cases hk) (by kernel_rfl) (laid_met os))) ?_
  intro W base args ds gs before hval hW _ _ _ hL _ _
  exact contract H enc W base args ds gs before hval hW hL
theorem named : Tryd.pinned.checked.prog.funcNamed Rows.sha2PaddedRow.func = some 8 := by kernel_rfl
theorem k1 : Rows.sha2PaddedRow.wf (OpenSpec.ofChange Rows.sha2PaddedSpec) = true := by kernel_rfl
theorem k4 : Tryd.f8.params.all (Tryd.prog.readableRec ·) = true := by kernel_rfl
theorem k5 : namedTie Tryd.prog Rows.sha2PaddedRow.named Rows.sha2PaddedSpec.vars = true := by kernel_rfl
theorem k6 : (Rows.sha2PaddedRow.stops == []) = true := by kernel_rfl
theorem k8 : (Rows.sha2PaddedRow.knobs == []) = true := by kernel_rfl
theorem k10 : (Rows.sha2PaddedRow.inPlace == Tryd.prog.inPlace 8) = true := by kernel_rfl
theorem k11 : (Rows.sha2PaddedRow.unfollowed == Tryd.prog.unfollowed 8) = true := by kernel_rfl
theorem k12 : (Rows.sha2PaddedRow.recurses == Tryd.prog.recurses 8) = true := by kernel_rfl
theorem k13 : (Rows.sha2PaddedRow.named == Tryd.prog.varsNamed 8) = true := by kernel_rfl
theorem k14 : (Rows.sha2PaddedRow.maps == (Tryd.f8.params.toList ++ Rows.sha2PaddedSpec.plain.varTypes Tryd.prog).any (Tryd.prog.mapsRec ·)) = true := by kernel_rfl
theorem k15 : (Rows.sha2PaddedRow.ifaces == (Tryd.f8.params.toList ++ Rows.sha2PaddedSpec.plain.varTypes Tryd.prog).any (Tryd.prog.ifacesRec ·)) = true := by kernel_rfl
theorem k16 : (Rows.sha2PaddedRow.mapsOut == Tryd.prog.mapsAmong Tryd.f8.resultTypes.toList) = true := by kernel_rfl
theorem k17 : (Rows.sha2PaddedRow.loops == (Tryd.f8.params.toList ++ Rows.sha2PaddedSpec.plain.varTypes Tryd.prog).any (Tryd.prog.loopsFrom ·)) = true := by kernel_rfl
theorem k17b : (Rows.sha2PaddedRow.wideKeys == (Tryd.f8.params.toList ++ Rows.sha2PaddedSpec.plain.varTypes Tryd.prog ++ Tryd.f8.resultTypes.toList).any (Tryd.prog.wideKeysFrom ·)) = true := by kernel_rfl
theorem k18 : Rows.sha2PaddedSpec.vars.all (Tryd.prog.varReadable ·) = true := by kernel_rfl
theorem k19 : Tryd.f8.resultTypes.all (fun t => Tryd.prog.readableRec t && decide (t < Tryd.prog.types.size)) = true := by kernel_rfl
theorem k20 : (Rows.sha2PaddedRow.ifacesOut == Tryd.f8.resultTypes.toList.any (Tryd.prog.ifacesRec ·)) = true := by kernel_rfl
theorem k21 : (Rows.sha2PaddedRow.loopsOut == Tryd.f8.resultTypes.toList.any (Tryd.prog.loopsFrom ·)) = true := by kernel_rfl
theorem k22 : (Rows.sha2PaddedRow.plainKeys == Tryd.prog.plainKeys) = true := by kernel_rfl
theorem k23 : Rows.sha2PaddedRow.shortTexts.isNone = true := by kernel_rfl
theorem k24b : (Rows.sha2PaddedRow.lifted == Tryd.prog.liftsFinal) = true := by kernel_rfl
theorem k24c : (Tryd.prog.make == some Rows.sha2PaddedRow.make) = true := by kernel_rfl
theorem k25 : (Rows.sha2PaddedRow.kinds == (if Rows.sha2PaddedRow.domain.isEmpty then [] else Tryd.f8.params.toList.map fun t => match Tryd.prog.underlying t with | some (.int k) => some k | _ => none)) = true := by kernel_rfl
theorem k26 : (Rows.sha2PaddedRow.pinned == Rows.sha2PaddedRow.pinnedBy) = true := by kernel_rfl
theorem k27 : (Rows.sha2PaddedRow.veiled == (Tryd.f8.params.toList ++ Rows.sha2PaddedSpec.plain.varTypes Tryd.prog ++ Tryd.f8.resultTypes.toList).any (Tryd.prog.veiledRec ·)) = true := by kernel_rfl
theorem k28 : Rows.sha2PaddedRow.veiledFits Tryd.prog Tryd.f8.params.toList (Tryd.f8.params.toList ++ Rows.sha2PaddedSpec.plain.varTypes Tryd.prog ++ Tryd.f8.resultTypes.toList) = true := by kernel_rfl
set_option maxRecDepth 100000 in
theorem closed : joinedFacts Tryd.pinned.checked.prog 8 Tryd.f8 (OpenSpec.ofChange Rows.sha2PaddedSpec).bare Rows.sha2PaddedRow = true :=
  a2 (a2 (a2 (a2 (a2 (a2 (a2 (a2 (a2 (a2 (a2 (a2 (a2 (a2 (a2 (a2 (a2 (a2 (a2 (a2 (a2 (a2 (a2 (a2 (a2 (a2 (a2 (a2 (a2 (a2 (a2 (k1) k2) k3) k4) k5) k6) k7) k8) k9) k10) k11) k12) k13) k14) k15) k16) k17) k17b) k18) k19) k20) k21) k22) k23) k23b) k24) k24b) k24c) k25) k26) k27) k28
theorem inst : Tryd.f8.isInstance Tryd.pinned.checked.prog Rows.sha2PaddedRow.origin Rows.sha2PaddedRow.targs := of_decide_eq_true (by kernel_rfl)
theorem wrap : Tryd.f8.isWrapper Tryd.pinned.checked.prog Rows.sha2PaddedRow.wrapper Rows.sha2PaddedRow.mainSum := by
  unfold Func.isWrapper; first | (rw [if_pos (by decide +kernel)]; kernel_rfl) | (rw [if_neg (by decide +kernel)]; exact ⟨rfl, rfl⟩)
theorem said : Rows.Sha2PaddedSaid :=
  OpenClaim.holds_of_cond 8 Tryd.f8 rfl rfl rfl rfl rfl rfl rfl ⟨rfl, rfl, rfl, rfl, rfl⟩ rfl rfl rfl rfl rfl named Tryd.func8 closed inst wrap
    (fun os started H enc _ F => by rw [OpenClaim.pre_eq_preRow]; exact lifted os started H enc F)
theorem cw : Rows.sha2PaddedRow.wfByText (OpenSpec.ofChange Rows.sha2PaddedSpec) = true := by kernel_rfl
theorem cg : false = Rows.sha2PaddedRow.goesBy Tryd.pinned.checked.prog := by kernel_rfl
theorem plain (f : FuncId) (fn : Func) (hf : Tryd.pinned.checked.prog.funcNamed "livery/liverylaw02.Sha2Padded" = some f) (hfn : Tryd.pinned.checked.prog.funcs[f]? = some fn) :
    false = Tryd.pinned.checked.prog.looks [] ∧ ∀ (j : Nat) t, fn.params[j]? = some t → Tryd.pinned.checked.prog.wantsStandIn t = false := by
  obtain rfl : f = 8 := Option.some.inj ((show Tryd.prog.funcNamed "livery/liverylaw02.Sha2Padded" = some 8 by kernel_rfl).symm.trans hf) |>.symm
  obtain rfl : fn = Tryd.f8 := (Option.some.inj (Tryd.func8.symm.trans hfn)).symm
  refine ⟨looksOff, fun j t ht => ?_⟩
  rw [Tryd.params8] at ht
  have hm : t ∈ [28, 5, 28] := by simpa using Array.mem_of_getElem? ht
  have hall : ([28, 5, 28].all fun u => !Tryd.prog.wantsStandIn u) = true := by kernel_rfl
  exact (show Tryd.prog.wantsStandIn t = false by simpa using List.all_eq_true.1 hall t hm)
end Go.Proofs.YtgbahfggnbpnmaaDoor.sha2Padded
namespace Go.Proofs.YtgbahfggnbpnmaaDoor
open Go
/-- The card of Sha2Padded. -/
theorem sha2Padded_card : Rows.Sha2PaddedCardSaid :=
  Claim7.holds_tied_plain_at .later [] _ _ _ _ sha2Padded.said (fun _ h => by cases h) sha2Padded.cw (fun _ h => by cases h) sha2Padded_row_tie rfl ⟨rfl, rfl⟩ mainIs rfl sha2Padded.plain sha2Padded.cg
#print axioms sha2Padded_card
end Go.Proofs.YtgbahfggnbpnmaaDoor
