/-
  DiskWhole: behind a crash each sector has what it had for good, or all of one of the writes that waited for it: for every size, all scripts and every choice the law returns true and leaves its arguments as they are.
  No condition.
-/
import Derived.Test.YtgbahfggnbpnmaaLawQ
import Derived.Test.YtgbahfggnbpnmaaLawDiskWhole
import Derived.SevenTiedAt
namespace Go.Proofs.Ytgbahfggnbpnmaa.diskWhole
open Go.ChangeShapes Go.WideShapes Go.ChangeAt Go.RowKit

set_option maxRecDepth 100000 in
/-- What the walk gives, for every argument and every world that holds the tables. -/
theorem contract (H : Type) (enc : TypeId × Value → H) (W : World) (base : Nat) (args : Array Value) (ds gs : List (DataW H)) (before : List MemPlace)
    (hval : ∀ (j : Nat) t v, Try.f3.params[j]? = some t → args[j]? = some v → Value.okWide Try.prog W .any base t v)
    (hW : DataW.Whole enc Try.prog Try.f3.params.toList Rows.diskWholeSpec.vars false W args.toList ds gs before) (hL : laidMetH Try.prog Rows.diskWholeRow.laid W) :
    Calls Try.prog 3 args W fun e W' => ∃ v, e = .returned v ∧ Rows.diskWholeSpec.post enc Try.prog Try.f3 false true false false W args v W' := by
  have hW' := hW
  obtain ⟨p, q, hA0, hV, hbe, hfz, hnd⟩ := hW
  have hA : DataW.TrodAll enc Try.prog W 0 (fun _ => true) true Try.f3.params.toList args.toList ds p := hA0
  rw [Try.params3] at hA hval
  obtain ⟨v0, vs0, d0, ds0, p0, q0, hargs, rfl, rfl, h0, r0⟩ := trodAll_cons hA
  obtain ⟨v1, vs1, d1, ds1, p1, q1, rfl, rfl, rfl, h1, r1⟩ := trodAll_cons r0
  obtain ⟨v2, vs2, d2, ds2, p2, q2, rfl, rfl, rfl, h2, r2⟩ := trodAll_cons r1
  obtain ⟨v3, vs3, d3, ds3, p3, q3, rfl, rfl, rfl, h3, r3⟩ := trodAll_cons r2
  obtain ⟨rfl, rfl, rfl⟩ := trodAll_nil r3
  obtain rfl : args = #[v0, v1, v2, v3] := by cases args; simp_all
  obtain ⟨rfl, rfl⟩ := trodVars_none hV
  obtain ⟨m0, rfl, rfl, rfl, w0⟩ := open_int Try.underlying3 (hval 0 3 v0 rfl rfl) h0
  obtain ⟨a1, n1, c1, os1, rfl, t1⟩ := open_kops (hval 1 22 v1 rfl rfl) h1
  obtain ⟨a2, n2, c2, os2, rfl, t2⟩ := open_kops (hval 2 22 v2 rfl rfl) h2
  obtain ⟨a3, n3, c3, l3, rfl, t3⟩ := open_btx (hval 3 23 v3 rfl rfl) h3
  refine (diskWhole_walk m0 os1 os2 a1 a2 n1 c1 n2 c2 W t1 t2 a3 n3 c3 l3 t3).mono fun e W' ⟨he, hg⟩ => ?_
  subst he
  exact ⟨_, rfl, law_post laidOut hW' hg rfl Try.underlying4 rfl (by kernel_rfl) rfl rfl rfl⟩

theorem laid_met (os : Os) : laidMet Try.prog Rows.diskWholeRow.laid ((laidWorld os).forCall (fun _ _ => 0) ⟨#[], #[.int .i64 0, .slice none 0 0, .slice none 0 0, .slice none 0 0], []⟩).memory :=
  laidMet_of_run' 8 (by kernel_rfl) (by kernel_rfl)
theorem reads (os : Os) {H : Type} (enc : TypeId × Value → H) : ∃ places, DataW.whole enc Try.prog ((laidWorld os).forCall (fun _ _ => 0) ⟨#[], #[.int .i64 0, .slice none 0 0, .slice none 0 0, .slice none 0 0], []⟩).memory Try.f3.params.toList Rows.diskWholeSpec.vars false (#[.int .i64 0, .slice none 0 0, .slice none 0 0, .slice none 0 0] : Array Value).toList 8 = some ([.lit (.int .i64 0), .nil, .nil, .nil], [], places) :=
  ⟨[], by kernel_rfl⟩
set_option maxRecDepth 100000 in
theorem lifted (os : Os) (started : os.Started) (H : Type) (enc : TypeId × Value → H) (F : Stop.Interp) :
    ReturnsInHanded {} Try.checked os 3 .any ((OpenSpec.ofChange Rows.diskWholeSpec).preRow enc Try.prog Try.f3 Rows.diskWholeRow.domain false Rows.diskWholeRow.laid) (((OpenSpec.ofChange Rows.diskWholeSpec).at F).post enc Try.prog Try.f3 false true false false) := by
  obtain ⟨places, hx⟩ := reads os enc
  refine returnsInHanded_of_row (C := Try.checked) (s := OpenSpec.ofChange Rows.diskWholeSpec) own started (by kernel_rfl) Try.func3
    (witness_row_at (enc := enc) (C := Try.checked) false (laidWorld os) #[.int .i64 0, .slice none 0 0, .slice none 0 0, .slice none 0 0] rfl (by kernel_rfl) (by kernel_rfl) (by kernel_rfl)
      (OpenSpec.preRow_of_cond 8 hx (by kernel_rfl) (fun k hk => by cases hk) (by kernel_rfl) (laid_met os))) ?_
  intro W base args ds gs before hval hW _ _ _ hL _ _
  exact contract H enc W base args ds gs before hval hW hL
theorem named : Try.pinned.checked.prog.funcNamed Rows.diskWholeRow.func = some 3 := by kernel_rfl
theorem k1 : Rows.diskWholeRow.wf (OpenSpec.ofChange Rows.diskWholeSpec) = true := by kernel_rfl
theorem k4 : Try.f3.params.all (Try.prog.readableRec ·) = true := by kernel_rfl
theorem k5 : namedTie Try.prog Rows.diskWholeRow.named Rows.diskWholeSpec.vars = true := by kernel_rfl
theorem k6 : (Rows.diskWholeRow.stops == []) = true := by kernel_rfl
theorem k8 : (Rows.diskWholeRow.knobs == []) = true := by kernel_rfl
theorem k10 : (Rows.diskWholeRow.inPlace == Try.prog.inPlace 3) = true := by kernel_rfl
theorem k11 : (Rows.diskWholeRow.unfollowed == Try.prog.unfollowed 3) = true := by kernel_rfl
theorem k12 : (Rows.diskWholeRow.recurses == Try.prog.recurses 3) = true := by kernel_rfl
theorem k13 : (Rows.diskWholeRow.named == Try.prog.varsNamed 3) = true := by kernel_rfl
theorem k14 : (Rows.diskWholeRow.maps == (Try.f3.params.toList ++ Rows.diskWholeSpec.plain.varTypes Try.prog).any (Try.prog.mapsRec ·)) = true := by kernel_rfl
theorem k15 : (Rows.diskWholeRow.ifaces == (Try.f3.params.toList ++ Rows.diskWholeSpec.plain.varTypes Try.prog).any (Try.prog.ifacesRec ·)) = true := by kernel_rfl
theorem k16 : (Rows.diskWholeRow.mapsOut == Try.prog.mapsAmong Try.f3.resultTypes.toList) = true := by kernel_rfl
theorem k17 : (Rows.diskWholeRow.loops == (Try.f3.params.toList ++ Rows.diskWholeSpec.plain.varTypes Try.prog).any (Try.prog.loopsFrom ·)) = true := by kernel_rfl
theorem k17b : (Rows.diskWholeRow.wideKeys == (Try.f3.params.toList ++ Rows.diskWholeSpec.plain.varTypes Try.prog ++ Try.f3.resultTypes.toList).any (Try.prog.wideKeysFrom ·)) = true := by kernel_rfl
theorem k18 : Rows.diskWholeSpec.vars.all (Try.prog.varReadable ·) = true := by kernel_rfl
theorem k19 : Try.f3.resultTypes.all (fun t => Try.prog.readableRec t && decide (t < Try.prog.types.size)) = true := by kernel_rfl
theorem k20 : (Rows.diskWholeRow.ifacesOut == Try.f3.resultTypes.toList.any (Try.prog.ifacesRec ·)) = true := by kernel_rfl
theorem k21 : (Rows.diskWholeRow.loopsOut == Try.f3.resultTypes.toList.any (Try.prog.loopsFrom ·)) = true := by kernel_rfl
theorem k22 : (Rows.diskWholeRow.plainKeys == Try.prog.plainKeys) = true := by kernel_rfl
theorem k23 : Rows.diskWholeRow.shortTexts.isNone = true := by kernel_rfl
theorem k24b : (Rows.diskWholeRow.lifted == Try.prog.liftsFinal) = true := by kernel_rfl
theorem k24c : (Try.prog.make == some Rows.diskWholeRow.make) = true := by kernel_rfl
theorem k25 : (Rows.diskWholeRow.kinds == (if Rows.diskWholeRow.domain.isEmpty then [] else Try.f3.params.toList.map fun t => match Try.prog.underlying t with | some (.int k) => some k | _ => none)) = true := by kernel_rfl
theorem k26 : (Rows.diskWholeRow.pinned == Rows.diskWholeRow.pinnedBy) = true := by kernel_rfl
theorem k27 : (Rows.diskWholeRow.veiled == (Try.f3.params.toList ++ Rows.diskWholeSpec.plain.varTypes Try.prog ++ Try.f3.resultTypes.toList).any (Try.prog.veiledRec ·)) = true := by kernel_rfl
theorem k28 : Rows.diskWholeRow.veiledFits Try.prog Try.f3.params.toList (Try.f3.params.toList ++ Rows.diskWholeSpec.plain.varTypes Try.prog ++ Try.f3.resultTypes.toList) = true := by kernel_rfl
set_option maxRecDepth 100000 in
theorem closed : joinedFacts Try.pinned.checked.prog 3 Try.f3 (OpenSpec.ofChange Rows.diskWholeSpec).bare Rows.diskWholeRow = true :=
  a2 (a2 (a2 (a2 (a2 (a2 (a2 (a2 (a2 (a2 (a2 (a2 (a2 (a2 (a2 (a2 (a2 (a2 (a2 (a2 (a2 (a2 (a2 (a2 (a2 (a2 (a2 (a2 (a2 (a2 (a2 (k1) k2) k3) k4) k5) k6) k7) k8) k9) k10) k11) k12) k13) k14) k15) k16) k17) k17b) k18) k19) k20) k21) k22) k23) k23b) k24) k24b) k24c) k25) k26) k27) k28
theorem inst : Try.f3.isInstance Try.pinned.checked.prog Rows.diskWholeRow.origin Rows.diskWholeRow.targs := of_decide_eq_true (by kernel_rfl)
theorem wrap : Try.f3.isWrapper Try.pinned.checked.prog Rows.diskWholeRow.wrapper Rows.diskWholeRow.mainSum := by
  unfold Func.isWrapper; first | (rw [if_pos (by decide +kernel)]; kernel_rfl) | (rw [if_neg (by decide +kernel)]; exact ⟨rfl, rfl⟩)
theorem said : Rows.DiskWholeSaid :=
  OpenClaim.holds_of_cond 3 Try.f3 rfl rfl rfl rfl rfl rfl rfl ⟨rfl, rfl, rfl, rfl, rfl⟩ rfl rfl rfl rfl rfl named Try.func3 closed inst wrap
    (fun os started H enc _ F => by rw [OpenClaim.pre_eq_preRow]; exact lifted os started H enc F)
end Go.Proofs.Ytgbahfggnbpnmaa.diskWhole
namespace Go.Proofs.Ytgbahfggnbpnmaa
open Go
/-- What the row says of DiskWhole. -/
theorem diskWhole_said : Rows.DiskWholeSaid := diskWhole.said
#print axioms diskWhole_said
end Go.Proofs.Ytgbahfggnbpnmaa
