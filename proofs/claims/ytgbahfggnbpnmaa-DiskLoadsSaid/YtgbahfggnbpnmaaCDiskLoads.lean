/-
  DiskLoads: a disk of any bytes, or the error; its memory is its own: for every text and every number the law returns true and leaves its arguments as they are.
  No condition.
-/
import Derived.Test.YtgbahfggnbpnmaaLawQ
import Derived.Test.YtgbahfggnbpnmaaTextD
import Derived.Test.YtgbahfggnbpnmaaLawDiskLoads
import Derived.SevenTiedAt
namespace Go.Proofs.Ytgbahfggnbpnmaa.diskLoads
open Go.ChangeShapes Go.WideShapes Go.ChangeAt Go.RowKit

set_option maxRecDepth 100000 in
/-- What the walk gives, for every argument and every world that holds the tables. -/
theorem contract (H : Type) (enc : TypeId × Value → H) (W : World) (base : Nat) (args : Array Value) (ds gs : List (DataW H)) (before : List MemPlace)
    (hval : ∀ (j : Nat) t v, Try.f7.params[j]? = some t → args[j]? = some v → Value.okWide Try.prog W .any base t v)
    (hW : DataW.Whole enc Try.prog Try.f7.params.toList Rows.diskLoadsSpec.vars false W args.toList ds gs before) (hL : laidMetH Try.prog Rows.diskLoadsRow.laid W) (hsz : (DataW.weightsEach Try.prog (Try.f7.params.toList ++ Rows.diskLoadsSpec.plain.varTypes Try.prog) (ds ++ gs)).all (· ≤ reachBytes) = true) :
    Calls Try.prog 7 args W fun e W' => ∃ v, e = .returned v ∧ Rows.diskLoadsSpec.post enc Try.prog Try.f7 false true false false W args v W' := by
  have hW' := hW
  obtain ⟨p, q, hA0, hV, hbe, hfz, hnd⟩ := hW
  have hA : DataW.TrodAll enc Try.prog W 0 (fun _ => true) true Try.f7.params.toList args.toList ds p := hA0
  rw [Try.params7] at hA hval hsz
  obtain ⟨v0, vs0, d0, ds0, p0, q0, hargs, rfl, rfl, h0, r0⟩ := trodAll_cons hA
  obtain ⟨v1, vs1, d1, ds1, p1, q1, rfl, rfl, rfl, h1, r1⟩ := trodAll_cons r0
  obtain ⟨rfl, rfl, rfl⟩ := trodAll_nil r1
  obtain rfl : args = #[v0, v1] := by cases args; simp_all
  obtain ⟨rfl, rfl⟩ := trodVars_none hV
  obtain ⟨a0, n0, c0, l0, rfl, t0, s0⟩ := open_textd Try.underlying30 Try.underlying5 cells_u8p (hval 0 30 v0 rfl rfl) h0
  have z0 := textd_len hsz (j := 0) rfl rfl s0 t0.len
  obtain ⟨m1, rfl, rfl, rfl, w1⟩ := open_int Try.underlying3 (hval 1 3 v1 rfl rfl) h1
  refine (diskLoads_walk l0 m1 a0 n0 c0 W z0 ⟨t0.len, t0.fit, t0.rd, t0.old⟩).mono fun e W' ⟨he, hg⟩ => ?_
  subst he
  exact ⟨_, rfl, law_post laidOut hW' hg rfl Try.underlying4 rfl (by kernel_rfl) rfl rfl rfl⟩

theorem laid_met (os : Os) : laidMet Try.prog Rows.diskLoadsRow.laid ((laidWorld os).forCall (fun _ _ => 0) ⟨#[], #[.slice none 0 0, .int .i64 0], []⟩).memory :=
  laidMet_of_run' 8 (by kernel_rfl) (by kernel_rfl)
theorem reads (os : Os) {H : Type} (enc : TypeId × Value → H) : ∃ places, DataW.whole enc Try.prog ((laidWorld os).forCall (fun _ _ => 0) ⟨#[], #[.slice none 0 0, .int .i64 0], []⟩).memory Try.f7.params.toList Rows.diskLoadsSpec.vars false (#[.slice none 0 0, .int .i64 0] : Array Value).toList 8 = some ([.nil, .lit (.int .i64 0)], [], places) :=
  ⟨[], by kernel_rfl⟩
set_option maxRecDepth 100000 in
theorem lifted (os : Os) (started : os.Started) (H : Type) (enc : TypeId × Value → H) (F : Stop.Interp) :
    ReturnsInHanded {} Try.checked os 7 .any ((OpenSpec.ofChange Rows.diskLoadsSpec).preRow enc Try.prog Try.f7 Rows.diskLoadsRow.domain false Rows.diskLoadsRow.laid) (((OpenSpec.ofChange Rows.diskLoadsSpec).at F).post enc Try.prog Try.f7 false true false false) := by
  obtain ⟨places, hx⟩ := reads os enc
  refine returnsInHanded_of_row (C := Try.checked) (s := OpenSpec.ofChange Rows.diskLoadsSpec) own started (by kernel_rfl) Try.func7
    (witness_row_at (enc := enc) (C := Try.checked) false (laidWorld os) #[.slice none 0 0, .int .i64 0] rfl (by kernel_rfl) (by kernel_rfl) (by kernel_rfl)
      (OpenSpec.preRow_of_cond 8 hx (by kernel_rfl) (fun k hk => by cases hk) (by kernel_rfl) (laid_met os))) ?_
  intro W base args ds gs before hval hW _ _ hsz hL _ _
  exact contract H enc W base args ds gs before hval hW hL hsz
theorem named : Try.pinned.checked.prog.funcNamed Rows.diskLoadsRow.func = some 7 := by kernel_rfl
theorem k1 : Rows.diskLoadsRow.wf (OpenSpec.ofChange Rows.diskLoadsSpec) = true := by kernel_rfl
theorem k4 : Try.f7.params.all (Try.prog.readableRec ·) = true := by kernel_rfl
theorem k5 : namedTie Try.prog Rows.diskLoadsRow.named Rows.diskLoadsSpec.vars = true := by kernel_rfl
theorem k6 : (Rows.diskLoadsRow.stops == []) = true := by kernel_rfl
theorem k8 : (Rows.diskLoadsRow.knobs == []) = true := by kernel_rfl
theorem k10 : (Rows.diskLoadsRow.inPlace == Try.prog.inPlace 7) = true := by kernel_rfl
theorem k11 : (Rows.diskLoadsRow.unfollowed == Try.prog.unfollowed 7) = true := by kernel_rfl
theorem k12 : (Rows.diskLoadsRow.recurses == Try.prog.recurses 7) = true := by kernel_rfl
theorem k13 : (Rows.diskLoadsRow.named == Try.prog.varsNamed 7) = true := by kernel_rfl
theorem k14 : (Rows.diskLoadsRow.maps == (Try.f7.params.toList ++ Rows.diskLoadsSpec.plain.varTypes Try.prog).any (Try.prog.mapsRec ·)) = true := by kernel_rfl
theorem k15 : (Rows.diskLoadsRow.ifaces == (Try.f7.params.toList ++ Rows.diskLoadsSpec.plain.varTypes Try.prog).any (Try.prog.ifacesRec ·)) = true := by kernel_rfl
theorem k16 : (Rows.diskLoadsRow.mapsOut == Try.prog.mapsAmong Try.f7.resultTypes.toList) = true := by kernel_rfl
theorem k17 : (Rows.diskLoadsRow.loops == (Try.f7.params.toList ++ Rows.diskLoadsSpec.plain.varTypes Try.prog).any (Try.prog.loopsFrom ·)) = true := by kernel_rfl
theorem k17b : (Rows.diskLoadsRow.wideKeys == (Try.f7.params.toList ++ Rows.diskLoadsSpec.plain.varTypes Try.prog ++ Try.f7.resultTypes.toList).any (Try.prog.wideKeysFrom ·)) = true := by kernel_rfl
theorem k18 : Rows.diskLoadsSpec.vars.all (Try.prog.varReadable ·) = true := by kernel_rfl
theorem k19 : Try.f7.resultTypes.all (fun t => Try.prog.readableRec t && decide (t < Try.prog.types.size)) = true := by kernel_rfl
theorem k20 : (Rows.diskLoadsRow.ifacesOut == Try.f7.resultTypes.toList.any (Try.prog.ifacesRec ·)) = true := by kernel_rfl
theorem k21 : (Rows.diskLoadsRow.loopsOut == Try.f7.resultTypes.toList.any (Try.prog.loopsFrom ·)) = true := by kernel_rfl
theorem k22 : (Rows.diskLoadsRow.plainKeys == Try.prog.plainKeys) = true := by kernel_rfl
theorem k23 : Rows.diskLoadsRow.shortTexts.isNone = true := by kernel_rfl
theorem k24b : (Rows.diskLoadsRow.lifted == Try.prog.liftsFinal) = true := by kernel_rfl
theorem k24c : (Try.prog.make == some Rows.diskLoadsRow.make) = true := by kernel_rfl
theorem k25 : (Rows.diskLoadsRow.kinds == (if Rows.diskLoadsRow.domain.isEmpty then [] else Try.f7.params.toList.map fun t => match Try.prog.underlying t with | some (.int k) => some k | _ => none)) = true := by kernel_rfl
theorem k26 : (Rows.diskLoadsRow.pinned == Rows.diskLoadsRow.pinnedBy) = true := by kernel_rfl
theorem k27 : (Rows.diskLoadsRow.veiled == (Try.f7.params.toList ++ Rows.diskLoadsSpec.plain.varTypes Try.prog ++ Try.f7.resultTypes.toList).any (Try.prog.veiledRec ·)) = true := by kernel_rfl
theorem k28 : Rows.diskLoadsRow.veiledFits Try.prog Try.f7.params.toList (Try.f7.params.toList ++ Rows.diskLoadsSpec.plain.varTypes Try.prog ++ Try.f7.resultTypes.toList) = true := by kernel_rfl
set_option maxRecDepth 100000 in
theorem closed : joinedFacts Try.pinned.checked.prog 7 Try.f7 (OpenSpec.ofChange Rows.diskLoadsSpec).bare Rows.diskLoadsRow = true :=
  a2 (a2 (a2 (a2 (a2 (a2 (a2 (a2 (a2 (a2 (a2 (a2 (a2 (a2 (a2 (a2 (a2 (a2 (a2 (a2 (a2 (a2 (a2 (a2 (a2 (a2 (a2 (a2 (a2 (a2 (a2 (k1) k2) k3) k4) k5) k6) k7) k8) k9) k10) k11) k12) k13) k14) k15) k16) k17) k17b) k18) k19) k20) k21) k22) k23) k23b) k24) k24b) k24c) k25) k26) k27) k28
theorem inst : Try.f7.isInstance Try.pinned.checked.prog Rows.diskLoadsRow.origin Rows.diskLoadsRow.targs := of_decide_eq_true (by kernel_rfl)
theorem wrap : Try.f7.isWrapper Try.pinned.checked.prog Rows.diskLoadsRow.wrapper Rows.diskLoadsRow.mainSum := by
  unfold Func.isWrapper; first | (rw [if_pos (by decide +kernel)]; kernel_rfl) | (rw [if_neg (by decide +kernel)]; exact ⟨rfl, rfl⟩)
theorem said : Rows.DiskLoadsSaid :=
  OpenClaim.holds_of_cond 7 Try.f7 rfl rfl rfl rfl rfl rfl rfl ⟨rfl, rfl, rfl, rfl, rfl⟩ rfl rfl rfl rfl rfl named Try.func7 closed inst wrap
    (fun os started H enc _ F => by rw [OpenClaim.pre_eq_preRow]; exact lifted os started H enc F)
end Go.Proofs.Ytgbahfggnbpnmaa.diskLoads
namespace Go.Proofs.Ytgbahfggnbpnmaa
open Go
/-- What the row says of DiskLoads. -/
theorem diskLoads_said : Rows.DiskLoadsSaid := diskLoads.said
#print axioms diskLoads_said
end Go.Proofs.Ytgbahfggnbpnmaa
