/-
  NetHonest: what came and what is on its way was put there as it is, and the counts add up: for every script the law returns true and leaves its argument as it is.
  No condition.
-/
import Derived.Test.YtajjbffppkpjpaaNetV
import Derived.Test.YtajjbffppkpjpaaLawNetHonest
import Derived.SevenTiedAt
namespace Go.Proofs.Ytajjbffppkpjpaa.netHonest
open Go.ChangeShapes Go.WideShapes Go.ChangeAt Go.RowKit

set_option maxRecDepth 100000 in
/-- What the walk gives, for every argument and every world that holds the tables. -/
theorem contract (H : Type) (enc : TypeId × Value → H) (W : World) (base : Nat) (args : Array Value) (ds gs : List (DataW H)) (before : List MemPlace)
    (hval : ∀ (j : Nat) t v, Try.f6.params[j]? = some t → args[j]? = some v → Value.okWide Try.prog W .any base t v)
    (hW : DataW.Whole enc Try.prog Try.f6.params.toList Rows.netHonestSpec.vars false W args.toList ds gs before) (hL : laidMetH Try.prog Rows.netHonestRow.laid W) (hsz : (DataW.weightsEach Try.prog (Try.f6.params.toList ++ Rows.netHonestSpec.plain.varTypes Try.prog) (ds ++ gs)).all (· ≤ reachBytes) = true) :
    Calls Try.prog 6 args W fun e W' => ∃ v, e = .returned v ∧ Rows.netHonestSpec.post enc Try.prog Try.f6 false true false false W args v W' := by
  have hW' := hW
  obtain ⟨p, q, hA0, hV, hbe, hfz, hnd⟩ := hW
  have hA : DataW.TrodAll enc Try.prog W 0 (fun _ => true) true Try.f6.params.toList args.toList ds p := hA0
  rw [Try.params6] at hA hval hsz
  obtain ⟨v0, vs0, d0, ds0, p0, q0, hargs, rfl, rfl, h0, r0⟩ := trodAll_cons hA
  obtain ⟨rfl, rfl, rfl⟩ := trodAll_nil r0
  obtain rfl : args = #[v0] := by cases args; simp_all
  obtain ⟨rfl, rfl⟩ := trodVars_none hV
  obtain ⟨a0, n0, c0, os0, rfl, t0, z0⟩ := open_nopsd (hval 0 64 v0 rfl rfl) h0 (fun m hm => by have := List.all_eq_true.1 hsz m (DataW.weights_mem_each (j := 0) (t := 64) rfl rfl m hm); simpa using this)
  refine (netHonest_walk os0 a0 n0 c0 W t0 z0).mono fun e W' ⟨he, hg⟩ => ?_
  subst he
  exact ⟨_, rfl, law_post laidOut hW' hg rfl Try.underlying4 rfl (by kernel_rfl) rfl rfl rfl⟩

theorem laid_met (os : Os) : laidMet Try.prog Rows.netHonestRow.laid ((laidWorld os).forCall (fun _ _ => 0) ⟨#[], #[.slice none 0 0], []⟩).memory :=
  laidMet_of_run' 8 (by kernel_rfl) (by kernel_rfl)
theorem reads (os : Os) {H : Type} (enc : TypeId × Value → H) : ∃ places, DataW.whole enc Try.prog ((laidWorld os).forCall (fun _ _ => 0) ⟨#[], #[.slice none 0 0], []⟩).memory Try.f6.params.toList Rows.netHonestSpec.vars false (#[.slice none 0 0] : Array Value).toList 8 = some ([.nil], [], places) :=
  ⟨[], by kernel_rfl⟩
set_option maxRecDepth 100000 in
theorem lifted (os : Os) (started : os.Started) (H : Type) (enc : TypeId × Value → H) (F : Stop.Interp) :
    ReturnsInHanded {} Try.checked os 6 .any ((OpenSpec.ofChange Rows.netHonestSpec).preRow enc Try.prog Try.f6 Rows.netHonestRow.domain false Rows.netHonestRow.laid) (((OpenSpec.ofChange Rows.netHonestSpec).at F).post enc Try.prog Try.f6 false true false false) := by
  obtain ⟨places, hx⟩ := reads os enc
  refine returnsInHanded_of_row (C := Try.checked) (s := OpenSpec.ofChange Rows.netHonestSpec) own started (by kernel_rfl) Try.func6
    (witness_row_at (enc := enc) (C := Try.checked) false (laidWorld os) #[.slice none 0 0] rfl (by kernel_rfl) (by kernel_rfl) (by kernel_rfl)
      (OpenSpec.preRow_of_cond 8 hx (by kernel_rfl) (fun k hk => by cases hk) (by kernel_rfl) (laid_met os))) ?_
  intro W base args ds gs before hval hW _ _ hsz hL _ _
  exact contract H enc W base args ds gs before hval hW hL hsz
theorem named : Try.pinned.checked.prog.funcNamed Rows.netHonestRow.func = some 6 := by kernel_rfl
theorem k1 : Rows.netHonestRow.wf (OpenSpec.ofChange Rows.netHonestSpec) = true := by kernel_rfl
theorem k4 : Try.f6.params.all (Try.prog.readableRec ·) = true := by kernel_rfl
theorem k5 : namedTie Try.prog Rows.netHonestRow.named Rows.netHonestSpec.vars = true := by kernel_rfl
theorem k6 : (Rows.netHonestRow.stops == []) = true := by kernel_rfl
theorem k8 : (Rows.netHonestRow.knobs == []) = true := by kernel_rfl
theorem k10 : (Rows.netHonestRow.inPlace == Try.prog.inPlace 6) = true := by kernel_rfl
theorem k11 : (Rows.netHonestRow.unfollowed == Try.prog.unfollowed 6) = true := by kernel_rfl
theorem k12 : (Rows.netHonestRow.recurses == Try.prog.recurses 6) = true := by kernel_rfl
theorem k13 : (Rows.netHonestRow.named == Try.prog.varsNamed 6) = true := by kernel_rfl
theorem k14 : (Rows.netHonestRow.maps == (Try.f6.params.toList ++ Rows.netHonestSpec.plain.varTypes Try.prog).any (Try.prog.mapsRec ·)) = true := by kernel_rfl
theorem k15 : (Rows.netHonestRow.ifaces == (Try.f6.params.toList ++ Rows.netHonestSpec.plain.varTypes Try.prog).any (Try.prog.ifacesRec ·)) = true := by kernel_rfl
theorem k16 : (Rows.netHonestRow.mapsOut == Try.prog.mapsAmong Try.f6.resultTypes.toList) = true := by kernel_rfl
theorem k17 : (Rows.netHonestRow.loops == (Try.f6.params.toList ++ Rows.netHonestSpec.plain.varTypes Try.prog).any (Try.prog.loopsFrom ·)) = true := by kernel_rfl
theorem k17b : (Rows.netHonestRow.wideKeys == (Try.f6.params.toList ++ Rows.netHonestSpec.plain.varTypes Try.prog ++ Try.f6.resultTypes.toList).any (Try.prog.wideKeysFrom ·)) = true := by kernel_rfl
theorem k18 : Rows.netHonestSpec.vars.all (Try.prog.varReadable ·) = true := by kernel_rfl
theorem k19 : Try.f6.resultTypes.all (fun t => Try.prog.readableRec t && decide (t < Try.prog.types.size)) = true := by kernel_rfl
theorem k20 : (Rows.netHonestRow.ifacesOut == Try.f6.resultTypes.toList.any (Try.prog.ifacesRec ·)) = true := by kernel_rfl
theorem k21 : (Rows.netHonestRow.loopsOut == Try.f6.resultTypes.toList.any (Try.prog.loopsFrom ·)) = true := by kernel_rfl
theorem k22 : (Rows.netHonestRow.plainKeys == Try.prog.plainKeys) = true := by kernel_rfl
theorem k23 : Rows.netHonestRow.shortTexts.isNone = true := by kernel_rfl
theorem k24b : (Rows.netHonestRow.lifted == Try.prog.liftsFinal) = true := by kernel_rfl
theorem k24c : (Try.prog.make == some Rows.netHonestRow.make) = true := by kernel_rfl
theorem k25 : (Rows.netHonestRow.kinds == (if Rows.netHonestRow.domain.isEmpty then [] else Try.f6.params.toList.map fun t => match Try.prog.underlying t with | some (.int k) => some k | _ => none)) = true := by kernel_rfl
theorem k26 : (Rows.netHonestRow.pinned == Rows.netHonestRow.pinnedBy) = true := by kernel_rfl
theorem k27 : (Rows.netHonestRow.veiled == (Try.f6.params.toList ++ Rows.netHonestSpec.plain.varTypes Try.prog ++ Try.f6.resultTypes.toList).any (Try.prog.veiledRec ·)) = true := by kernel_rfl
theorem k28 : Rows.netHonestRow.veiledFits Try.prog Try.f6.params.toList (Try.f6.params.toList ++ Rows.netHonestSpec.plain.varTypes Try.prog ++ Try.f6.resultTypes.toList) = true := by kernel_rfl
set_option maxRecDepth 100000 in
theorem closed : joinedFacts Try.pinned.checked.prog 6 Try.f6 (OpenSpec.ofChange Rows.netHonestSpec).bare Rows.netHonestRow = true :=
  a2 (a2 (a2 (a2 (a2 (a2 (a2 (a2 (a2 (a2 (a2 (a2 (a2 (a2 (a2 (a2 (a2 (a2 (a2 (a2 (a2 (a2 (a2 (a2 (a2 (a2 (a2 (a2 (a2 (a2 (a2 (k1) k2) k3) k4) k5) k6) k7) k8) k9) k10) k11) k12) k13) k14) k15) k16) k17) k17b) k18) k19) k20) k21) k22) k23) k23b) k24) k24b) k24c) k25) k26) k27) k28
theorem inst : Try.f6.isInstance Try.pinned.checked.prog Rows.netHonestRow.origin Rows.netHonestRow.targs := of_decide_eq_true (by kernel_rfl)
theorem wrap : Try.f6.isWrapper Try.pinned.checked.prog Rows.netHonestRow.wrapper Rows.netHonestRow.mainSum := by
  unfold Func.isWrapper; first | (rw [if_pos (by decide +kernel)]; kernel_rfl) | (rw [if_neg (by decide +kernel)]; exact ⟨rfl, rfl⟩)
theorem said : Rows.NetHonestSaid :=
  OpenClaim.holds_of_cond 6 Try.f6 rfl rfl rfl rfl rfl rfl rfl ⟨rfl, rfl, rfl, rfl, rfl⟩ rfl rfl rfl rfl rfl named Try.func6 closed inst wrap
    (fun os started H enc _ F => by rw [OpenClaim.pre_eq_preRow]; exact lifted os started H enc F)
end Go.Proofs.Ytajjbffppkpjpaa.netHonest
namespace Go.Proofs.Ytajjbffppkpjpaa
open Go
/-- What the row says of NetHonest. -/
theorem netHonest_said : Rows.NetHonestSaid := netHonest.said
#print axioms netHonest_said
end Go.Proofs.Ytajjbffppkpjpaa
