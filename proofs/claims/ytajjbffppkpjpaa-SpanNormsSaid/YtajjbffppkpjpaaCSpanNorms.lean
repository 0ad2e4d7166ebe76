/-
  SpanNorms: whether any list is a set, and the set of any ranges; what is handed in stays: for every list of ranges and all numbers the law returns true and leaves its arguments as they are.
  No condition.
-/
import Derived.Test.YtajjbffppkpjpaaLawT
import Derived.Test.YtajjbffppkpjpaaLawSpanNorms
import Derived.SevenTiedAt
namespace Go.Proofs.Ytajjbffppkpjpaa.spanNorms
open Go.ChangeShapes Go.WideShapes Go.ChangeAt Go.RowKit

set_option maxRecDepth 100000 in
/-- What the walk gives, for every argument and every world that holds the tables. -/
theorem contract (H : Type) (enc : TypeId × Value → H) (W : World) (base : Nat) (args : Array Value) (ds gs : List (DataW H)) (before : List MemPlace)
    (hval : ∀ (j : Nat) t v, Try.f11.params[j]? = some t → args[j]? = some v → Value.okWide Try.prog W .any base t v)
    (hW : DataW.Whole enc Try.prog Try.f11.params.toList Rows.spanNormsSpec.vars false W args.toList ds gs before) (hL : laidMetH Try.prog Rows.spanNormsRow.laid W) :
    Calls Try.prog 11 args W fun e W' => ∃ v, e = .returned v ∧ Rows.spanNormsSpec.post enc Try.prog Try.f11 false true false false W args v W' := by
  have hW' := hW
  obtain ⟨p, q, hA0, hV, hbe, hfz, hnd⟩ := hW
  have hA : DataW.TrodAll enc Try.prog W 0 (fun _ => true) true Try.f11.params.toList args.toList ds p := hA0
  rw [Try.params11] at hA hval
  obtain ⟨v0, vs0, d0, ds0, p0, q0, hargs, rfl, rfl, h0, r0⟩ := trodAll_cons hA
  obtain ⟨v1, vs1, d1, ds1, p1, q1, rfl, rfl, rfl, h1, r1⟩ := trodAll_cons r0
  obtain ⟨v2, vs2, d2, ds2, p2, q2, rfl, rfl, rfl, h2, r2⟩ := trodAll_cons r1
  obtain ⟨rfl, rfl, rfl⟩ := trodAll_nil r2
  obtain rfl : args = #[v0, v1, v2] := by cases args; simp_all
  obtain ⟨rfl, rfl⟩ := trodVars_none hV
  obtain ⟨a0, n0, c0, l0, rfl, t0⟩ := open_rgs (hval 0 22 v0 rfl rfl) h0
  obtain ⟨m1, rfl, rfl, rfl, w1⟩ := open_int Try.underlying23 (hval 1 23 v1 rfl rfl) h1
  obtain ⟨N1, rfl, g1⟩ := nat_u64 w1
  obtain ⟨m2, rfl, rfl, rfl, w2⟩ := open_int Try.underlying23 (hval 2 23 v2 rfl rfl) h2
  obtain ⟨N2, rfl, g2⟩ := nat_u64 w2
  refine (spannorms_walk l0 N1 N2 g1 g2 a0 n0 c0 W t0).mono fun e W' ⟨he, hg⟩ => ?_
  subst he
  exact ⟨_, rfl, law_post laidOut hW' hg rfl Try.underlying4 rfl (by kernel_rfl) rfl rfl rfl⟩

theorem laid_met (os : Os) : laidMet Try.prog Rows.spanNormsRow.laid ((laidWorld os).forCall (fun _ _ => 0) ⟨#[], #[.slice none 0 0, .int .u64 0, .int .u64 0], []⟩).memory :=
  laidMet_of_run' 8 (by kernel_rfl) (by kernel_rfl)
theorem reads (os : Os) {H : Type} (enc : TypeId × Value → H) : ∃ places, DataW.whole enc Try.prog ((laidWorld os).forCall (fun _ _ => 0) ⟨#[], #[.slice none 0 0, .int .u64 0, .int .u64 0], []⟩).memory Try.f11.params.toList Rows.spanNormsSpec.vars false (#[.slice none 0 0, .int .u64 0, .int .u64 0] : Array Value).toList 8 = some ([.nil, .lit (.int .u64 0), .lit (.int .u64 0)], [], places) :=
  ⟨[], by kernel_rfl⟩
set_option maxRecDepth 100000 in
theorem lifted (os : Os) (started : os.Started) (H : Type) (enc : TypeId × Value → H) (F : Stop.Interp) :
    ReturnsInHanded {} Try.checked os 11 .any ((OpenSpec.ofChange Rows.spanNormsSpec).preRow enc Try.prog Try.f11 Rows.spanNormsRow.domain false Rows.spanNormsRow.laid) (((OpenSpec.ofChange Rows.spanNormsSpec).at F).post enc Try.prog Try.f11 false true false false) := by
  obtain ⟨places, hx⟩ := reads os enc
  refine returnsInHanded_of_row (C := Try.checked) (s := OpenSpec.ofChange Rows.spanNormsSpec) own started (by kernel_rfl) Try.func11
    (witness_row_at (enc := enc) (C := Try.checked) false (laidWorld os) #[.slice none 0 0, .int .u64 0, .int .u64 0] rfl (by kernel_rfl) (by kernel_rfl) (by kernel_rfl)
      (OpenSpec.preRow_of_cond 8 hx (by kernel_rfl) (fun k hk => by cases hk) (by kernel_rfl) (laid_met os))) ?_
  intro W base args ds gs before hval hW _ _ _ hL _ _
  exact contract H enc W base args ds gs before hval hW hL
theorem named : Try.pinned.checked.prog.funcNamed Rows.spanNormsRow.func = some 11 := by kernel_rfl
theorem k1 : Rows.spanNormsRow.wf (OpenSpec.ofChange Rows.spanNormsSpec) = true := by kernel_rfl
theorem k4 : Try.f11.params.all (Try.prog.readableRec ·) = true := by kernel_rfl
theorem k5 : namedTie Try.prog Rows.spanNormsRow.named Rows.spanNormsSpec.vars = true := by kernel_rfl
theorem k6 : (Rows.spanNormsRow.stops == []) = true := by kernel_rfl
theorem k8 : (Rows.spanNormsRow.knobs == []) = true := by kernel_rfl
theorem k10 : (Rows.spanNormsRow.inPlace == Try.prog.inPlace 11) = true := by kernel_rfl
theorem k11 : (Rows.spanNormsRow.unfollowed == Try.prog.unfollowed 11) = true := by kernel_rfl
theorem k12 : (Rows.spanNormsRow.recurses == Try.prog.recurses 11) = true := by kernel_rfl
theorem k13 : (Rows.spanNormsRow.named == Try.prog.varsNamed 11) = true := by kernel_rfl
theorem k14 : (Rows.spanNormsRow.maps == (Try.f11.params.toList ++ Rows.spanNormsSpec.plain.varTypes Try.prog).any (Try.prog.mapsRec ·)) = true := by kernel_rfl
theorem k15 : (Rows.spanNormsRow.ifaces == (Try.f11.params.toList ++ Rows.spanNormsSpec.plain.varTypes Try.prog).any (Try.prog.ifacesRec ·)) = true := by kernel_rfl
theorem k16 : (Rows.spanNormsRow.mapsOut == Try.prog.mapsAmong Try.f11.resultTypes.toList) = true := by kernel_rfl
theorem k17 : (Rows.spanNormsRow.loops == (Try.f11.params.toList ++ Rows.spanNormsSpec.plain.varTypes Try.prog).any (Try.prog.loopsFrom ·)) = true := by kernel_rfl
theorem k17b : (Rows.spanNormsRow.wideKeys == (Try.f11.params.toList ++ Rows.spanNormsSpec.plain.varTypes Try.prog ++ Try.f11.resultTypes.toList).any (Try.prog.wideKeysFrom ·)) = true := by kernel_rfl
theorem k18 : Rows.spanNormsSpec.vars.all (Try.prog.varReadable ·) = true := by kernel_rfl
theorem k19 : Try.f11.resultTypes.all (fun t => Try.prog.readableRec t && decide (t < Try.prog.types.size)) = true := by kernel_rfl
theorem k20 : (Rows.spanNormsRow.ifacesOut == Try.f11.resultTypes.toList.any (Try.prog.ifacesRec ·)) = true := by kernel_rfl
theorem k21 : (Rows.spanNormsRow.loopsOut == Try.f11.resultTypes.toList.any (Try.prog.loopsFrom ·)) = true := by kernel_rfl
theorem k22 : (Rows.spanNormsRow.plainKeys == Try.prog.plainKeys) = true := by kernel_rfl
theorem k23 : Rows.spanNormsRow.shortTexts.isNone = true := by kernel_rfl
theorem k24b : (Rows.spanNormsRow.lifted == Try.prog.liftsFinal) = true := by kernel_rfl
theorem k24c : (Try.prog.make == some Rows.spanNormsRow.make) = true := by kernel_rfl
theorem k25 : (Rows.spanNormsRow.kinds == (if Rows.spanNormsRow.domain.isEmpty then [] else Try.f11.params.toList.map fun t => match Try.prog.underlying t with | some (.int k) => some k | _ => none)) = true := by kernel_rfl
theorem k26 : (Rows.spanNormsRow.pinned == Rows.spanNormsRow.pinnedBy) = true := by kernel_rfl
theorem k27 : (Rows.spanNormsRow.veiled == (Try.f11.params.toList ++ Rows.spanNormsSpec.plain.varTypes Try.prog ++ Try.f11.resultTypes.toList).any (Try.prog.veiledRec ·)) = true := by kernel_rfl
theorem k28 : Rows.spanNormsRow.veiledFits Try.prog Try.f11.params.toList (Try.f11.params.toList ++ Rows.spanNormsSpec.plain.varTypes Try.prog ++ Try.f11.resultTypes.toList) = true := by kernel_rfl
set_option maxRecDepth 100000 in
theorem closed : joinedFacts Try.pinned.checked.prog 11 Try.f11 (OpenSpec.ofChange Rows.spanNormsSpec).bare Rows.spanNormsRow = true :=
  a2 (a2 (a2 (a2 (a2 (a2 (a2 (a2 (a2 (a2 (a2 (a2 (a2 (a2 (a2 (a2 (a2 (a2 (a2 (a2 (a2 (a2 (a2 (a2 (a2 (a2 (a2 (a2 (a2 (a2 (a2 (k1) k2) k3) k4) k5) k6) k7) k8) k9) k10) k11) k12) k13) k14) k15) k16) k17) k17b) k18) k19) k20) k21) k22) k23) k23b) k24) k24b) k24c) k25) k26) k27) k28
theorem inst : Try.f11.isInstance Try.pinned.checked.prog Rows.spanNormsRow.origin Rows.spanNormsRow.targs := of_decide_eq_true (by kernel_rfl)
theorem wrap : Try.f11.isWrapper Try.pinned.checked.prog Rows.spanNormsRow.wrapper Rows.spanNormsRow.mainSum := by
  unfold Func.isWrapper; first | (rw [if_pos (by decide +kernel)]; kernel_rfl) | (rw [if_neg (by decide +kernel)]; exact ⟨rfl, rfl⟩)
theorem said : Rows.SpanNormsSaid :=
  OpenClaim.holds_of_cond 11 Try.f11 rfl rfl rfl rfl rfl rfl rfl ⟨rfl, rfl, rfl, rfl, rfl⟩ rfl rfl rfl rfl rfl named Try.func11 closed inst wrap
    (fun os started H enc _ F => by rw [OpenClaim.pre_eq_preRow]; exact lifted os started H enc F)
end Go.Proofs.Ytajjbffppkpjpaa.spanNorms
namespace Go.Proofs.Ytajjbffppkpjpaa
open Go
/-- What the row says of SpanNorms. -/
theorem spanNorms_said : Rows.SpanNormsSaid := spanNorms.said
#print axioms spanNorms_said
end Go.Proofs.Ytajjbffppkpjpaa
