/-
  SpanAdds: any range put to any set, and taken away, answers as the plain reference: for every list of ranges and every range the law returns true and leaves its arguments as they are.
  No condition.
-/
import Derived.Test.YtajjbffppkpjpaaLawT
import Derived.Test.YtajjbffppkpjpaaLawSpanAdds
import Derived.SevenTiedAt
namespace Go.Proofs.Ytajjbffppkpjpaa.spanAdds
open Go.ChangeShapes Go.WideShapes Go.ChangeAt Go.RowKit

set_option maxRecDepth 100000 in
/-- What the walk gives, for every argument and every world that holds the tables. -/
theorem contract (H : Type) (enc : TypeId × Value → H) (W : World) (base : Nat) (args : Array Value) (ds gs : List (DataW H)) (before : List MemPlace)
    (hval : ∀ (j : Nat) t v, Try.f12.params[j]? = some t → args[j]? = some v → Value.okWide Try.prog W .any base t v)
    (hW : DataW.Whole enc Try.prog Try.f12.params.toList Rows.spanAddsSpec.vars false W args.toList ds gs before) (hL : laidMetH Try.prog Rows.spanAddsRow.laid W) :
    Calls Try.prog 12 args W fun e W' => ∃ v, e = .returned v ∧ Rows.spanAddsSpec.post enc Try.prog Try.f12 false true false false W args v W' := by
  have hW' := hW
  obtain ⟨p, q, hA0, hV, hbe, hfz, hnd⟩ := hW
  have hA : DataW.TrodAll enc Try.prog W 0 (fun _ => true) true Try.f12.params.toList args.toList ds p := hA0
  rw [Try.params12] at hA hval
  obtain ⟨v0, vs0, d0, ds0, p0, q0, hargs, rfl, rfl, h0, r0⟩ := trodAll_cons hA
  obtain ⟨v1, vs1, d1, ds1, p1, q1, rfl, rfl, rfl, h1, r1⟩ := trodAll_cons r0
  obtain ⟨rfl, rfl, rfl⟩ := trodAll_nil r1
  obtain rfl : args = #[v0, v1] := by cases args; simp_all
  obtain ⟨rfl, rfl⟩ := trodVars_none hV
  obtain ⟨a0, n0, c0, l0, rfl, t0⟩ := open_rgs (hval 0 22 v0 rfl rfl) h0
  obtain ⟨r1_, rfl, p1a, p1b⟩ := open_rg (hval 1 25 v1 rfl rfl) h1
  refine (spanadds_walk l0 r1_ ⟨p1a, p1b⟩ a0 n0 c0 W t0).mono fun e W' ⟨he, hg⟩ => ?_
  subst he
  exact ⟨_, rfl, law_post laidOut hW' hg rfl Try.underlying4 rfl (by kernel_rfl) rfl rfl rfl⟩

theorem laid_met (os : Os) : laidMet Try.prog Rows.spanAddsRow.laid ((laidWorld os).forCall (fun _ _ => 0) ⟨#[], #[.slice none 0 0, .agg #[.int .u64 0, .int .u64 0]], []⟩).memory :=
  laidMet_of_run' 8 (by kernel_rfl) (by kernel_rfl)
theorem reads (os : Os) {H : Type} (enc : TypeId × Value → H) : ∃ places, DataW.whole enc Try.prog ((laidWorld os).forCall (fun _ _ => 0) ⟨#[], #[.slice none 0 0, .agg #[.int .u64 0, .int .u64 0]], []⟩).memory Try.f12.params.toList Rows.spanAddsSpec.vars false (#[.slice none 0 0, .agg #[.int .u64 0, .int .u64 0]] : Array Value).toList 8 = some ([.nil, .agg [.lit (.int .u64 0), .lit (.int .u64 0)]], [], places) :=
  ⟨[], by kernel_rfl⟩
set_option maxRecDepth 100000 in
theorem lifted (os : Os) (started : os.Started) (H : Type) (enc : TypeId × Value → H) (F : Stop.Interp) :
    ReturnsInHanded {} Try.checked os 12 .any ((OpenSpec.ofChange Rows.spanAddsSpec).preRow enc Try.prog Try.f12 Rows.spanAddsRow.domain false Rows.spanAddsRow.laid) (((OpenSpec.ofChange Rows.spanAddsSpec).at F).post enc Try.prog Try.f12 false true false false) := by
  obtain ⟨places, hx⟩ := reads os enc
  refine returnsInHanded_of_row (C := Try.checked) (s := OpenSpec.ofChange Rows.spanAddsSpec) own started (by kernel_rfl) Try.func12
    (witness_row_at (enc := enc) (C := Try.checked) false (laidWorld os) #[.slice none 0 0, .agg #[.int .u64 0, .int .u64 0]] rfl (by kernel_rfl) (by kernel_rfl) (by kernel_rfl)
      (OpenSpec.preRow_of_cond 8 hx (by kernel_rfl) (fun k hk => by cases hk) (by kernel_rfl) (laid_met os))) ?_
  intro W base args ds gs before hval hW _ _ _ hL _ _
  exact contract H enc W base args ds gs before hval hW hL
theorem named : Try.pinned.checked.prog.funcNamed Rows.spanAddsRow.func = some 12 := by kernel_rfl
theorem k1 : Rows.spanAddsRow.wf (OpenSpec.ofChange Rows.spanAddsSpec) = true := by kernel_rfl
theorem k4 : Try.f12.params.all (Try.prog.readableRec ·) = true := by kernel_rfl
theorem k5 : namedTie Try.prog Rows.spanAddsRow.named Rows.spanAddsSpec.vars = true := by kernel_rfl
theorem k6 : (Rows.spanAddsRow.stops == []) = true := by kernel_rfl
theorem k8 : (Rows.spanAddsRow.knobs == []) = true := by kernel_rfl
theorem k10 : (Rows.spanAddsRow.inPlace == Try.prog.inPlace 12) = true := by kernel_rfl
theorem k11 : (Rows.spanAddsRow.unfollowed == Try.prog.unfollowed 12) = true := by kernel_rfl
theorem k12 : (Rows.spanAddsRow.recurses == Try.prog.recurses 12) = true := by kernel_rfl
theorem k13 : (Rows.spanAddsRow.named == Try.prog.varsNamed 12) = true := by kernel_rfl
theorem k14 : (Rows.spanAddsRow.maps == (Try.f12.params.toList ++ Rows.spanAddsSpec.plain.varTypes Try.prog).any (Try.prog.mapsRec ·)) = true := by kernel_rfl
theorem k15 : (Rows.spanAddsRow.ifaces == (Try.f12.params.toList ++ Rows.spanAddsSpec.plain.varTypes Try.prog).any (Try.prog.ifacesRec ·)) = true := by kernel_rfl
theorem k16 : (Rows.spanAddsRow.mapsOut == Try.prog.mapsAmong Try.f12.resultTypes.toList) = true := by kernel_rfl
theorem k17 : (Rows.spanAddsRow.loops == (Try.f12.params.toList ++ Rows.spanAddsSpec.plain.varTypes Try.prog).any (Try.prog.loopsFrom ·)) = true := by kernel_rfl
theorem k17b : (Rows.spanAddsRow.wideKeys == (Try.f12.params.toList ++ Rows.spanAddsSpec.plain.varTypes Try.prog ++ Try.f12.resultTypes.toList).any (Try.prog.wideKeysFrom ·)) = true := by kernel_rfl
theorem k18 : Rows.spanAddsSpec.vars.all (Try.prog.varReadable ·) = true := by kernel_rfl
theorem k19 : Try.f12.resultTypes.all (fun t => Try.prog.readableRec t && decide (t < Try.prog.types.size)) = true := by kernel_rfl
theorem k20 : (Rows.spanAddsRow.ifacesOut == Try.f12.resultTypes.toList.any (Try.prog.ifacesRec ·)) = true := by kernel_rfl
theorem k21 : (Rows.spanAddsRow.loopsOut == Try.f12.resultTypes.toList.any (Try.prog.loopsFrom ·)) = true := by kernel_rfl
theorem k22 : (Rows.spanAddsRow.plainKeys == Try.prog.plainKeys) = true := by kernel_rfl
theorem k23 : Rows.spanAddsRow.shortTexts.isNone = true := by kernel_rfl
theorem k24b : (Rows.spanAddsRow.lifted == Try.prog.liftsFinal) = true := by kernel_rfl
theorem k24c : (Try.prog.make == some Rows.spanAddsRow.make) = true := by kernel_rfl
theorem k25 : (Rows.spanAddsRow.kinds == (if Rows.spanAddsRow.domain.isEmpty then [] else Try.f12.params.toList.map fun t => match Try.prog.underlying t with | some (.int k) => some k | _ => none)) = true := by kernel_rfl
theorem k26 : (Rows.spanAddsRow.pinned == Rows.spanAddsRow.pinnedBy) = true := by kernel_rfl
theorem k27 : (Rows.spanAddsRow.veiled == (Try.f12.params.toList ++ Rows.spanAddsSpec.plain.varTypes Try.prog ++ Try.f12.resultTypes.toList).any (Try.prog.veiledRec ·)) = true := by kernel_rfl
theorem k28 : Rows.spanAddsRow.veiledFits Try.prog Try.f12.params.toList (Try.f12.params.toList ++ Rows.spanAddsSpec.plain.varTypes Try.prog ++ Try.f12.resultTypes.toList) = true := by kernel_rfl
set_option maxRecDepth 100000 in
theorem closed : joinedFacts Try.pinned.checked.prog 12 Try.f12 (OpenSpec.ofChange Rows.spanAddsSpec).bare Rows.spanAddsRow = true :=
  a2 (a2 (a2 (a2 (a2 (a2 (a2 (a2 (a2 (a2 (a2 (a2 (a2 (a2 (a2 (a2 (a2 (a2 (a2 (a2 (a2 (a2 (a2 (a2 (a2 (a2 (a2 (a2 (a2 (a2 (a2 (k1) k2) k3) k4) k5) k6) k7) k8) k9) k10) k11) k12) k13) k14) k15) k16) k17) k17b) k18) k19) k20) k21) k22) k23) k23b) k24) k24b) k24c) k25) k26) k27) k28
theorem inst : Try.f12.isInstance Try.pinned.checked.prog Rows.spanAddsRow.origin Rows.spanAddsRow.targs := of_decide_eq_true (by kernel_rfl)
theorem wrap : Try.f12.isWrapper Try.pinned.checked.prog Rows.spanAddsRow.wrapper Rows.spanAddsRow.mainSum := by
  unfold Func.isWrapper; first | (rw [if_pos (by decide +kernel)]; kernel_rfl) | (rw [if_neg (by decide +kernel)]; exact ⟨rfl, rfl⟩)
theorem said : Rows.SpanAddsSaid :=
  OpenClaim.holds_of_cond 12 Try.f12 rfl rfl rfl rfl rfl rfl rfl ⟨rfl, rfl, rfl, rfl, rfl⟩ rfl rfl rfl rfl rfl named Try.func12 closed inst wrap
    (fun os started H enc _ F => by rw [OpenClaim.pre_eq_preRow]; exact lifted os started H enc F)
end Go.Proofs.Ytajjbffppkpjpaa.spanAdds
namespace Go.Proofs.Ytajjbffppkpjpaa
open Go
/-- What the row says of SpanAdds. -/
theorem spanAdds_said : Rows.SpanAddsSaid := spanAdds.said
#print axioms spanAdds_said
end Go.Proofs.Ytajjbffppkpjpaa
