/-
  SealBits: of two texts sealed by one key and nonce the covered ones differ in just the bits in which the texts do: for every key, nonce, additional data and two texts the law returns true and leaves its arguments as they are.
  The card ties the two tables that the row lists to the program's text; no other condition.
-/
import Derived.Test.YtgbahfggnbpnmaaDoorLawA
import Derived.Test.YtgbahfggnbpnmaaDoorLawP
import Derived.Test.YtgbahfggnbpnmaaDoorLawSealBits
import Derived.SevenTiedAt
namespace Go.Proofs.YtgbahfggnbpnmaaDoor.sealBits
open Go.ChangeShapes Go.WideShapes Go.ChangeAt Go.RowKit

set_option maxRecDepth 100000 in
/-- What the walk gives, for every argument and every world that holds the tables. -/
theorem contract (H : Type) (enc : TypeId × Value → H) (W : World) (base : Nat) (args : Array Value) (ds gs : List (DataW H)) (before : List MemPlace)
    (hval : ∀ (j : Nat) t v, Tryd.f15.params[j]? = some t → args[j]? = some v → Value.okWide Tryd.prog W .any base t v)
    (hW : DataW.Whole enc Tryd.prog Tryd.f15.params.toList Rows.sealBitsSpec.vars false W args.toList ds gs before) (hL : laidMetH Tryd.prog Rows.sealBitsRow.laid W) :
    Calls Tryd.prog 15 args W fun e W' => ∃ v, e = .returned v ∧ Rows.sealBitsSpec.post enc Tryd.prog Tryd.f15 false true false false W args v W' := by
  have hW' := hW
  have hT : Two W := two_of_laid hL
  obtain ⟨p, q, hA0, hV, hbe, hfz, hnd⟩ := hW
  have hA : DataW.TrodAll enc Tryd.prog W 0 (fun _ => true) true Tryd.f15.params.toList args.toList ds p := hA0
  rw [Tryd.params15] at hA hval
  obtain ⟨v0, vs0, d0, ds0, p0, q0, hargs, rfl, rfl, h0, r0⟩ := trodAll_cons hA
  obtain ⟨v1, vs1, d1, ds1, p1, q1, rfl, rfl, rfl, h1, r1⟩ := trodAll_cons r0
  obtain ⟨v2, vs2, d2, ds2, p2, q2, rfl, rfl, rfl, h2, r2⟩ := trodAll_cons r1
  obtain ⟨v3, vs3, d3, ds3, p3, q3, rfl, rfl, rfl, h3, r3⟩ := trodAll_cons r2
  obtain ⟨v4, vs4, d4, ds4, p4, q4, rfl, rfl, rfl, h4, r4⟩ := trodAll_cons r3
  obtain ⟨rfl, rfl, rfl⟩ := trodAll_nil r4
  obtain rfl : args = #[v0, v1, v2, v3, v4] := by cases args; simp_all
  obtain ⟨rfl, rfl⟩ := trodVars_none hV
  obtain ⟨z0, rfl, l0, w0⟩ := open_arr_ints Tryd.underlying31 Tryd.underlying5 cells_u8 cells_u8x32 (hval 0 31 v0 rfl rfl) h0
  rw [barr_of z0 w0] at hW' ⊢
  obtain ⟨z1, rfl, l1, w1⟩ := open_arr_ints Tryd.underlying62 Tryd.underlying5 cells_u8 cells_u8x12 (hval 1 62 v1 rfl rfl) h1
  rw [barr_of z1 w1] at hW' ⊢
  obtain ⟨a2, n2, c2, l2, rfl, t2⟩ := open_text Tryd.underlying28 Tryd.underlying5 cells_u8 (hval 2 28 v2 rfl rfl) h2
  obtain ⟨a3, n3, c3, l3, rfl, t3⟩ := open_text Tryd.underlying28 Tryd.underlying5 cells_u8 (hval 3 28 v3 rfl rfl) h3
  obtain ⟨a4, n4, c4, l4, rfl, t4⟩ := open_text Tryd.underlying28 Tryd.underlying5 cells_u8 (hval 4 28 v4 rfl rfl) h4
  refine (sealbits_walk (u8s z0) (u8s z1) l2 l3 l4 (by rw [u8s_len]; exact l0) (by rw [u8s_len]; exact l1) a2 a3 a4 n2 c2 n3 c3 n4 c4 W t2.txt t3.txt t4.txt hT).mono fun e W' ⟨he, hg⟩ => ?_
  subst he
  exact ⟨_, rfl, law_post laidOut hW' hg rfl Tryd.underlying4 rfl (by kernel_rfl) rfl rfl rfl⟩

theorem laid_met (os : Os) : laidMet Tryd.prog Rows.sealBitsRow.laid ((laidWorld os).forCall (fun _ _ => 0) ⟨#[], #[.agg (barr (List.replicate 32 0)), .agg (barr (List.replicate 12 0)), .slice none 0 0, .slice none 0 0, .slice none 0 0], []⟩).memory :=
  laidMet_of_run' 8 (by kernel_rfl) (by kernel_rfl)
theorem reads (os : Os) {H : Type} (enc : TypeId × Value → H) : ∃ places, DataW.whole enc Tryd.prog ((laidWorld os).forCall (fun _ _ => 0) ⟨#[], #[.agg (barr (List.replicate 32 0)), .agg (barr (List.replicate 12 0)), .slice none 0 0, .slice none 0 0, .slice none 0 0], []⟩).memory Tryd.f15.params.toList Rows.sealBitsSpec.vars false (#[.agg (barr (List.replicate 32 0)), .agg (barr (List.replicate 12 0)), .slice none 0 0, .slice none 0 0, .slice none 0 0] : Array Value).toList 8 = some ([.agg (List.replicate 32 (.lit (.int .u8 0))), .agg (List.replicate 12 (.lit (.int .u8 0))), .nil, .nil, .nil], [], places) :=
  ⟨[], by kernel_rfl⟩
set_option maxRecDepth 100000 in
theorem lifted (os : Os) (started : os.Started) (H : Type) (enc : TypeId × Value → H) (F : Stop.Interp) :
    ReturnsInHanded {} Tryd.checked os 15 .any ((OpenSpec.ofChange Rows.sealBitsSpec).preRow enc Tryd.prog Tryd.f15 Rows.sealBitsRow.domain false Rows.sealBitsRow.laid) (((OpenSpec.ofChange Rows.sealBitsSpec).at F).post enc Tryd.prog Tryd.f15 false true false false) := by
  obtain ⟨places, hx⟩ := reads os enc
  refine returnsInHanded_of_row (C := Tryd.checked) (s := OpenSpec.ofChange Rows.sealBitsSpec) own started (by kernel_rfl) Tryd.func15
    (witness_row_at (enc := enc) (C := Tryd.checked) false (laidWorld os) #[.agg (barr (List.replicate 32 0)), .agg (barr (List.replicate 12 0)), .slice none 0 0, .slice none 0 0, .slice none 0 0] rfl (by kernel_rfl) (by kernel_rfl) (by kernel_rfl)
      (OpenSpec.preRow_of_cond 8 hx (by kernel_rfl) (fun k hk => by cases hk) (by kernel_rfl) (laid_met os))) ?_
  intro W base args ds gs before hval hW _ _ _ hL _ _
  exact contract H enc W base args ds gs before hval hW hL
theorem named : Tryd.pinned.checked.prog.funcNamed Rows.sealBitsRow.func = some 15 := by kernel_rfl
theorem k1 : Rows.sealBitsRow.wf (OpenSpec.ofChange Rows.sealBitsSpec) = true := by kernel_rfl
theorem k4 : Tryd.f15.params.all (Tryd.prog.readableRec ·) = true := by kernel_rfl
theorem k5 : namedTie Tryd.prog Rows.sealBitsRow.named Rows.sealBitsSpec.vars = true := by kernel_rfl
theorem k6 : (Rows.sealBitsRow.stops == []) = true := by kernel_rfl
theorem k8 : (Rows.sealBitsRow.knobs == []) = true := by kernel_rfl
theorem k10 : (Rows.sealBitsRow.inPlace == Tryd.prog.inPlace 15) = true := by kernel_rfl
theorem k11 : (Rows.sealBitsRow.unfollowed == Tryd.prog.unfollowed 15) = true := by kernel_rfl
theorem k12 : (Rows.sealBitsRow.recurses == Tryd.prog.recurses 15) = true := by kernel_rfl
theorem k13 : (Rows.sealBitsRow.named == Tryd.prog.varsNamed 15) = true := by kernel_rfl
theorem k14 : (Rows.sealBitsRow.maps == (Tryd.f15.params.toList ++ Rows.sealBitsSpec.plain.varTypes Tryd.prog).any (Tryd.prog.mapsRec ·)) = true := by kernel_rfl
theorem k15 : (Rows.sealBitsRow.ifaces == (Tryd.f15.params.toList ++ Rows.sealBitsSpec.plain.varTypes Tryd.prog).any (Tryd.prog.ifacesRec ·)) = true := by kernel_rfl
theorem k16 : (Rows.sealBitsRow.mapsOut == Tryd.prog.mapsAmong Tryd.f15.resultTypes.toList) = true := by kernel_rfl
theorem k17 : (Rows.sealBitsRow.loops == (Tryd.f15.params.toList ++ Rows.sealBitsSpec.plain.varTypes Tryd.prog).any (Tryd.prog.loopsFrom ·)) = true := by kernel_rfl
theorem k17b : (Rows.sealBitsRow.wideKeys == (Tryd.f15.params.toList ++ Rows.sealBitsSpec.plain.varTypes Tryd.prog ++ Tryd.f15.resultTypes.toList).any (Tryd.prog.wideKeysFrom ·)) = true := by kernel_rfl
theorem k18 : Rows.sealBitsSpec.vars.all (Tryd.prog.varReadable ·) = true := by kernel_rfl
theorem k19 : Tryd.f15.resultTypes.all (fun t => Tryd.prog.readableRec t && decide (t < Tryd.prog.types.size)) = true := by kernel_rfl
theorem k20 : (Rows.sealBitsRow.ifacesOut == Tryd.f15.resultTypes.toList.any (Tryd.prog.ifacesRec ·)) = true := by kernel_rfl
theorem k21 : (Rows.sealBitsRow.loopsOut == Tryd.f15.resultTypes.toList.any (Tryd.prog.loopsFrom ·)) = true := by kernel_rfl
theorem k22 : (Rows.sealBitsRow.plainKeys == Tryd.prog.plainKeys) = true := by kernel_rfl
theorem k23 : Rows.sealBitsRow.shortTexts.isNone = true := by kernel_rfl
theorem k24b : (Rows.sealBitsRow.lifted == Tryd.prog.liftsFinal) = true := by kernel_rfl
theorem k24c : (Tryd.prog.make == some Rows.sealBitsRow.make) = true := by kernel_rfl
theorem k25 : (Rows.sealBitsRow.kinds == (if Rows.sealBitsRow.domain.isEmpty then [] else Tryd.f15.params.toList.map fun t => match Tryd.prog.underlying t with | some (.int k) => some k | _ => none)) = true := by kernel_rfl
theorem k26 : (Rows.sealBitsRow.pinned == Rows.sealBitsRow.pinnedBy) = true := by kernel_rfl
theorem k27 : (Rows.sealBitsRow.veiled == (Tryd.f15.params.toList ++ Rows.sealBitsSpec.plain.varTypes Tryd.prog ++ Tryd.f15.resultTypes.toList).any (Tryd.prog.veiledRec ·)) = true := by kernel_rfl
theorem k28 : Rows.sealBitsRow.veiledFits Tryd.prog Tryd.f15.params.toList (Tryd.f15.params.toList ++ Rows.sealBitsSpec.plain.varTypes Tryd.prog ++ Tryd.f15.resultTypes.toList) = true := by kernel_rfl
set_option maxRecDepth 100000 in
theorem closed : joinedFacts Tryd.pinned.checked.prog 15 Tryd.f15 (OpenSpec.ofChange Rows.sealBitsSpec).bare Rows.sealBitsRow = true :=
  a2 (a2 (a2 (a2 (a2 (a2 (a2 (a2 (a2 (a2 (a2 (a2 (a2 (a2 (a2 (a2 (a2 (a2 (a2 (a2 (a2 (a2 (a2 (a2 (a2 (a2 (a2 (a2 (a2 (a2 (a2 (k1) k2) k3) k4) k5) k6) k7) k8) k9) k10) k11) k12) k13) k14) k15) k16) k17) k17b) k18) k19) k20) k21) k22) k23) k23b) k24) k24b) k24c) k25) k26) k27) k28
theorem inst : Tryd.f15.isInstance Tryd.pinned.checked.prog Rows.sealBitsRow.origin Rows.sealBitsRow.targs := of_decide_eq_true (by kernel_rfl)
theorem wrap : Tryd.f15.isWrapper Tryd.pinned.checked.prog Rows.sealBitsRow.wrapper Rows.sealBitsRow.mainSum := by
  unfold Func.isWrapper; first | (rw [if_pos (by decide +kernel)]; kernel_rfl) | (rw [if_neg (by decide +kernel)]; exact ⟨rfl, rfl⟩)
theorem said : Rows.SealBitsSaid :=
  OpenClaim.holds_of_cond 15 Tryd.f15 rfl rfl rfl rfl rfl rfl rfl ⟨rfl, rfl, rfl, rfl, rfl⟩ rfl rfl rfl rfl rfl named Tryd.func15 closed inst wrap
    (fun os started H enc _ F => by rw [OpenClaim.pre_eq_preRow]; exact lifted os started H enc F)
theorem cw : Rows.sealBitsRow.wfByText (OpenSpec.ofChange Rows.sealBitsSpec) = true := by kernel_rfl
theorem cg : false = Rows.sealBitsRow.goesBy Tryd.pinned.checked.prog := by kernel_rfl
theorem plain (f : FuncId) (fn : Func) (hf : Tryd.pinned.checked.prog.funcNamed "livery/liverylaw04.SealBits" = some f) (hfn : Tryd.pinned.checked.prog.funcs[f]? = some fn) :
    false = Tryd.pinned.checked.prog.looks [] ∧ ∀ (j : Nat) t, fn.params[j]? = some t → Tryd.pinned.checked.prog.wantsStandIn t = false := by
  obtain rfl : f = 15 := Option.some.inj ((show Tryd.prog.funcNamed "livery/liverylaw04.SealBits" = some 15 by kernel_rfl).symm.trans hf) |>.symm
  obtain rfl : fn = Tryd.f15 := (Option.some.inj (Tryd.func15.symm.trans hfn)).symm
  refine ⟨looksOff, fun j t ht => ?_⟩
  rw [Tryd.params15] at ht
  have hm : t ∈ [31, 62, 28, 28, 28] := by simpa using Array.mem_of_getElem? ht
  have hall : ([31, 62, 28, 28, 28].all fun u => !Tryd.prog.wantsStandIn u) = true := by kernel_rfl
  exact (show Tryd.prog.wantsStandIn t = false by simpa using List.all_eq_true.1 hall t hm)
end Go.Proofs.YtgbahfggnbpnmaaDoor.sealBits
namespace Go.Proofs.YtgbahfggnbpnmaaDoor
open Go
/-- The card of SealBits. -/
theorem sealBits_card : Rows.SealBitsCardSaid :=
  Claim7.holds_tied_plain_at .later [] _ _ _ _ sealBits.said (fun _ h => by cases h) sealBits.cw (fun _ h => by cases h) sealBits_row_tie rfl ⟨rfl, rfl⟩ mainIs rfl sealBits.plain sealBits.cg
#print axioms sealBits_card
end Go.Proofs.YtgbahfggnbpnmaaDoor
