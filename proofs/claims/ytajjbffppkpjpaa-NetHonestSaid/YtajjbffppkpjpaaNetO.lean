import Derived.Test.YtajjbffppkpjpaaNetN
/-
  liverylaw26.way.
-/
namespace Go.Proofs.Ytajjbffppkpjpaa
set_option linter.unusedSimpArgs false
set_option linter.unusedVariables false
open Go.RowKit Go.Shelf
attribute [local go_sem] Oper.semAt_some
theorem equalIn_nilSeq2 (d : Nat) (w : World) (f : Fn) (xs ys : Array Value) : (Op.equalIn (d + 1) 105 (.func f xs ys) .nilFunc).run Try.prog w = .ok false w := by
  simp [Op.equalIn, run_underlying Try.underlying105]
theorem equal_nilSeq2 (w : World) (f : Fn) (xs ys : Array Value) : (Op.equal 105 (.func f xs ys) .nilFunc).run Try.prog w = .ok false w := equalIn_nilSeq2 9999 w f xs ys
theorem eql_nilSeq2 (w : World) (f : Fn) (xs ys : Array Value) : (binOp .eql 105 (.func f xs ys) .nilFunc).run Try.prog w = .ok (.bool false) w := by
  simp only [binOp]
  simp [equal_nilSeq2]
theorem results_way {fn : Func} (hf : fn.results = #[.cell 4 41, .cell 5 4]) {tmps : Array Value} {w : World} {p q : Addr} {v : Value} {b : Bool} (hp : tmps.getD 4 undef = .pointer (some p)) (hq : tmps.getD 5 undef = .pointer (some q)) (h1 : w.cell? p = some v) (h2 : w.cell? q = some (.bool b)) :
    (results fn tmps).run Try.prog w = .ok (.tuple #[v, .bool b]) w := by
  have hp' : tmps[4]?.getD undef = .pointer (some p) := by simpa using hp
  have hq' : tmps[5]?.getD undef = .pointer (some q) := by simpa using hq
  have u1 : Try.prog.underlying 41 = some (.slice 47) := by kernel_rfl
  have u2 : Try.prog.underlying 4 = some .bool := by kernel_rfl
  simp [results, hf, hp', hq', asAddr, loadVar, isAgg, u1, u2, h1, h2, Sem.run_bind, Result.andThen]
theorem blk_ne_obj {X : World} {k D : Nat} {cs : Array Value} {t : TypeId} {o : Obj} (hk : Blk X k cs t) (hD : X.heap[D]? = some o) (ho : ∀ cs t, o ≠ .cells cs t (0, 0)) : ¬ k = D := fun e => by
  subst e
  have h2 : X.heap[k]? = some (.cells cs t (0, 0)) := hk
  rw [hD] at h2
  exact ho cs t (by simpa using h2)
/-- What way holds between two rounds. -/
structure WJ (w : World) (m D : Nat) (r : Loop) (s : List Snt) (X : World) : Prop where
  t : TJ w (w.heap.size + 3) m D r s X
  b1 : Blk X (w.heap.size + 1) #[.slice none 0 0] 41
  b2 : Blk X (w.heap.size + 2) #[.bool false] 4
section
variable {w : World} {m D : Nat} {r : Loop} {s : List Snt} {X Y : World}
theorem WJ.on (h : WJ w m D r s X) (hb : Below X.heap.size X Y) : WJ w m D r s Y := ⟨h.t.on hb, h.b1.on hb, h.b2.on hb⟩
theorem WJ.put (h : WJ w m D r s X) (hD : w.heap.size + 5 ≤ D) (r' : Loop) : WJ w m D r' s (X.putObj (D + 1) (.loop r')) :=
  ⟨h.t.put (by omega) (by omega) r', (Only.put (S := (· = D + 1)) X _ rfl).blk h.b1 (by omega), (Only.put (S := (· = D + 1)) X _ rfl).blk h.b2 (by omega)⟩
theorem WJ.keep {V : World} {s' : List Snt} {v : Value} (h : WJ w m D r s X) (hv : Blk X (w.heap.size + 3) #[v] 41) (ht : TJ w (w.heap.size + 3) m D r s' V) (hO : Only (fun k => v.ownBlock = some k ∨ k = w.heap.size + 3) X V) : WJ w m D r s' V := by
  obtain ⟨v', h1, h2, h3⟩ := h.t.row
  have e := (hv.inj h1).1
  simp at e
  subst e
  exact ⟨ht, hO.blk h.b1 (fun q => q.elim (blk_ne_row h2 h.b1 (by decide)) (by omega)), hO.blk h.b2 (fun q => q.elim (blk_ne_row h2 h.b2 (by decide)) (by omega))⟩
end
/-- What it holds when a round has left it. -/
def WZ (w : World) (m D : Nat) (r : Loop) (s : List Snt) (X : World) : Prop := ∃ p x, s = p ++ [x] ∧ p.length = m ∧ WJ w m D r p X
set_option maxRecDepth 100000 in
set_option maxHeartbeats 4000000 in
theorem way_walk {av : Nat → Prop} {b : Nat} {vx vy vz : Value} {S : NS} {K : Nat} (m : Nat) (hm : m ≤ 1048576) (w : World) (h : NetAt w av b vx vy vz S) (hL : S.Lim K) :
    Calls Try.prog 26 #[.pointer (some ⟨b, 0, none⟩), .int .i64 (m : Nat)] w fun e w' => ∃ x, e = .returned (.tuple #[x, .bool true]) ∧ SRow w' (fun k => w.heap.size ≤ k) x (S.way.take m) ∧ (∀ k, x.ownBlock = some k → w.heap.size ≤ k) ∧ Below w.heap.size w w' := by
  refine (callsIn_wide (n := 3)).1 ?_
  refine callsIn_of_wp_marks Try.func26 rfl trivial ?_ rfl
  simp only [Try.ntmps26, List.size_toArray, List.length_cons, List.length_nil, Nat.reduceAdd, Nat.reduceSub, Array.replicate_succ, Array.replicate_zero, List.push_toArray, List.append_toArray, List.nil_append, List.cons_append]
  have HR := Lib.hid (h.mono (av' := fun k => k < w.heap.size) (fun k _ l => l))
  have HLT := Lib.hid (fun k e => h.way.lt (k := k) e)
  have Hm := Lib.hid hm
  have HLL := Lib.hid (show S.way.length ≤ 1000000 by have := hL.way; omega)
  have HDD := Lib.hid (show ∀ s ∈ S.way, s.d.length ≤ 1000000 from fun s hs => hL.txt s (.inl hs))
  clear h hm hL
  gi_wp2
  refine ⟨trivial, (callsIn_wide.2 (all_make (some ⟨b, 0, none⟩) _)).mono ?_⟩
  rintro e w2 ⟨rfl, rfl⟩
  have hq := fun W => eql_nilSeq2 W (.func 115) #[] #[.pointer (some ⟨w.heap.size + 1 + 1 + 1 + 1, 0, none⟩)]
  gi_wp2
  refine range_stmt rfl (enters_of Try.func115 (by kernel_rfl) rfl) fun r hst hpe hps has hbo htm => ?_
  clear hq
  obtain ⟨W1, hW1⟩ : ∃ x, x = ((((w.alloc (.cells #[.int .i64 (m : Nat)] 3)).alloc (.cells #[.slice none 0 0] 41)).alloc (.cells #[.bool false] 4)).alloc (.cells #[.slice none 0 0] 41)).alloc (.cells #[.pointer (some ⟨b, 0, none⟩)] 40) := ⟨_, rfl⟩
  have hs1 : W1.heap.size = w.heap.size + 5 := by rw [hW1]; simp
  have hbw : Below w.heap.size w W1 := by rw [hW1]; exact (((((Below.refl _ w).alloc (Nat.le_refl _) _).alloc (by simp) _).alloc (by simp; omega) _).alloc (by simp; omega) _).alloc (by simp; omega) _
  have h3 : Blk W1 w.heap.size #[.int .i64 (m : Nat)] 3 := by rw [hW1]; exact ((((Blk.new w _ _).alloc _).alloc _).alloc _).alloc _
  have h4 : Blk W1 (w.heap.size + 1) #[.slice none 0 0] 41 := by rw [hW1]; exact (((Blk.new' _ _ _ (by simp)).alloc _).alloc _).alloc _
  have h5 : Blk W1 (w.heap.size + 2) #[.bool false] 4 := by rw [hW1]; exact ((Blk.new' _ _ _ (by simp)).alloc _).alloc _
  have h6 : Blk W1 (w.heap.size + 3) #[.slice none 0 0] 41 := by rw [hW1]; exact (Blk.new' _ _ _ (by simp)).alloc _
  have h7 : Blk W1 (w.heap.size + 4) #[.pointer (some ⟨b, 0, none⟩)] 40 := by rw [hW1]; exact Blk.new' _ _ _ (by simp)
  rw [← hW1]
  obtain ⟨D, hD⟩ : ∃ D, D = W1.heap.size := ⟨_, rfl⟩
  rw [← hD]
  clear hW1
  have hal : Below W1.heap.size W1 ((W1.alloc (.deferred (some []))).alloc (.loop r)) := ((Below.refl _ W1).alloc (Nat.le_refl _) _).alloc (by simp) _
  obtain ⟨W2, hW2⟩ : ∃ x, x = (W1.alloc (.deferred (some []))).alloc (.loop r) := ⟨_, rfl⟩
  have hl2 : W2.heap[D + 1]? = some (.loop r) := by
    rw [hW2, hD]; have := World.alloc_heap_new (W1.alloc (.deferred (some []))) (.loop r); rwa [World.size_alloc] at this
  have hd2 : W2.heap[D]? = some (.deferred (some [])) := by
    rw [hW2, hD]; exact (Below.heap_alloc _ _ _ (by simp)).trans (World.alloc_heap_new W1 _)
  rw [← hW2] at hal ⊢
  have HW := Lib.hid (show WJ w m D r [] W2 from ⟨⟨Nat.zero_le _, h3.on hal, ⟨_, h6.on hal, SRow.nil _ _, (fun k e => by cases e)⟩, hl2, hd2, hbw.trans (hal.mono hbw.size)⟩, h4.on hal, h5.on hal⟩)
  have HDN := Lib.hid (show w.heap.size + 5 ≤ D by omega)
  have HCP := Lib.hid ((h7.on hal).cell 0 rfl)
  have HST := Lib.hid hst
  have HPE := Lib.hid hpe
  have HPS := Lib.hid hps
  have HAS := Lib.hid has
  have HBO := Lib.hid hbo
  have HTM := Lib.hid htm
  obtain ⟨rd, hrd⟩ : ∃ rd : Loop, rd = { r with state := .done, pending := some (.exit 0) } := ⟨_, rfl⟩
  obtain ⟨rb, hrb⟩ : ∃ rb : Loop, rb = { r with state := .busy } := ⟨_, rfl⟩
  have HRD := Lib.hid hrd
  have HRB := Lib.hid hrb
  have HB2 := Lib.hid (hbw.trans (hal.mono hbw.size))
  clear hW2 hl2 hd2 hbw hal hst hpe hps has hbo htm hrd hrb hD hs1 h3 h4 h5 h6 h7
  refine (all1_in (3 - 1) (D + 1) w.heap.size (w.heap.size + 4) S.way vx b vy vz S (WJ w m D r) (WZ w m D rd)
    (fun s X Y h hb => h.on hb) HLT.out (fun k h => h) HLL.out HDD.out ?round W2 HB2.out.size HCP.out (HR.out.way.on HB2.out) (HR.out.on HB2.out) rfl HW.out).mono ?behind
  case round =>
    intro pre x X g n hpre hX hBk hn hge
    refine round_at hX.t.lp (by rw [HPS.out]; rfl) ?_
    rw [HAS.out, HPS.out, HTM.out, HBO.out]
    have HX := Lib.hid hX
    have HG := Lib.hid (show Tn X (fun k => w.heap.size ≤ k) (.slice (some ⟨g, 0, none⟩) n n) x.d from Tn.of_blkn hBk hn hge)
    obtain ⟨k, hk⟩ : ∃ k, k = pre.length := ⟨_, rfl⟩
    rw [← hk]
    have HK := Lib.hid hk
    clear hX hBk hn hge hpre hk
    gi_wp2
    have hb1 := below_one' X (.cells #[.int .i64 x.f, .int .i64 x.t, .slice (some ⟨g, 0, none⟩) n n] 47)
    have hX1 := HX.out.on hb1
    refine ⟨_, run_beginRound hX1.t.lp HST.out, ?_⟩
    rw [← HRB.out]
    have hX2 := hX1.put HDN.out rb
    have hlt1 : D + 1 < X.heap.size := (Array.getElem?_eq_some_iff.1 HX.out.t.lp).1
    have hDD := HDN.out
    have hBX : Blk ((X.alloc (.cells #[.int .i64 x.f, .int .i64 x.t, .slice (some ⟨g, 0, none⟩) n n] 47)).putObj (D + 1) (.loop rb)) X.heap.size #[.int .i64 x.f, .int .i64 x.t, .slice (some ⟨g, 0, none⟩) n n] 47 := (World.putObj_heap_other (by omega)).trans (Blk.new X _ _)
    have hbx : Below w.heap.size X ((X.alloc (.cells #[.int .i64 x.f, .int .i64 x.t, .slice (some ⟨g, 0, none⟩) n n] 47)).putObj (D + 1) (.loop rb)) := (hb1.mono HX.out.t.below.size).trans (below_put _ _ (by omega))
    have hG2 : Tn ((X.alloc (.cells #[.int .i64 x.f, .int .i64 x.t, .slice (some ⟨g, 0, none⟩) n n] 47)).putObj (D + 1) (.loop rb)) (fun k => w.heap.size ≤ k) (.slice (some ⟨g, 0, none⟩) n n) x.d := (HG.out.on hb1).keep (F := (· = D + 1)) (Only.put _ _ rfl) (fun k cur _ hk q => by
      subst q
      have h2 : (X.alloc (.cells #[.int .i64 x.f, .int .i64 x.t, .slice (some ⟨g, 0, none⟩) n n] 47)).heap[D + 1]? = some (.cells cur 5 (0, 0)) := hk
      rw [hX1.t.lp] at h2; cases h2)
    obtain ⟨X2, hX2e⟩ : ∃ y, y = (X.alloc (.cells #[.int .i64 x.f, .int .i64 x.t, .slice (some ⟨g, 0, none⟩) n n] 47)).putObj (D + 1) (.loop rb) := ⟨_, rfl⟩
    rw [← hX2e] at hX2 hBX hbx hG2 ⊢
    have HX2 := Lib.hid hX2
    have HBX := Lib.hid hBX
    have HBB := Lib.hid hbx
    have HG2 := Lib.hid hG2
    obtain ⟨bx, hbxe⟩ : ∃ y, y = X.heap.size := ⟨_, rfl⟩
    rw [← hbxe] at HBX ⊢
    obtain ⟨vr, hv, hrow, hown⟩ := hX2.t.row
    obtain ⟨ar, cr, rfl, _⟩ := hrow.form
    rw [← HK.out] at hv
    have HV := Lib.hid hv
    have c3 : X2.cell? ⟨w.heap.size, 0, none⟩ = some (.int .i64 (m : Nat)) := hX2.t.mst.cell 0 rfl
    have c4 : X2.cell? ⟨w.heap.size + 1 + 1 + 1, 0, none⟩ = some (.slice ar k cr) := hv.cell 0 rfl
    have HLE := Lib.hid hX2.t.len
    obtain ⟨ls, hw, hw2⟩ := hrow
    have HWS := Lib.hid (show X2.ownsRow 0 47 3 (.slice ar k cr) k (ncells ls) by rw [HK.out]; exact hw)
    have HW2 := Lib.hid hw2
    clear hb1 hX1 hX2 hBX hbx hG2 hX2e hlt1 hbxe hv hown hw hw2 hDD
    by_cases hge : m ≤ k
    · have g1 : (m : Int) ≤ (k : Int) := by omega
      gi_wp2
      have e1 : ({ rb with state := if (some (Code.exit 0)).isNone then .ready else .done, pending := some (.exit 0) } : Loop) = rd := by rw [HRD.out, HRB.out]; rfl
      have q1 := run_endRound (P := Try.prog) (some (.exit 0)) HX2.out.t.lp
      rw [e1] at q1
      exact ⟨_, _, q1, .inr ⟨rfl, pre, x, rfl, by have := HLE.out; have := HK.out; omega, HX2.out.put HDN.out rd⟩⟩
    · have g1 : ¬ (m : Int) ≤ (k : Int) := by omega
      have hbn := below_one' X2 (.cells #[.int .i64 x.f, .int .i64 x.t, .slice (some ⟨g, 0, none⟩) n n] 47)
      have HBN := Lib.hid hbn
      have HBW2 := Lib.hid HX2.out.t.below.size
      have BJ := Lib.hid (Src.of_blk (show Blk (X2.alloc (.cells #[.int .i64 x.f, .int .i64 x.t, .slice (some ⟨g, 0, none⟩) n n] 47)) X2.heap.size ([.int .i64 x.f, .int .i64 x.t, .slice (some ⟨g, 0, none⟩) n n] : List Value).toArray 47 from Blk.new X2 _ _))
      have HV3 := Lib.hid (HV.out.on hbn)
      have HX3 := Lib.hid (HX2.out.on hbn)
      have HWS3 := Lib.hid (row_same' HWS.out fun j e => hbn.block j (row_blk' HWS.out e).choose_spec.lt)
      have HW3 := Lib.hid (HW2.out.keep (F := fun _ => False) (Only.of_below hbn) (fun _ _ _ _ q => q))
      have HG3 := Lib.hid (HG2.out.on hbn)
      have H63 := Lib.hid (show k + 1 ≤ maxLen by have := Hm.out; unfold maxLen; omega)
      have HBY := Lib.hid (show (k + 1) * 40 ≤ 140737488355328 by have := Hm.out; omega)
      have HNB := Lib.hid (show ¬ (Value.slice ar k cr).ownBlock = some (w.heap.size + 3) from fun e => by
        obtain ⟨c, hc⟩ := row_blk' HWS.out e
        exact blk_type_ne hc HV.out (by decide) rfl)
      have d0 := HBX.out.cell 0 rfl
      have d1 := HBX.out.cell 1 rfl
      have d2 := HBX.out.cell 2 rfl
      have HLM := Lib.hid (show pre.length < m by have := HK.out; omega)
      clear hbn HX2 HWS HW2 HG2
      gi_wp2_with (refine wpListIn_append_src rfl (.tmp 25) (.tmp 27) 41 47 rfl (.agg #[.int .i64 0, .int .i64 0, .slice none 0 0]) 3 40 Try.underlying41 info_sent (by rfl) (by decide) (.slice ar k cr) k (ncells ls) (by rfl) HWS3.out _ 1 1 [.int .i64 x.f, .int .i64 x.t, .slice (some ⟨g, 0, none⟩) n n] (by rfl) (by rfl) BJ.out (by simp [Value.oneCell']) H63.out HBY.out ?_; intro a' c' Z hO hg hat; have HO := Lib.hid hO; have HGR := Lib.hid hg; have HAT := Lib.hid hat; have z1 := (Only.grown (S := fun j => (Value.slice ar k cr).ownBlock = some j) hg (fun j e => e)).blk HV3.out HNB.out; have y1 : Z.cell? ⟨w.heap.size + 1 + 1 + 1, 0, none⟩ = some (.slice ar k cr) := z1.cell 0 rfl; have y2 : Z.frozen? ⟨w.heap.size + 1 + 1 + 1, 0, none⟩ = false := z1.free 0; clear hO hg hat z1 c3 c4 d0 d1 d2)
      have HS := Lib.hid (HX3.out.t.snoc (x := x) (a' := .slice a' (k + 1) c') (V := Z.setCell ⟨w.heap.size + 3, 0, none⟩ (.slice a' (k + 1) c')) HLM.out (by have := HDN.out; omega) (by have := HDN.out; omega) (by omega) HV3.out HGR.out (by rw [← HK.out]; exact HO.out) HW3.out HG3.out HAT.out rfl)
      have e1 : ({ rb with state := if (none : Option Code).isNone then .ready else .done, pending := none } : Loop) = r := by
        rw [HRB.out]
        have h1 := HST.out
        have h2 := HPE.out
        cases r
        simp_all
      have HWJ := Lib.hid (HX3.out.keep HV3.out HS.out.1 HS.out.2.2)
      have q1 := run_endRound (P := Try.prog) none HS.out.1.lp
      rw [e1] at q1
      exact ⟨_, _, q1, .inl ⟨rfl, HWJ.out.put HDN.out r, (HBB.out.trans (HBN.out.mono HBW2.out)).trans (HS.out.2.1.trans (below_put _ _ (by have := HDN.out; omega)))⟩⟩
  case behind =>
    rintro e Y ⟨⟨u, rfl⟩, (hI | ⟨k, hk, p, x, rfl, hpm, hI⟩)⟩
    · have q1 := run_endLoop (P := Try.prog) hI.t.lp (by rw [HST.out]; simp)
      rw [HPE.out] at q1
      refine ⟨none, _, q1, ?_⟩
      have H2 := Lib.hid (hI.put HDN.out { r with state := .exhausted, pending := none })
      have HLE := Lib.hid hI.t.len
      have HE := Lib.hid (show S.way.take m = S.way from List.take_of_length_le HLE.out)
      clear hI q1
      obtain ⟨Z, hZ⟩ : ∃ Z, Z = Y.putObj (D + 1) (.loop { r with state := .exhausted, pending := none }) := ⟨_, rfl⟩
      rw [← hZ] at H2 ⊢
      clear hZ
      obtain ⟨vr, hv, hrow, hown⟩ := H2.out.t.row
      obtain ⟨ar, cr, rfl, _⟩ := hrow.form
      have c4 : Z.cell? ⟨w.heap.size + 1 + 1 + 1, 0, none⟩ = some (.slice ar S.way.length cr) := hv.cell 0 rfl
      have c5 : Z.cell? ⟨w.heap.size + 1, 0, none⟩ = some (.slice none 0 0) := H2.out.b1.cell 0 rfl
      have c6 : Z.cell? ⟨w.heap.size + 1 + 1, 0, none⟩ = some (.bool false) := H2.out.b2.cell 0 rfl
      have f5 := H2.out.b1.free 0
      have f6 : Z.frozen? ⟨w.heap.size + 1 + 1, 0, none⟩ = false := H2.out.b2.free 0
      have HRW := Lib.hid hrow
      have HOW := Lib.hid hown
      clear hv hrow hown
      gi_wp2
      have HD := HDN.out
      have z5 := (H2.out.b1.set 0 (.slice ar S.way.length cr)).set' 0 (.bool true) (g' := w.heap.size + 2) (by omega)
      have z6 := (H2.out.b2.set' 0 (.slice ar S.way.length cr) (g' := w.heap.size + 1) (by omega)).set 0 (.bool true)
      have hO : Only (fun k => k = w.heap.size + 1 ∨ k = w.heap.size + 2) Z ((Z.setCell ⟨w.heap.size + 1, 0, none⟩ (.slice ar S.way.length cr)).setCell ⟨w.heap.size + 2, 0, none⟩ (.bool true)) := (Only.cell Z (k := w.heap.size + 1) (i := 0) _ (.inl rfl)).trans (Only.cell _ (k := w.heap.size + 2) (i := 0) _ (.inr rfl))
      have zd := (hO.same D (Array.getElem?_eq_some_iff.1 H2.out.t.dfr).1 (by omega)).trans H2.out.t.dfr
      have zR := HRW.out.keep hO (fun k e q => q.elim (fun q => blk_ne_row HRW.out H2.out.b1 (by decide) (q ▸ e)) (fun q => blk_ne_row HRW.out H2.out.b2 (by decide) (q ▸ e))) (fun k cur _ hk q => q.elim (fun q => blk_type_ne hk H2.out.b1 (by decide) q) (fun q => blk_type_ne hk H2.out.b2 (by decide) q))
      have zB := H2.out.t.below.trans (hO.below (fun k q => by omega) H2.out.t.below.size)
      refine ⟨by simp, .inl ⟨_, _, rfl, run_takeDeferred zd, ?_⟩⟩
      have p4 := Blk.cell ((World.putObj_heap_other (by omega)).trans z5 : Blk (World.putObj _ D (.deferred none)) _ _ _) 0 rfl
      have p5 := Blk.cell ((World.putObj_heap_other (by omega)).trans z6 : Blk (World.putObj _ D (.deferred none)) _ _ _) 0 rfl
      exact ⟨_, results_way rfl rfl rfl p4 p5, .slice ar S.way.length cr, rfl, by rw [HE.out]; exact zR.keep (F := (· = D)) (Only.put _ _ rfl) (fun k e q => obj_ne_row zR zd (fun _ e => by cases e) (q ▸ e)) (fun k cur _ hk q => blk_ne_obj hk zd (fun _ _ e => by cases e) q), HOW.out, zB.trans (below_put _ _ (by omega))⟩
    · have q1 := run_endLoop (P := Try.prog) hI.t.lp (by rw [HRD.out]; simp)
      rw [show rd.pending = some (Code.exit 0) by rw [HRD.out]] at q1
      refine ⟨some (.exit 0), _, q1, ?_⟩
      have HE := Lib.hid (show S.way.take m = p by
        obtain ⟨t, ht⟩ := hk
        rw [← ht, List.append_assoc, ← hpm, List.take_left'] <;> rfl)
      clear hk hpm
      have H2 := Lib.hid (hI.put HDN.out { rd with state := .exhausted, pending := some (.exit 0) })
      clear hI q1
      obtain ⟨Z, hZ⟩ : ∃ Z, Z = Y.putObj (D + 1) (.loop { rd with state := .exhausted, pending := some (.exit 0) }) := ⟨_, rfl⟩
      rw [← hZ] at H2 ⊢
      clear hZ
      obtain ⟨vr, hv, hrow, hown⟩ := H2.out.t.row
      obtain ⟨ar, cr, rfl, _⟩ := hrow.form
      have c4 : Z.cell? ⟨w.heap.size + 1 + 1 + 1, 0, none⟩ = some (.slice ar p.length cr) := hv.cell 0 rfl
      have c5 : Z.cell? ⟨w.heap.size + 1, 0, none⟩ = some (.slice none 0 0) := H2.out.b1.cell 0 rfl
      have c6 : Z.cell? ⟨w.heap.size + 1 + 1, 0, none⟩ = some (.bool false) := H2.out.b2.cell 0 rfl
      have f5 := H2.out.b1.free 0
      have f6 : Z.frozen? ⟨w.heap.size + 1 + 1, 0, none⟩ = false := H2.out.b2.free 0
      have HRW := Lib.hid hrow
      have HOW := Lib.hid hown
      clear hv hrow hown
      gi_wp2
      have HD := HDN.out
      have z5 := (H2.out.b1.set 0 (.slice ar p.length cr)).set' 0 (.bool true) (g' := w.heap.size + 2) (by omega)
      have z6 := (H2.out.b2.set' 0 (.slice ar p.length cr) (g' := w.heap.size + 1) (by omega)).set 0 (.bool true)
      have hO : Only (fun k => k = w.heap.size + 1 ∨ k = w.heap.size + 2) Z ((Z.setCell ⟨w.heap.size + 1, 0, none⟩ (.slice ar p.length cr)).setCell ⟨w.heap.size + 2, 0, none⟩ (.bool true)) := (Only.cell Z (k := w.heap.size + 1) (i := 0) _ (.inl rfl)).trans (Only.cell _ (k := w.heap.size + 2) (i := 0) _ (.inr rfl))
      have zd := (hO.same D (Array.getElem?_eq_some_iff.1 H2.out.t.dfr).1 (by omega)).trans H2.out.t.dfr
      have zR := HRW.out.keep hO (fun k e q => q.elim (fun q => blk_ne_row HRW.out H2.out.b1 (by decide) (q ▸ e)) (fun q => blk_ne_row HRW.out H2.out.b2 (by decide) (q ▸ e))) (fun k cur _ hk q => q.elim (fun q => blk_type_ne hk H2.out.b1 (by decide) q) (fun q => blk_type_ne hk H2.out.b2 (by decide) q))
      have zB := H2.out.t.below.trans (hO.below (fun k q => by omega) H2.out.t.below.size)
      refine ⟨by simp, .inl ⟨_, _, rfl, run_takeDeferred zd, ?_⟩⟩
      have p4 := Blk.cell ((World.putObj_heap_other (by omega)).trans z5 : Blk (World.putObj _ D (.deferred none)) _ _ _) 0 rfl
      have p5 := Blk.cell ((World.putObj_heap_other (by omega)).trans z6 : Blk (World.putObj _ D (.deferred none)) _ _ _) 0 rfl
      exact ⟨_, results_way rfl rfl rfl p4 p5, .slice ar p.length cr, rfl, by rw [HE.out]; exact zR.keep (F := (· = D)) (Only.put _ _ rfl) (fun k e q => obj_ne_row zR zd (fun _ e => by cases e) (q ▸ e)) (fun k cur _ hk q => blk_ne_obj hk zd (fun _ _ e => by cases e) q), HOW.out, zB.trans (below_put _ _ (by omega))⟩
set_option maxRecDepth 100000 in
set_option maxHeartbeats 4000000 in
theorem way_no {p : Option Addr} (m : Nat) (w : World) (h : NoNet w p) :
    Calls Try.prog 26 #[.pointer p, .int .i64 (m : Nat)] w fun e w' => ∃ x, e = .returned (.tuple #[x, .bool true]) ∧ SRow w' (fun k => w.heap.size ≤ k) x [] ∧ (∀ k, x.ownBlock = some k → w.heap.size ≤ k) ∧ Below w.heap.size w w' := by
  refine (callsIn_wide (n := 3)).1 ?_
  refine callsIn_of_wp_marks Try.func26 rfl trivial ?_ rfl
  simp only [Try.ntmps26, List.size_toArray, List.length_cons, List.length_nil, Nat.reduceAdd, Nat.reduceSub, Array.replicate_succ, Array.replicate_zero, List.push_toArray, List.append_toArray, List.nil_append, List.cons_append]
  have HR := Lib.hid h
  clear h
  gi_wp2
  refine ⟨trivial, (callsIn_wide.2 (all_make (p) _)).mono ?_⟩
  rintro e w2 ⟨rfl, rfl⟩
  have hq := fun W => eql_nilSeq2 W (.func 115) #[] #[.pointer (some ⟨w.heap.size + 1 + 1 + 1 + 1, 0, none⟩)]
  gi_wp2
  refine range_stmt rfl (enters_of Try.func115 (by kernel_rfl) rfl) fun r hst hpe hps has hbo htm => ?_
  clear hq
  obtain ⟨W1, hW1⟩ : ∃ x, x = ((((w.alloc (.cells #[.int .i64 (m : Nat)] 3)).alloc (.cells #[.slice none 0 0] 41)).alloc (.cells #[.bool false] 4)).alloc (.cells #[.slice none 0 0] 41)).alloc (.cells #[.pointer (p)] 40) := ⟨_, rfl⟩
  have hs1 : W1.heap.size = w.heap.size + 5 := by rw [hW1]; simp
  have hbw : Below w.heap.size w W1 := by rw [hW1]; exact (((((Below.refl _ w).alloc (Nat.le_refl _) _).alloc (by simp) _).alloc (by simp; omega) _).alloc (by simp; omega) _).alloc (by simp; omega) _
  have h3 : Blk W1 w.heap.size #[.int .i64 (m : Nat)] 3 := by rw [hW1]; exact ((((Blk.new w _ _).alloc _).alloc _).alloc _).alloc _
  have h4 : Blk W1 (w.heap.size + 1) #[.slice none 0 0] 41 := by rw [hW1]; exact (((Blk.new' _ _ _ (by simp)).alloc _).alloc _).alloc _
  have h5 : Blk W1 (w.heap.size + 2) #[.bool false] 4 := by rw [hW1]; exact ((Blk.new' _ _ _ (by simp)).alloc _).alloc _
  have h6 : Blk W1 (w.heap.size + 3) #[.slice none 0 0] 41 := by rw [hW1]; exact (Blk.new' _ _ _ (by simp)).alloc _
  have h7 : Blk W1 (w.heap.size + 4) #[.pointer (p)] 40 := by rw [hW1]; exact Blk.new' _ _ _ (by simp)
  rw [← hW1]
  obtain ⟨D, hD⟩ : ∃ D, D = W1.heap.size := ⟨_, rfl⟩
  rw [← hD]
  clear hW1
  have hal : Below W1.heap.size W1 ((W1.alloc (.deferred (some []))).alloc (.loop r)) := ((Below.refl _ W1).alloc (Nat.le_refl _) _).alloc (by simp) _
  obtain ⟨W2, hW2⟩ : ∃ x, x = (W1.alloc (.deferred (some []))).alloc (.loop r) := ⟨_, rfl⟩
  have hl2 : W2.heap[D + 1]? = some (.loop r) := by
    rw [hW2, hD]; have := World.alloc_heap_new (W1.alloc (.deferred (some []))) (.loop r); rwa [World.size_alloc] at this
  have hd2 : W2.heap[D]? = some (.deferred (some [])) := by
    rw [hW2, hD]; exact (Below.heap_alloc _ _ _ (by simp)).trans (World.alloc_heap_new W1 _)
  rw [← hW2] at hal ⊢
  have HW := Lib.hid (show WJ w m D r [] W2 from ⟨⟨Nat.zero_le _, h3.on hal, ⟨_, h6.on hal, SRow.nil _ _, (fun k e => by cases e)⟩, hl2, hd2, hbw.trans (hal.mono hbw.size)⟩, h4.on hal, h5.on hal⟩)
  have HDN := Lib.hid (show w.heap.size + 5 ≤ D by omega)
  have HCP := Lib.hid ((h7.on hal).cell 0 rfl)
  have HST := Lib.hid hst
  have HPE := Lib.hid hpe
  have HPS := Lib.hid hps
  have HAS := Lib.hid has
  have HBO := Lib.hid hbo
  have HTM := Lib.hid htm
  obtain ⟨rd, hrd⟩ : ∃ rd : Loop, rd = { r with state := .done, pending := some (.exit 0) } := ⟨_, rfl⟩
  obtain ⟨rb, hrb⟩ : ∃ rb : Loop, rb = { r with state := .busy } := ⟨_, rfl⟩
  have HRD := Lib.hid hrd
  have HRB := Lib.hid hrb
  have HB2 := Lib.hid (hbw.trans (hal.mono hbw.size))
  clear hW2 hl2 hd2 hbw hal hst hpe hps has hbo htm hrd hrb hD hs1 h3 h4 h5 h6 h7
  refine (all1_no (3 - 1) (D + 1) (w.heap.size + 4) p (WJ w m D r []) W2 HCP.out (HR.out.on HB2.out) HW.out).mono ?_
  rintro e Y ⟨⟨u, rfl⟩, hI⟩
  have q1 := run_endLoop (P := Try.prog) hI.t.lp (by rw [HST.out]; simp)
  rw [HPE.out] at q1
  refine ⟨none, _, q1, ?_⟩
  have H2 := Lib.hid (hI.put HDN.out { r with state := .exhausted, pending := none })
  clear hI q1
  obtain ⟨Z, hZ⟩ : ∃ Z, Z = Y.putObj (D + 1) (.loop { r with state := .exhausted, pending := none }) := ⟨_, rfl⟩
  rw [← hZ] at H2 ⊢
  clear hZ
  obtain ⟨vr, hv, hrow, hown⟩ := H2.out.t.row
  obtain ⟨ar, cr, rfl, _⟩ := hrow.form
  have c4 : Z.cell? ⟨w.heap.size + 1 + 1 + 1, 0, none⟩ = some (.slice ar ([] : List Snt).length cr) := hv.cell 0 rfl
  have c5 : Z.cell? ⟨w.heap.size + 1, 0, none⟩ = some (.slice none 0 0) := H2.out.b1.cell 0 rfl
  have c6 : Z.cell? ⟨w.heap.size + 1 + 1, 0, none⟩ = some (.bool false) := H2.out.b2.cell 0 rfl
  have f5 := H2.out.b1.free 0
  have f6 : Z.frozen? ⟨w.heap.size + 1 + 1, 0, none⟩ = false := H2.out.b2.free 0
  have HRW := Lib.hid hrow
  have HOW := Lib.hid hown
  clear hv hrow hown
  gi_wp2
  have HD := HDN.out
  have z5 := (H2.out.b1.set 0 (.slice ar ([] : List Snt).length cr)).set' 0 (.bool true) (g' := w.heap.size + 2) (by omega)
  have z6 := (H2.out.b2.set' 0 (.slice ar ([] : List Snt).length cr) (g' := w.heap.size + 1) (by omega)).set 0 (.bool true)
  have hO : Only (fun k => k = w.heap.size + 1 ∨ k = w.heap.size + 2) Z ((Z.setCell ⟨w.heap.size + 1, 0, none⟩ (.slice ar ([] : List Snt).length cr)).setCell ⟨w.heap.size + 2, 0, none⟩ (.bool true)) := (Only.cell Z (k := w.heap.size + 1) (i := 0) _ (.inl rfl)).trans (Only.cell _ (k := w.heap.size + 2) (i := 0) _ (.inr rfl))
  have zd := (hO.same D (Array.getElem?_eq_some_iff.1 H2.out.t.dfr).1 (by omega)).trans H2.out.t.dfr
  have zR := HRW.out.keep hO (fun k e q => q.elim (fun q => blk_ne_row HRW.out H2.out.b1 (by decide) (q ▸ e)) (fun q => blk_ne_row HRW.out H2.out.b2 (by decide) (q ▸ e))) (fun k cur _ hk q => q.elim (fun q => blk_type_ne hk H2.out.b1 (by decide) q) (fun q => blk_type_ne hk H2.out.b2 (by decide) q))
  have zB := H2.out.t.below.trans (hO.below (fun k q => by omega) H2.out.t.below.size)
  refine ⟨by simp, .inl ⟨_, _, rfl, run_takeDeferred zd, ?_⟩⟩
  have p4 := Blk.cell ((World.putObj_heap_other (by omega)).trans z5 : Blk (World.putObj _ D (.deferred none)) _ _ _) 0 rfl
  have p5 := Blk.cell ((World.putObj_heap_other (by omega)).trans z6 : Blk (World.putObj _ D (.deferred none)) _ _ _) 0 rfl
  exact ⟨_, results_way rfl rfl rfl p4 p5, .slice ar ([] : List Snt).length cr, rfl, zR.keep (F := (· = D)) (Only.put _ _ rfl) (fun k e q => obj_ne_row zR zd (fun _ e => by cases e) (q ▸ e)) (fun k cur _ hk q => blk_ne_obj hk zd (fun _ _ e => by cases e) q), HOW.out, zB.trans (below_put _ _ (by omega))⟩
end Go.Proofs.Ytajjbffppkpjpaa
