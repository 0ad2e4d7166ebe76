import Derived.Test.YtajjbffppkpjpaaNetM
/-
  liverylaw26.told over letters that are told.
-/
namespace Go.Proofs.Ytajjbffppkpjpaa
set_option linter.unusedSimpArgs false
set_option linter.unusedVariables false
open Go.RowKit Go.Shelf
attribute [local go_sem] Oper.semAt_some
theorem equalIn_nilSeq (d : Nat) (w : World) (f : Fn) (xs ys : Array Value) : (Op.equalIn (d + 1) 59 (.func f xs ys) .nilFunc).run Try.prog w = .ok false w := by
  simp [Op.equalIn, run_underlying Try.underlying59]
theorem equal_nilSeq (w : World) (f : Fn) (xs ys : Array Value) : (Op.equal 59 (.func f xs ys) .nilFunc).run Try.prog w = .ok false w := equalIn_nilSeq 9999 w f xs ys
theorem eql_nilSeq (w : World) (f : Fn) (xs ys : Array Value) : (binOp .eql 59 (.func f xs ys) .nilFunc).run Try.prog w = .ok (.bool false) w := by
  simp only [binOp]
  simp [equal_nilSeq]
/-- What told holds between two rounds. -/
structure TJ (w : World) (bl m D : Nat) (r : Loop) (s : List Snt) (X : World) : Prop where
  len : s.length ≤ m
  mst : Blk X w.heap.size #[.int .i64 (m : Nat)] 3
  row : ∃ v, Blk X bl #[v] 41 ∧ SRow X (fun k => w.heap.size ≤ k) v s ∧ ∀ k, v.ownBlock = some k → w.heap.size ≤ k
  lp : X.heap[D + 1]? = some (.loop r)
  dfr : X.heap[D]? = some (.deferred (some []))
  below : Below w.heap.size w X
section
variable {w : World} {bl m D : Nat} {r : Loop} {s : List Snt} {X Y : World}
theorem TJ.on (h : TJ w bl m D r s X) (hb : Below X.heap.size X Y) : TJ w bl m D r s Y := by
  obtain ⟨v, h1, h2, h3⟩ := h.row
  exact ⟨h.len, h.mst.on hb, ⟨v, h1.on hb, h2.on hb, h3⟩, (hb.block _ (Array.getElem?_eq_some_iff.1 h.lp).1).trans h.lp, (hb.block _ (Array.getElem?_eq_some_iff.1 h.dfr).1).trans h.dfr, h.below.trans (hb.mono h.below.size)⟩
theorem obj_ne_row {v : Value} {L : List Snt} {av : Nat → Prop} {k : Nat} {o : Obj} (hR : SRow X av v L) (hk : X.heap[k]? = some o) (ho : ∀ cs, o ≠ .cells cs 47 (0, 0)) : ¬ v.ownBlock = some k := fun e => by
  obtain ⟨ls, h1, _⟩ := hR
  obtain ⟨c, hc⟩ := row_blk' h1 e
  have h2 : X.heap[k]? = some (.cells c 47 (0, 0)) := hc
  rw [hk] at h2
  exact ho c (by simpa using h2)
theorem blk_ne_row {v : Value} {L : List Snt} {av : Nat → Prop} {k : Nat} {cs : Array Value} {t : TypeId} (hR : SRow X av v L) (hk : Blk X k cs t) (ht : t ≠ 47) : ¬ v.ownBlock = some k := obj_ne_row hR hk (fun c e => by cases e; exact ht rfl)
theorem TJ.put (h : TJ w bl m D r s X) (hb : bl < D) (hD : w.heap.size < D) (r' : Loop) : TJ w bl m D r' s (X.putObj (D + 1) (.loop r')) := by
  obtain ⟨v, h1, h2, h3⟩ := h.row
  have hO : Only (· = D + 1) X (X.putObj (D + 1) (.loop r')) := Only.put X _ rfl
  exact ⟨h.len, hO.blk h.mst (by omega), ⟨v, hO.blk h1 (by omega), h2.keep hO (fun k e q => obj_ne_row h2 h.lp (fun _ e => by cases e) (q ▸ e)) (fun k cur _ hk q => by
    subst q
    have h2 : X.heap[D + 1]? = some (.cells cur 5 (0, 0)) := hk
    rw [h.lp] at h2; cases h2), h3⟩, World.putObj_heap_same (Array.getElem?_eq_some_iff.1 h.lp).1, (World.putObj_heap_other (by omega)).trans h.dfr, h.below.trans (below_put _ _ (by omega))⟩
end
/-- The row grows by a letter, and its cell holds it. -/
theorem TJ.snoc {w : World} {bl m D : Nat} {r : Loop} {s : List Snt} {X Z V : World} {x : Snt} {v a' : Value} {g n : Nat} {ls : List (Snt × Value)} (h : TJ w bl m D r s X) (hlt : s.length < m) (hD : w.heap.size < D) (hbD : bl < D) (hbw : w.heap.size < bl)
    (hv : Blk X bl #[v] 41) (hg : X.grownBy Z v.ownBlock) (hO : Z.ownsRow 0 47 3 a' (s.length + 1) (ncells ls ++ [.int .i64 x.f, .int .i64 x.t, .slice (some ⟨g, 0, none⟩) n n])) (hw2 : SnL X (fun k => w.heap.size ≤ k) ls s) (hx : Tn X (fun k => w.heap.size ≤ k) (.slice (some ⟨g, 0, none⟩) n n) x.d)
    (hat : ∀ k, a'.ownBlock = some k → v.ownBlock = some k ∨ k = X.heap.size) (hV : V = Z.setCell ⟨bl, 0, none⟩ a') : TJ w bl m D r (s ++ [x]) V ∧ Below w.heap.size X V ∧ Only (fun k => v.ownBlock = some k ∨ k = bl) X V := by
  obtain ⟨v', h1, h2, h3⟩ := h.row
  have e := (hv.inj h1).1
  simp at e
  subst e
  have hO1 : Only (fun k => v.ownBlock = some k) X Z := Only.grown hg (fun k e => e)
  have hO2 : Only (· = bl) Z V := by rw [hV]; exact Only.cell Z _ rfl
  have hb1 : Blk Z bl #[v] 41 := hO1.blk h1 (blk_ne_row h2 h1 (by decide))
  have n1 := blk_ne_row h2 h.mst (by decide)
  have hR : SRow Z (fun k => w.heap.size ≤ k) a' (s ++ [x]) := ⟨ls ++ [(x, .slice (some ⟨g, 0, none⟩) n n)], by rw [ncells_snoc, List.length_append]; exact hO, (hw2.keep hO1 (fun k cur _ hb => h2.not_u8 hb)).snoc (hx.keep hO1 (fun k cur _ hb => h2.not_u8 hb))⟩
  have hO3 : Only (fun k => w.heap.size ≤ k) X V := (hO1.mono (fun k e => h3 k e)).trans (hO2.mono (fun k e => by omega))
  refine ⟨⟨by rw [List.length_append]; simp; omega, hO2.blk (hO1.blk h.mst n1) (by omega), ⟨a', ?_, hR.keep hO2 (fun k e q => blk_ne_row hR hb1 (by decide) (q ▸ e)) (fun k cur _ hk q => blk_type_ne hk hb1 (by decide) q), fun k e => ?_⟩, ?_, ?_, h.below.trans (hO3.below (fun _ q => q) h.below.size)⟩, hO3.below (fun _ q => q) h.below.size, (hO1.mono (fun k e => .inl e)).trans (hO2.mono (fun k e => .inr e))⟩
  · rw [hV]; exact hb1.set 0 a'
  · rcases hat k e with q | q
    · exact h3 k q
    · rw [q]; exact h.below.size
  · exact (hO2.same _ (Nat.lt_of_lt_of_le (Array.getElem?_eq_some_iff.1 h.lp).1 hO1.size) (by omega)).trans ((hO1.same _ (Array.getElem?_eq_some_iff.1 h.lp).1 (obj_ne_row h2 h.lp (fun _ e => by cases e))).trans h.lp)
  · exact (hO2.same _ (Nat.lt_of_lt_of_le (Array.getElem?_eq_some_iff.1 h.dfr).1 hO1.size) (by omega)).trans ((hO1.same _ (Array.getElem?_eq_some_iff.1 h.dfr).1 (obj_ne_row h2 h.dfr (fun _ e => by cases e))).trans h.dfr)
/-- What it holds when a round has left it. -/
def TZ (w : World) (bl m D : Nat) (r : Loop) (s : List Snt) (X : World) : Prop := ∃ p x, s = p ++ [x] ∧ p.length = m ∧ TJ w bl m D r p X
set_option maxRecDepth 100000 in
set_option maxHeartbeats 4000000 in
theorem toldl_walk {av : Nat → Prop} {L : List Snt} (b1 m : Nat) (hm : m ≤ 1048576) (v : Value) (w : World) (hb1 : w.cell? ⟨b1, 0, none⟩ = some v) (hR : SRow w av v L) (hll : L.length ≤ 1000000) (hd : ∀ s ∈ L, s.d.length ≤ 1000000) :
    Calls Try.prog 33 #[.func (.func 117) #[] #[.pointer (some ⟨b1, 0, none⟩)], .int .i64 (m : Nat)] w fun e w' => ∃ x, e = .returned x ∧ SRow w' (fun k => w.heap.size ≤ k) x (L.take m) ∧ (∀ k, x.ownBlock = some k → w.heap.size ≤ k) ∧ Below w.heap.size w w' := by
  refine (callsIn_wide (n := 3)).1 ?_
  refine callsIn_of_wp_marks Try.func33 rfl trivial ?_ rfl
  simp only [Try.ntmps33, List.size_toArray, List.length_cons, List.length_nil, Nat.reduceAdd, Nat.reduceSub, Array.replicate_succ, Array.replicate_zero, List.push_toArray, List.append_toArray, List.nil_append, List.cons_append]
  have HR := Lib.hid (hR.mono (av' := fun k => k < w.heap.size) (fun k _ l => l))
  have HLT := Lib.hid (fun k e => hR.lt (k := k) e)
  have Hm := Lib.hid hm
  have H1 := Lib.hid hb1
  have HLL := Lib.hid hll
  have HDD := Lib.hid hd
  have hq := fun W => eql_nilSeq W (.func 117) #[] #[.pointer (some ⟨b1, 0, none⟩)]
  clear hR hm hb1 hll hd
  gi_wp2
  refine range_stmt rfl (enters_of Try.func117 (by kernel_rfl) rfl) fun r hst hpe hps has hbo htm => ?_
  clear hq
  obtain ⟨W1, hW1⟩ : ∃ x, x = (w.alloc (.cells #[.int .i64 (m : Nat)] 3)).alloc (.cells #[.slice none 0 0] 41) := ⟨_, rfl⟩
  have hs1 : W1.heap.size = w.heap.size + 2 := by rw [hW1]; simp
  have hbw : Below w.heap.size w W1 := by rw [hW1]; exact below_boxes w _ _
  have h3 : Blk W1 w.heap.size #[.int .i64 (m : Nat)] 3 := by rw [hW1]; exact (Blk.new w _ _).alloc _
  have h4 : Blk W1 (w.heap.size + 1) #[.slice none 0 0] 41 := by rw [hW1]; exact Blk.new' _ _ _ (by simp)
  rw [← hW1]
  obtain ⟨D, hD⟩ : ∃ D, D = W1.heap.size := ⟨_, rfl⟩
  rw [← hD]
  clear hW1
  have hal : Below W1.heap.size W1 ((W1.alloc (.deferred (some []))).alloc (.loop r)) := ((Below.refl _ W1).alloc (Nat.le_refl _) _).alloc (by simp) _
  obtain ⟨W2, hW2⟩ : ∃ x, x = (W1.alloc (.deferred (some []))).alloc (.loop r) := ⟨_, rfl⟩
  have hl2 : W2.heap[D + 1]? = some (.loop r) := by
    rw [hW2, hD]; have := World.alloc_heap_new (W1.alloc (.deferred (some []))) (.loop r); rwa [World.size_alloc] at this
  have hd2 : W2.heap[D]? = some (.deferred (some [])) := by
    rw [hW2, hD]; exact (Below.heap_alloc _ _ _ (by simp)).trans (World.alloc_heap_new W1 _)
  have hs2 : W2.heap.size = D + 2 := by rw [hW2, hD]; simp
  rw [← hW2] at hal ⊢
  have HW := Lib.hid (show TJ w (w.heap.size + 1) m D r [] W2 from ⟨Nat.zero_le _, h3.on hal, ⟨_, h4.on hal, SRow.nil _ _, (fun k e => by cases e)⟩, hl2, hd2, hbw.trans (hal.mono hbw.size)⟩)
  have HDN := Lib.hid (show w.heap.size + 2 = D by omega)
  have HST := Lib.hid hst
  have HPE := Lib.hid hpe
  have HPS := Lib.hid hps
  have HAS := Lib.hid has
  have HBO := Lib.hid hbo
  have HTM := Lib.hid htm
  obtain ⟨rd, hrd⟩ : ∃ rd : Loop, rd = { r with state := .done, pending := some (.exit 0) } := ⟨_, rfl⟩
  obtain ⟨rb, hrb⟩ : ∃ rb : Loop, rb = { r with state := .busy } := ⟨_, rfl⟩
  have HRD := Lib.hid hrd
  have HRB := Lib.hid hrb
  have HB2 := Lib.hid (hbw.trans (hal.mono hbw.size))
  clear hW2 hl2 hd2 hbw hal hst hpe hps has hbo htm hrd hrb hD hs1 hs2 h3 h4
  refine (told1_in (3 - 1) (D + 1) w.heap.size b1 L v (TJ w (w.heap.size + 1) m D r) (TZ w (w.heap.size + 1) m D rd)
    (fun s X Y h hb => h.on hb) HLT.out (fun k h => h) HLL.out HDD.out ?round W2 HB2.out.size
    ((HB2.out.cell (p := ⟨b1, 0, none⟩) (block_lt_of_cell H1.out)).trans H1.out) (HR.out.on HB2.out) HW.out).mono ?behind
  case round =>
    intro pre x X g n hpre hX hBk hn hge
    refine round_at hX.lp (by rw [HPS.out]; rfl) ?_
    rw [HAS.out, HPS.out, HTM.out, HBO.out]
    have HX := Lib.hid hX
    have HG := Lib.hid (show Tn X (fun k => w.heap.size ≤ k) (.slice (some ⟨g, 0, none⟩) n n) x.d from Tn.of_blkn hBk hn hge)
    clear hX hBk hn hge hpre
    gi_wp2
    have hb1 := below_one' X (.cells #[.int .i64 x.f, .int .i64 x.t, .slice (some ⟨g, 0, none⟩) n n] 47)
    have hX1 := HX.out.on hb1
    refine ⟨_, run_beginRound hX1.lp HST.out, ?_⟩
    rw [← HRB.out]
    have hD1 : w.heap.size + 1 < D := by have := HDN.out; omega
    have hX2 := hX1.put hD1 (by omega) rb
    have hlt1 : D + 1 < X.heap.size := (Array.getElem?_eq_some_iff.1 HX.out.lp).1
    have hBX : Blk ((X.alloc (.cells #[.int .i64 x.f, .int .i64 x.t, .slice (some ⟨g, 0, none⟩) n n] 47)).putObj (D + 1) (.loop rb)) X.heap.size #[.int .i64 x.f, .int .i64 x.t, .slice (some ⟨g, 0, none⟩) n n] 47 := (World.putObj_heap_other (by omega)).trans (Blk.new X _ _)
    have hbx : Below w.heap.size X ((X.alloc (.cells #[.int .i64 x.f, .int .i64 x.t, .slice (some ⟨g, 0, none⟩) n n] 47)).putObj (D + 1) (.loop rb)) := (hb1.mono HX.out.below.size).trans (below_put _ _ (by omega))
    have hG2 : Tn ((X.alloc (.cells #[.int .i64 x.f, .int .i64 x.t, .slice (some ⟨g, 0, none⟩) n n] 47)).putObj (D + 1) (.loop rb)) (fun k => w.heap.size ≤ k) (.slice (some ⟨g, 0, none⟩) n n) x.d := (HG.out.on hb1).keep (F := (· = D + 1)) (Only.put _ _ rfl) (fun k cur _ hk q => by
      subst q
      have h2 : (X.alloc (.cells #[.int .i64 x.f, .int .i64 x.t, .slice (some ⟨g, 0, none⟩) n n] 47)).heap[D + 1]? = some (.cells cur 5 (0, 0)) := hk
      rw [hX1.lp] at h2; cases h2)
    obtain ⟨X2, hX2e⟩ : ∃ y, y = (X.alloc (.cells #[.int .i64 x.f, .int .i64 x.t, .slice (some ⟨g, 0, none⟩) n n] 47)).putObj (D + 1) (.loop rb) := ⟨_, rfl⟩
    rw [← hX2e] at hX2 hBX hbx hG2 ⊢
    have HX2 := Lib.hid hX2
    have HBX := Lib.hid hBX
    have HBB := Lib.hid hbx
    have HG2 := Lib.hid hG2
    obtain ⟨bx, hbxe⟩ : ∃ y, y = X.heap.size := ⟨_, rfl⟩
    rw [← hbxe] at HBX ⊢
    obtain ⟨vr, hv, hrow, hown⟩ := hX2.row
    obtain ⟨ar, cr, rfl, _⟩ := hrow.form
    obtain ⟨k, hk⟩ : ∃ k, k = pre.length := ⟨_, rfl⟩
    rw [← hk] at hv
    have HK := Lib.hid hk
    have HV := Lib.hid hv
    have c3 : X2.cell? ⟨w.heap.size, 0, none⟩ = some (.int .i64 (m : Nat)) := hX2.mst.cell 0 rfl
    have c4 : X2.cell? ⟨w.heap.size + 1, 0, none⟩ = some (.slice ar k cr) := hv.cell 0 rfl
    have HLE := Lib.hid hX2.len
    obtain ⟨ls, hw, hw2⟩ := hrow
    have HWS := Lib.hid (show X2.ownsRow 0 47 3 (.slice ar k cr) k (ncells ls) by rw [hk]; exact hw)
    have HW2 := Lib.hid hw2
    clear hb1 hX1 hX2 hBX hbx hG2 hX2e hlt1 hbxe hk hv hown hw hw2 hD1
    by_cases hge : m ≤ k
    · have g1 : (m : Int) ≤ (k : Int) := by omega
      gi_wp2
      have e1 : ({ rb with state := if (some (Code.exit 0)).isNone then .ready else .done, pending := some (.exit 0) } : Loop) = rd := by rw [HRD.out, HRB.out]; rfl
      have q1 := run_endRound (P := Try.prog) (some (.exit 0)) HX2.out.lp
      rw [e1] at q1
      exact ⟨_, _, q1, .inr ⟨rfl, pre, x, rfl, by have := HLE.out; have := HK.out; omega, HX2.out.put (by have := HDN.out; omega) (by have := HDN.out; omega) rd⟩⟩
    · have g1 : ¬ (m : Int) ≤ (k : Int) := by omega
      have hbn := below_one' X2 (.cells #[.int .i64 x.f, .int .i64 x.t, .slice (some ⟨g, 0, none⟩) n n] 47)
      have HBN := Lib.hid hbn
      have HBW2 := Lib.hid HX2.out.below.size
      have BJ := Lib.hid (Src.of_blk (show Blk (X2.alloc (.cells #[.int .i64 x.f, .int .i64 x.t, .slice (some ⟨g, 0, none⟩) n n] 47)) X2.heap.size ([.int .i64 x.f, .int .i64 x.t, .slice (some ⟨g, 0, none⟩) n n] : List Value).toArray 47 from Blk.new X2 _ _))
      have HV3 := Lib.hid (HV.out.on hbn)
      have HX3 := Lib.hid (HX2.out.on hbn)
      have HWS3 := Lib.hid (row_same' HWS.out fun j e => hbn.block j (row_blk' HWS.out e).choose_spec.lt)
      have HW3 := Lib.hid (HW2.out.keep (F := fun _ => False) (Only.of_below hbn) (fun _ _ _ _ q => q))
      have HG3 := Lib.hid (HG2.out.on hbn)
      have H63 := Lib.hid (show k + 1 ≤ maxLen by have := Hm.out; unfold maxLen; omega)
      have HBY := Lib.hid (show (k + 1) * 40 ≤ 140737488355328 by have := Hm.out; omega)
      have HNB := Lib.hid (show ¬ (Value.slice ar k cr).ownBlock = some (w.heap.size + 1) from fun e => by
        obtain ⟨c, hc⟩ := row_blk' HWS.out e
        exact blk_type_ne hc HV.out (by decide) rfl)
      have HBXC := Lib.hid HBX.out
      have d0 := HBX.out.cell 0 rfl
      have d1 := HBX.out.cell 1 rfl
      have d2 := HBX.out.cell 2 rfl
      have HLM := Lib.hid (show pre.length < m by have := HK.out; omega)
      clear hbn HX2 HWS HW2 HG2
      gi_wp2_with (refine wpListIn_append_src rfl (.tmp 15) (.tmp 17) 41 47 rfl (.agg #[.int .i64 0, .int .i64 0, .slice none 0 0]) 3 40 Try.underlying41 info_sent (by rfl) (by decide) (.slice ar k cr) k (ncells ls) (by rfl) HWS3.out _ 1 1 [.int .i64 x.f, .int .i64 x.t, .slice (some ⟨g, 0, none⟩) n n] (by rfl) (by rfl) BJ.out (by simp [Value.oneCell']) H63.out HBY.out ?_; intro a' c' Z hO hg hat; have HO := Lib.hid hO; have HGR := Lib.hid hg; have HAT := Lib.hid hat; have z1 := (Only.grown (S := fun j => (Value.slice ar k cr).ownBlock = some j) hg (fun j e => e)).blk HV3.out HNB.out; have y1 := z1.cell 0 rfl; have y2 := z1.free 0; clear hO hg hat z1 c3 c4 d0 d1 d2)
      have HS := Lib.hid (HX3.out.snoc (x := x) (a' := .slice a' (k + 1) c') (V := Z.setCell ⟨w.heap.size + 1, 0, none⟩ (.slice a' (k + 1) c')) HLM.out (by have := HDN.out; omega) (by have := HDN.out; omega) (by omega) HV3.out HGR.out (by rw [← HK.out]; exact HO.out) HW3.out HG3.out HAT.out rfl)
      have e1 : ({ rb with state := if (none : Option Code).isNone then .ready else .done, pending := none } : Loop) = r := by
        rw [HRB.out]
        have h1 := HST.out
        have h2 := HPE.out
        cases r
        simp_all
      have q1 := run_endRound (P := Try.prog) none HS.out.1.lp
      rw [e1] at q1
      exact ⟨_, _, q1, .inl ⟨rfl, HS.out.1.put (by have := HDN.out; omega) (by have := HDN.out; omega) r, (HBB.out.trans (HBN.out.mono HBW2.out)).trans (HS.out.2.1.trans (below_put _ _ (by have := HDN.out; omega)))⟩⟩
  case behind =>
    rintro e Y ⟨⟨u, rfl⟩, (hI | ⟨k, hk, p, x, rfl, hpm, hI⟩)⟩
    · have q1 := run_endLoop (P := Try.prog) hI.lp (by rw [HST.out]; simp)
      rw [HPE.out] at q1
      refine ⟨none, _, q1, ?_⟩
      have H2 := Lib.hid (hI.put (by have := HDN.out; omega) (by have := HDN.out; omega) { r with state := .exhausted, pending := none })
      have HLE := Lib.hid hI.len
      clear hI q1
      obtain ⟨Z, hZ⟩ : ∃ Z, Z = Y.putObj (D + 1) (.loop { r with state := .exhausted, pending := none }) := ⟨_, rfl⟩
      rw [← hZ] at H2 ⊢
      clear hZ
      obtain ⟨vr, hv, hrow, hown⟩ := H2.out.row
      obtain ⟨ar, cr, rfl, _⟩ := hrow.form
      have c4 : Z.cell? ⟨w.heap.size + 1, 0, none⟩ = some (.slice ar L.length cr) := hv.cell 0 rfl
      have HRW := Lib.hid hrow
      have HOW := Lib.hid hown
      have HE := Lib.hid (show L.take m = L from List.take_of_length_le HLE.out)
      clear hv hrow hown
      gi_wp2
      refine ⟨by simp, .inl ⟨_, _, rfl, run_takeDeferred H2.out.dfr, ?_⟩⟩
      exact ⟨_, results_tmp rfl _ _ _, .slice ar L.length cr, rfl, by rw [HE.out]; exact HRW.out.keep (F := (· = D)) (Only.put _ _ rfl) (fun k e q => obj_ne_row HRW.out H2.out.dfr (fun _ e => by cases e) (q ▸ e)) (fun k cur _ hk q => by
        subst q
        have h2 : Z.heap[k]? = some (.cells cur 5 (0, 0)) := hk
        rw [H2.out.dfr] at h2; cases h2), HOW.out, H2.out.below.trans (below_put _ _ (by have := HDN.out; omega))⟩
    · have q1 := run_endLoop (P := Try.prog) hI.lp (by rw [HRD.out]; simp)
      rw [show rd.pending = some (Code.exit 0) by rw [HRD.out]] at q1
      refine ⟨some (.exit 0), _, q1, ?_⟩
      have H2 := Lib.hid (hI.put (by have := HDN.out; omega) (by have := HDN.out; omega) { rd with state := .exhausted, pending := some (.exit 0) })
      have HE := Lib.hid (show L.take m = p by
        obtain ⟨t, ht⟩ := hk
        rw [← ht, List.append_assoc, ← hpm, List.take_left'] <;> rfl)
      clear hI q1 hk hpm
      obtain ⟨Z, hZ⟩ : ∃ Z, Z = Y.putObj (D + 1) (.loop { rd with state := .exhausted, pending := some (.exit 0) }) := ⟨_, rfl⟩
      rw [← hZ] at H2 ⊢
      clear hZ
      obtain ⟨vr, hv, hrow, hown⟩ := H2.out.row
      obtain ⟨ar, cr, rfl, _⟩ := hrow.form
      have c4 : Z.cell? ⟨w.heap.size + 1, 0, none⟩ = some (.slice ar p.length cr) := hv.cell 0 rfl
      have HRW := Lib.hid hrow
      have HOW := Lib.hid hown
      clear hv hrow hown
      gi_wp2
      refine ⟨by simp, .inl ⟨_, _, rfl, run_takeDeferred H2.out.dfr, ?_⟩⟩
      exact ⟨_, results_tmp rfl _ _ _, .slice ar p.length cr, rfl, by rw [HE.out]; exact HRW.out.keep (F := (· = D)) (Only.put _ _ rfl) (fun k e q => obj_ne_row HRW.out H2.out.dfr (fun _ e => by cases e) (q ▸ e)) (fun k cur _ hk q => by
        subst q
        have h2 : Z.heap[k]? = some (.cells cur 5 (0, 0)) := hk
        rw [H2.out.dfr] at h2; cases h2), HOW.out, H2.out.below.trans (below_put _ _ (by have := HDN.out; omega))⟩
end Go.Proofs.Ytajjbffppkpjpaa
