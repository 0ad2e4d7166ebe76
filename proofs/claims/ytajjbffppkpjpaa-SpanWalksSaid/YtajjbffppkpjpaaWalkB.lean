import Derived.Test.YtajjbffppkpjpaaWalkA
/-
  span.All's closure: for every loop body that keeps what is not its own.
-/
namespace Go.Proofs.Ytajjbffppkpjpaa
open Go.RowKit Go.Shelf
attribute [local go_sem] Oper.semAt_some
/-- Blocks at or behind B that the body does not write may have turned, and new ones come. -/
structure Turn (B : Nat) (Wr : World → Nat → Prop) (W W' : World) : Prop where
  os : W'.os = W.os
  tape : W'.tape = W.tape
  output : W'.output = W.output
  size : W.heap.size ≤ W'.heap.size
  same : ∀ k, k < W.heap.size → W'.heap[k]? = W.heap[k]? ∨ (B ≤ k ∧ ¬ Wr W k)
theorem Turn.below {B : Nat} {Wr : World → Nat → Prop} {W W' : World} (h : Below W.heap.size W W') : Turn B Wr W W' := ⟨h.os, h.tape, h.output, h.size, fun k hk => .inl (h.block k hk)⟩
theorem Turn.put {B : Nat} {Wr : World → Nat → Prop} (W : World) {k : Nat} (o : Obj) (hk : B ≤ k) (hw : ¬ Wr W k) : Turn B Wr W (W.putObj k o) :=
  ⟨rfl, rfl, rfl, by simp, fun j _ => by
    by_cases e : j = k
    · subst e; exact .inr ⟨hk, hw⟩
    · exact .inl (World.putObj_heap_other (fun h => e h))⟩
/-- What a round keeps: all but its own blocks. -/
structure Kept (n₀ : Nat) (Wr : World → Nat → Prop) (W W' : World) : Prop where
  below : Below n₀ W W'
  size : W.heap.size ≤ W'.heap.size
  same : ∀ k, k < W.heap.size → ¬ Wr W k → W'.heap[k]? = W.heap[k]? ∧ ¬ Wr W' k
def idxs (l : List Rg) : List Nat := l.flatMap fun r => List.range' r.lo (r.hi - r.lo)
theorem idxs_snoc (l : List Rg) (r : Rg) : idxs (l ++ [r]) = idxs l ++ List.range' r.lo (r.hi - r.lo) := by simp [idxs]
/-- What the caller of an iterator brings. -/
structure Body (B n₀ : Nat) (Wr : World → Nat → Prop) (L : Nat) (J Jx : List Nat → World → Prop) : Prop where
  j : ∀ s W W', J s W → Turn B Wr W W' → J s W' ∧ ∀ k, Wr W' k → Wr W k
  jx : ∀ s W W', Jx s W → Turn B Wr W W' → Jx s W' ∧ ∀ k, Wr W' k → Wr W k
  wr : ∀ s W k, J s W → Wr W k → n₀ ≤ k ∧ k < W.heap.size
  y : ∀ q pre (x : Nat) W, x < 18446744073709551616 → J pre W → YieldAt Fence.wide q Try.prog L #[.int .u64 (x : Nat)] W fun e W' =>
      Kept n₀ Wr W W' ∧ ((e = .returned (.bool true) ∧ J (pre ++ [x]) W') ∨ (e = .returned (.bool false) ∧ Jx (pre ++ [x]) W'))
theorem Kept.keep {n₀ : Nat} {Wr : World → Nat → Prop} {W W' : World} (h : Kept n₀ Wr W W') {k : Nat} {o : Obj} (hk : W.heap[k]? = some o) (hw : ¬ Wr W k) : W'.heap[k]? = some o ∧ ¬ Wr W' k := by
  have := h.same k (Array.getElem?_eq_some_iff.1 hk).1 hw
  exact ⟨this.1.trans hk, this.2⟩
/-- What the loop over the ranges holds between two rounds. -/
structure In2 (J : List Nat → World → Prop) (Wr : World → Nat → Prop) (L D b2 : Nat) (r : Loop) (s : List Nat) (X : World) : Prop where
  j : J s X
  lp : X.heap[D + 1]? = some (.loop r)
  dfr : X.heap[D]? = some (.deferred (some []))
  box : Blk X b2 #[.func (.yield L) #[] #[]] 120
  w1 : ¬ Wr X (D + 1)
  w2 : ¬ Wr X D
  w3 : ¬ Wr X b2
theorem In2.on {B : Nat} {Wr : World → Nat → Prop} {J : List Nat → World → Prop} (hB : ∀ s W W', J s W → Turn B Wr W W' → J s W' ∧ ∀ k, Wr W' k → Wr W k) {L D b2 : Nat} {r : Loop} {s : List Nat} {X Y : World} (h : In2 J Wr L D b2 r s X) (hb : Below X.heap.size X Y) : In2 J Wr L D b2 r s Y := by
  obtain ⟨h1, h2⟩ := hB s X Y h.j (Turn.below hb)
  have key : ∀ {k o}, X.heap[k]? = some o → Y.heap[k]? = some o := fun {k o} e => (hb.block k (Array.getElem?_eq_some_iff.1 e).1).trans e
  exact ⟨h1, key h.lp, key h.dfr, h.box.on hb, fun q => h.w1 (h2 _ q), fun q => h.w2 (h2 _ q), fun q => h.w3 (h2 _ q)⟩
theorem In2.put {B : Nat} {Wr : World → Nat → Prop} {J : List Nat → World → Prop} (hB : ∀ s W W', J s W → Turn B Wr W W' → J s W' ∧ ∀ k, Wr W' k → Wr W k) {L D b2 : Nat} {r : Loop} {s : List Nat} {X : World} (h : In2 J Wr L D b2 r s X) (hD : B ≤ D) (hb2 : b2 < D) (r' : Loop) : In2 J Wr L D b2 r' s (X.putObj (D + 1) (.loop r')) := by
  obtain ⟨h1, h2⟩ := hB s X _ h.j (Turn.put X (.loop r') (by omega) h.w1)
  exact ⟨h1, World.putObj_heap_same (Array.getElem?_eq_some_iff.1 h.lp).1, (World.putObj_heap_other (by omega)).trans h.dfr, (World.putObj_heap_other (by omega)).trans h.box, fun q => h.w1 (h2 _ q), fun q => h.w2 (h2 _ q), fun q => h.w3 (h2 _ q)⟩
theorem In2.keep {n₀ : Nat} {Wr : World → Nat → Prop} {J J' : List Nat → World → Prop} {L D b2 : Nat} {r : Loop} {s s' : List Nat} {X Y : World} (h : In2 J Wr L D b2 r s X) (hk : Kept n₀ Wr X Y) (hj : J' s' Y) : In2 J' Wr L D b2 r s' Y :=
  ⟨hj, (hk.keep h.lp h.w1).1, (hk.keep h.dfr h.w2).1, (hk.keep h.box h.w3).1, (hk.keep h.lp h.w1).2, (hk.keep h.dfr h.w2).2, (hk.keep h.box h.w3).2⟩
theorem below_put {n₀ k : Nat} (W : World) (o : Obj) (h : n₀ ≤ k) : Below n₀ W (W.putObj k o) := ⟨rfl, rfl, rfl, by simp, fun i hi => World.putObj_heap_other (by omega)⟩
theorem range_pre (lo n m : Nat) (h : n ≤ m) : List.range' lo n <+: List.range' lo m := by
  refine ⟨List.range' (lo + n) (m - n), ?_⟩
  rw [List.range'_append_1]
  congr 1; omega
theorem range_snoc (lo i : Nat) (h : lo ≤ i) : List.range' lo (i + 1 - lo) = List.range' lo (i - lo) ++ [i] := by
  rw [show i + 1 - lo = (i - lo) + 1 by omega, List.range'_concat]
  congr 2; omega
set_option maxRecDepth 100000 in
set_option maxHeartbeats 4000000 in
theorem all1_in (m L n₀ b1 B : Nat) (l : List Rg) (a : Option Addr) (n c : Nat) (J Jx : List Nat → World → Prop) (Wr : World → Nat → Prop) (hBd : Body B n₀ Wr L J Jx)
    (hold : ∀ g o, a = some ⟨g, o, none⟩ → 0 < l.length → g < n₀) (W : World) (hBs : B ≤ W.heap.size) (hnB : n₀ ≤ B) (hb1 : W.cell? ⟨b1, 0, none⟩ = some (.slice a n c)) (hL : RgsIn W a n c l) (h0 : J [] W) :
    CallsIn Fence.wide m Try.prog 101 #[.func (.yield L) #[] #[], .pointer (some ⟨b1, 0, none⟩)] W fun e W' => (∃ v, e = .returned v) ∧
      ((∃ k, (MayP l → k = idxs l) ∧ (¬ MayP l → k = []) ∧ J k W') ∨ (∃ k, MayP l ∧ k <+: idxs l ∧ Jx k W')) := by
  have hb1' : (W.alloc (.cells #[.func (.yield L) #[] #[]] 120)).cell? ⟨b1, 0, none⟩ = some (.slice a n c) := ((below_one1 W _).cell (p := ⟨b1, 0, none⟩) (block_lt_of_cell hb1)).trans hb1
  refine callsIn_of_wp_marks Try.func101 rfl trivial ?_ rfl
  simp only [Try.ntmps101, List.size_toArray, List.length_cons, List.length_nil, Nat.reduceAdd, Nat.reduceSub, Array.replicate_succ, Array.replicate_zero, List.push_toArray, List.append_toArray, List.nil_append, List.cons_append]
  have HL := Lib.hid hL
  have HB := Lib.hid hBd
  have H0 := Lib.hid h0
  have HLT := Lib.hid (block_lt_of_cell hb1)
  clear hL hBd h0
  gi_wp2
  refine ⟨trivial, fun h => (by cases h), (callsIn_wide.2 (ranges_walk a n c _)).mono ?_⟩
  rintro e w2 ⟨rfl, rfl⟩
  gi_wp2
  refine range_stmt rfl (enters_of Try.func118 (by kernel_rfl) rfl) fun r hst hpe hps has hbo htm => ?_
  have hbw := below_two2 W (.cells #[.func (.yield L) #[] #[]] 120) (.cells #[.slice a n c] 22)
  have BX := (Blk.new W #[.func (.yield L) #[] #[]] 120).alloc (.cells #[.slice a n c] 22)
  have BS := Blk.new' (W.alloc (.cells #[.func (.yield L) #[] #[]] 120)) #[.slice a n c] 22 (g := W.heap.size + 1) (by simp)
  have hsz : W.heap.size + 2 = ((W.alloc (.cells #[.func (.yield L) #[] #[]] 120)).alloc (.cells #[.slice a n c] 22)).heap.size := by simp
  obtain ⟨W1, hW1⟩ : ∃ x, x = ((W.alloc (.cells #[.func (.yield L) #[] #[]] 120)).alloc (.cells #[.slice a n c] 22)) := ⟨_, rfl⟩
  rw [← hW1] at hbw BX BS hsz ⊢
  obtain ⟨D, hD⟩ : ∃ D, D = W1.heap.size := ⟨_, rfl⟩
  rw [← hD] at hsz ⊢
  clear hW1
  have hal : Below W1.heap.size W1 ((W1.alloc (.deferred (some []))).alloc (.loop r)) := ((Below.refl _ W1).alloc (Nat.le_refl _) _).alloc (by simp) _
  obtain ⟨W2, hW2⟩ : ∃ x, x = (W1.alloc (.deferred (some []))).alloc (.loop r) := ⟨_, rfl⟩
  have hl2 : W2.heap[D + 1]? = some (.loop r) := by
    rw [hW2, hD]; have := World.alloc_heap_new (W1.alloc (.deferred (some []))) (.loop r); rwa [World.size_alloc] at this
  have hd2 : W2.heap[D]? = some (.deferred (some [])) := by
    rw [hW2, hD]; exact (Below.heap_alloc _ _ _ (by simp)).trans (World.alloc_heap_new W1 _)
  rw [← hW2] at hal ⊢
  have hb2 : Below W.heap.size W W2 := hbw.trans (hal.mono hbw.size)
  have BX2 := BX.on hal
  have BS2 := BS.on hal
  have hwn : ∀ k, W.heap.size ≤ k → ¬ Wr W2 k := fun k hk q => by
    have := (HB.out.wr _ _ _ H0.out ((HB.out.j _ _ _ H0.out (Turn.below hb2)).2 k q)).2
    omega
  have HI2 := Lib.hid (show In2 J Wr L D W.heap.size r [] W2 from ⟨(HB.out.j _ _ _ H0.out (Turn.below hb2)).1, hl2, hd2, BX2, hwn _ (by omega), hwn _ (by omega), hwn _ (Nat.le_refl _)⟩)
  have HBD := Lib.hid (show B ≤ D by omega)
  have HXD := Lib.hid (show W.heap.size < D by omega)
  have HNX := Lib.hid (show n₀ ≤ W.heap.size by omega)
  have HST := Lib.hid hst
  have HPE := Lib.hid hpe
  have HPS := Lib.hid hps
  have HAS := Lib.hid has
  have HBO := Lib.hid hbo
  have HTM := Lib.hid htm
  obtain ⟨rd, hrd⟩ : ∃ rd : Loop, rd = { r with state := .done, pending := some .ret } := ⟨_, rfl⟩
  obtain ⟨rb, hrb⟩ : ∃ rb : Loop, rb = { r with state := .busy } := ⟨_, rfl⟩
  have HRD := Lib.hid hrd
  have HRB := Lib.hid hrb
  clear hW2 hl2 hd2 hbw BX BS hal hst hpe hps has hbo htm hrd hrb hD hsz
  refine (ranges1_in (m - 1) (D + 1) n₀ (W.heap.size + 1) l a n c (fun s X => In2 J Wr L D W.heap.size r (idxs s) X)
    (fun s X => ∃ k, k <+: idxs s ∧ In2 Jx Wr L D W.heap.size rd k X)
    (fun s X Y h hb => h.on HB.out.j hb) hold ?round W2 (BS2.cell 0 rfl) (HL.out.on hb2) HI2.out).mono ?behind
  case round =>
    intro pre x X hmay hpre hX
    have hmx : x ∈ l := hpre.subset (by simp)
    have hone : oneP x := ⟨hmay.1.posAll x hmx, hmay.2.1 x hmx⟩
    have hx1 := hone.1
    have hx2 : x.hi ≤ 1152921504606846976 := hone.2
    have HX := Lib.hid hX
    refine round_at hX.lp (by rw [HPS.out]; rfl) ?_
    rw [HAS.out, HPS.out, HTM.out, HBO.out]
    clear hX hmay hpre hmx hone
    gi_wp2
    have hX1 := HX.out.on HB.out.j (below_one1 X (.cells #[.int .u64 (x.lo : Nat), .int .u64 (x.hi : Nat)] 25))
    refine ⟨_, run_beginRound hX1.lp HST.out, ?_⟩
    rw [← HRB.out]
    have hX2 := hX1.put HB.out.j HBD.out HXD.out rb
    have hb4n := Blk.new X #[.int .u64 (x.lo : Nat), .int .u64 (x.hi : Nat)] 25
    have hlt1 : D + 1 < X.heap.size := (Array.getElem?_eq_some_iff.1 HX.out.lp).1
    have hb4 : Blk ((X.alloc (.cells #[.int .u64 (x.lo : Nat), .int .u64 (x.hi : Nat)] 25)).putObj (D + 1) (.loop rb)) X.heap.size #[.int .u64 (x.lo : Nat), .int .u64 (x.hi : Nat)] 25 := (World.putObj_heap_other (by omega)).trans hb4n
    have hw4 : ¬ Wr ((X.alloc (.cells #[.int .u64 (x.lo : Nat), .int .u64 (x.hi : Nat)] 25)).putObj (D + 1) (.loop rb)) X.heap.size := fun q => by
      have q1 := (HB.out.j _ _ _ hX1.j (Turn.put _ (.loop rb) (by have := HBD.out; omega) hX1.w1)).2 _ q
      have q2 := (HB.out.j _ _ _ HX.out.j (Turn.below (below_one1 X (.cells #[.int .u64 (x.lo : Nat), .int .u64 (x.hi : Nat)] 25)))).2 _ q1
      have := (HB.out.wr _ _ _ HX.out.j q2).2
      omega
    have hbn : Below n₀ X ((X.alloc (.cells #[.int .u64 (x.lo : Nat), .int .u64 (x.hi : Nat)] 25)).putObj (D + 1) (.loop rb)) :=
      ((Below.refl n₀ X).alloc (by have := HNX.out; have := HXD.out; omega) _).trans (below_put _ _ (by have := HNX.out; have := HXD.out; omega))
    obtain ⟨X2, hX2e⟩ : ∃ y, y = (X.alloc (.cells #[.int .u64 (x.lo : Nat), .int .u64 (x.hi : Nat)] 25)).putObj (D + 1) (.loop rb) := ⟨_, rfl⟩
    rw [← hX2e] at hX2 hb4 hw4 hbn ⊢
    have HI0 := Lib.hid hX2
    have HB4 := Lib.hid hb4
    have HW4 := Lib.hid hw4
    have HBN := Lib.hid hbn
    have c0 := hb4.cell 0 rfl
    have c1 := hb4.cell 1 rfl
    have HXN := Lib.hid (show n₀ ≤ X.heap.size by have := HNX.out; have := HXD.out; omega)
    obtain ⟨b4, hb4e⟩ : ∃ y, y = X.heap.size := ⟨_, rfl⟩
    rw [← hb4e] at HB4 HW4 c0 c1 ⊢
    clear hX1 hX2 hb4n hb4 hw4 hbn hX2e hb4e hlt1
    gi_wp2
    gi_loopw [4] (fun v Y => ∃ i : Nat, x.lo ≤ i ∧ i ≤ x.hi ∧ v = .int .u64 (i : Nat) ∧ Hid (In2 J Wr L D W.heap.size rb (idxs pre ++ List.range' x.lo (i - x.lo)) Y) ∧ Hid (Blk Y b4 #[.int .u64 (x.lo : Nat), .int .u64 (x.hi : Nat)] 25) ∧ Hid (¬ Wr Y b4) ∧ Hid (Below n₀ X Y)) (fun v _ => x.hi - (intOf v).toNat)
    case atStart => exact ⟨x.lo, Nat.le_refl _, by omega, rfl, by rw [Nat.sub_self, show idxs pre ++ List.range' x.lo 0 = idxs pre by simp]; exact HI0.out, HB4.out, HW4.out, HBN.out⟩
    case round =>
      obtain ⟨i, hi1, hi2, rfl, HI, HB4, HW4, HBN⟩ := hrel
      have c1 := HB4.out.cell 1 rfl
      have c2 := HI.out.box.cell 0 rfl
      have HS := Lib.hid (range_snoc x.lo i hi1)
      by_cases hlt : i < x.hi
      · obtain ⟨fn, tmps, assign, body, hy, hR⟩ := HB.out.y (m - 1 - 1 - 1) _ i wr (by omega) HI.out.j
        have gw : IntKind.u64.wrap ((i : Int) + 1) = ((i + 1 : Nat) : Int) := by rw [IntKind.wrap_u64]; omega
        have hlt2 : (i : Int) < (x.hi : Int) := by omega
        gi_wp2
        refine ⟨fun h => (by cases h), (show RoundIn (Fence.wide.inRound (D + 1)) _ Try.prog L fn tmps assign body wr _ from hR).mono ?_⟩
        rintro e Y ⟨hK, (⟨rfl, hJ'⟩ | ⟨rfl, hJx'⟩)⟩
        · have HI' := Lib.hid (HI.out.keep hK (J' := J) (s' := idxs pre ++ List.range' x.lo (i + 1 - x.lo)) (by rw [HS.out, ← List.append_assoc]; exact hJ'))
          have HB4' := Lib.hid (hK.keep HB4.out HW4.out).1
          have HW4' := Lib.hid (hK.keep HB4.out HW4.out).2
          have HBN' := Lib.hid (HBN.out.trans hK.below)
          clear hK hJ' hy hR c1 c2
          gi_wp2
          go_roundw
          case rel => exact ⟨i + 1, by omega, by omega, by go_num, HI'.out, HB4'.out, HW4'.out, HBN'.out⟩
          case measure => simp [intOf]; omega
        · have HI' := Lib.hid (HI.out.keep hK (J' := Jx) (s' := idxs pre ++ List.range' x.lo (i + 1 - x.lo)) (by rw [HS.out, ← List.append_assoc]; exact hJx'))
          clear hK hJx' hy hR c1 c2
          gi_wp2
          have e1 : ({ rb with state := if (some Code.ret).isNone then .ready else .done, pending := some .ret } : Loop) = rd := by rw [HRD.out, HRB.out]; rfl
          have q1 := run_endRound (P := Try.prog) (some .ret) HI'.out.lp
          rw [e1] at q1
          exact ⟨_, _, q1, .inr ⟨rfl, _, by rw [idxs_snoc]; exact (List.prefix_append_right_inj _).2 (range_pre _ _ _ (by omega)), HI'.out.put HB.out.jx HBD.out HXD.out rd⟩⟩
      · have hlt2 : ¬ (i : Int) < (x.hi : Int) := by omega
        gi_wp2
        have e1 : ({ rb with state := if (none : Option Code).isNone then .ready else .done, pending := none } : Loop) = r := by
          rw [HRB.out]
          have h1 := HST.out
          have h2 := HPE.out
          cases r
          simp_all
        have q1 := run_endRound (P := Try.prog) none HI.out.lp
        rw [e1] at q1
        exact ⟨_, _, q1, .inl ⟨rfl, by rw [idxs_snoc, show x.hi - x.lo = i - x.lo by omega]; exact HI.out.put HB.out.j HBD.out HXD.out r, HBN.out.trans (below_put _ _ (by have := HNX.out; have := HXD.out; omega))⟩⟩
  case behind =>
    rintro e Y ⟨⟨v, rfl⟩, (⟨k, hk1, hk2, hI⟩ | ⟨k, hM, hpre, k2, hk2, hI⟩)⟩
    · have HI := Lib.hid hI
      have q1 := run_endLoop (P := Try.prog) hI.lp (by rw [HST.out]; simp)
      rw [HPE.out] at q1
      refine ⟨none, _, q1, ?_⟩
      have H2 := Lib.hid (hI.put HB.out.j HBD.out HXD.out { r with state := .exhausted, pending := none })
      have hK1 := Lib.hid hk1
      have hK2 := Lib.hid hk2
      clear hI q1 hk1 hk2
      gi_wp2
      refine ⟨by simp, .inl ⟨_, _, rfl, run_takeDeferred H2.out.dfr, ?_⟩⟩
      exact ⟨_, results_none rfl _ _ _, ⟨_, rfl⟩, .inl ⟨idxs k, fun h => by rw [hK1.out h], fun h => by rw [hK2.out h]; rfl, (HB.out.j _ _ _ H2.out.j (Turn.put _ _ HBD.out H2.out.w2)).1⟩⟩
    · have HI := Lib.hid hI
      have q1 := run_endLoop (P := Try.prog) hI.lp (by rw [HRD.out]; simp)
      rw [show rd.pending = some Code.ret by rw [HRD.out]] at q1
      refine ⟨some .ret, _, q1, ?_⟩
      have H2 := Lib.hid (hI.put HB.out.jx HBD.out HXD.out { rd with state := .exhausted, pending := some .ret })
      have HP := Lib.hid (show k2 <+: idxs l by
        obtain ⟨t, rfl⟩ := hpre
        refine hk2.trans ?_
        rw [show idxs (k ++ t) = idxs k ++ idxs t by simp [idxs]]
        exact List.prefix_append _ _)
      have HM := Lib.hid hM
      clear q1 hI HI hpre hk2 hM
      gi_wp2
      refine ⟨by simp, .inl ⟨_, _, rfl, run_takeDeferred H2.out.dfr, ?_⟩⟩
      exact ⟨_, results_none rfl _ _ _, ⟨_, rfl⟩, .inr ⟨k2, HM.out, HP.out, (HB.out.jx _ _ _ H2.out.j (Turn.put _ _ HBD.out H2.out.w2)).1⟩⟩
end Go.Proofs.Ytajjbffppkpjpaa
