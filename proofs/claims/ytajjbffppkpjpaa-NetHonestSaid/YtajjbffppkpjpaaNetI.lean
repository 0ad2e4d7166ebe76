import Derived.Test.YtajjbffppkpjpaaNetH
/-
  net.Drop, net.Take.
-/
namespace Go.Proofs.Ytajjbffppkpjpaa
set_option linter.unusedSimpArgs false
set_option linter.unusedVariables false
open Go.RowKit
theorem NetAt.trim {w : World} {av : Nat → Prop} {b : Nat} {v1 v2 v3 : Value} {S : NS} (h : NetAt w av b v1 v2 v3 S) : NetAt w (fun k => av k ∧ k < w.heap.size) b v1 v2 v3 S := h.mono fun _ a l => ⟨a, l⟩
theorem NS.nat_of {S : NS} {i : Int} (h : ¬ S.out i) : ∃ k : Nat, i = k ∧ k < S.way.length := ⟨i.toNat, by unfold NS.out at h; omega, by unfold NS.out at h; omega⟩
set_option maxRecDepth 100000 in
set_option maxHeartbeats 2000000 in
theorem ndrop_at {av : Nat → Prop} {b : Nat} {v1 v2 v3 : Value} {S : NS} {K : Nat} (i : Int) (w : World) (h : NetAt w av b v1 v2 v3 S) (hL : S.Lim K) :
    Calls Try.prog 30 #[.pointer (some ⟨b, 0, none⟩), .int .i64 i] w fun e w' => e = .returned (.int .i64 (S.drop i).1) ∧ ∃ x1, NetAt w' av b x1 v2 v3 (S.drop i).2 ∧ Only (NFoot b v1 v2 v3) w w' ∧ x1.ownBlock = v1.ownBlock := by
  have H := Lib.hid h
  have HL := Lib.hid hL.way
  clear h hL
  by_cases ho : S.out i
  · have HE := Lib.hid (show S.drop i = (4, S) from if_pos ho)
    have he : S.atE i = 4 := if_pos ho
    clear ho
    go_enter Try.func30, Try.ntmps30
    go_wp2_with fail
    refine (nat_at i _ H.out).mono ?_
    rintro e w2 ⟨rfl, rfl⟩
    rw [he]
    clear he
    go_wp2
    go_ret
    exact ⟨by rw [HE.out]; rfl, v1, by rw [HE.out]; exact H.out, Only.refl _ _, rfl⟩
  · obtain ⟨k, rfl, hk⟩ := NS.nat_of ho
    have HE := Lib.hid (show S.drop k = (0, { S with way := S.way.eraseIdx k }) from if_neg ho)
    have he : S.atE k = 0 := if_neg ho
    have HK := Lib.hid hk
    clear ho hk
    go_enter Try.func30, Try.ntmps30
    go_wp2_with fail
    refine (nat_at k _ H.out).mono ?_
    rintro e w2 ⟨rfl, rfl⟩
    rw [he]
    clear he
    go_wp2_with fail
    refine (ngone_walk k HK.out HL.out _ H.out).mono ?_
    rintro e w3 ⟨px, nx, cx, x1, rfl, _, hN, hO, hx⟩
    have HN := Lib.hid hN
    have HO := Lib.hid hO
    have HX := Lib.hid hx
    clear hN hO hx
    go_wp2
    go_ret
    exact ⟨by rw [HE.out]; rfl, x1, by rw [HE.out]; exact HN.out, HO.out, HX.out⟩
/-- A net whose third row its cells do not hold yet. -/
structure CPart (w : World) (av : Nat → Prop) (b : Nat) (v1 v2 u3 r3 : Value) (L1 L2 L3 : List Snt) : Prop where
  blk : Blk w b #[.bool true, v1, v2, u3] 43
  way : SRow w av v1 L1
  ever : SRow w av v2 L2
  came : SRow w av r3 L3
  a12 : ∀ k, v1.ownBlock = some k → v2.ownBlock ≠ some k
  a13 : ∀ k, v1.ownBlock = some k → r3.ownBlock ≠ some k
  a23 : ∀ k, v2.ownBlock = some k → r3.ownBlock ≠ some k
section
variable {w w' : World} {av : Nat → Prop} {b : Nat} {v1 v2 u3 r3 : Value} {L1 L2 L3 : List Snt}
theorem CPart.c3 (h : CPart w av b v1 v2 u3 r3 L1 L2 L3) : w.cell? ⟨b, 3, none⟩ = some u3 := h.blk.cell 3 rfl
theorem CPart.on (h : CPart w av b v1 v2 u3 r3 L1 L2 L3) (hb : Below w.heap.size w w') : CPart w' av b v1 v2 u3 r3 L1 L2 L3 := ⟨h.blk.below hb h.blk.lt, h.way.on hb, h.ever.on hb, h.came.on hb, h.a12, h.a13, h.a23⟩
theorem CPart.app_came {s : Snt} {a7 px : Option Addr} {m c7 nx cx wn : Nat} {ls : List (Snt × Value)} (h : CPart w av b v1 v2 u3 r3 L1 L2 L3) (hwn : wn = L3.length) (hg : w.grownBy w' r3.ownBlock)
    (hO : w'.ownsRow 0 47 3 (.slice a7 m c7) (wn + 1) (ncells ls ++ [.int .i64 s.f, .int .i64 s.t, .slice px nx cx])) (hw2 : SnL w av ls L3) (hx : Tn w av (.slice px nx cx) s.d)
    (hat : ∀ k, (Value.slice a7 m c7).ownBlock = some k → r3.ownBlock = some k ∨ k = w.heap.size) : CPart w' av b v1 v2 u3 (.slice a7 m c7) L1 L2 (L3 ++ [s]) := by
  have hO3 : Only (fun k => r3.ownBlock = some k) w w' := Only.grown hg (fun k e => e)
  have hne : ∀ k cur, av k → Blk w k cur 5 → ¬ r3.ownBlock = some k := fun k cur _ hb => h.came.not_u8 hb
  refine ⟨hO3.blk h.blk (h.came.not_b h.blk), h.way.keep hO3 (fun k e q => h.a13 k e q) hne, h.ever.keep hO3 (fun k e q => h.a23 k e q) hne,
    ⟨ls ++ [(s, .slice px nx cx)], by rw [ncells_snoc, List.length_append, ← hwn]; exact hO, (hw2.keep hO3 hne).snoc (hx.keep hO3 hne)⟩, h.a12, fun k e q => ?_, fun k e q => ?_⟩
  · rcases hat k q with p | p
    · exact h.a13 k e p
    · have := h.way.lt e; omega
  · rcases hat k q with p | p
    · exact h.a23 k e p
    · have := h.ever.lt e; omega
theorem CPart.store3 (h : CPart w av b v1 v2 u3 r3 L1 L2 L3) {x : Value} (hW : Wrote w w' b) (hB : Blk w' b (#[.bool true, v1, v2, u3].setIfInBounds 3 x) 43) : CPart w' av b v1 v2 x r3 L1 L2 L3 := by
  have hO : Only (· = b) w w' := Only.wrote hW rfl
  have hne : ∀ k cur, av k → Blk w k cur 5 → ¬ k = b := fun k cur _ hb e => blk_type_ne hb h.blk (by decide) e
  exact ⟨hB, h.way.keep hO (fun k e q => h.way.not_b h.blk (q ▸ e)) hne, h.ever.keep hO (fun k e q => h.ever.not_b h.blk (q ▸ e)) hne, h.came.keep hO (fun k e q => h.came.not_b h.blk (q ▸ e)) hne, h.a12, h.a13, h.a23⟩
end
theorem NetAt.cpart {w : World} {av : Nat → Prop} {b : Nat} {v1 v2 v3 : Value} {S : NS} (h : NetAt w av b v1 v2 v3 S) : CPart w av b v1 v2 v3 v3 S.way S.ever S.came := ⟨h.blk, h.way, h.ever, h.came, h.a12, h.a13, h.a23⟩
theorem CPart.whole {w : World} {av : Nat → Prop} {b : Nat} {v1 v2 v3 : Value} {L1 L2 L3 : List Snt} (h : CPart w av b v1 v2 v3 v3 L1 L2 L3) : NetAt w av b v1 v2 v3 ⟨L1, L2, L3⟩ := ⟨h.blk, h.way, h.ever, h.came, h.a12, h.a13, h.a23⟩
theorem results_ctn {P : Program} {fn : Func} {p u : Tmp} {ty : TypeId} (h : fn.results = #[.cell p ty, .tmp u]) (tmps : Array Value) {w : World} {g : Nat} {t : TypeId} {cs : Array Value} {d : TypeDesc} (hg : Blk w g cs t)
    (hp : tmps.getD p undef = .pointer (some ⟨g, 0, none⟩)) (hu : P.underlying ty = some d) (hd : d.isRow = true) (hi : (P.info? ty).map (·.size) = some cs.size) :
    (results fn tmps).run P w = .ok (.tuple #[.agg cs, tmps.getD u undef]) w := by
  have hp' : tmps[p]?.getD undef = .pointer (some ⟨g, 0, none⟩) := by simpa using hp
  have hr := run_loadVar_mid w g 0 ty cs.toList d (range_blk hg 0 _ (fun i hi => by simp)) hu hd (by simpa using hi)
  simp [results, h, hp', asAddr, hr, Sem.run_bind, Result.andThen]
set_option maxRecDepth 100000 in
set_option maxHeartbeats 8000000 in
theorem ntake_at {av : Nat → Prop} {b : Nat} {vx vy vz : Value} {S : NS} {K : Nat} (i : Int) (w : World) (h : NetAt w av b vx vy vz S) (hL : S.Lim K) (hK : K ≤ 1000000) :
    Calls Try.prog 25 #[.pointer (some ⟨b, 0, none⟩), .int .i64 i] w fun e w' => ∃ ua nn cc, e = .returned (.tuple #[sag (S.take i).1.f (S.take i).1.t ua nn cc, .int .i64 (S.take i).2.1]) ∧ OwnB w' w.heap.size (.slice ua nn cc) (S.take i).1.d ∧
      ∃ x1 x3, NetAt w' av b x1 vy x3 (S.take i).2.2 ∧ Only (NFoot b vx vy vz) w w' ∧ ∀ k, NFoot b x1 vy x3 k → NFoot b vx vy vz k ∨ w.heap.size ≤ k := by
  have H := Lib.hid h
  have HL := Lib.hid hL
  have HK := Lib.hid hK
  have hb1 := below_one' w (.cells #[.int .i64 0, .int .i64 0, .slice none 0 0] 47)
  have H1 := Lib.hid (h.on hb1)
  have HB1 := Lib.hid hb1
  have HB4 := Lib.hid (Blk.new w #[.int .i64 0, .int .i64 0, .slice none 0 0] 47)
  clear h hL hK hb1
  by_cases ho : S.out i
  · have HE := Lib.hid (show S.take i = (snt0, 4, S) from if_pos ho)
    have he : S.atE i = 4 := if_pos ho
    clear ho
    go_enter Try.func25, Try.ntmps25
    go_wp2_with fail
    refine (nat_at i _ H1.out).mono ?_
    rintro e w2 ⟨rfl, rfl⟩
    rw [he]
    clear he
    go_wp2_with (refine wpList_store_abs rfl 47 (.tmp 4) (.tmp 13) rfl w.heap.size #[.int .i64 0, .int .i64 0, .slice none 0 0] (by rfl) (by rfl) 47 _ HB4.out size_sent (by rfl) (by simp [Value.oneCell']) ?_; intro W hW p; have HP := Lib.hid p; have HW := Lib.hid (hW.below HB1.out (Nat.le_refl _)); clear hW p)
    refine bodyPost_ret (results_ctn rfl _ HP.out (by rfl) Try.underlying47 rfl size_sent) rfl ⟨none, 0, 0, by rw [HE.out]; rfl, by rw [HE.out]; exact OwnB.nil _ _, vx, vz, by rw [HE.out]; exact H.out.on HW.out, Only.of_below HW.out, fun k e => .inl e⟩
  · obtain ⟨k, rfl, hk⟩ := NS.nat_of ho
    obtain ⟨s, hs⟩ : ∃ s, s = S.way.getD k snt0 := ⟨_, rfl⟩
    have HE := Lib.hid (show S.take k = (s, 0, { S with way := S.way.eraseIdx k, came := S.came ++ [s] }) by rw [hs]; exact if_neg ho)
    have he : S.atE k = 0 := if_neg ho
    have HK1 := Lib.hid hk
    have HDL := Lib.hid (show s.d.length ≤ 1000000 from HL.out.txt _ (.inl (by have := NS.at_mem ho; rw [hs]; exact this)))
    have HSS := Lib.hid hs
    clear ho hk hs
    go_enter Try.func25, Try.ntmps25
    go_wp2_with fail
    refine (nat_at k _ H1.out).mono ?_
    rintro e w2 ⟨rfl, rfl⟩
    rw [he]
    clear he
    go_wp2_with fail
    refine (ngone_walk k HK1.out HL.out.way _ H1.out).mono ?_
    rintro e w3 ⟨px, nx, cx, x1, rfl, hT, hN, hO, hx⟩
    rw [← HSS.out] at hT ⊢
    have HT := Lib.hid hT
    have HN := Lib.hid hN
    have HO := Lib.hid hO
    have HX := Lib.hid hx
    have HZ4 := Lib.hid (hO.blk HB4.out (fun q => by have := H.out.lt q; omega))
    have HZ3 := Lib.hid HZ4.out.lt
    clear hT hN hO hx
    go_wp2_with (refine wpList_store_abs rfl 47 (.tmp 7) (.tmp 17) (by rfl) w3.heap.size #[.int .i64 s.f, .int .i64 s.t, .slice px nx cx] (by rfl) (by rfl) 47 _ (Blk.new w3 _ _) size_sent (by rfl) (by simp [Value.oneCell']) ?_; intro W hW p; have hb := hW.below (below_one' w3 _) (Nat.le_refl _); have HS := Lib.hid p; have HP := Lib.hid (HN.out.on hb).cpart; have HTX := Lib.hid (HT.out.on hb); have HZ4 := Lib.hid (HZ4.out.on hb); have HBW := Lib.hid (Only.of_below (S := NFoot b vx vy vz) hb); have HO2 := Lib.hid (Only.refl (NFoot b vx vy vz) W); clear hW p hb)
    generalize hbx : w3.heap.size = bx at *
    obtain ⟨a3, c3, rfl, _⟩ := HN.out.came.form
    obtain ⟨n3, hn3⟩ : ∃ n3, n3 = S.came.length := ⟨_, rfl⟩
    have HP := Lib.hid (show CPart W av b x1 vy (.slice a3 n3 c3) (.slice a3 n3 c3) (S.way.eraseIdx k) S.ever S.came by rw [hn3]; exact HP.out)
    have HO2 := Lib.hid (Only.refl (NFoot b vx vy (.slice a3 n3 c3)) W)
    have HNB := Lib.hid (show ¬ (Value.slice a3 n3 c3).ownBlock = some bx from fun q => by rw [hn3] at q; have := HN.out.came.lt q; omega)
    have H63 := Lib.hid (show n3 + 1 ≤ maxLen by unfold maxLen; have := HL.out.came; have := HK.out; omega)
    have HBY := Lib.hid (show (n3 + 1) * 40 ≤ 140737488355328 by have := HL.out.came; have := HK.out; omega)
    have HN3 := Lib.hid hn3
    have HBX := Lib.hid hbx
    clear hbx hn3
    refine wp_region_held_drew (S := fun W => Blk W bx #[.int .i64 s.f, .int .i64 s.t, .slice px nx cx] 47) (by kernel_rfl) HS.out (fun _ => ?_)
    have hb : Below W.heap.size W (World.drew W) := (Below.refl _ _).drew
    have HS := Lib.hid (HS.out.on hb)
    have HP := Lib.hid (HP.out.on hb)
    have HTX := Lib.hid (HTX.out.on hb)
    have HO2 := Lib.hid (HO2.out.trans (Only.of_below hb))
    clear hb
    generalize World.drew W = v0 at *
    try simp only [Act.put, List.setIfInBounds_toArray, List.set_cons_succ, List.set_cons_zero]
    refine wpAnyH_take (i := 0) (oi := ⟨some 18, .move (.tmp 0), _, _, _, none⟩) (v := .pointer (some ⟨b, 0, none⟩)) rfl (by kernel_rfl) (by kernel_rfl) (by kernel_rfl) (fun _ _ _ h => h) (Or.inl ⟨by rfl, fun _ _ => by go_simp⟩) HS.out ?_
    try simp only [Act.put, List.setIfInBounds_toArray, List.set_cons_succ, List.set_cons_zero]
    refine wpAnyH_take (i := 1) (oi := ⟨some 19, .move (.tmp 0), _, _, _, none⟩) (v := .pointer (some ⟨b, 0, none⟩)) rfl (by kernel_rfl) (by kernel_rfl) (by kernel_rfl) (fun _ _ _ h => h) (Or.inl ⟨by rfl, fun _ _ => by go_simp⟩) HS.out ?_
    try simp only [Act.put, List.setIfInBounds_toArray, List.set_cons_succ, List.set_cons_zero]
    refine wpAnyH_take (i := 2) (oi := ⟨some 20, .nilCheck (.tmp 19), _, _, _, none⟩) (v := .pointer (some ⟨b, 0, none⟩)) rfl (by kernel_rfl) (by kernel_rfl) (by kernel_rfl) (fun _ _ _ h => h) (Or.inl ⟨by rfl, fun _ _ => by go_simp⟩) HS.out ?_
    try simp only [Act.put, List.setIfInBounds_toArray, List.set_cons_succ, List.set_cons_zero]
    refine wpAnyH_take (i := 3) (oi := ⟨some 21, .fieldAddr 43 (.tmp 20) 3, _, _, _, none⟩) (v := .pointer (some ⟨b, 3, none⟩)) rfl (by kernel_rfl) (by kernel_rfl) (by kernel_rfl) (fun _ _ _ h => h) (Or.inl ⟨by rfl, fun _ _ => by go_simp⟩) HS.out ?_
    try simp only [Act.put, List.setIfInBounds_toArray, List.set_cons_succ, List.set_cons_zero]
    refine wpAnyH_take (i := 5) (oi := ⟨some 23, .load 47 (.tmp 7), 47, _, _, none⟩) (v := .agg #[.int .i64 s.f, .int .i64 s.t, .slice px nx cx]) rfl (by kernel_rfl) (by kernel_rfl) (by kernel_rfl) (fun _ _ _ h => h) (Or.inl ⟨by rfl, fun vv hvv => yields_row 47 (.tmp 7) rfl bx rfl hvv _ Try.underlying47 rfl size_sent⟩) HS.out ?_
    try simp only [Act.put, List.setIfInBounds_toArray, List.set_cons_succ, List.set_cons_zero]
    refine wpAnyH_ready (rs := [4, 6]) (by kernel_rfl) (by simp) ?_
    refine AllReadyH.cons (o := ⟨some 22, .load 41 (.tmp 21), 41, _, _, none⟩) rfl (fun K hK => ?_) (AllReadyH.cons (o := ⟨some 24, .buildSlice 41 1 #[(0, .tmp 23)], 41, _, _, none⟩) rfl (fun K hK => ?_) AllReadyH.nil)
    · have c1 := HP.out.c3
      refine wp_of_yields' (v := .slice a3 n3 c3) (by unfold execOp; go_simp) ?_
      clear c1
      refine hK _ _ HS.out (fun _ => ?_)
      clear hK K
      try simp only [Act.put, List.setIfInBounds_toArray, List.set_cons_succ, List.set_cons_zero]
      refine wpAnyH_ready (rs := [6]) (by kernel_rfl) (by simp) ?_
      refine AllReadyH.cons (o := ⟨some 24, .buildSlice 41 1 #[(0, .tmp 23)], 41, _, _, none⟩) rfl (fun K hK => ?_) AllReadyH.nil
      go_simp
      have BJ1 := Blk.new v0 #[.int .i64 s.f, .int .i64 s.t, .slice px nx cx] 47
      have hb := below_one' v0 (.cells #[.int .i64 s.f, .int .i64 s.t, .slice px nx cx] 47)
      generalize World.alloc v0 _ = v2 at *
      have HS := Lib.hid (HS.out.on hb)
      have HP := Lib.hid (HP.out.on hb)
      have HTX := Lib.hid (HTX.out.on hb)
      have HO2 := Lib.hid (HO2.out.trans (Only.of_below hb))
      replace BJ1 := Lib.hid BJ1
      clear hb
      refine hK _ _ HS.out (fun _ => ?_)
      clear hK K
      try simp only [Act.put, List.setIfInBounds_toArray, List.set_cons_succ, List.set_cons_zero]
      refine wpAnyH_ready (rs := [7]) (by kernel_rfl) (by simp) ?_
      refine AllReadyH.cons (o := ⟨some 25, .call { callee := .builtin .append, args := #[.tmp 22, .tmp 24], argTypes := #[41, 41] }, 41, _, _, none⟩) rfl (fun K hK => ?_) AllReadyH.nil
      obtain ⟨ls, hw, hw2⟩ := HP.out.came
      rw [← HN3.out] at hw
      have HWS := Lib.hid hw
      have HW2 := Lib.hid hw2
      clear hw hw2
      refine wp_append_row (.tmp 22) (.tmp 24) 41 47 rfl (.agg #[.int .i64 0, .int .i64 0, .slice none 0 0]) 3 40 Try.underlying41 info_sent (by rfl) (by decide) (.slice a3 n3 c3) n3 (ncells ls) (by rfl) HWS.out _ 1 [.int .i64 s.f, .int .i64 s.t, .slice px nx cx] (by rfl) (by rfl) BJ1.out (by simp [Value.oneCell']) H63.out HBY.out ?_
      intro a7 c7 v3 hO hg hat
      have HG3 := Lib.hid (show ∀ j, (Value.slice a7 (n3 + 1) c7).ownBlock = some j → ((.slice a3 n3 c3) : Value).ownBlock = some j ∨ bx ≤ j from fun j e => (hat j e).imp id (fun q => by rw [q]; exact Nat.le_of_lt HS.out.lt))
      have HTX1 := Lib.hid (HTX.out.keep (Only.grown (S := fun j => ((.slice a3 n3 c3) : Value).ownBlock = some j) hg (fun j e => e)) (fun k cur _ hb => HP.out.came.not_u8 hb))
      have HP := Lib.hid (HP.out.app_came (s := s) HN3.out hg hO HW2.out HTX.out hat)
      have HTX := HTX1
      clear HTX1
      have HS := Lib.hid ((Only.grown (S := fun j => ((.slice a3 n3 c3) : Value).ownBlock = some j) hg (fun j e => e)).blk HS.out HNB.out)
      have HO2 := Lib.hid (HO2.out.trans (Only.grown (S := NFoot b vx vy (.slice a3 n3 c3)) hg (fun j e => .inr (.inr (.inr e)))))
      clear hO hg hat HWS HW2 BJ1
      refine hK _ _ HS.out (fun _ => ?_)
      clear hK K
      try simp only [Act.put, List.setIfInBounds_toArray, List.set_cons_succ, List.set_cons_zero]
      refine wpAnyH_take (i := 8) (oi := ⟨some 26, .nilCheck (.tmp 18), _, _, _, none⟩) (v := .pointer (some ⟨b, 0, none⟩)) rfl (by kernel_rfl) (by kernel_rfl) (by kernel_rfl) (fun _ _ _ h => h) (Or.inl ⟨by rfl, fun _ _ => by go_simp⟩) HS.out ?_
      try simp only [Act.put, List.setIfInBounds_toArray, List.set_cons_succ, List.set_cons_zero]
      refine wpAnyH_take (i := 9) (oi := ⟨some 27, .fieldAddr 43 (.tmp 26) 3, _, _, _, none⟩) (v := .pointer (some ⟨b, 3, none⟩)) rfl (by kernel_rfl) (by kernel_rfl) (by kernel_rfl) (fun _ _ _ h => h) (Or.inl ⟨by rfl, fun _ _ => by go_simp⟩) HS.out ?_
      try simp only [Act.put, List.setIfInBounds_toArray, List.set_cons_succ, List.set_cons_zero]
      refine wpAnyH_ready (rs := [10]) (by kernel_rfl) (by simp) ?_
      refine AllReadyH.cons (o := ⟨none, .store 41 (.tmp 27) (.tmp 25), _, _, _, none⟩) rfl (fun K hK => ?_) AllReadyH.nil
      refine wp_store_one (.tmp 27) (.tmp 25) 41 size_sents rfl b 3 (.slice a7 (n3 + 1) c7) (by rfl) (by rfl) (by rfl) (by rfl) HP.out.blk (by simp) ?_
      intro v4 hW hB
      have HS := Lib.hid (hW.blk HS.out (blk_type_ne HS.out HP.out.blk (by decide)))
      have HTX := Lib.hid (HTX.out.keep (Only.wrote (S := (· = b)) hW rfl) (fun k cur _ hb e => blk_type_ne hb HP.out.blk (by decide) e))
      have HP := Lib.hid (HP.out.store3 hW hB)
      have HO2 := Lib.hid (HO2.out.trans (Only.wrote (S := NFoot b vx vy (.slice a3 n3 c3)) hW (.inl rfl)))
      clear hW hB
      refine hK _ _ HS.out (fun _ => ?_)
      clear hK K
      try simp only [Act.put, List.setIfInBounds_toArray, List.set_cons_succ, List.set_cons_zero]
      refine wpAnyH_done (by kernel_rfl) ?_ _
      have HP := Lib.hid HP.out.whole
      have HZ4 := Lib.hid (HO2.out.blk HZ4.out (fun q => by have h1 := HN3.out; have := (H.out.lt (k := w.heap.size) (by rw [h1] at q; exact q)); omega))
      go_wp2_with (refine wpList_load_sub rfl 47 (.tmp 7) (by rfl) bx 0 (by rfl) HS.out [.int .i64 s.f, .int .i64 s.t, .slice px nx cx] (by intro i hi; simp at hi ⊢) _ Try.underlying47 rfl size_sent ?_)
      obtain ⟨qa, qn, qc, qe, HTQ, _⟩ := HTX.out
      cases qe
      refine (own_walk s.f s.t px nx cx s.d HDL.out v4 HTQ).mono ?_
      rintro e w6 ⟨gg, rfl, hB, hge, hb⟩
      have HOV := Lib.hid HO2.out.size
      have HP := Lib.hid (HP.out.on hb)
      have HZ4 := Lib.hid (HZ4.out.on hb)
      have HO2 := Lib.hid (HO2.out.trans (Only.of_below hb))
      have HBR := Lib.hid hB
      have HGE := Lib.hid hge
      have HTL := Lib.hid HTQ.len
      clear hb hB hge HTQ HTX HS
      go_wp2_with (refine wpList_store_abs rfl 47 (.tmp 4) (.tmp 29) (by rfl) w.heap.size #[.int .i64 s.f, .int .i64 s.t, .slice (some ⟨gg, 0, none⟩) nx nx] (by rfl) (by rfl) 47 _ HZ4.out size_sent (by rfl) (by simp [Value.oneCell']) ?_; intro W9 hW p; have HFF := Lib.hid p; have HOF := Lib.hid (Only.wrote (S := (· = w.heap.size)) hW rfl); clear hW p)
      have hnz : ∀ j, NFoot b x1 vy (.slice a7 (n3 + 1) c7) j → NFoot b vx vy (.slice a3 n3 c3) j ∨ w.heap.size + 1 ≤ j := fun j q => by
        rcases q with e | e | e | e
        · exact .inl (.inl e)
        · exact .inl (.inr (.inl (by rw [← HX.out]; exact e)))
        · exact .inl (.inr (.inr (.inl e)))
        · exact (HG3.out j e).imp (fun q => .inr (.inr (.inr q))) (fun q => by have := HBX.out; have := HZ3.out; omega)
      have hft : ∀ j, NFoot b vx vy (.slice a3 n3 c3) j → j < w.heap.size := fun j q => H.out.lt (k := j) (by have h1 := HN3.out; rw [h1] at q; exact q)
      have hnw : ∀ j, NFoot b x1 vy (.slice a7 (n3 + 1) c7) j → ¬ j = w.heap.size := fun j q => by rcases hnz j q with p | p <;> first | (have := hft j p; omega) | omega
      have hnu : ∀ j cur, Blk w6 j cur 5 → ¬ j = w.heap.size := fun j cur hb => blk_type_ne hb HZ4.out (by decide)
      have hof : Only (NFoot b vx vy (.slice a3 n3 c3)) w W9 := ((((Only.of_below HB1.out).trans (by have h1 := HN3.out; rw [h1]; exact HO.out)).trans (by have h1 := HN3.out; rw [h1]; exact HBW.out)).trans HO2.out).trans' HOF.out (fun j e => .inr (by omega))
      refine bodyPost_ret (results_ctn rfl _ HFF.out (by rfl) Try.underlying47 rfl size_sent) rfl ⟨some ⟨gg, 0, none⟩, nx, nx, by rw [HE.out]; rfl, ?_, x1, .slice a7 (n3 + 1) c7, ?_, by rw [← HN3.out]; exact hof, ?_⟩
      · rw [HE.out, HTL.out]
        exact OwnB.of_blk (HOF.out.blk HBR.out (hnu _ _ HBR.out)) (by have h1 := HBX.out; have h2 := HZ3.out; have h3 := HO2.out.size; have h4 := HBW.out.size; have h5 := HGE.out; have h6 := HOV.out; omega) (by unfold maxLen; have := HDL.out; omega)
      · rw [HE.out]
        exact HP.out.keep HOF.out hnw (fun j cur _ hb => hnu j cur hb)
      · intro j q
        rw [← HN3.out]
        exact (hnz j q).imp id (fun e => by omega)
    · go_simp
      have BJ1 := Blk.new v0 #[.int .i64 s.f, .int .i64 s.t, .slice px nx cx] 47
      have hb := below_one' v0 (.cells #[.int .i64 s.f, .int .i64 s.t, .slice px nx cx] 47)
      generalize World.alloc v0 _ = v5 at *
      have HS := Lib.hid (HS.out.on hb)
      have HP := Lib.hid (HP.out.on hb)
      have HTX := Lib.hid (HTX.out.on hb)
      have HO2 := Lib.hid (HO2.out.trans (Only.of_below hb))
      replace BJ1 := Lib.hid BJ1
      clear hb
      refine hK _ _ HS.out (fun _ => ?_)
      clear hK K
      try simp only [Act.put, List.setIfInBounds_toArray, List.set_cons_succ, List.set_cons_zero]
      refine wpAnyH_ready (rs := [4]) (by kernel_rfl) (by simp) ?_
      refine AllReadyH.cons (o := ⟨some 22, .load 41 (.tmp 21), 41, _, _, none⟩) rfl (fun K hK => ?_) AllReadyH.nil
      have c1 := HP.out.c3
      refine wp_of_yields' (v := .slice a3 n3 c3) (by unfold execOp; go_simp) ?_
      clear c1
      refine hK _ _ HS.out (fun _ => ?_)
      clear hK K
      try simp only [Act.put, List.setIfInBounds_toArray, List.set_cons_succ, List.set_cons_zero]
      refine wpAnyH_ready (rs := [7]) (by kernel_rfl) (by simp) ?_
      refine AllReadyH.cons (o := ⟨some 25, .call { callee := .builtin .append, args := #[.tmp 22, .tmp 24], argTypes := #[41, 41] }, 41, _, _, none⟩) rfl (fun K hK => ?_) AllReadyH.nil
      obtain ⟨ls, hw, hw2⟩ := HP.out.came
      rw [← HN3.out] at hw
      have HWS := Lib.hid hw
      have HW2 := Lib.hid hw2
      clear hw hw2
      refine wp_append_row (.tmp 22) (.tmp 24) 41 47 rfl (.agg #[.int .i64 0, .int .i64 0, .slice none 0 0]) 3 40 Try.underlying41 info_sent (by rfl) (by decide) (.slice a3 n3 c3) n3 (ncells ls) (by rfl) HWS.out _ 1 [.int .i64 s.f, .int .i64 s.t, .slice px nx cx] (by rfl) (by rfl) BJ1.out (by simp [Value.oneCell']) H63.out HBY.out ?_
      intro a7 c7 v7 hO hg hat
      have HG3 := Lib.hid (show ∀ j, (Value.slice a7 (n3 + 1) c7).ownBlock = some j → ((.slice a3 n3 c3) : Value).ownBlock = some j ∨ bx ≤ j from fun j e => (hat j e).imp id (fun q => by rw [q]; exact Nat.le_of_lt HS.out.lt))
      have HTX1 := Lib.hid (HTX.out.keep (Only.grown (S := fun j => ((.slice a3 n3 c3) : Value).ownBlock = some j) hg (fun j e => e)) (fun k cur _ hb => HP.out.came.not_u8 hb))
      have HP := Lib.hid (HP.out.app_came (s := s) HN3.out hg hO HW2.out HTX.out hat)
      have HTX := HTX1
      clear HTX1
      have HS := Lib.hid ((Only.grown (S := fun j => ((.slice a3 n3 c3) : Value).ownBlock = some j) hg (fun j e => e)).blk HS.out HNB.out)
      have HO2 := Lib.hid (HO2.out.trans (Only.grown (S := NFoot b vx vy (.slice a3 n3 c3)) hg (fun j e => .inr (.inr (.inr e)))))
      clear hO hg hat HWS HW2 BJ1
      refine hK _ _ HS.out (fun _ => ?_)
      clear hK K
      try simp only [Act.put, List.setIfInBounds_toArray, List.set_cons_succ, List.set_cons_zero]
      refine wpAnyH_take (i := 8) (oi := ⟨some 26, .nilCheck (.tmp 18), _, _, _, none⟩) (v := .pointer (some ⟨b, 0, none⟩)) rfl (by kernel_rfl) (by kernel_rfl) (by kernel_rfl) (fun _ _ _ h => h) (Or.inl ⟨by rfl, fun _ _ => by go_simp⟩) HS.out ?_
      try simp only [Act.put, List.setIfInBounds_toArray, List.set_cons_succ, List.set_cons_zero]
      refine wpAnyH_take (i := 9) (oi := ⟨some 27, .fieldAddr 43 (.tmp 26) 3, _, _, _, none⟩) (v := .pointer (some ⟨b, 3, none⟩)) rfl (by kernel_rfl) (by kernel_rfl) (by kernel_rfl) (fun _ _ _ h => h) (Or.inl ⟨by rfl, fun _ _ => by go_simp⟩) HS.out ?_
      try simp only [Act.put, List.setIfInBounds_toArray, List.set_cons_succ, List.set_cons_zero]
      refine wpAnyH_ready (rs := [10]) (by kernel_rfl) (by simp) ?_
      refine AllReadyH.cons (o := ⟨none, .store 41 (.tmp 27) (.tmp 25), _, _, _, none⟩) rfl (fun K hK => ?_) AllReadyH.nil
      refine wp_store_one (.tmp 27) (.tmp 25) 41 size_sents rfl b 3 (.slice a7 (n3 + 1) c7) (by rfl) (by rfl) (by rfl) (by rfl) HP.out.blk (by simp) ?_
      intro v8 hW hB
      have HS := Lib.hid (hW.blk HS.out (blk_type_ne HS.out HP.out.blk (by decide)))
      have HTX := Lib.hid (HTX.out.keep (Only.wrote (S := (· = b)) hW rfl) (fun k cur _ hb e => blk_type_ne hb HP.out.blk (by decide) e))
      have HP := Lib.hid (HP.out.store3 hW hB)
      have HO2 := Lib.hid (HO2.out.trans (Only.wrote (S := NFoot b vx vy (.slice a3 n3 c3)) hW (.inl rfl)))
      clear hW hB
      refine hK _ _ HS.out (fun _ => ?_)
      clear hK K
      try simp only [Act.put, List.setIfInBounds_toArray, List.set_cons_succ, List.set_cons_zero]
      refine wpAnyH_done (by kernel_rfl) ?_ _
      have HP := Lib.hid HP.out.whole
      have HZ4 := Lib.hid (HO2.out.blk HZ4.out (fun q => by have h1 := HN3.out; have := (H.out.lt (k := w.heap.size) (by rw [h1] at q; exact q)); omega))
      go_wp2_with (refine wpList_load_sub rfl 47 (.tmp 7) (by rfl) bx 0 (by rfl) HS.out [.int .i64 s.f, .int .i64 s.t, .slice px nx cx] (by intro i hi; simp at hi ⊢) _ Try.underlying47 rfl size_sent ?_)
      obtain ⟨qa, qn, qc, qe, HTQ, _⟩ := HTX.out
      cases qe
      refine (own_walk s.f s.t px nx cx s.d HDL.out v8 HTQ).mono ?_
      rintro e w6 ⟨gg, rfl, hB, hge, hb⟩
      have HOV := Lib.hid HO2.out.size
      have HP := Lib.hid (HP.out.on hb)
      have HZ4 := Lib.hid (HZ4.out.on hb)
      have HO2 := Lib.hid (HO2.out.trans (Only.of_below hb))
      have HBR := Lib.hid hB
      have HGE := Lib.hid hge
      have HTL := Lib.hid HTQ.len
      clear hb hB hge HTQ HTX HS
      go_wp2_with (refine wpList_store_abs rfl 47 (.tmp 4) (.tmp 29) (by rfl) w.heap.size #[.int .i64 s.f, .int .i64 s.t, .slice (some ⟨gg, 0, none⟩) nx nx] (by rfl) (by rfl) 47 _ HZ4.out size_sent (by rfl) (by simp [Value.oneCell']) ?_; intro W9 hW p; have HFF := Lib.hid p; have HOF := Lib.hid (Only.wrote (S := (· = w.heap.size)) hW rfl); clear hW p)
      have hnz : ∀ j, NFoot b x1 vy (.slice a7 (n3 + 1) c7) j → NFoot b vx vy (.slice a3 n3 c3) j ∨ w.heap.size + 1 ≤ j := fun j q => by
        rcases q with e | e | e | e
        · exact .inl (.inl e)
        · exact .inl (.inr (.inl (by rw [← HX.out]; exact e)))
        · exact .inl (.inr (.inr (.inl e)))
        · exact (HG3.out j e).imp (fun q => .inr (.inr (.inr q))) (fun q => by have := HBX.out; have := HZ3.out; omega)
      have hft : ∀ j, NFoot b vx vy (.slice a3 n3 c3) j → j < w.heap.size := fun j q => H.out.lt (k := j) (by have h1 := HN3.out; rw [h1] at q; exact q)
      have hnw : ∀ j, NFoot b x1 vy (.slice a7 (n3 + 1) c7) j → ¬ j = w.heap.size := fun j q => by rcases hnz j q with p | p <;> first | (have := hft j p; omega) | omega
      have hnu : ∀ j cur, Blk w6 j cur 5 → ¬ j = w.heap.size := fun j cur hb => blk_type_ne hb HZ4.out (by decide)
      have hof : Only (NFoot b vx vy (.slice a3 n3 c3)) w W9 := ((((Only.of_below HB1.out).trans (by have h1 := HN3.out; rw [h1]; exact HO.out)).trans (by have h1 := HN3.out; rw [h1]; exact HBW.out)).trans HO2.out).trans' HOF.out (fun j e => .inr (by omega))
      refine bodyPost_ret (results_ctn rfl _ HFF.out (by rfl) Try.underlying47 rfl size_sent) rfl ⟨some ⟨gg, 0, none⟩, nx, nx, by rw [HE.out]; rfl, ?_, x1, .slice a7 (n3 + 1) c7, ?_, by rw [← HN3.out]; exact hof, ?_⟩
      · rw [HE.out, HTL.out]
        exact OwnB.of_blk (HOF.out.blk HBR.out (hnu _ _ HBR.out)) (by have h1 := HBX.out; have h2 := HZ3.out; have h3 := HO2.out.size; have h4 := HBW.out.size; have h5 := HGE.out; have h6 := HOV.out; omega) (by unfold maxLen; have := HDL.out; omega)
      · rw [HE.out]
        exact HP.out.keep HOF.out hnw (fun j cur _ hb => hnu j cur hb)
      · intro j q
        rw [← HN3.out]
        exact (hnz j q).imp id (fun e => by omega)
end Go.Proofs.Ytajjbffppkpjpaa
