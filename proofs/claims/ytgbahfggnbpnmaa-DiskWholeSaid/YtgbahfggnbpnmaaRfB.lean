import Derived.Test.YtgbahfggnbpnmaaRfC
/-
  The reference's Write.
-/
namespace Go.Proofs.Ytgbahfggnbpnmaa
open Go.RowKit
theorem info_rwt : (Try.prog.info? 76).map (fun i => (i.zero, i.size, i.bytes)) = some (some (.agg #[.int .i64 0, .slice none 0 0]), 2, 32) := by kernel_rfl
theorem size_rwts : (Try.prog.info? 69).map (·.size) = some 1 := by kernel_rfl
theorem join_blk1 (X : World) (t : TypeId) {g : Nat} {a : Option Addr} {n c : Nat} {l : List UInt8} (hb : Blk X g #[.slice a n c] t) (h : Txt X a n c l) (hlen : l.length ≤ 140737488355328) :
    Calls Try.prog 26 #[.slice (some ⟨g, 0, none⟩) 1 1] X fun e w' => ∃ a' n' c', e = .returned (.slice a' n' c') ∧ OwnB w' X.heap.size (.slice a' n' c') l ∧ Below X.heap.size X w' := by
  refine (join_walk [l] 1 1 rfl (some ⟨g, 0, none⟩) X (h.parts1 hb) (by simpa using hlen) (by simp)).mono ?_
  rintro e w' ⟨a', n', c', he, h2, h3⟩
  simp only [List.flatten_cons, List.flatten_nil, List.append_nil] at h2
  exact ⟨a', n', c', he, h2, h3⟩
/-- The reference's disk with one more write in its row, that it does not hold yet. -/
structure RPart (w : World) (av : Nat → Prop) (b n : Nat) (u v v2 : Value) (S T : DS) : Prop where
  ok : T.Ok n
  pos : 0 < n ∧ n ≤ 2048
  fit : ∀ f, T.fuse = some f → f ≤ 9223372036854775807
  blk : Blk w b #[u, v, .bool T.gone, .int .i64 (fz T.fuse), .int .i64 (T.ops : Nat)] 71
  good : ∃ gs, w.ownsRow 0 30 1 u n gs ∧ TxL w av gs T.good
  wait : ∃ ws, w.ownsRow 0 76 2 v2 T.wait.length (rcells ws) ∧ WtL w av ws T.wait
  ne : (∀ k, u.ownBlock = some k → k ≠ b) ∧ ∀ k, v2.ownBlock = some k → k ≠ b
theorem RefAt.part {w0 w w' : World} {av : Nat → Prop} {b n q wn c7 kj oj cj : Nat} {u v : Value} {a7 : Option Addr} {S : DS} {l : Sec} {ws : List (Nat × Value)} (h : RefAt w av b n u v S) (hq : q < n) (hl : l.length = 256) (hwn : wn = S.wait.length) (hg : w.grownBy w' v.ownBlock)
    (hO : w'.ownsRow 0 76 2 (.slice a7 (wn + 1) c7) (wn + 1) (rcells ws ++ [.int .i64 (q : Nat), .slice (some ⟨kj, oj, none⟩) 256 cj])) (hw2 : WtL w av ws S.wait) (hX : Tx w (fun k => av k ∨ w0.heap.size ≤ k) (.slice (some ⟨kj, oj, none⟩) 256 cj) l)
    (hat : ∀ k, (Value.slice a7 (wn + 1) c7).ownBlock = some k → v.ownBlock = some k ∨ w0.heap.size ≤ k) (hs : b < w0.heap.size) :
    RPart w' (fun k => av k ∨ w0.heap.size ≤ k) b n u v (.slice a7 (wn + 1) c7) S (S.put q l) := by
  have hO3 : Only (fun k => v.ownBlock = some k) w w' := Only.grown hg (fun k e => e)
  have hne : ∀ (av : Nat → Prop) k cur, av k → Blk w k cur 5 → ¬ v.ownBlock = some k := fun av k cur _ hb e => h.foot_ne hb (.inr (.inr e))
  obtain ⟨gs, hgr, hg2⟩ := h.good
  refine ⟨h.ok.put hq hl, h.pos, h.fit, hO3.blk h.blk (fun e => (h.vb b e).1 rfl), ⟨gs, row_same hgr fun k e => hO3.same k (h.lt (.inr (.inl e))) (fun q => (h.vb k q).2 e), (hg2.mono fun k e _ => .inl e).keep hO3 (hne _)⟩, ⟨ws ++ [(q, .slice (some ⟨kj, oj, none⟩) 256 cj)], ?_, ?_⟩, h.ub, fun k e => (hat k e).elim (fun q => (h.vb k q).1) (fun q => by omega)⟩
  · rw [rcells_snoc]
    show w'.ownsRow 0 _ 2 _ (S.wait ++ [(q, l)]).length _
    rw [List.length_append, ← hwn]
    exact hO
  · exact ((hw2.mono fun k e _ => .inl e).keep hO3 (hne _)).snoc q (hX.keep hO3 (hne _))
theorem RPart.whole {w w' : World} {av : Nat → Prop} {b n : Nat} {u v v2 : Value} {S T : DS} (h : RPart w av b n u v v2 S T) (hW : Wrote w w' b) (hB : Blk w' b (#[u, v, .bool T.gone, .int .i64 (fz T.fuse), .int .i64 (T.ops : Nat)].setIfInBounds 1 v2) 71) : RefAt w' av b n u v2 T := by
  have hO : Only (· = b) w w' := Only.wrote hW rfl
  obtain ⟨gs, hg, hg2⟩ := h.good
  obtain ⟨ws, hw, hw2⟩ := h.wait
  have hne : ∀ k cur, av k → Blk w k cur 5 → ¬ k = b := fun k cur _ hb e => blk_type_ne hb h.blk (by decide) e
  exact ⟨h.ok, h.pos, h.fit, hB, ⟨gs, row_same hg fun k e => hO.same k (row_blk hg e).choose_spec.lt (h.ne.1 k e), hg2.keep hO hne⟩, ⟨ws, row_same hw fun k e => hO.same k (row_blk hw e).choose_spec.lt (h.ne.2 k e), hw2.keep hO hne⟩⟩
set_option maxRecDepth 100000 in
set_option maxHeartbeats 4000000 in
theorem rwrite_at {av : Nat → Prop} {b n : Nat} {u v : Value} {S : DS} (i : Int) (pb : Option Addr) (mb cb : Nat) (l : List UInt8) (w0 : World) (h : RefAt w0 av b n u v S) (hops : S.ops ≤ 4611686018427387904) (hlen : S.wait.length ≤ 1000000) (hl : Txt w0 pb mb cb l) :
    Calls Try.prog 43 #[.pointer (some ⟨b, 0, none⟩), .int .i64 i, .slice pb mb cb] w0 fun e w' => e = .returned (.int .i64 (S.write i l).1) ∧ ∃ v', RefAt w' (fun k => av k ∨ w0.heap.size ≤ k) b n u v' (S.write i l).2 ∧ Only (RFoot b u v) w0 w' ∧ ∀ k, v'.ownBlock = some k → v.ownBlock = some k ∨ w0.heap.size ≤ k := by
  have HA := Lib.hid (h.mono (av' := fun k => av k ∨ w0.heap.size ≤ k) fun k e _ => .inl e)
  obtain ⟨gu, cu, hu, hcu⟩ := h.u_form
  obtain ⟨va, vc, rfl⟩ := h.row_form'
  obtain ⟨wn, hwn⟩ : ∃ m, m = S.wait.length := ⟨_, rfl⟩
  rw [← hwn] at h
  have HWN := Lib.hid hwn
  have HD := Lib.hid h
  have hlg := h.ok.len
  have hn := h.pos.2
  have c0 := h.c0
  have c2 := h.c2
  rw [hu] at c0
  clear hu
  have HB0 := Lib.hid h.blk.lt
  have hml := hl.len
  have HT := Lib.hid hl
  have HOP := Lib.hid (show (S.put i.toNat l).ops ≤ 4611686018427387904 from hops)
  have H63 := Lib.hid (show wn + 1 ≤ maxLen by unfold maxLen; omega)
  have HBY := Lib.hid (show (wn + 1) * 32 ≤ 140737488355328 by omega)
  have HO2 := Lib.hid (Only.refl (RFoot b u (.slice va wn vc)) w0)
  clear h hops hlen hwn hcu
  go_enter Try.func43, Try.ntmps43
  by_cases h1 : i < 0
  · have HE := Lib.hid (show S.write i l = (1, S) from if_pos (.inl (.inl h1)))
    clear hlg hml
    go_wp2
    go_ret
    exact ⟨by rw [HE.out]; rfl, _, by rw [HE.out]; exact HA.out, Only.refl _ _, fun k e => .inl e⟩
  by_cases h2 : (n : Int) ≤ i
  · have HE := Lib.hid (show S.write i l = (1, S) from if_pos (.inl (.inr (by rw [hlg]; exact h2))))
    clear hlg hml
    go_wp2
    go_ret
    exact ⟨by rw [HE.out]; rfl, _, by rw [HE.out]; exact HA.out, Only.refl _ _, fun k e => .inl e⟩
  by_cases h3 : mb = 256
  · subst h3
    obtain ⟨q, rfl⟩ : ∃ q : Nat, i = q := ⟨i.toNat, by omega⟩
    have HQ := Lib.hid (show q < n by omega)
    have HLL := Lib.hid hml.symm
    have hno : ¬ (S.out (q : Int) ∨ l.length ≠ 256) := by
      rintro (e | e)
      · unfold DS.out at e; rw [hlg] at e; omega
      · exact e hml.symm
    cases hg : S.gone with
    | true =>
      have HE := Lib.hid (show S.write (q : Int) l = (5, S) by unfold DS.write; rw [if_neg hno, if_pos hg])
      rw [hg] at c2
      clear hlg hml hno hg
      go_wp2
      go_ret
      exact ⟨by rw [HE.out]; rfl, _, by rw [HE.out]; exact HA.out, Only.refl _ _, fun k e => .inl e⟩
    | false =>
      have HE := Lib.hid (show S.write (q : Int) l = (if (S.put q l).goes.1 = true then 0 else 5, (S.put q l).goes.2) by unfold DS.write; rw [if_neg hno, if_neg (by rw [hg]; decide)]; rfl)
      rw [hg] at c2
      clear hlg hml hno hg
      go_wp2
      clear c0 c2 HA
      refine wp_region_held_drew (S := fun _ => True) (by kernel_rfl) True.intro (fun _ => ?_)
      have HS := Lib.hid True.intro
      have hb : Below w0.heap.size w0 (World.drew w0) := (Below.refl _ _).drew
      have HD := Lib.hid (HD.out.on hb)
      have HT := Lib.hid (HT.out.below hb)
      have HO2 := Lib.hid (HO2.out.trans (Only.of_below hb))
      clear hb
      generalize World.drew w0 = v0 at *
      try simp only [Act.put, List.setIfInBounds_toArray, List.set_cons_succ, List.set_cons_zero]
      refine wpAnyH_take (i := 0) (oi := ⟨some 27, .move (.tmp 0), _, _, _, none⟩) (v := .pointer (some ⟨b, 0, none⟩)) rfl (by kernel_rfl) (by kernel_rfl) (by kernel_rfl) (fun _ _ _ h => h) (Or.inl ⟨by rfl, fun _ _ => by go_simp⟩) HS.out ?_
      try simp only [Act.put, List.setIfInBounds_toArray, List.set_cons_succ, List.set_cons_zero]
      refine wpAnyH_take (i := 1) (oi := ⟨some 28, .move (.tmp 0), _, _, _, none⟩) (v := .pointer (some ⟨b, 0, none⟩)) rfl (by kernel_rfl) (by kernel_rfl) (by kernel_rfl) (fun _ _ _ h => h) (Or.inl ⟨by rfl, fun _ _ => by go_simp⟩) HS.out ?_
      try simp only [Act.put, List.setIfInBounds_toArray, List.set_cons_succ, List.set_cons_zero]
      refine wpAnyH_take (i := 2) (oi := ⟨some 29, .nilCheck (.tmp 28), _, _, _, none⟩) (v := .pointer (some ⟨b, 0, none⟩)) rfl (by kernel_rfl) (by kernel_rfl) (by kernel_rfl) (fun _ _ _ h => h) (Or.inl ⟨by rfl, fun _ _ => by go_simp⟩) HS.out ?_
      try simp only [Act.put, List.setIfInBounds_toArray, List.set_cons_succ, List.set_cons_zero]
      refine wpAnyH_take (i := 3) (oi := ⟨some 30, .fieldAddr 71 (.tmp 29) 1, _, _, _, none⟩) (v := .pointer (some ⟨b, 1, none⟩)) rfl (by kernel_rfl) (by kernel_rfl) (by kernel_rfl) (fun _ _ _ h => h) (Or.inl ⟨by rfl, fun _ _ => by go_simp⟩) HS.out ?_
      try simp only [Act.put, List.setIfInBounds_toArray, List.set_cons_succ, List.set_cons_zero]
      refine wpAnyH_take (i := 5) (oi := ⟨some 32, .move (.tmp 1), _, _, _, none⟩) (v := .int .i64 (q : Nat)) rfl (by kernel_rfl) (by kernel_rfl) (by kernel_rfl) (fun _ _ _ h => h) (Or.inl ⟨by rfl, fun _ _ => by go_simp⟩) HS.out ?_
      try simp only [Act.put, List.setIfInBounds_toArray, List.set_cons_succ, List.set_cons_zero]
      refine wpAnyH_take (i := 6) (oi := ⟨some 33, .move (.tmp 2), _, _, _, none⟩) (v := .slice pb 256 cb) rfl (by kernel_rfl) (by kernel_rfl) (by kernel_rfl) (fun _ _ _ h => h) (Or.inl ⟨by rfl, fun _ _ => by go_simp⟩) HS.out ?_
      try simp only [Act.put, List.setIfInBounds_toArray, List.set_cons_succ, List.set_cons_zero]
      refine wpAnyH_ready (rs := [4, 7]) (by kernel_rfl) (by simp) ?_
      refine AllReadyH.cons (o := ⟨some 31, .load 69 (.tmp 30), 69, _, _, none⟩) rfl (fun K hK => ?_) (AllReadyH.cons (o := ⟨some 34, .buildSlice 68 1 #[(0, .tmp 33)], 68, _, _, none⟩) rfl (fun K hK => ?_) AllReadyH.nil)
      · have c1 := HD.out.c1
        refine wp_of_yields' (v := .slice va wn vc) (by unfold execOp; go_simp) ?_
        clear c1
        refine hK _ _ HS.out (fun _ => ?_)
        clear hK K
        try simp only [Act.put, List.setIfInBounds_toArray, List.set_cons_succ, List.set_cons_zero]
        refine wpAnyH_ready (rs := [7]) (by kernel_rfl) (by simp) ?_
        refine AllReadyH.cons (o := ⟨some 34, .buildSlice 68 1 #[(0, .tmp 33)], 68, _, _, none⟩) rfl (fun K hK => ?_) AllReadyH.nil
        go_simp
        have BT := Blk.new v0 #[.slice pb 256 cb] 30
        have hb := below_one' v0 (.cells #[.slice pb 256 cb] 30)
        generalize World.alloc v0 _ = v2 at *
        have HD := Lib.hid (HD.out.on hb)
        have HT := Lib.hid (HT.out.below hb)
        have HO2 := Lib.hid (HO2.out.trans (Only.of_below hb))
        replace BT := Lib.hid BT
        clear hb
        refine hK _ _ HS.out (fun _ => ?_)
        clear hK K
        try simp only [Act.put, List.setIfInBounds_toArray, List.set_cons_succ, List.set_cons_zero]
        refine wpAnyH_ready (rs := [8]) (by kernel_rfl) (by simp) ?_
        refine AllReadyH.cons (o := ⟨some 35, .call { callee := .value (.func 26), args := #[.tmp 34], argTypes := #[68] }, 30, _, _, none⟩) rfl (fun K hK => ?_) AllReadyH.nil
        go_simp
        refine (join_blk1 v2 _ BT.out HT.out (by rw [HLL.out]; omega)).mono ?_
        rintro e v3 ⟨aj, nj, cj, rfl, hOj, hb⟩
        have hsz := HO2.out.size
        obtain ⟨kj, oj, cj, ej, _⟩ := (Tx.of_own hOj HLL.out).txt
        rw [ej]
        have HD := Lib.hid (HD.out.on hb)
        have HT := Lib.hid (HT.out.below hb)
        have HO2 := Lib.hid (HO2.out.trans (Only.of_below hb))
        have BT := Lib.hid (BT.out.on hb)
        have HX := Lib.hid (((Tx.of_own hOj HLL.out).mono (av' := fun k => av k ∨ w0.heap.size ≤ k) (fun k e _ => .inr (Nat.le_trans hsz e))) |> (ej ▸ ·))
        clear hb hOj ej BT hsz
        refine hK _ _ HS.out (fun _ => ?_)
        clear hK K
        try simp only [Act.put, List.setIfInBounds_toArray, List.set_cons_succ, List.set_cons_zero]
        refine wpAnyH_take (i := 9) (oi := ⟨some 36, .build 76 #[(0, .tmp 32), (1, .tmp 35)], 76, _, _, none⟩) (v := .agg #[.int .i64 (q : Nat), .slice (some ⟨kj, oj, none⟩) 256 cj]) rfl (by kernel_rfl) (by kernel_rfl) (by kernel_rfl) (fun _ _ _ h => h) (Or.inl ⟨by rfl, fun _ _ => by (unfold execOp; go_simp)⟩) HS.out ?_
        try simp only [Act.put, List.setIfInBounds_toArray, List.set_cons_succ, List.set_cons_zero]
        refine wpAnyH_ready (rs := [10]) (by kernel_rfl) (by simp) ?_
        refine AllReadyH.cons (o := ⟨some 37, .buildSlice 69 1 #[(0, .tmp 36)], 69, _, _, none⟩) rfl (fun K hK => ?_) AllReadyH.nil
        go_simp
        have BJ := Blk.new v3 #[.int .i64 (q : Nat), .slice (some ⟨kj, oj, none⟩) 256 cj] 76
        have hb := below_one' v3 (.cells #[.int .i64 (q : Nat), .slice (some ⟨kj, oj, none⟩) 256 cj] 76)
        generalize World.alloc v3 _ = v4 at *
        have HD := Lib.hid (HD.out.on hb)
        have HT := Lib.hid (HT.out.below hb)
        have HO2 := Lib.hid (HO2.out.trans (Only.of_below hb))
        have HX := Lib.hid (HX.out.on hb)
        replace BJ := Lib.hid BJ
        clear hb
        refine hK _ _ HS.out (fun _ => ?_)
        clear hK K
        try simp only [Act.put, List.setIfInBounds_toArray, List.set_cons_succ, List.set_cons_zero]
        refine wpAnyH_ready (rs := [11]) (by kernel_rfl) (by simp) ?_
        refine AllReadyH.cons (o := ⟨some 38, .call { callee := .builtin .append, args := #[.tmp 31, .tmp 37], argTypes := #[69, 69] }, 69, _, _, none⟩) rfl (fun K hK => ?_) AllReadyH.nil
        obtain ⟨ws, hw, hw2⟩ := HD.out.wait
        rw [← HWN.out] at hw
        have HWS := Lib.hid hw
        have HW2 := Lib.hid hw2
        clear hw hw2
        refine wp_append_row (.tmp 31) (.tmp 37) 69 76 rfl (.agg #[.int .i64 0, .slice none 0 0]) 2 32 Try.underlying69 info_rwt (by rfl) (by decide) (.slice va wn vc) wn (rcells ws) (by rfl) HWS.out _ 1 [.int .i64 (q : Nat), .slice (some ⟨kj, oj, none⟩) 256 cj] (by rfl) (by rfl) BJ.out (by simp [Value.oneCell']) H63.out HBY.out ?_
        intro a7 c7 v5 hO hg hat
        have HO7 := Lib.hid hO
        have HAT := Lib.hid (show ∀ k, (Value.slice a7 (wn + 1) c7).ownBlock = some k → ((.slice va wn vc) : Value).ownBlock = some k ∨ w0.heap.size ≤ k from fun k e => (hat k e).elim .inl (fun q => .inr (by rw [q]; exact HO2.out.size)))
        have HPT := Lib.hid (HD.out.part HQ.out HLL.out HWN.out hg HO7.out HW2.out HX.out HAT.out HB0.out)
        have HO2 := Lib.hid (HO2.out.trans (Only.grown (S := RFoot b u (.slice va wn vc)) hg (fun k e => .inr (.inr e))))
        clear hO hg hat HD BJ HX HWS HW2
        refine hK _ _ HS.out (fun _ => ?_)
        clear hK K
        try simp only [Act.put, List.setIfInBounds_toArray, List.set_cons_succ, List.set_cons_zero]
        refine wpAnyH_take (i := 12) (oi := ⟨some 39, .nilCheck (.tmp 27), _, _, _, none⟩) (v := .pointer (some ⟨b, 0, none⟩)) rfl (by kernel_rfl) (by kernel_rfl) (by kernel_rfl) (fun _ _ _ h => h) (Or.inl ⟨by rfl, fun _ _ => by go_simp⟩) HS.out ?_
        try simp only [Act.put, List.setIfInBounds_toArray, List.set_cons_succ, List.set_cons_zero]
        refine wpAnyH_take (i := 13) (oi := ⟨some 40, .fieldAddr 71 (.tmp 39) 1, _, _, _, none⟩) (v := .pointer (some ⟨b, 1, none⟩)) rfl (by kernel_rfl) (by kernel_rfl) (by kernel_rfl) (fun _ _ _ h => h) (Or.inl ⟨by rfl, fun _ _ => by go_simp⟩) HS.out ?_
        try simp only [Act.put, List.setIfInBounds_toArray, List.set_cons_succ, List.set_cons_zero]
        refine wpAnyH_ready (rs := [14]) (by kernel_rfl) (by simp) ?_
        refine AllReadyH.cons (o := ⟨none, .store 69 (.tmp 40) (.tmp 38), _, _, _, none⟩) rfl (fun K hK => ?_) AllReadyH.nil
        refine wp_store_one (.tmp 40) (.tmp 38) 69 size_rwts rfl b 1 (.slice a7 (wn + 1) c7) (by rfl) (by rfl) (by rfl) (by rfl) HPT.out.blk (by simp) ?_
        intro v6 hW hB
        have HDN := Lib.hid (HPT.out.whole hW hB)
        have HO2 := Lib.hid (HO2.out.trans (Only.wrote (S := RFoot b u (.slice va wn vc)) hW (.inl rfl)))
        clear hW hB HPT HO7
        refine hK _ _ HS.out (fun _ => ?_)
        clear hK K
        try simp only [Act.put, List.setIfInBounds_toArray, List.set_cons_succ, List.set_cons_zero]
        refine wpAnyH_done (by kernel_rfl) ?_ _
        go_wp2_with fail
        refine (burnt_at _ HDN.out HOP.out).mono ?_
        rintro e w9 ⟨rfl, hD, hO⟩
        have HD9 := Lib.hid hD
        have HO9 := Lib.hid (HO2.out.trans (hO.mono fun k e => .inl e))
        clear hD hO
        cases hq : (S.put q l).goes.1 with
        | false =>
          have HE2 := Lib.hid (show S.write (q : Int) l = (5, (S.put q l).goes.2) by rw [HE.out, if_neg (by rw [hq]; decide)])
          clear hq
          go_wp2
          go_ret
          exact ⟨by rw [HE2.out]; rfl, _, by rw [HE2.out]; exact HD9.out, by rw [← HWN.out]; exact HO9.out, by rw [← HWN.out]; exact HAT.out⟩
        | true =>
          have HE2 := Lib.hid (show S.write (q : Int) l = (0, (S.put q l).goes.2) by rw [HE.out, if_pos hq])
          clear hq
          go_wp2
          go_ret
          exact ⟨by rw [HE2.out]; rfl, _, by rw [HE2.out]; exact HD9.out, by rw [← HWN.out]; exact HO9.out, by rw [← HWN.out]; exact HAT.out⟩
      · go_simp
        have BT := Blk.new v0 #[.slice pb 256 cb] 30
        have hb := below_one' v0 (.cells #[.slice pb 256 cb] 30)
        generalize World.alloc v0 _ = v7 at *
        have HD := Lib.hid (HD.out.on hb)
        have HT := Lib.hid (HT.out.below hb)
        have HO2 := Lib.hid (HO2.out.trans (Only.of_below hb))
        replace BT := Lib.hid BT
        clear hb
        refine hK _ _ HS.out (fun _ => ?_)
        clear hK K
        try simp only [Act.put, List.setIfInBounds_toArray, List.set_cons_succ, List.set_cons_zero]
        refine wpAnyH_ready (rs := [4, 8]) (by kernel_rfl) (by simp) ?_
        refine AllReadyH.cons (o := ⟨some 31, .load 69 (.tmp 30), 69, _, _, none⟩) rfl (fun K hK => ?_) (AllReadyH.cons (o := ⟨some 35, .call { callee := .value (.func 26), args := #[.tmp 34], argTypes := #[68] }, 30, _, _, none⟩) rfl (fun K hK => ?_) AllReadyH.nil)
        · have c1 := HD.out.c1
          refine wp_of_yields' (v := .slice va wn vc) (by unfold execOp; go_simp) ?_
          clear c1
          refine hK _ _ HS.out (fun _ => ?_)
          clear hK K
          try simp only [Act.put, List.setIfInBounds_toArray, List.set_cons_succ, List.set_cons_zero]
          refine wpAnyH_ready (rs := [8]) (by kernel_rfl) (by simp) ?_
          refine AllReadyH.cons (o := ⟨some 35, .call { callee := .value (.func 26), args := #[.tmp 34], argTypes := #[68] }, 30, _, _, none⟩) rfl (fun K hK => ?_) AllReadyH.nil
          go_simp
          refine (join_blk1 v7 _ BT.out HT.out (by rw [HLL.out]; omega)).mono ?_
          rintro e v9 ⟨aj, nj, cj, rfl, hOj, hb⟩
          have hsz := HO2.out.size
          obtain ⟨kj, oj, cj, ej, _⟩ := (Tx.of_own hOj HLL.out).txt
          rw [ej]
          have HD := Lib.hid (HD.out.on hb)
          have HT := Lib.hid (HT.out.below hb)
          have HO2 := Lib.hid (HO2.out.trans (Only.of_below hb))
          have BT := Lib.hid (BT.out.on hb)
          have HX := Lib.hid (((Tx.of_own hOj HLL.out).mono (av' := fun k => av k ∨ w0.heap.size ≤ k) (fun k e _ => .inr (Nat.le_trans hsz e))) |> (ej ▸ ·))
          clear hb hOj ej BT hsz
          refine hK _ _ HS.out (fun _ => ?_)
          clear hK K
          try simp only [Act.put, List.setIfInBounds_toArray, List.set_cons_succ, List.set_cons_zero]
          refine wpAnyH_take (i := 9) (oi := ⟨some 36, .build 76 #[(0, .tmp 32), (1, .tmp 35)], 76, _, _, none⟩) (v := .agg #[.int .i64 (q : Nat), .slice (some ⟨kj, oj, none⟩) 256 cj]) rfl (by kernel_rfl) (by kernel_rfl) (by kernel_rfl) (fun _ _ _ h => h) (Or.inl ⟨by rfl, fun _ _ => by (unfold execOp; go_simp)⟩) HS.out ?_
          try simp only [Act.put, List.setIfInBounds_toArray, List.set_cons_succ, List.set_cons_zero]
          refine wpAnyH_ready (rs := [10]) (by kernel_rfl) (by simp) ?_
          refine AllReadyH.cons (o := ⟨some 37, .buildSlice 69 1 #[(0, .tmp 36)], 69, _, _, none⟩) rfl (fun K hK => ?_) AllReadyH.nil
          go_simp
          have BJ := Blk.new v9 #[.int .i64 (q : Nat), .slice (some ⟨kj, oj, none⟩) 256 cj] 76
          have hb := below_one' v9 (.cells #[.int .i64 (q : Nat), .slice (some ⟨kj, oj, none⟩) 256 cj] 76)
          generalize World.alloc v9 _ = v10 at *
          have HD := Lib.hid (HD.out.on hb)
          have HT := Lib.hid (HT.out.below hb)
          have HO2 := Lib.hid (HO2.out.trans (Only.of_below hb))
          have HX := Lib.hid (HX.out.on hb)
          replace BJ := Lib.hid BJ
          clear hb
          refine hK _ _ HS.out (fun _ => ?_)
          clear hK K
          try simp only [Act.put, List.setIfInBounds_toArray, List.set_cons_succ, List.set_cons_zero]
          refine wpAnyH_ready (rs := [11]) (by kernel_rfl) (by simp) ?_
          refine AllReadyH.cons (o := ⟨some 38, .call { callee := .builtin .append, args := #[.tmp 31, .tmp 37], argTypes := #[69, 69] }, 69, _, _, none⟩) rfl (fun K hK => ?_) AllReadyH.nil
          obtain ⟨ws, hw, hw2⟩ := HD.out.wait
          rw [← HWN.out] at hw
          have HWS := Lib.hid hw
          have HW2 := Lib.hid hw2
          clear hw hw2
          refine wp_append_row (.tmp 31) (.tmp 37) 69 76 rfl (.agg #[.int .i64 0, .slice none 0 0]) 2 32 Try.underlying69 info_rwt (by rfl) (by decide) (.slice va wn vc) wn (rcells ws) (by rfl) HWS.out _ 1 [.int .i64 (q : Nat), .slice (some ⟨kj, oj, none⟩) 256 cj] (by rfl) (by rfl) BJ.out (by simp [Value.oneCell']) H63.out HBY.out ?_
          intro a7 c7 v11 hO hg hat
          have HO7 := Lib.hid hO
          have HAT := Lib.hid (show ∀ k, (Value.slice a7 (wn + 1) c7).ownBlock = some k → ((.slice va wn vc) : Value).ownBlock = some k ∨ w0.heap.size ≤ k from fun k e => (hat k e).elim .inl (fun q => .inr (by rw [q]; exact HO2.out.size)))
          have HPT := Lib.hid (HD.out.part HQ.out HLL.out HWN.out hg HO7.out HW2.out HX.out HAT.out HB0.out)
          have HO2 := Lib.hid (HO2.out.trans (Only.grown (S := RFoot b u (.slice va wn vc)) hg (fun k e => .inr (.inr e))))
          clear hO hg hat HD BJ HX HWS HW2
          refine hK _ _ HS.out (fun _ => ?_)
          clear hK K
          try simp only [Act.put, List.setIfInBounds_toArray, List.set_cons_succ, List.set_cons_zero]
          refine wpAnyH_take (i := 12) (oi := ⟨some 39, .nilCheck (.tmp 27), _, _, _, none⟩) (v := .pointer (some ⟨b, 0, none⟩)) rfl (by kernel_rfl) (by kernel_rfl) (by kernel_rfl) (fun _ _ _ h => h) (Or.inl ⟨by rfl, fun _ _ => by go_simp⟩) HS.out ?_
          try simp only [Act.put, List.setIfInBounds_toArray, List.set_cons_succ, List.set_cons_zero]
          refine wpAnyH_take (i := 13) (oi := ⟨some 40, .fieldAddr 71 (.tmp 39) 1, _, _, _, none⟩) (v := .pointer (some ⟨b, 1, none⟩)) rfl (by kernel_rfl) (by kernel_rfl) (by kernel_rfl) (fun _ _ _ h => h) (Or.inl ⟨by rfl, fun _ _ => by go_simp⟩) HS.out ?_
          try simp only [Act.put, List.setIfInBounds_toArray, List.set_cons_succ, List.set_cons_zero]
          refine wpAnyH_ready (rs := [14]) (by kernel_rfl) (by simp) ?_
          refine AllReadyH.cons (o := ⟨none, .store 69 (.tmp 40) (.tmp 38), _, _, _, none⟩) rfl (fun K hK => ?_) AllReadyH.nil
          refine wp_store_one (.tmp 40) (.tmp 38) 69 size_rwts rfl b 1 (.slice a7 (wn + 1) c7) (by rfl) (by rfl) (by rfl) (by rfl) HPT.out.blk (by simp) ?_
          intro v12 hW hB
          have HDN := Lib.hid (HPT.out.whole hW hB)
          have HO2 := Lib.hid (HO2.out.trans (Only.wrote (S := RFoot b u (.slice va wn vc)) hW (.inl rfl)))
          clear hW hB HPT HO7
          refine hK _ _ HS.out (fun _ => ?_)
          clear hK K
          try simp only [Act.put, List.setIfInBounds_toArray, List.set_cons_succ, List.set_cons_zero]
          refine wpAnyH_done (by kernel_rfl) ?_ _
          go_wp2_with fail
          refine (burnt_at _ HDN.out HOP.out).mono ?_
          rintro e w9 ⟨rfl, hD, hO⟩
          have HD9 := Lib.hid hD
          have HO9 := Lib.hid (HO2.out.trans (hO.mono fun k e => .inl e))
          clear hD hO
          cases hq : (S.put q l).goes.1 with
          | false =>
            have HE2 := Lib.hid (show S.write (q : Int) l = (5, (S.put q l).goes.2) by rw [HE.out, if_neg (by rw [hq]; decide)])
            clear hq
            go_wp2
            go_ret
            exact ⟨by rw [HE2.out]; rfl, _, by rw [HE2.out]; exact HD9.out, by rw [← HWN.out]; exact HO9.out, by rw [← HWN.out]; exact HAT.out⟩
          | true =>
            have HE2 := Lib.hid (show S.write (q : Int) l = (0, (S.put q l).goes.2) by rw [HE.out, if_pos hq])
            clear hq
            go_wp2
            go_ret
            exact ⟨by rw [HE2.out]; rfl, _, by rw [HE2.out]; exact HD9.out, by rw [← HWN.out]; exact HO9.out, by rw [← HWN.out]; exact HAT.out⟩
        · go_simp
          refine (join_blk1 v7 _ BT.out HT.out (by rw [HLL.out]; omega)).mono ?_
          rintro e v13 ⟨aj, nj, cj, rfl, hOj, hb⟩
          have hsz := HO2.out.size
          obtain ⟨kj, oj, cj, ej, _⟩ := (Tx.of_own hOj HLL.out).txt
          rw [ej]
          have HD := Lib.hid (HD.out.on hb)
          have HT := Lib.hid (HT.out.below hb)
          have HO2 := Lib.hid (HO2.out.trans (Only.of_below hb))
          have BT := Lib.hid (BT.out.on hb)
          have HX := Lib.hid (((Tx.of_own hOj HLL.out).mono (av' := fun k => av k ∨ w0.heap.size ≤ k) (fun k e _ => .inr (Nat.le_trans hsz e))) |> (ej ▸ ·))
          clear hb hOj ej BT hsz
          refine hK _ _ HS.out (fun _ => ?_)
          clear hK K
          try simp only [Act.put, List.setIfInBounds_toArray, List.set_cons_succ, List.set_cons_zero]
          refine wpAnyH_take (i := 9) (oi := ⟨some 36, .build 76 #[(0, .tmp 32), (1, .tmp 35)], 76, _, _, none⟩) (v := .agg #[.int .i64 (q : Nat), .slice (some ⟨kj, oj, none⟩) 256 cj]) rfl (by kernel_rfl) (by kernel_rfl) (by kernel_rfl) (fun _ _ _ h => h) (Or.inl ⟨by rfl, fun _ _ => by (unfold execOp; go_simp)⟩) HS.out ?_
          try simp only [Act.put, List.setIfInBounds_toArray, List.set_cons_succ, List.set_cons_zero]
          refine wpAnyH_ready (rs := [4, 10]) (by kernel_rfl) (by simp) ?_
          refine AllReadyH.cons (o := ⟨some 31, .load 69 (.tmp 30), 69, _, _, none⟩) rfl (fun K hK => ?_) (AllReadyH.cons (o := ⟨some 37, .buildSlice 69 1 #[(0, .tmp 36)], 69, _, _, none⟩) rfl (fun K hK => ?_) AllReadyH.nil)
          · have c1 := HD.out.c1
            refine wp_of_yields' (v := .slice va wn vc) (by unfold execOp; go_simp) ?_
            clear c1
            refine hK _ _ HS.out (fun _ => ?_)
            clear hK K
            try simp only [Act.put, List.setIfInBounds_toArray, List.set_cons_succ, List.set_cons_zero]
            refine wpAnyH_ready (rs := [10]) (by kernel_rfl) (by simp) ?_
            refine AllReadyH.cons (o := ⟨some 37, .buildSlice 69 1 #[(0, .tmp 36)], 69, _, _, none⟩) rfl (fun K hK => ?_) AllReadyH.nil
            go_simp
            have BJ := Blk.new v13 #[.int .i64 (q : Nat), .slice (some ⟨kj, oj, none⟩) 256 cj] 76
            have hb := below_one' v13 (.cells #[.int .i64 (q : Nat), .slice (some ⟨kj, oj, none⟩) 256 cj] 76)
            generalize World.alloc v13 _ = v15 at *
            have HD := Lib.hid (HD.out.on hb)
            have HT := Lib.hid (HT.out.below hb)
            have HO2 := Lib.hid (HO2.out.trans (Only.of_below hb))
            have HX := Lib.hid (HX.out.on hb)
            replace BJ := Lib.hid BJ
            clear hb
            refine hK _ _ HS.out (fun _ => ?_)
            clear hK K
            try simp only [Act.put, List.setIfInBounds_toArray, List.set_cons_succ, List.set_cons_zero]
            refine wpAnyH_ready (rs := [11]) (by kernel_rfl) (by simp) ?_
            refine AllReadyH.cons (o := ⟨some 38, .call { callee := .builtin .append, args := #[.tmp 31, .tmp 37], argTypes := #[69, 69] }, 69, _, _, none⟩) rfl (fun K hK => ?_) AllReadyH.nil
            obtain ⟨ws, hw, hw2⟩ := HD.out.wait
            rw [← HWN.out] at hw
            have HWS := Lib.hid hw
            have HW2 := Lib.hid hw2
            clear hw hw2
            refine wp_append_row (.tmp 31) (.tmp 37) 69 76 rfl (.agg #[.int .i64 0, .slice none 0 0]) 2 32 Try.underlying69 info_rwt (by rfl) (by decide) (.slice va wn vc) wn (rcells ws) (by rfl) HWS.out _ 1 [.int .i64 (q : Nat), .slice (some ⟨kj, oj, none⟩) 256 cj] (by rfl) (by rfl) BJ.out (by simp [Value.oneCell']) H63.out HBY.out ?_
            intro a7 c7 v16 hO hg hat
            have HO7 := Lib.hid hO
            have HAT := Lib.hid (show ∀ k, (Value.slice a7 (wn + 1) c7).ownBlock = some k → ((.slice va wn vc) : Value).ownBlock = some k ∨ w0.heap.size ≤ k from fun k e => (hat k e).elim .inl (fun q => .inr (by rw [q]; exact HO2.out.size)))
            have HPT := Lib.hid (HD.out.part HQ.out HLL.out HWN.out hg HO7.out HW2.out HX.out HAT.out HB0.out)
            have HO2 := Lib.hid (HO2.out.trans (Only.grown (S := RFoot b u (.slice va wn vc)) hg (fun k e => .inr (.inr e))))
            clear hO hg hat HD BJ HX HWS HW2
            refine hK _ _ HS.out (fun _ => ?_)
            clear hK K
            try simp only [Act.put, List.setIfInBounds_toArray, List.set_cons_succ, List.set_cons_zero]
            refine wpAnyH_take (i := 12) (oi := ⟨some 39, .nilCheck (.tmp 27), _, _, _, none⟩) (v := .pointer (some ⟨b, 0, none⟩)) rfl (by kernel_rfl) (by kernel_rfl) (by kernel_rfl) (fun _ _ _ h => h) (Or.inl ⟨by rfl, fun _ _ => by go_simp⟩) HS.out ?_
            try simp only [Act.put, List.setIfInBounds_toArray, List.set_cons_succ, List.set_cons_zero]
            refine wpAnyH_take (i := 13) (oi := ⟨some 40, .fieldAddr 71 (.tmp 39) 1, _, _, _, none⟩) (v := .pointer (some ⟨b, 1, none⟩)) rfl (by kernel_rfl) (by kernel_rfl) (by kernel_rfl) (fun _ _ _ h => h) (Or.inl ⟨by rfl, fun _ _ => by go_simp⟩) HS.out ?_
            try simp only [Act.put, List.setIfInBounds_toArray, List.set_cons_succ, List.set_cons_zero]
            refine wpAnyH_ready (rs := [14]) (by kernel_rfl) (by simp) ?_
            refine AllReadyH.cons (o := ⟨none, .store 69 (.tmp 40) (.tmp 38), _, _, _, none⟩) rfl (fun K hK => ?_) AllReadyH.nil
            refine wp_store_one (.tmp 40) (.tmp 38) 69 size_rwts rfl b 1 (.slice a7 (wn + 1) c7) (by rfl) (by rfl) (by rfl) (by rfl) HPT.out.blk (by simp) ?_
            intro v17 hW hB
            have HDN := Lib.hid (HPT.out.whole hW hB)
            have HO2 := Lib.hid (HO2.out.trans (Only.wrote (S := RFoot b u (.slice va wn vc)) hW (.inl rfl)))
            clear hW hB HPT HO7
            refine hK _ _ HS.out (fun _ => ?_)
            clear hK K
            try simp only [Act.put, List.setIfInBounds_toArray, List.set_cons_succ, List.set_cons_zero]
            refine wpAnyH_done (by kernel_rfl) ?_ _
            go_wp2_with fail
            refine (burnt_at _ HDN.out HOP.out).mono ?_
            rintro e w9 ⟨rfl, hD, hO⟩
            have HD9 := Lib.hid hD
            have HO9 := Lib.hid (HO2.out.trans (hO.mono fun k e => .inl e))
            clear hD hO
            cases hq : (S.put q l).goes.1 with
            | false =>
              have HE2 := Lib.hid (show S.write (q : Int) l = (5, (S.put q l).goes.2) by rw [HE.out, if_neg (by rw [hq]; decide)])
              clear hq
              go_wp2
              go_ret
              exact ⟨by rw [HE2.out]; rfl, _, by rw [HE2.out]; exact HD9.out, by rw [← HWN.out]; exact HO9.out, by rw [← HWN.out]; exact HAT.out⟩
            | true =>
              have HE2 := Lib.hid (show S.write (q : Int) l = (0, (S.put q l).goes.2) by rw [HE.out, if_pos hq])
              clear hq
              go_wp2
              go_ret
              exact ⟨by rw [HE2.out]; rfl, _, by rw [HE2.out]; exact HD9.out, by rw [← HWN.out]; exact HO9.out, by rw [← HWN.out]; exact HAT.out⟩
          · go_simp
            have BJ := Blk.new v13 #[.int .i64 (q : Nat), .slice (some ⟨kj, oj, none⟩) 256 cj] 76
            have hb := below_one' v13 (.cells #[.int .i64 (q : Nat), .slice (some ⟨kj, oj, none⟩) 256 cj] 76)
            generalize World.alloc v13 _ = v18 at *
            have HD := Lib.hid (HD.out.on hb)
            have HT := Lib.hid (HT.out.below hb)
            have HO2 := Lib.hid (HO2.out.trans (Only.of_below hb))
            have HX := Lib.hid (HX.out.on hb)
            replace BJ := Lib.hid BJ
            clear hb
            refine hK _ _ HS.out (fun _ => ?_)
            clear hK K
            try simp only [Act.put, List.setIfInBounds_toArray, List.set_cons_succ, List.set_cons_zero]
            refine wpAnyH_ready (rs := [4]) (by kernel_rfl) (by simp) ?_
            refine AllReadyH.cons (o := ⟨some 31, .load 69 (.tmp 30), 69, _, _, none⟩) rfl (fun K hK => ?_) AllReadyH.nil
            have c1 := HD.out.c1
            refine wp_of_yields' (v := .slice va wn vc) (by unfold execOp; go_simp) ?_
            clear c1
            refine hK _ _ HS.out (fun _ => ?_)
            clear hK K
            try simp only [Act.put, List.setIfInBounds_toArray, List.set_cons_succ, List.set_cons_zero]
            refine wpAnyH_ready (rs := [11]) (by kernel_rfl) (by simp) ?_
            refine AllReadyH.cons (o := ⟨some 38, .call { callee := .builtin .append, args := #[.tmp 31, .tmp 37], argTypes := #[69, 69] }, 69, _, _, none⟩) rfl (fun K hK => ?_) AllReadyH.nil
            obtain ⟨ws, hw, hw2⟩ := HD.out.wait
            rw [← HWN.out] at hw
            have HWS := Lib.hid hw
            have HW2 := Lib.hid hw2
            clear hw hw2
            refine wp_append_row (.tmp 31) (.tmp 37) 69 76 rfl (.agg #[.int .i64 0, .slice none 0 0]) 2 32 Try.underlying69 info_rwt (by rfl) (by decide) (.slice va wn vc) wn (rcells ws) (by rfl) HWS.out _ 1 [.int .i64 (q : Nat), .slice (some ⟨kj, oj, none⟩) 256 cj] (by rfl) (by rfl) BJ.out (by simp [Value.oneCell']) H63.out HBY.out ?_
            intro a7 c7 v20 hO hg hat
            have HO7 := Lib.hid hO
            have HAT := Lib.hid (show ∀ k, (Value.slice a7 (wn + 1) c7).ownBlock = some k → ((.slice va wn vc) : Value).ownBlock = some k ∨ w0.heap.size ≤ k from fun k e => (hat k e).elim .inl (fun q => .inr (by rw [q]; exact HO2.out.size)))
            have HPT := Lib.hid (HD.out.part HQ.out HLL.out HWN.out hg HO7.out HW2.out HX.out HAT.out HB0.out)
            have HO2 := Lib.hid (HO2.out.trans (Only.grown (S := RFoot b u (.slice va wn vc)) hg (fun k e => .inr (.inr e))))
            clear hO hg hat HD BJ HX HWS HW2
            refine hK _ _ HS.out (fun _ => ?_)
            clear hK K
            try simp only [Act.put, List.setIfInBounds_toArray, List.set_cons_succ, List.set_cons_zero]
            refine wpAnyH_take (i := 12) (oi := ⟨some 39, .nilCheck (.tmp 27), _, _, _, none⟩) (v := .pointer (some ⟨b, 0, none⟩)) rfl (by kernel_rfl) (by kernel_rfl) (by kernel_rfl) (fun _ _ _ h => h) (Or.inl ⟨by rfl, fun _ _ => by go_simp⟩) HS.out ?_
            try simp only [Act.put, List.setIfInBounds_toArray, List.set_cons_succ, List.set_cons_zero]
            refine wpAnyH_take (i := 13) (oi := ⟨some 40, .fieldAddr 71 (.tmp 39) 1, _, _, _, none⟩) (v := .pointer (some ⟨b, 1, none⟩)) rfl (by kernel_rfl) (by kernel_rfl) (by kernel_rfl) (fun _ _ _ h => h) (Or.inl ⟨by rfl, fun _ _ => by go_simp⟩) HS.out ?_
            try simp only [Act.put, List.setIfInBounds_toArray, List.set_cons_succ, List.set_cons_zero]
            refine wpAnyH_ready (rs := [14]) (by kernel_rfl) (by simp) ?_
            refine AllReadyH.cons (o := ⟨none, .store 69 (.tmp 40) (.tmp 38), _, _, _, none⟩) rfl (fun K hK => ?_) AllReadyH.nil
            refine wp_store_one (.tmp 40) (.tmp 38) 69 size_rwts rfl b 1 (.slice a7 (wn + 1) c7) (by rfl) (by rfl) (by rfl) (by rfl) HPT.out.blk (by simp) ?_
            intro v21 hW hB
            have HDN := Lib.hid (HPT.out.whole hW hB)
            have HO2 := Lib.hid (HO2.out.trans (Only.wrote (S := RFoot b u (.slice va wn vc)) hW (.inl rfl)))
            clear hW hB HPT HO7
            refine hK _ _ HS.out (fun _ => ?_)
            clear hK K
            try simp only [Act.put, List.setIfInBounds_toArray, List.set_cons_succ, List.set_cons_zero]
            refine wpAnyH_done (by kernel_rfl) ?_ _
            go_wp2_with fail
            refine (burnt_at _ HDN.out HOP.out).mono ?_
            rintro e w9 ⟨rfl, hD, hO⟩
            have HD9 := Lib.hid hD
            have HO9 := Lib.hid (HO2.out.trans (hO.mono fun k e => .inl e))
            clear hD hO
            cases hq : (S.put q l).goes.1 with
            | false =>
              have HE2 := Lib.hid (show S.write (q : Int) l = (5, (S.put q l).goes.2) by rw [HE.out, if_neg (by rw [hq]; decide)])
              clear hq
              go_wp2
              go_ret
              exact ⟨by rw [HE2.out]; rfl, _, by rw [HE2.out]; exact HD9.out, by rw [← HWN.out]; exact HO9.out, by rw [← HWN.out]; exact HAT.out⟩
            | true =>
              have HE2 := Lib.hid (show S.write (q : Int) l = (0, (S.put q l).goes.2) by rw [HE.out, if_pos hq])
              clear hq
              go_wp2
              go_ret
              exact ⟨by rw [HE2.out]; rfl, _, by rw [HE2.out]; exact HD9.out, by rw [← HWN.out]; exact HO9.out, by rw [← HWN.out]; exact HAT.out⟩
  · have h4 : ((mb : Int) == 256) = false := by simp; omega
    have HE := Lib.hid (show S.write i l = (1, S) from if_pos (.inr (by rw [← hml]; exact h3)))
    clear hlg hml h3
    go_wp2
    go_ret
    exact ⟨by rw [HE.out]; rfl, _, by rw [HE.out]; exact HA.out, Only.refl _ _, fun k e => .inl e⟩
end Go.Proofs.Ytgbahfggnbpnmaa
