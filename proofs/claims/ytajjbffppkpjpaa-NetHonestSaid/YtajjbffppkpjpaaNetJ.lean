import Derived.Test.YtajjbffppkpjpaaNetI
/-
  net.Double.
-/
namespace Go.Proofs.Ytajjbffppkpjpaa
set_option linter.unusedSimpArgs false
set_option linter.unusedVariables false
open Go.RowKit
theorem yields_mid {P : Program} {o : Oper} {a : Act} {w : World} (ty : TypeId) (x : Operand) (ho : o.op = .load ty x)
    (g off : Nat) (hx : a.eval x = .pointer (some ⟨g, off, none⟩)) (cs : List Value) (hr : w.rangeAt g off cs)
    (d : TypeDesc) (hu : P.underlying ty = some d) (hd : d.isRow = true) (hi : (P.info? ty).map (·.size) = some cs.length) : (execOp a.eval o).run P w = .ok (.value (.agg cs.toArray)) w := by
  unfold execOp
  have := run_loadVar_mid w g off ty cs d hr hu hd hi
  simp [ho, hx, Instr.loadAt, Instr.sureAddr, this]
set_option maxRecDepth 100000 in
set_option maxHeartbeats 16000000 in
theorem ndouble_at {av : Nat → Prop} {b : Nat} {vx vy vz : Value} {S : NS} {K : Nat} (i : Int) (w : World) (h : NetAt w av b vx vy vz S) (hL : S.Lim K) :
    Calls Try.prog 31 #[.pointer (some ⟨b, 0, none⟩), .int .i64 i] w fun e w' => e = .returned (.int .i64 (S.double i).1) ∧ ∃ x1, NetAt w' (fun k => av k ∨ w.heap.size ≤ k) b x1 vy vz (S.double i).2 ∧ Only (NFoot b vx vy vz) w w' ∧ ∀ k, NFoot b x1 vy vz k → NFoot b vx vy vz k ∨ w.heap.size ≤ k := by
  have H0 := Lib.hid h
  have H := Lib.hid (h.mono (av' := fun k => av k ∨ w.heap.size ≤ k) fun k e _ => .inl e)
  have HL := Lib.hid hL
  clear h hL
  by_cases ho : S.out i
  · have HE := Lib.hid (show S.double i = (4, S) from if_pos ho)
    have he : S.atE i = 4 := if_pos ho
    clear ho
    go_enter Try.func31, Try.ntmps31
    go_wp2_with fail
    refine (nat_at i _ H.out).mono ?_
    rintro e w2 ⟨rfl, rfl⟩
    rw [he]
    clear he
    go_wp2
    go_ret
    exact ⟨by rw [HE.out]; rfl, vx, by rw [HE.out]; exact H.out, Only.refl _ _, fun k e => .inl e⟩
  · obtain ⟨k, rfl, hk⟩ := NS.nat_of ho
    obtain ⟨s, hs⟩ : ∃ s, s = S.way.getD k snt0 := ⟨_, rfl⟩
    have HE := Lib.hid (show S.double k = if 1024 ≤ S.way.length then (6, S) else (0, { S with way := S.way ++ [s] }) by rw [hs]; exact if_neg ho)
    have he : S.atE k = 0 := if_neg ho
    have HDL := Lib.hid (show s.d.length ≤ 1000000 from HL.out.txt _ (.inl (by have := NS.at_mem ho; rw [hs]; exact this)))
    obtain ⟨g, c, cur, px, nx, cx, rfl, hn, hm, hB, hsz, hr, ht⟩ := H0.out.way.at_i hk
    rw [← hs] at hr ht
    rw [Nat.zero_add] at hr
    obtain ⟨n, hnn⟩ : ∃ n, n = S.way.length := ⟨_, rfl⟩
    have cw : w.cell? ⟨b, 1, none⟩ = some (.slice (some ⟨g, 0, none⟩) n c) := by rw [hnn]; exact H0.out.c1
    rw [← hnn] at HE hk
    have HGL := Lib.hid hB.lt
    have HNN := Lib.hid hnn
    have HR := Lib.hid hr
    obtain ⟨qa, qn, qc, qe, hTQ, _⟩ := ht
    cases qe
    have HTX := Lib.hid hTQ
    have HNL := Lib.hid hTQ.len
    have HK := Lib.hid hk
    clear ho hs hB hsz hr hTQ hn hm hnn
    go_enter Try.func31, Try.ntmps31
    go_wp2_with fail
    refine (nat_at k _ H.out).mono ?_
    rintro e w2 ⟨rfl, rfl⟩
    rw [he]
    clear he
    by_cases hf : 1024 ≤ n
    · have HE := Lib.hid (show S.double k = (6, S) by rw [HE.out, if_pos hf])
      go_wp2
      go_ret
      exact ⟨by rw [HE.out]; rfl, _, by rw [HE.out]; exact H.out, Only.refl _ _, fun k e => .inl e⟩
    · have HE := Lib.hid (show S.double k = (0, { S with way := S.way ++ [s] }) by rw [HE.out, if_neg hf])
      have hf2 : ¬ (1024 : Int) ≤ (n : Int) := by omega
      have HP := Lib.hid (show NPart w2 (fun k => av k ∨ w2.heap.size ≤ k) b (.slice (some ⟨g, 0, none⟩) n c) vy vz (.slice (some ⟨g, 0, none⟩) n c) vy S.way S.ever S.came by rw [HNN.out]; exact H.out.part)
      have HO2 := Lib.hid (Only.refl (NFoot b (.slice (some ⟨g, 0, none⟩) n c) vy vz) w2)
      have H63 := Lib.hid (show n + 1 ≤ maxLen by unfold maxLen; omega)
      have HBY := Lib.hid (show (n + 1) * 40 ≤ 140737488355328 by omega)
      have HS := Lib.hid True.intro
      go_wp2
      clear hf hf2 cw
      refine wp_region_held_drew (S := fun _ => True) (by kernel_rfl) HS.out (fun _ => ?_)
      have hb : Below w2.heap.size w2 (World.drew w2) := (Below.refl _ _).drew
      have HP := Lib.hid (HP.out.on hb)
      have HTX := Lib.hid (HTX.out.below hb)
      have HR := Lib.hid (range_below HR.out (Nat.lt_of_lt_of_le HGL.out HO2.out.size) hb)
      have HO2 := Lib.hid (HO2.out.trans (Only.of_below hb))
      clear hb
      obtain ⟨v0, hv0⟩ : ∃ v0, v0 = World.drew w2 := ⟨_, rfl⟩
      rw [← hv0] at HP HTX HR HO2 ⊢
      clear hv0
      try simp only [Act.put, List.setIfInBounds_toArray, List.set_cons_succ, List.set_cons_zero]
      refine wpAnyH_take (i := 0) (oi := ⟨some 18, .move (.tmp 0), _, _, _, none⟩) (v := .pointer (some ⟨b, 0, none⟩)) rfl (by kernel_rfl) (by kernel_rfl) (by kernel_rfl) (fun _ _ _ h => h) (Or.inl ⟨by rfl, fun _ _ => by go_simp⟩) HS.out ?_
      try simp only [Act.put, List.setIfInBounds_toArray, List.set_cons_succ, List.set_cons_zero]
      refine wpAnyH_take (i := 1) (oi := ⟨some 19, .move (.tmp 0), _, _, _, none⟩) (v := .pointer (some ⟨b, 0, none⟩)) rfl (by kernel_rfl) (by kernel_rfl) (by kernel_rfl) (fun _ _ _ h => h) (Or.inl ⟨by rfl, fun _ _ => by go_simp⟩) HS.out ?_
      try simp only [Act.put, List.setIfInBounds_toArray, List.set_cons_succ, List.set_cons_zero]
      refine wpAnyH_take (i := 2) (oi := ⟨some 20, .nilCheck (.tmp 19), _, _, _, none⟩) (v := .pointer (some ⟨b, 0, none⟩)) rfl (by kernel_rfl) (by kernel_rfl) (by kernel_rfl) (fun _ _ _ h => h) (Or.inl ⟨by rfl, fun _ _ => by go_simp⟩) HS.out ?_
      try simp only [Act.put, List.setIfInBounds_toArray, List.set_cons_succ, List.set_cons_zero]
      refine wpAnyH_take (i := 3) (oi := ⟨some 21, .fieldAddr 43 (.tmp 20) 1, _, _, _, none⟩) (v := .pointer (some ⟨b, 1, none⟩)) rfl (by kernel_rfl) (by kernel_rfl) (by kernel_rfl) (fun _ _ _ h => h) (Or.inl ⟨by rfl, fun _ _ => by go_simp⟩) HS.out ?_
      try simp only [Act.put, List.setIfInBounds_toArray, List.set_cons_succ, List.set_cons_zero]
      refine wpAnyH_take (i := 5) (oi := ⟨some 23, .move (.tmp 0), _, _, _, none⟩) (v := .pointer (some ⟨b, 0, none⟩)) rfl (by kernel_rfl) (by kernel_rfl) (by kernel_rfl) (fun _ _ _ h => h) (Or.inl ⟨by rfl, fun _ _ => by go_simp⟩) HS.out ?_
      try simp only [Act.put, List.setIfInBounds_toArray, List.set_cons_succ, List.set_cons_zero]
      refine wpAnyH_take (i := 6) (oi := ⟨some 24, .nilCheck (.tmp 23), _, _, _, none⟩) (v := .pointer (some ⟨b, 0, none⟩)) rfl (by kernel_rfl) (by kernel_rfl) (by kernel_rfl) (fun _ _ _ h => h) (Or.inl ⟨by rfl, fun _ _ => by go_simp⟩) HS.out ?_
      try simp only [Act.put, List.setIfInBounds_toArray, List.set_cons_succ, List.set_cons_zero]
      refine wpAnyH_take (i := 7) (oi := ⟨some 25, .fieldAddr 43 (.tmp 24) 1, _, _, _, none⟩) (v := .pointer (some ⟨b, 1, none⟩)) rfl (by kernel_rfl) (by kernel_rfl) (by kernel_rfl) (fun _ _ _ h => h) (Or.inl ⟨by rfl, fun _ _ => by go_simp⟩) HS.out ?_
      try simp only [Act.put, List.setIfInBounds_toArray, List.set_cons_succ, List.set_cons_zero]
      refine wpAnyH_take (i := 9) (oi := ⟨some 27, .move (.tmp 1), _, _, _, none⟩) (v := .int .i64 (k : Nat)) rfl (by kernel_rfl) (by kernel_rfl) (by kernel_rfl) (fun _ _ _ h => h) (Or.inl ⟨by rfl, fun _ _ => by go_simp⟩) HS.out ?_
      try simp only [Act.put, List.setIfInBounds_toArray, List.set_cons_succ, List.set_cons_zero]
      refine wpAnyH_ready (rs := [4, 8]) (by kernel_rfl) (by simp) ?_
      refine AllReadyH.cons (o := ⟨some 22, .load 41 (.tmp 21), 41, _, _, none⟩) rfl (fun K hK => ?_) (AllReadyH.cons (o := ⟨some 26, .load 41 (.tmp 25), 41, _, _, none⟩) rfl (fun K hK => ?_) AllReadyH.nil)
      · have c1 := HP.out.c1
        refine wp_of_yields' (v := .slice (some ⟨g, 0, none⟩) n c) (by unfold execOp; go_simp) ?_
        clear c1
        refine hK _ _ HS.out (fun _ => ?_)
        clear hK K
        try simp only [Act.put, List.setIfInBounds_toArray, List.set_cons_succ, List.set_cons_zero]
        refine wpAnyH_ready (rs := [8]) (by kernel_rfl) (by simp) ?_
        refine AllReadyH.cons (o := ⟨some 26, .load 41 (.tmp 25), 41, _, _, none⟩) rfl (fun K hK => ?_) AllReadyH.nil
        have c1 := HP.out.c1
        refine wp_of_yields' (v := .slice (some ⟨g, 0, none⟩) n c) (by unfold execOp; go_simp) ?_
        clear c1
        refine hK _ _ HS.out (fun _ => ?_)
        clear hK K
        try simp only [Act.put, List.setIfInBounds_toArray, List.set_cons_succ, List.set_cons_zero]
        refine wpAnyH_take (i := 10) (oi := ⟨some 28, .indexAddr 41 (.tmp 26) (.tmp 27), _, _, _, none⟩) (v := .pointer (some ⟨g, k * 3, none⟩)) rfl (by kernel_rfl) (by kernel_rfl) (by kernel_rfl) (fun _ _ _ h => h) (Or.inl ⟨by rfl, fun _ _ => by go_simp⟩) HS.out ?_
        try simp only [Act.put, List.setIfInBounds_toArray, List.set_cons_succ, List.set_cons_zero]
        refine wpAnyH_ready (rs := [11]) (by kernel_rfl) (by simp) ?_
        refine AllReadyH.cons (o := ⟨some 29, .load 47 (.tmp 28), 47, _, _, none⟩) rfl (fun K hK => ?_) AllReadyH.nil
        refine wp_of_yields' (v := .agg [.int .i64 s.f, .int .i64 s.t, .slice px nx cx].toArray) (yields_mid 47 (.tmp 28) rfl g (k * 3) rfl _ HR.out _ Try.underlying47 rfl size_sent) ?_
        refine hK _ _ HS.out (fun _ => ?_)
        clear hK K
        try simp only [Act.put, List.setIfInBounds_toArray, List.set_cons_succ, List.set_cons_zero]
        refine wpAnyH_ready (rs := [12]) (by kernel_rfl) (by simp) ?_
        refine AllReadyH.cons (o := ⟨some 30, .call { callee := .value (.func 84), args := #[.tmp 29], argTypes := #[47] }, 47, _, _, none⟩) rfl (fun K hK => ?_) AllReadyH.nil
        go_simp
        refine (own_walk s.f s.t px nx cx s.d HDL.out v0 HTX.out).mono ?_
        rintro e v4 ⟨g1, rfl, hB1, hge, hb⟩
        have HX1 := Lib.hid (Tn.of_blkn (av := fun k => av k ∨ w2.heap.size ≤ k) hB1 HNL.out (show av g1 ∨ w2.heap.size ≤ g1 from .inr (Nat.le_trans HO2.out.size hge)))
        have HP := Lib.hid (HP.out.on hb)
        have HTX := Lib.hid (HTX.out.below hb)
        have HR := Lib.hid (range_below HR.out (Nat.lt_of_lt_of_le HGL.out HO2.out.size) hb)
        have HO2 := Lib.hid (HO2.out.trans (Only.of_below hb))
        have HX1 := Lib.hid (HX1.out)
        clear hb hB1 hge HTX HR
        refine hK _ _ HS.out (fun _ => ?_)
        clear hK K
        try simp only [Act.put, List.setIfInBounds_toArray, List.set_cons_succ, List.set_cons_zero]
        refine wpAnyH_ready (rs := [13]) (by kernel_rfl) (by simp) ?_
        refine AllReadyH.cons (o := ⟨some 31, .buildSlice 41 1 #[(0, .tmp 30)], 41, _, _, none⟩) rfl (fun K hK => ?_) AllReadyH.nil
        go_simp
        have BJ1 := Blk.new v4 #[.int .i64 s.f, .int .i64 s.t, .slice (some ⟨g1, 0, none⟩) nx nx] 47
        have hb := below_one' v4 (.cells #[.int .i64 s.f, .int .i64 s.t, .slice (some ⟨g1, 0, none⟩) nx nx] 47)
        generalize World.alloc v4 _ = v5 at *
        have HP := Lib.hid (HP.out.on hb)
        have HO2 := Lib.hid (HO2.out.trans (Only.of_below hb))
        have HX1 := Lib.hid (HX1.out.on hb)
        replace BJ1 := Lib.hid BJ1
        clear hb
        refine hK _ _ HS.out (fun _ => ?_)
        clear hK K
        try simp only [Act.put, List.setIfInBounds_toArray, List.set_cons_succ, List.set_cons_zero]
        refine wpAnyH_ready (rs := [14]) (by kernel_rfl) (by simp) ?_
        refine AllReadyH.cons (o := ⟨some 32, .call { callee := .builtin .append, args := #[.tmp 22, .tmp 31], argTypes := #[41, 41] }, 41, _, _, none⟩) rfl (fun K hK => ?_) AllReadyH.nil
        obtain ⟨ls, hw, hw2⟩ := HP.out.way
        rw [← HNN.out] at hw
        have HWS := Lib.hid hw
        have HW2 := Lib.hid hw2
        clear hw hw2
        refine wp_append_row (.tmp 22) (.tmp 31) 41 47 rfl (.agg #[.int .i64 0, .int .i64 0, .slice none 0 0]) 3 40 Try.underlying41 info_sent (by rfl) (by decide) (.slice (some ⟨g, 0, none⟩) n c) n (ncells ls) (by rfl) HWS.out _ 1 [.int .i64 s.f, .int .i64 s.t, .slice (some ⟨g1, 0, none⟩) nx nx] (by rfl) (by rfl) BJ1.out (by simp [Value.oneCell']) H63.out HBY.out ?_
        intro a7 c7 v6 hO hg hat
        have HG3 := Lib.hid (show ∀ j, (Value.slice a7 (n + 1) c7).ownBlock = some j → ((.slice (some ⟨g, 0, none⟩) n c) : Value).ownBlock = some j ∨ w2.heap.size ≤ j from fun j e => (hat j e).imp id (fun q => by rw [q]; exact HO2.out.size))
        have HP := Lib.hid (HP.out.app_way (s := s) HNN.out hg hO HW2.out HX1.out hat)
        have HO2 := Lib.hid (HO2.out.trans (Only.grown (S := NFoot b (.slice (some ⟨g, 0, none⟩) n c) vy vz) hg (fun j e => .inr (.inl e))))
        clear hO hg hat HWS HW2 BJ1 HX1
        refine hK _ _ HS.out (fun _ => ?_)
        clear hK K
        try simp only [Act.put, List.setIfInBounds_toArray, List.set_cons_succ, List.set_cons_zero]
        refine wpAnyH_take (i := 15) (oi := ⟨some 33, .nilCheck (.tmp 18), _, _, _, none⟩) (v := .pointer (some ⟨b, 0, none⟩)) rfl (by kernel_rfl) (by kernel_rfl) (by kernel_rfl) (fun _ _ _ h => h) (Or.inl ⟨by rfl, fun _ _ => by go_simp⟩) HS.out ?_
        try simp only [Act.put, List.setIfInBounds_toArray, List.set_cons_succ, List.set_cons_zero]
        refine wpAnyH_take (i := 16) (oi := ⟨some 34, .fieldAddr 43 (.tmp 33) 1, _, _, _, none⟩) (v := .pointer (some ⟨b, 1, none⟩)) rfl (by kernel_rfl) (by kernel_rfl) (by kernel_rfl) (fun _ _ _ h => h) (Or.inl ⟨by rfl, fun _ _ => by go_simp⟩) HS.out ?_
        try simp only [Act.put, List.setIfInBounds_toArray, List.set_cons_succ, List.set_cons_zero]
        refine wpAnyH_ready (rs := [17]) (by kernel_rfl) (by simp) ?_
        refine AllReadyH.cons (o := ⟨none, .store 41 (.tmp 34) (.tmp 32), _, _, _, none⟩) rfl (fun K hK => ?_) AllReadyH.nil
        refine wp_store_one (.tmp 34) (.tmp 32) 41 size_sents rfl b 1 (.slice a7 (n + 1) c7) (by rfl) (by rfl) (by rfl) (by rfl) HP.out.blk (by simp) ?_
        intro v7 hW hB
        have HP := Lib.hid (HP.out.store1 hW hB)
        have HO2 := Lib.hid (HO2.out.trans (Only.wrote (S := NFoot b (.slice (some ⟨g, 0, none⟩) n c) vy vz) hW (.inl rfl)))
        clear hW hB
        refine hK _ _ HS.out (fun _ => ?_)
        clear hK K
        try simp only [Act.put, List.setIfInBounds_toArray, List.set_cons_succ, List.set_cons_zero]
        refine wpAnyH_done (by kernel_rfl) ?_ _
        have HP := Lib.hid HP.out.whole
        go_wp2
        go_ret
        exact ⟨by rw [HE.out]; rfl, .slice a7 (n + 1) c7, by rw [HE.out]; exact HP.out, by rw [← HNN.out]; exact HO2.out, fun j q => by
          rw [← HNN.out]
          rcases q with e | e | e
          · exact .inl (.inl e)
          · exact (HG3.out j e).imp (fun q => .inr (.inl q)) id
          · exact .inl (.inr (.inr e))⟩
      · have c1 := HP.out.c1
        refine wp_of_yields' (v := .slice (some ⟨g, 0, none⟩) n c) (by unfold execOp; go_simp) ?_
        clear c1
        refine hK _ _ HS.out (fun _ => ?_)
        clear hK K
        try simp only [Act.put, List.setIfInBounds_toArray, List.set_cons_succ, List.set_cons_zero]
        refine wpAnyH_take (i := 10) (oi := ⟨some 28, .indexAddr 41 (.tmp 26) (.tmp 27), _, _, _, none⟩) (v := .pointer (some ⟨g, k * 3, none⟩)) rfl (by kernel_rfl) (by kernel_rfl) (by kernel_rfl) (fun _ _ _ h => h) (Or.inl ⟨by rfl, fun _ _ => by go_simp⟩) HS.out ?_
        try simp only [Act.put, List.setIfInBounds_toArray, List.set_cons_succ, List.set_cons_zero]
        refine wpAnyH_ready (rs := [4, 11]) (by kernel_rfl) (by simp) ?_
        refine AllReadyH.cons (o := ⟨some 22, .load 41 (.tmp 21), 41, _, _, none⟩) rfl (fun K hK => ?_) (AllReadyH.cons (o := ⟨some 29, .load 47 (.tmp 28), 47, _, _, none⟩) rfl (fun K hK => ?_) AllReadyH.nil)
        · have c1 := HP.out.c1
          refine wp_of_yields' (v := .slice (some ⟨g, 0, none⟩) n c) (by unfold execOp; go_simp) ?_
          clear c1
          refine hK _ _ HS.out (fun _ => ?_)
          clear hK K
          try simp only [Act.put, List.setIfInBounds_toArray, List.set_cons_succ, List.set_cons_zero]
          refine wpAnyH_ready (rs := [11]) (by kernel_rfl) (by simp) ?_
          refine AllReadyH.cons (o := ⟨some 29, .load 47 (.tmp 28), 47, _, _, none⟩) rfl (fun K hK => ?_) AllReadyH.nil
          refine wp_of_yields' (v := .agg [.int .i64 s.f, .int .i64 s.t, .slice px nx cx].toArray) (yields_mid 47 (.tmp 28) rfl g (k * 3) rfl _ HR.out _ Try.underlying47 rfl size_sent) ?_
          refine hK _ _ HS.out (fun _ => ?_)
          clear hK K
          try simp only [Act.put, List.setIfInBounds_toArray, List.set_cons_succ, List.set_cons_zero]
          refine wpAnyH_ready (rs := [12]) (by kernel_rfl) (by simp) ?_
          refine AllReadyH.cons (o := ⟨some 30, .call { callee := .value (.func 84), args := #[.tmp 29], argTypes := #[47] }, 47, _, _, none⟩) rfl (fun K hK => ?_) AllReadyH.nil
          go_simp
          refine (own_walk s.f s.t px nx cx s.d HDL.out v0 HTX.out).mono ?_
          rintro e v11 ⟨g1, rfl, hB1, hge, hb⟩
          have HX1 := Lib.hid (Tn.of_blkn (av := fun k => av k ∨ w2.heap.size ≤ k) hB1 HNL.out (show av g1 ∨ w2.heap.size ≤ g1 from .inr (Nat.le_trans HO2.out.size hge)))
          have HP := Lib.hid (HP.out.on hb)
          have HTX := Lib.hid (HTX.out.below hb)
          have HR := Lib.hid (range_below HR.out (Nat.lt_of_lt_of_le HGL.out HO2.out.size) hb)
          have HO2 := Lib.hid (HO2.out.trans (Only.of_below hb))
          have HX1 := Lib.hid (HX1.out)
          clear hb hB1 hge HTX HR
          refine hK _ _ HS.out (fun _ => ?_)
          clear hK K
          try simp only [Act.put, List.setIfInBounds_toArray, List.set_cons_succ, List.set_cons_zero]
          refine wpAnyH_ready (rs := [13]) (by kernel_rfl) (by simp) ?_
          refine AllReadyH.cons (o := ⟨some 31, .buildSlice 41 1 #[(0, .tmp 30)], 41, _, _, none⟩) rfl (fun K hK => ?_) AllReadyH.nil
          go_simp
          have BJ1 := Blk.new v11 #[.int .i64 s.f, .int .i64 s.t, .slice (some ⟨g1, 0, none⟩) nx nx] 47
          have hb := below_one' v11 (.cells #[.int .i64 s.f, .int .i64 s.t, .slice (some ⟨g1, 0, none⟩) nx nx] 47)
          generalize World.alloc v11 _ = v12 at *
          have HP := Lib.hid (HP.out.on hb)
          have HO2 := Lib.hid (HO2.out.trans (Only.of_below hb))
          have HX1 := Lib.hid (HX1.out.on hb)
          replace BJ1 := Lib.hid BJ1
          clear hb
          refine hK _ _ HS.out (fun _ => ?_)
          clear hK K
          try simp only [Act.put, List.setIfInBounds_toArray, List.set_cons_succ, List.set_cons_zero]
          refine wpAnyH_ready (rs := [14]) (by kernel_rfl) (by simp) ?_
          refine AllReadyH.cons (o := ⟨some 32, .call { callee := .builtin .append, args := #[.tmp 22, .tmp 31], argTypes := #[41, 41] }, 41, _, _, none⟩) rfl (fun K hK => ?_) AllReadyH.nil
          obtain ⟨ls, hw, hw2⟩ := HP.out.way
          rw [← HNN.out] at hw
          have HWS := Lib.hid hw
          have HW2 := Lib.hid hw2
          clear hw hw2
          refine wp_append_row (.tmp 22) (.tmp 31) 41 47 rfl (.agg #[.int .i64 0, .int .i64 0, .slice none 0 0]) 3 40 Try.underlying41 info_sent (by rfl) (by decide) (.slice (some ⟨g, 0, none⟩) n c) n (ncells ls) (by rfl) HWS.out _ 1 [.int .i64 s.f, .int .i64 s.t, .slice (some ⟨g1, 0, none⟩) nx nx] (by rfl) (by rfl) BJ1.out (by simp [Value.oneCell']) H63.out HBY.out ?_
          intro a7 c7 v13 hO hg hat
          have HG3 := Lib.hid (show ∀ j, (Value.slice a7 (n + 1) c7).ownBlock = some j → ((.slice (some ⟨g, 0, none⟩) n c) : Value).ownBlock = some j ∨ w2.heap.size ≤ j from fun j e => (hat j e).imp id (fun q => by rw [q]; exact HO2.out.size))
          have HP := Lib.hid (HP.out.app_way (s := s) HNN.out hg hO HW2.out HX1.out hat)
          have HO2 := Lib.hid (HO2.out.trans (Only.grown (S := NFoot b (.slice (some ⟨g, 0, none⟩) n c) vy vz) hg (fun j e => .inr (.inl e))))
          clear hO hg hat HWS HW2 BJ1 HX1
          refine hK _ _ HS.out (fun _ => ?_)
          clear hK K
          try simp only [Act.put, List.setIfInBounds_toArray, List.set_cons_succ, List.set_cons_zero]
          refine wpAnyH_take (i := 15) (oi := ⟨some 33, .nilCheck (.tmp 18), _, _, _, none⟩) (v := .pointer (some ⟨b, 0, none⟩)) rfl (by kernel_rfl) (by kernel_rfl) (by kernel_rfl) (fun _ _ _ h => h) (Or.inl ⟨by rfl, fun _ _ => by go_simp⟩) HS.out ?_
          try simp only [Act.put, List.setIfInBounds_toArray, List.set_cons_succ, List.set_cons_zero]
          refine wpAnyH_take (i := 16) (oi := ⟨some 34, .fieldAddr 43 (.tmp 33) 1, _, _, _, none⟩) (v := .pointer (some ⟨b, 1, none⟩)) rfl (by kernel_rfl) (by kernel_rfl) (by kernel_rfl) (fun _ _ _ h => h) (Or.inl ⟨by rfl, fun _ _ => by go_simp⟩) HS.out ?_
          try simp only [Act.put, List.setIfInBounds_toArray, List.set_cons_succ, List.set_cons_zero]
          refine wpAnyH_ready (rs := [17]) (by kernel_rfl) (by simp) ?_
          refine AllReadyH.cons (o := ⟨none, .store 41 (.tmp 34) (.tmp 32), _, _, _, none⟩) rfl (fun K hK => ?_) AllReadyH.nil
          refine wp_store_one (.tmp 34) (.tmp 32) 41 size_sents rfl b 1 (.slice a7 (n + 1) c7) (by rfl) (by rfl) (by rfl) (by rfl) HP.out.blk (by simp) ?_
          intro v14 hW hB
          have HP := Lib.hid (HP.out.store1 hW hB)
          have HO2 := Lib.hid (HO2.out.trans (Only.wrote (S := NFoot b (.slice (some ⟨g, 0, none⟩) n c) vy vz) hW (.inl rfl)))
          clear hW hB
          refine hK _ _ HS.out (fun _ => ?_)
          clear hK K
          try simp only [Act.put, List.setIfInBounds_toArray, List.set_cons_succ, List.set_cons_zero]
          refine wpAnyH_done (by kernel_rfl) ?_ _
          have HP := Lib.hid HP.out.whole
          go_wp2
          go_ret
          exact ⟨by rw [HE.out]; rfl, .slice a7 (n + 1) c7, by rw [HE.out]; exact HP.out, by rw [← HNN.out]; exact HO2.out, fun j q => by
            rw [← HNN.out]
            rcases q with e | e | e
            · exact .inl (.inl e)
            · exact (HG3.out j e).imp (fun q => .inr (.inl q)) id
            · exact .inl (.inr (.inr e))⟩
        · refine wp_of_yields' (v := .agg [.int .i64 s.f, .int .i64 s.t, .slice px nx cx].toArray) (yields_mid 47 (.tmp 28) rfl g (k * 3) rfl _ HR.out _ Try.underlying47 rfl size_sent) ?_
          refine hK _ _ HS.out (fun _ => ?_)
          clear hK K
          try simp only [Act.put, List.setIfInBounds_toArray, List.set_cons_succ, List.set_cons_zero]
          refine wpAnyH_ready (rs := [4, 12]) (by kernel_rfl) (by simp) ?_
          refine AllReadyH.cons (o := ⟨some 22, .load 41 (.tmp 21), 41, _, _, none⟩) rfl (fun K hK => ?_) (AllReadyH.cons (o := ⟨some 30, .call { callee := .value (.func 84), args := #[.tmp 29], argTypes := #[47] }, 47, _, _, none⟩) rfl (fun K hK => ?_) AllReadyH.nil)
          · have c1 := HP.out.c1
            refine wp_of_yields' (v := .slice (some ⟨g, 0, none⟩) n c) (by unfold execOp; go_simp) ?_
            clear c1
            refine hK _ _ HS.out (fun _ => ?_)
            clear hK K
            try simp only [Act.put, List.setIfInBounds_toArray, List.set_cons_succ, List.set_cons_zero]
            refine wpAnyH_ready (rs := [12]) (by kernel_rfl) (by simp) ?_
            refine AllReadyH.cons (o := ⟨some 30, .call { callee := .value (.func 84), args := #[.tmp 29], argTypes := #[47] }, 47, _, _, none⟩) rfl (fun K hK => ?_) AllReadyH.nil
            go_simp
            refine (own_walk s.f s.t px nx cx s.d HDL.out v0 HTX.out).mono ?_
            rintro e v17 ⟨g1, rfl, hB1, hge, hb⟩
            have HX1 := Lib.hid (Tn.of_blkn (av := fun k => av k ∨ w2.heap.size ≤ k) hB1 HNL.out (show av g1 ∨ w2.heap.size ≤ g1 from .inr (Nat.le_trans HO2.out.size hge)))
            have HP := Lib.hid (HP.out.on hb)
            have HTX := Lib.hid (HTX.out.below hb)
            have HR := Lib.hid (range_below HR.out (Nat.lt_of_lt_of_le HGL.out HO2.out.size) hb)
            have HO2 := Lib.hid (HO2.out.trans (Only.of_below hb))
            have HX1 := Lib.hid (HX1.out)
            clear hb hB1 hge HTX HR
            refine hK _ _ HS.out (fun _ => ?_)
            clear hK K
            try simp only [Act.put, List.setIfInBounds_toArray, List.set_cons_succ, List.set_cons_zero]
            refine wpAnyH_ready (rs := [13]) (by kernel_rfl) (by simp) ?_
            refine AllReadyH.cons (o := ⟨some 31, .buildSlice 41 1 #[(0, .tmp 30)], 41, _, _, none⟩) rfl (fun K hK => ?_) AllReadyH.nil
            go_simp
            have BJ1 := Blk.new v17 #[.int .i64 s.f, .int .i64 s.t, .slice (some ⟨g1, 0, none⟩) nx nx] 47
            have hb := below_one' v17 (.cells #[.int .i64 s.f, .int .i64 s.t, .slice (some ⟨g1, 0, none⟩) nx nx] 47)
            generalize World.alloc v17 _ = v18 at *
            have HP := Lib.hid (HP.out.on hb)
            have HO2 := Lib.hid (HO2.out.trans (Only.of_below hb))
            have HX1 := Lib.hid (HX1.out.on hb)
            replace BJ1 := Lib.hid BJ1
            clear hb
            refine hK _ _ HS.out (fun _ => ?_)
            clear hK K
            try simp only [Act.put, List.setIfInBounds_toArray, List.set_cons_succ, List.set_cons_zero]
            refine wpAnyH_ready (rs := [14]) (by kernel_rfl) (by simp) ?_
            refine AllReadyH.cons (o := ⟨some 32, .call { callee := .builtin .append, args := #[.tmp 22, .tmp 31], argTypes := #[41, 41] }, 41, _, _, none⟩) rfl (fun K hK => ?_) AllReadyH.nil
            obtain ⟨ls, hw, hw2⟩ := HP.out.way
            rw [← HNN.out] at hw
            have HWS := Lib.hid hw
            have HW2 := Lib.hid hw2
            clear hw hw2
            refine wp_append_row (.tmp 22) (.tmp 31) 41 47 rfl (.agg #[.int .i64 0, .int .i64 0, .slice none 0 0]) 3 40 Try.underlying41 info_sent (by rfl) (by decide) (.slice (some ⟨g, 0, none⟩) n c) n (ncells ls) (by rfl) HWS.out _ 1 [.int .i64 s.f, .int .i64 s.t, .slice (some ⟨g1, 0, none⟩) nx nx] (by rfl) (by rfl) BJ1.out (by simp [Value.oneCell']) H63.out HBY.out ?_
            intro a7 c7 v19 hO hg hat
            have HG3 := Lib.hid (show ∀ j, (Value.slice a7 (n + 1) c7).ownBlock = some j → ((.slice (some ⟨g, 0, none⟩) n c) : Value).ownBlock = some j ∨ w2.heap.size ≤ j from fun j e => (hat j e).imp id (fun q => by rw [q]; exact HO2.out.size))
            have HP := Lib.hid (HP.out.app_way (s := s) HNN.out hg hO HW2.out HX1.out hat)
            have HO2 := Lib.hid (HO2.out.trans (Only.grown (S := NFoot b (.slice (some ⟨g, 0, none⟩) n c) vy vz) hg (fun j e => .inr (.inl e))))
            clear hO hg hat HWS HW2 BJ1 HX1
            refine hK _ _ HS.out (fun _ => ?_)
            clear hK K
            try simp only [Act.put, List.setIfInBounds_toArray, List.set_cons_succ, List.set_cons_zero]
            refine wpAnyH_take (i := 15) (oi := ⟨some 33, .nilCheck (.tmp 18), _, _, _, none⟩) (v := .pointer (some ⟨b, 0, none⟩)) rfl (by kernel_rfl) (by kernel_rfl) (by kernel_rfl) (fun _ _ _ h => h) (Or.inl ⟨by rfl, fun _ _ => by go_simp⟩) HS.out ?_
            try simp only [Act.put, List.setIfInBounds_toArray, List.set_cons_succ, List.set_cons_zero]
            refine wpAnyH_take (i := 16) (oi := ⟨some 34, .fieldAddr 43 (.tmp 33) 1, _, _, _, none⟩) (v := .pointer (some ⟨b, 1, none⟩)) rfl (by kernel_rfl) (by kernel_rfl) (by kernel_rfl) (fun _ _ _ h => h) (Or.inl ⟨by rfl, fun _ _ => by go_simp⟩) HS.out ?_
            try simp only [Act.put, List.setIfInBounds_toArray, List.set_cons_succ, List.set_cons_zero]
            refine wpAnyH_ready (rs := [17]) (by kernel_rfl) (by simp) ?_
            refine AllReadyH.cons (o := ⟨none, .store 41 (.tmp 34) (.tmp 32), _, _, _, none⟩) rfl (fun K hK => ?_) AllReadyH.nil
            refine wp_store_one (.tmp 34) (.tmp 32) 41 size_sents rfl b 1 (.slice a7 (n + 1) c7) (by rfl) (by rfl) (by rfl) (by rfl) HP.out.blk (by simp) ?_
            intro v20 hW hB
            have HP := Lib.hid (HP.out.store1 hW hB)
            have HO2 := Lib.hid (HO2.out.trans (Only.wrote (S := NFoot b (.slice (some ⟨g, 0, none⟩) n c) vy vz) hW (.inl rfl)))
            clear hW hB
            refine hK _ _ HS.out (fun _ => ?_)
            clear hK K
            try simp only [Act.put, List.setIfInBounds_toArray, List.set_cons_succ, List.set_cons_zero]
            refine wpAnyH_done (by kernel_rfl) ?_ _
            have HP := Lib.hid HP.out.whole
            go_wp2
            go_ret
            exact ⟨by rw [HE.out]; rfl, .slice a7 (n + 1) c7, by rw [HE.out]; exact HP.out, by rw [← HNN.out]; exact HO2.out, fun j q => by
              rw [← HNN.out]
              rcases q with e | e | e
              · exact .inl (.inl e)
              · exact (HG3.out j e).imp (fun q => .inr (.inl q)) id
              · exact .inl (.inr (.inr e))⟩
          · go_simp
            refine (own_walk s.f s.t px nx cx s.d HDL.out v0 HTX.out).mono ?_
            rintro e v21 ⟨g1, rfl, hB1, hge, hb⟩
            have HX1 := Lib.hid (Tn.of_blkn (av := fun k => av k ∨ w2.heap.size ≤ k) hB1 HNL.out (show av g1 ∨ w2.heap.size ≤ g1 from .inr (Nat.le_trans HO2.out.size hge)))
            have HP := Lib.hid (HP.out.on hb)
            have HTX := Lib.hid (HTX.out.below hb)
            have HR := Lib.hid (range_below HR.out (Nat.lt_of_lt_of_le HGL.out HO2.out.size) hb)
            have HO2 := Lib.hid (HO2.out.trans (Only.of_below hb))
            have HX1 := Lib.hid (HX1.out)
            clear hb hB1 hge HTX HR
            refine hK _ _ HS.out (fun _ => ?_)
            clear hK K
            try simp only [Act.put, List.setIfInBounds_toArray, List.set_cons_succ, List.set_cons_zero]
            refine wpAnyH_ready (rs := [4, 13]) (by kernel_rfl) (by simp) ?_
            refine AllReadyH.cons (o := ⟨some 22, .load 41 (.tmp 21), 41, _, _, none⟩) rfl (fun K hK => ?_) (AllReadyH.cons (o := ⟨some 31, .buildSlice 41 1 #[(0, .tmp 30)], 41, _, _, none⟩) rfl (fun K hK => ?_) AllReadyH.nil)
            · have c1 := HP.out.c1
              refine wp_of_yields' (v := .slice (some ⟨g, 0, none⟩) n c) (by unfold execOp; go_simp) ?_
              clear c1
              refine hK _ _ HS.out (fun _ => ?_)
              clear hK K
              try simp only [Act.put, List.setIfInBounds_toArray, List.set_cons_succ, List.set_cons_zero]
              refine wpAnyH_ready (rs := [13]) (by kernel_rfl) (by simp) ?_
              refine AllReadyH.cons (o := ⟨some 31, .buildSlice 41 1 #[(0, .tmp 30)], 41, _, _, none⟩) rfl (fun K hK => ?_) AllReadyH.nil
              go_simp
              have BJ1 := Blk.new v21 #[.int .i64 s.f, .int .i64 s.t, .slice (some ⟨g1, 0, none⟩) nx nx] 47
              have hb := below_one' v21 (.cells #[.int .i64 s.f, .int .i64 s.t, .slice (some ⟨g1, 0, none⟩) nx nx] 47)
              generalize World.alloc v21 _ = v23 at *
              have HP := Lib.hid (HP.out.on hb)
              have HO2 := Lib.hid (HO2.out.trans (Only.of_below hb))
              have HX1 := Lib.hid (HX1.out.on hb)
              replace BJ1 := Lib.hid BJ1
              clear hb
              refine hK _ _ HS.out (fun _ => ?_)
              clear hK K
              try simp only [Act.put, List.setIfInBounds_toArray, List.set_cons_succ, List.set_cons_zero]
              refine wpAnyH_ready (rs := [14]) (by kernel_rfl) (by simp) ?_
              refine AllReadyH.cons (o := ⟨some 32, .call { callee := .builtin .append, args := #[.tmp 22, .tmp 31], argTypes := #[41, 41] }, 41, _, _, none⟩) rfl (fun K hK => ?_) AllReadyH.nil
              obtain ⟨ls, hw, hw2⟩ := HP.out.way
              rw [← HNN.out] at hw
              have HWS := Lib.hid hw
              have HW2 := Lib.hid hw2
              clear hw hw2
              refine wp_append_row (.tmp 22) (.tmp 31) 41 47 rfl (.agg #[.int .i64 0, .int .i64 0, .slice none 0 0]) 3 40 Try.underlying41 info_sent (by rfl) (by decide) (.slice (some ⟨g, 0, none⟩) n c) n (ncells ls) (by rfl) HWS.out _ 1 [.int .i64 s.f, .int .i64 s.t, .slice (some ⟨g1, 0, none⟩) nx nx] (by rfl) (by rfl) BJ1.out (by simp [Value.oneCell']) H63.out HBY.out ?_
              intro a7 c7 v24 hO hg hat
              have HG3 := Lib.hid (show ∀ j, (Value.slice a7 (n + 1) c7).ownBlock = some j → ((.slice (some ⟨g, 0, none⟩) n c) : Value).ownBlock = some j ∨ w2.heap.size ≤ j from fun j e => (hat j e).imp id (fun q => by rw [q]; exact HO2.out.size))
              have HP := Lib.hid (HP.out.app_way (s := s) HNN.out hg hO HW2.out HX1.out hat)
              have HO2 := Lib.hid (HO2.out.trans (Only.grown (S := NFoot b (.slice (some ⟨g, 0, none⟩) n c) vy vz) hg (fun j e => .inr (.inl e))))
              clear hO hg hat HWS HW2 BJ1 HX1
              refine hK _ _ HS.out (fun _ => ?_)
              clear hK K
              try simp only [Act.put, List.setIfInBounds_toArray, List.set_cons_succ, List.set_cons_zero]
              refine wpAnyH_take (i := 15) (oi := ⟨some 33, .nilCheck (.tmp 18), _, _, _, none⟩) (v := .pointer (some ⟨b, 0, none⟩)) rfl (by kernel_rfl) (by kernel_rfl) (by kernel_rfl) (fun _ _ _ h => h) (Or.inl ⟨by rfl, fun _ _ => by go_simp⟩) HS.out ?_
              try simp only [Act.put, List.setIfInBounds_toArray, List.set_cons_succ, List.set_cons_zero]
              refine wpAnyH_take (i := 16) (oi := ⟨some 34, .fieldAddr 43 (.tmp 33) 1, _, _, _, none⟩) (v := .pointer (some ⟨b, 1, none⟩)) rfl (by kernel_rfl) (by kernel_rfl) (by kernel_rfl) (fun _ _ _ h => h) (Or.inl ⟨by rfl, fun _ _ => by go_simp⟩) HS.out ?_
              try simp only [Act.put, List.setIfInBounds_toArray, List.set_cons_succ, List.set_cons_zero]
              refine wpAnyH_ready (rs := [17]) (by kernel_rfl) (by simp) ?_
              refine AllReadyH.cons (o := ⟨none, .store 41 (.tmp 34) (.tmp 32), _, _, _, none⟩) rfl (fun K hK => ?_) AllReadyH.nil
              refine wp_store_one (.tmp 34) (.tmp 32) 41 size_sents rfl b 1 (.slice a7 (n + 1) c7) (by rfl) (by rfl) (by rfl) (by rfl) HP.out.blk (by simp) ?_
              intro v25 hW hB
              have HP := Lib.hid (HP.out.store1 hW hB)
              have HO2 := Lib.hid (HO2.out.trans (Only.wrote (S := NFoot b (.slice (some ⟨g, 0, none⟩) n c) vy vz) hW (.inl rfl)))
              clear hW hB
              refine hK _ _ HS.out (fun _ => ?_)
              clear hK K
              try simp only [Act.put, List.setIfInBounds_toArray, List.set_cons_succ, List.set_cons_zero]
              refine wpAnyH_done (by kernel_rfl) ?_ _
              have HP := Lib.hid HP.out.whole
              go_wp2
              go_ret
              exact ⟨by rw [HE.out]; rfl, .slice a7 (n + 1) c7, by rw [HE.out]; exact HP.out, by rw [← HNN.out]; exact HO2.out, fun j q => by
                rw [← HNN.out]
                rcases q with e | e | e
                · exact .inl (.inl e)
                · exact (HG3.out j e).imp (fun q => .inr (.inl q)) id
                · exact .inl (.inr (.inr e))⟩
            · go_simp
              have BJ1 := Blk.new v21 #[.int .i64 s.f, .int .i64 s.t, .slice (some ⟨g1, 0, none⟩) nx nx] 47
              have hb := below_one' v21 (.cells #[.int .i64 s.f, .int .i64 s.t, .slice (some ⟨g1, 0, none⟩) nx nx] 47)
              generalize World.alloc v21 _ = v26 at *
              have HP := Lib.hid (HP.out.on hb)
              have HO2 := Lib.hid (HO2.out.trans (Only.of_below hb))
              have HX1 := Lib.hid (HX1.out.on hb)
              replace BJ1 := Lib.hid BJ1
              clear hb
              refine hK _ _ HS.out (fun _ => ?_)
              clear hK K
              try simp only [Act.put, List.setIfInBounds_toArray, List.set_cons_succ, List.set_cons_zero]
              refine wpAnyH_ready (rs := [4]) (by kernel_rfl) (by simp) ?_
              refine AllReadyH.cons (o := ⟨some 22, .load 41 (.tmp 21), 41, _, _, none⟩) rfl (fun K hK => ?_) AllReadyH.nil
              have c1 := HP.out.c1
              refine wp_of_yields' (v := .slice (some ⟨g, 0, none⟩) n c) (by unfold execOp; go_simp) ?_
              clear c1
              refine hK _ _ HS.out (fun _ => ?_)
              clear hK K
              try simp only [Act.put, List.setIfInBounds_toArray, List.set_cons_succ, List.set_cons_zero]
              refine wpAnyH_ready (rs := [14]) (by kernel_rfl) (by simp) ?_
              refine AllReadyH.cons (o := ⟨some 32, .call { callee := .builtin .append, args := #[.tmp 22, .tmp 31], argTypes := #[41, 41] }, 41, _, _, none⟩) rfl (fun K hK => ?_) AllReadyH.nil
              obtain ⟨ls, hw, hw2⟩ := HP.out.way
              rw [← HNN.out] at hw
              have HWS := Lib.hid hw
              have HW2 := Lib.hid hw2
              clear hw hw2
              refine wp_append_row (.tmp 22) (.tmp 31) 41 47 rfl (.agg #[.int .i64 0, .int .i64 0, .slice none 0 0]) 3 40 Try.underlying41 info_sent (by rfl) (by decide) (.slice (some ⟨g, 0, none⟩) n c) n (ncells ls) (by rfl) HWS.out _ 1 [.int .i64 s.f, .int .i64 s.t, .slice (some ⟨g1, 0, none⟩) nx nx] (by rfl) (by rfl) BJ1.out (by simp [Value.oneCell']) H63.out HBY.out ?_
              intro a7 c7 v28 hO hg hat
              have HG3 := Lib.hid (show ∀ j, (Value.slice a7 (n + 1) c7).ownBlock = some j → ((.slice (some ⟨g, 0, none⟩) n c) : Value).ownBlock = some j ∨ w2.heap.size ≤ j from fun j e => (hat j e).imp id (fun q => by rw [q]; exact HO2.out.size))
              have HP := Lib.hid (HP.out.app_way (s := s) HNN.out hg hO HW2.out HX1.out hat)
              have HO2 := Lib.hid (HO2.out.trans (Only.grown (S := NFoot b (.slice (some ⟨g, 0, none⟩) n c) vy vz) hg (fun j e => .inr (.inl e))))
              clear hO hg hat HWS HW2 BJ1 HX1
              refine hK _ _ HS.out (fun _ => ?_)
              clear hK K
              try simp only [Act.put, List.setIfInBounds_toArray, List.set_cons_succ, List.set_cons_zero]
              refine wpAnyH_take (i := 15) (oi := ⟨some 33, .nilCheck (.tmp 18), _, _, _, none⟩) (v := .pointer (some ⟨b, 0, none⟩)) rfl (by kernel_rfl) (by kernel_rfl) (by kernel_rfl) (fun _ _ _ h => h) (Or.inl ⟨by rfl, fun _ _ => by go_simp⟩) HS.out ?_
              try simp only [Act.put, List.setIfInBounds_toArray, List.set_cons_succ, List.set_cons_zero]
              refine wpAnyH_take (i := 16) (oi := ⟨some 34, .fieldAddr 43 (.tmp 33) 1, _, _, _, none⟩) (v := .pointer (some ⟨b, 1, none⟩)) rfl (by kernel_rfl) (by kernel_rfl) (by kernel_rfl) (fun _ _ _ h => h) (Or.inl ⟨by rfl, fun _ _ => by go_simp⟩) HS.out ?_
              try simp only [Act.put, List.setIfInBounds_toArray, List.set_cons_succ, List.set_cons_zero]
              refine wpAnyH_ready (rs := [17]) (by kernel_rfl) (by simp) ?_
              refine AllReadyH.cons (o := ⟨none, .store 41 (.tmp 34) (.tmp 32), _, _, _, none⟩) rfl (fun K hK => ?_) AllReadyH.nil
              refine wp_store_one (.tmp 34) (.tmp 32) 41 size_sents rfl b 1 (.slice a7 (n + 1) c7) (by rfl) (by rfl) (by rfl) (by rfl) HP.out.blk (by simp) ?_
              intro v29 hW hB
              have HP := Lib.hid (HP.out.store1 hW hB)
              have HO2 := Lib.hid (HO2.out.trans (Only.wrote (S := NFoot b (.slice (some ⟨g, 0, none⟩) n c) vy vz) hW (.inl rfl)))
              clear hW hB
              refine hK _ _ HS.out (fun _ => ?_)
              clear hK K
              try simp only [Act.put, List.setIfInBounds_toArray, List.set_cons_succ, List.set_cons_zero]
              refine wpAnyH_done (by kernel_rfl) ?_ _
              have HP := Lib.hid HP.out.whole
              go_wp2
              go_ret
              exact ⟨by rw [HE.out]; rfl, .slice a7 (n + 1) c7, by rw [HE.out]; exact HP.out, by rw [← HNN.out]; exact HO2.out, fun j q => by
                rw [← HNN.out]
                rcases q with e | e | e
                · exact .inl (.inl e)
                · exact (HG3.out j e).imp (fun q => .inr (.inl q)) id
                · exact .inl (.inr (.inr e))⟩
end Go.Proofs.Ytajjbffppkpjpaa
