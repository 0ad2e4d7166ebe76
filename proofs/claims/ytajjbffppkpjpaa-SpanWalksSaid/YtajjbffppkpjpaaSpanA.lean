import Derived.Test.YtajjbffppkpjpaaSpanX
import Derived.Test.YtajjbffppkpjpaaSpanI
/-
  span.Norm, span.Add.
-/
namespace Go.Proofs.Ytajjbffppkpjpaa
open Go.RowKit
set_option maxRecDepth 100000 in
theorem norm_walk (l : List Rg) (a : Option Addr) (n c : Nat) (w : World) (hL : RgsIn w a n c l) :
    Calls Try.prog 56 #[.slice a n c] w fun e w' => ∃ v z, e = .returned (.tuple #[v, .int .i64 z]) ∧ OwnR w' w.heap.size v (normR l).1 ∧ z = (normR l).2 ∧ Below w.heap.size w w' := by
  have HL := Lib.hid hL
  have HN := Lib.hid hL.len
  clear hL
  by_cases h64 : 64 < l.length
  · have HA := Lib.hid (show normR l = ([], 190) from if_pos (.inl h64))
    have g1 : (64 : Int) < (n : Int) := by have := HN.out; omega
    go_enter Try.func56, Try.ntmps56
    go_wp2
    go_ret2
    exact ⟨_, _, rfl, by rw [HA.out]; exact OwnR.nil _ _, by rw [HA.out], Below.refl _ _⟩
  · have g1 : ¬ (64 : Int) < (n : Int) := by have := HN.out; omega
    obtain ⟨M, hM⟩ := bool_of (∃ x, x ∈ l ∧ (!decide (oneP x)) = true)
    have HM := Lib.hid hM
    have HLn := Lib.hid (show l.length ≤ 100000 by omega)
    have H64 := Lib.hid h64
    clear hM h64
    go_enter Try.func56, Try.ntmps56
    go_wp2_with fail
    refine (contains_norm l a n c w HL.out M HM.out).mono ?_
    rintro e w2 ⟨rfl, hb2⟩
    have HB2 := Lib.hid hb2
    have HL2 := Lib.hid (HL.out.on hb2)
    clear hb2 HL
    cases M with
    | true =>
      have HA := Lib.hid (show normR l = ([], 190) from if_pos (.inr (by obtain ⟨x, h1, h2⟩ := HM.out.1 rfl; exact ⟨x, h1, by simpa using h2⟩)))
      go_wp2
      go_ret2
      exact ⟨_, _, rfl, by rw [HA.out]; exact OwnR.nil _ _, by rw [HA.out], HB2.out⟩
    | false =>
      have HONE := Lib.hid (show ∀ x, x ∈ l → oneP x from fun x hx => Classical.byContradiction fun q => by
        have := HM.out.2 ⟨x, hx, by simpa using q⟩
        cases this)
      have HA := Lib.hid (show normR l = (allP l, 0) from if_neg (by
        rintro (h | ⟨x, h1, h2⟩)
        · exact H64.out h
        · exact h2 (HONE.out x h1)))
      go_wp2_with fail
      refine (merged_walk l a n c w2 HL2.out HLn.out).mono ?_
      rintro e w3 ⟨v, k, rfl, hp, hs, hO, hb3⟩
      rw [norm_all (fun x hx => (HONE.out x hx).1) hp hs] at hO
      have HO := Lib.hid (hO.mono HB2.out.size)
      have HB3 := Lib.hid (HB2.out.trans (hb3.mono HB2.out.size))
      clear hp hs hO hb3
      go_wp2
      go_ret2
      exact ⟨_, _, rfl, by rw [HA.out]; exact HO.out, by rw [HA.out], HB3.out⟩
set_option maxRecDepth 100000 in
set_option maxHeartbeats 1000000 in
theorem add_walk (l : List Rg) (r : Rg) (a : Option Addr) (n c : Nat) (w : World) (hL : RgsIn w a n c l) :
    Calls Try.prog 20 #[.slice a n c, rag r] w fun e w' => ∃ v z, e = .returned (.tuple #[v, .int .i64 z]) ∧ OwnR w' w.heap.size v (addR l r).1 ∧ z = (addR l r).2 ∧ Below w.heap.size w w' := by
  have hb := below_one1 w (.cells (rcb r) 25)
  have HL := Lib.hid (hL.on hb)
  have BG := Lib.hid (Blk.new w (rcb r) 25)
  have HB := Lib.hid hb
  obtain ⟨M1, h1⟩ := bool_of (MayP l)
  obtain ⟨M2, h2⟩ := bool_of (∃ x, x ∈ l ∧ (decide ((inter x r).lo < (inter x r).hi)) = true)
  have H1 := Lib.hid h1
  have H2 := Lib.hid h2
  clear hL hb h1 h2
  go_enter Try.func20, Try.ntmps20
  go_wp2_with fail
  refine (may_walkS l a n c _ HL.out M1 H1.out).mono ?_
  rintro e w2 ⟨rfl, hb2⟩
  have HB2 := Lib.hid (HB.out.trans (hb2.mono HB.out.size))
  have HL2 := Lib.hid (HL.out.on hb2)
  have BG2 := Lib.hid (BG.out.below hb2 BG.out.lt)
  have b0 := BG2.out.cell 0 rfl
  have b1 := BG2.out.cell 1 rfl
  clear hb2 HL BG HB
  cases M1 with
  | false =>
    have HA := Lib.hid (show addR l r = ([], 190) from if_pos (fun h => by have := H1.out.2 h.1; cases this))
    go_wp2
    go_ret2
    exact ⟨_, _, rfl, by rw [HA.out]; exact OwnR.nil _ _, by rw [HA.out], HB2.out⟩
  | true =>
    have HMAY := Lib.hid (H1.out.1 rfl)
    by_cases ho : oneP r
    · have HO := Lib.hid ho
      clear ho
      go_wp2_with fail
      refine (one_walk r _).mono ?_
      rintro e w3 ⟨he, hb3⟩
      rw [decide_eq_true HO.out] at he
      subst he
      have HB3 := Lib.hid (HB2.out.trans (hb3.mono HB2.out.size))
      have HL3 := Lib.hid (HL2.out.on hb3)
      have BG3 := Lib.hid (BG2.out.below hb3 BG2.out.lt)
      clear hb3 b0 b1 HL2 BG2 HB2
      have b0 := BG3.out.cell 0 rfl
      have b1 := BG3.out.cell 1 rfl
      go_wp2_with fail
      refine (meets_walk l r a n c _ HL3.out M2 H2.out).mono ?_
      rintro e w4 ⟨rfl, hb4⟩
      have HBW := Lib.hid (HB3.out.trans (hb4.mono HB3.out.size))
      have HL := Lib.hid (HL3.out.on hb4)
      have BG := Lib.hid (BG3.out.below hb4 BG3.out.lt)
      clear hb4 b0 b1 HL3 BG3 HB3
      cases M2 with
      | true =>
        have HA := Lib.hid (show addR l r = ([], 192) by
          unfold addR
          rw [if_neg (not_not_intro ⟨HMAY.out, HO.out⟩), if_pos]
          obtain ⟨x, q1, q2⟩ := H2.out.1 rfl
          exact ⟨x, q1, by simpa using q2⟩)
        go_wp2
        go_ret2
        exact ⟨_, _, rfl, by rw [HA.out]; exact OwnR.nil _ _, by rw [HA.out], HBW.out⟩
      | false =>
        have HA0 := Lib.hid (show addR l r = sizeR (putP l r) by
          unfold addR
          rw [if_neg (not_not_intro ⟨HMAY.out, HO.out⟩), if_neg]
          rintro ⟨x, q1, q2⟩
          have := H2.out.2 ⟨x, q1, by simpa using q2⟩
          cases this)
        have HLn := Lib.hid (show l.length ≤ 100000 by have := HMAY.out.2.2; omega)
        have HLEN := Lib.hid (show l.length + [r].length ≤ 1000000000000 by have := HMAY.out.2.2; simp; omega)
        have HLEN2 := Lib.hid (show (l ++ [r]).length ≤ 100000 by have := HMAY.out.2.2; simp; omega)
        have HB64 := Lib.hid (show ∀ x, x ∈ l ++ [r] → x.lo < 18446744073709551616 ∧ x.hi < 18446744073709551616 from fun x hx => by
          rcases List.mem_append.1 hx with h | h
          · exact HMAY.out.b64 x h
          · simp at h; subst h
            have h1 := HO.out.1; have h2 := HO.out.2
            unfold maxIx at h2; omega)
        have HSEP := Lib.hid HMAY.out.1
        have HPOS := Lib.hid (show r.pos from HO.out.1)
        obtain ⟨W, rfl⟩ : ∃ W : World, W = w4 := ⟨_, rfl⟩
        have HL0 := Lib.hid HL.out
        by_cases hlong : 64 < (putP l r).length
        · have HLONG := Lib.hid hlong
          have HA := Lib.hid (show addR l r = ([], 6) by rw [HA0.out]; exact if_pos hlong)
          clear hlong
          go_wp2_with fail
          refine wp_region_held_drew (S := fun w' => Below W.heap.size W w') (by kernel_rfl) (Below.refl _ _).drew (fun _ => ?_)
          have HS := Lib.hid ((Below.refl W.heap.size W).drew)
          have HL := Lib.hid (HL.out.on (HS.out))
          generalize World.drew W = v0 at *
          try simp only [Act.put, List.setIfInBounds_toArray, List.set_cons_succ, List.set_cons_zero]
          refine wpAnyH_take (i := 0) (oi := ⟨some 19, .move (.tmp 0), 22, _, _, none⟩) (v := .slice a n c) rfl (by kernel_rfl) (by kernel_rfl) (by kernel_rfl) (fun _ _ _ h => h) (Or.inl ⟨by rfl, fun _ _ => by go_simp⟩) HS.out ?_
          try simp only [Act.put, List.setIfInBounds_toArray, List.set_cons_succ, List.set_cons_zero]
          refine wpAnyH_take (i := 2) (oi := ⟨some 21, .load 25 (.tmp 3), 25, _, _, none⟩) (v := .agg #[.int .u64 (r.lo : Nat), .int .u64 (r.hi : Nat)]) rfl (by kernel_rfl) (by kernel_rfl) (by kernel_rfl) (fun _ _ _ h => h) (Or.inl ⟨by rfl, fun vv hvv => yields_agg 25 (.tmp 3) rfl w.heap.size rfl (BG.out.below hvv BG.out.lt) _ Try.underlying25 rfl size_rg⟩) HS.out ?_
          try simp only [Act.put, List.setIfInBounds_toArray, List.set_cons_succ, List.set_cons_zero]
          refine wpAnyH_ready (rs := [1, 3]) (by kernel_rfl) (by simp) ?_
          refine AllReadyH.cons (o := ⟨some 20, .call { callee := .value (.func 78), args := #[.tmp 19], argTypes := #[22] }, 22, _, _, none⟩) rfl (fun K hK => ?_) (AllReadyH.cons (o := ⟨some 22, .buildSlice 22 1 #[(0, .tmp 21)], 22, _, _, none⟩) rfl (fun K hK => ?_) AllReadyH.nil)
          · go_simp
            refine (clone_walkR l a n c v0 HL.out HLn.out).mono ?_
            rintro e v1 ⟨a2, n2, c2, rfl, hO, hb⟩
            have hO := hO.mono HS.out.size
            have HL := Lib.hid (HL.out.on hb)
            have HS := Lib.hid (HS.out.trans (hb.mono HS.out.size))
            have HO := Lib.hid (hO)
            clear hO hb
            refine hK _ _ HS.out (fun _ => ?_)
            clear hK K
            try simp only [Act.put, List.setIfInBounds_toArray, List.set_cons_succ, List.set_cons_zero]
            refine wpAnyH_ready (rs := [3]) (by kernel_rfl) (by simp) ?_
            refine AllReadyH.cons (o := ⟨some 22, .buildSlice 22 1 #[(0, .tmp 21)], 22, _, _, none⟩) rfl (fun K hK => ?_) AllReadyH.nil
            go_simp
            have BJ := Blk.new v1 #[.int .u64 (r.lo : Nat), .int .u64 (r.hi : Nat)] 25
            have hb := below_one1 v1 (.cells #[.int .u64 (r.lo : Nat), .int .u64 (r.hi : Nat)] 25)
            generalize World.alloc v1 _ = v2 at *
            have HL := Lib.hid (HL.out.on hb)
            have HS := Lib.hid (HS.out.trans (hb.mono HS.out.size))
            have HO := Lib.hid (HO.out.on hb)
            replace BJ := Lib.hid BJ
            clear hb
            refine hK _ _ HS.out (fun _ => ?_)
            clear hK K
            try simp only [Act.put, List.setIfInBounds_toArray, List.set_cons_succ, List.set_cons_zero]
            refine wpAnyH_ready (rs := [4]) (by kernel_rfl) (by simp) ?_
            refine AllReadyH.cons (o := ⟨some 23, .call { callee := .builtin .append, args := #[.tmp 20, .tmp 22], argTypes := #[22, 22] }, 22, _, _, none⟩) rfl (fun K hK => ?_) AllReadyH.nil
            refine wp_append_rgs (.tmp 20) (.tmp 22) rfl W.heap.size _ l (by rfl) HO.out _ 1 1 [r] (by rfl) rfl (RgR.one BJ.out) HLEN.out HS.out.size ?_
            intro a4 n4 c4 v3 hO4 hg4
            have hb := below_ownR HS.out HO.out HS.out.size hg4
            have HS := Lib.hid hb
            have HO4 := Lib.hid hO4
            have HL := Lib.hid (HL0.out.on hb)
            clear hO4 hg4 hb HO BJ
            refine hK _ _ HS.out (fun _ => ?_)
            clear hK K
            try simp only [Act.put, List.setIfInBounds_toArray, List.set_cons_succ, List.set_cons_zero]
            refine wpAnyH_ready (rs := [5]) (by kernel_rfl) (by simp) ?_
            refine AllReadyH.cons (o := ⟨some 24, .call { callee := .value (.func 77), args := #[.tmp 23], argTypes := #[22] }, 22, _, _, none⟩) rfl (fun K hK => ?_) AllReadyH.nil
            go_simp
            refine (merged_walk (l ++ [r]) a4 n4 c4 v3 (HO4.out.rgs HB64.out) HLEN2.out).mono ?_
            rintro e v4 ⟨v5, k5, rfl, hp5, hs5, hO5, hb⟩
            have hO5 := hO5.mono HS.out.size
            rw [add_put HSEP.out HPOS.out hp5 hs5] at hO5
            obtain ⟨a5, c5, rfl, _⟩ := hO5.form
            have HL := Lib.hid (HL.out.on hb)
            have HS := Lib.hid (HS.out.trans (hb.mono HS.out.size))
            have HO5 := Lib.hid (hO5)
            clear hO5 hb hp5 hs5
            refine hK _ _ HS.out (fun _ => ?_)
            clear hK K
            try simp only [Act.put, List.setIfInBounds_toArray, List.set_cons_succ, List.set_cons_zero]
            refine wpAnyH_ready (rs := [6]) (by kernel_rfl) (by simp) ?_
            refine AllReadyH.cons (o := ⟨some 25, .call { callee := .value (.func 76), args := #[.tmp 24], argTypes := #[22] }, _, _, _, none⟩) rfl (fun K hK => ?_) AllReadyH.nil
            go_simp
            refine (sized_walk (putP l r) a5 _ c5 rfl v4).mono ?_
            rintro e v4 ⟨he, rfl⟩
            rw [if_pos HLONG.out] at he
            subst he
            refine hK _ _ HS.out (fun _ => ?_)
            clear hK K
            try simp only [Act.put, List.setIfInBounds_toArray, List.set_cons_succ, List.set_cons_zero]
            refine wpAnyH_take (i := 7) (oi := ⟨some 26, .extract (.tmp 25) 0, 22, _, _, none⟩) (v := .slice none 0 0) rfl (by kernel_rfl) (by kernel_rfl) (by kernel_rfl) (fun _ _ _ h => h) (Or.inl ⟨by rfl, fun _ _ => by go_simp⟩) HS.out ?_
            try simp only [Act.put, List.setIfInBounds_toArray, List.set_cons_succ, List.set_cons_zero]
            refine wpAnyH_take (i := 8) (oi := ⟨some 27, .extract (.tmp 25) 1, 30, _, _, none⟩) (v := .int .i64 6) rfl (by kernel_rfl) (by kernel_rfl) (by kernel_rfl) (fun _ _ _ h => h) (Or.inl ⟨by rfl, fun _ _ => by go_simp⟩) HS.out ?_
            try simp only [Act.put, List.setIfInBounds_toArray, List.set_cons_succ, List.set_cons_zero]
            refine wpAnyH_take (i := 9) (oi := ⟨some 4, .assign (.tmp 26), 22, _, _, none⟩) (v := .slice none 0 0) rfl (by kernel_rfl) (by kernel_rfl) (by kernel_rfl) (fun _ _ _ h => h) (Or.inl ⟨by rfl, fun _ _ => by go_simp⟩) HS.out ?_
            try simp only [Act.put, List.setIfInBounds_toArray, List.set_cons_succ, List.set_cons_zero]
            refine wpAnyH_take (i := 10) (oi := ⟨some 5, .assign (.tmp 27), 30, _, _, none⟩) (v := .int .i64 6) rfl (by kernel_rfl) (by kernel_rfl) (by kernel_rfl) (fun _ _ _ h => h) (Or.inl ⟨by rfl, fun _ _ => by go_simp⟩) HS.out ?_
            try simp only [Act.put, List.setIfInBounds_toArray, List.set_cons_succ, List.set_cons_zero]
            refine wpAnyH_done (by kernel_rfl) ?_ _
            go_wp2
            go_ret2
            exact ⟨_, _, rfl, by rw [HA.out]; exact OwnR.nil _ _, by rw [HA.out], HBW.out.trans (HS.out.mono HBW.out.size)⟩
          · go_simp
            have BJ := Blk.new v0 #[.int .u64 (r.lo : Nat), .int .u64 (r.hi : Nat)] 25
            have hb := below_one1 v0 (.cells #[.int .u64 (r.lo : Nat), .int .u64 (r.hi : Nat)] 25)
            generalize World.alloc v0 _ = v6 at *
            have HL := Lib.hid (HL.out.on hb)
            have HS := Lib.hid (HS.out.trans (hb.mono HS.out.size))
            replace BJ := Lib.hid BJ
            clear hb
            refine hK _ _ HS.out (fun _ => ?_)
            clear hK K
            try simp only [Act.put, List.setIfInBounds_toArray, List.set_cons_succ, List.set_cons_zero]
            refine wpAnyH_ready (rs := [1]) (by kernel_rfl) (by simp) ?_
            refine AllReadyH.cons (o := ⟨some 20, .call { callee := .value (.func 78), args := #[.tmp 19], argTypes := #[22] }, 22, _, _, none⟩) rfl (fun K hK => ?_) AllReadyH.nil
            go_simp
            refine (clone_walkR l a n c v6 HL.out HLn.out).mono ?_
            rintro e v7 ⟨a2, n2, c2, rfl, hO, hb⟩
            have hO := hO.mono HS.out.size
            have HL := Lib.hid (HL.out.on hb)
            have HS := Lib.hid (HS.out.trans (hb.mono HS.out.size))
            have BJ := Lib.hid (BJ.out.on hb)
            have HO := Lib.hid (hO)
            clear hO hb
            refine hK _ _ HS.out (fun _ => ?_)
            clear hK K
            try simp only [Act.put, List.setIfInBounds_toArray, List.set_cons_succ, List.set_cons_zero]
            refine wpAnyH_ready (rs := [4]) (by kernel_rfl) (by simp) ?_
            refine AllReadyH.cons (o := ⟨some 23, .call { callee := .builtin .append, args := #[.tmp 20, .tmp 22], argTypes := #[22, 22] }, 22, _, _, none⟩) rfl (fun K hK => ?_) AllReadyH.nil
            refine wp_append_rgs (.tmp 20) (.tmp 22) rfl W.heap.size _ l (by rfl) HO.out _ 1 1 [r] (by rfl) rfl (RgR.one BJ.out) HLEN.out HS.out.size ?_
            intro a4 n4 c4 v8 hO4 hg4
            have hb := below_ownR HS.out HO.out HS.out.size hg4
            have HS := Lib.hid hb
            have HO4 := Lib.hid hO4
            have HL := Lib.hid (HL0.out.on hb)
            clear hO4 hg4 hb HO BJ
            refine hK _ _ HS.out (fun _ => ?_)
            clear hK K
            try simp only [Act.put, List.setIfInBounds_toArray, List.set_cons_succ, List.set_cons_zero]
            refine wpAnyH_ready (rs := [5]) (by kernel_rfl) (by simp) ?_
            refine AllReadyH.cons (o := ⟨some 24, .call { callee := .value (.func 77), args := #[.tmp 23], argTypes := #[22] }, 22, _, _, none⟩) rfl (fun K hK => ?_) AllReadyH.nil
            go_simp
            refine (merged_walk (l ++ [r]) a4 n4 c4 v8 (HO4.out.rgs HB64.out) HLEN2.out).mono ?_
            rintro e v9 ⟨v5, k5, rfl, hp5, hs5, hO5, hb⟩
            have hO5 := hO5.mono HS.out.size
            rw [add_put HSEP.out HPOS.out hp5 hs5] at hO5
            obtain ⟨a5, c5, rfl, _⟩ := hO5.form
            have HL := Lib.hid (HL.out.on hb)
            have HS := Lib.hid (HS.out.trans (hb.mono HS.out.size))
            have HO5 := Lib.hid (hO5)
            clear hO5 hb hp5 hs5
            refine hK _ _ HS.out (fun _ => ?_)
            clear hK K
            try simp only [Act.put, List.setIfInBounds_toArray, List.set_cons_succ, List.set_cons_zero]
            refine wpAnyH_ready (rs := [6]) (by kernel_rfl) (by simp) ?_
            refine AllReadyH.cons (o := ⟨some 25, .call { callee := .value (.func 76), args := #[.tmp 24], argTypes := #[22] }, _, _, _, none⟩) rfl (fun K hK => ?_) AllReadyH.nil
            go_simp
            refine (sized_walk (putP l r) a5 _ c5 rfl v9).mono ?_
            rintro e v9 ⟨he, rfl⟩
            rw [if_pos HLONG.out] at he
            subst he
            refine hK _ _ HS.out (fun _ => ?_)
            clear hK K
            try simp only [Act.put, List.setIfInBounds_toArray, List.set_cons_succ, List.set_cons_zero]
            refine wpAnyH_take (i := 7) (oi := ⟨some 26, .extract (.tmp 25) 0, 22, _, _, none⟩) (v := .slice none 0 0) rfl (by kernel_rfl) (by kernel_rfl) (by kernel_rfl) (fun _ _ _ h => h) (Or.inl ⟨by rfl, fun _ _ => by go_simp⟩) HS.out ?_
            try simp only [Act.put, List.setIfInBounds_toArray, List.set_cons_succ, List.set_cons_zero]
            refine wpAnyH_take (i := 8) (oi := ⟨some 27, .extract (.tmp 25) 1, 30, _, _, none⟩) (v := .int .i64 6) rfl (by kernel_rfl) (by kernel_rfl) (by kernel_rfl) (fun _ _ _ h => h) (Or.inl ⟨by rfl, fun _ _ => by go_simp⟩) HS.out ?_
            try simp only [Act.put, List.setIfInBounds_toArray, List.set_cons_succ, List.set_cons_zero]
            refine wpAnyH_take (i := 9) (oi := ⟨some 4, .assign (.tmp 26), 22, _, _, none⟩) (v := .slice none 0 0) rfl (by kernel_rfl) (by kernel_rfl) (by kernel_rfl) (fun _ _ _ h => h) (Or.inl ⟨by rfl, fun _ _ => by go_simp⟩) HS.out ?_
            try simp only [Act.put, List.setIfInBounds_toArray, List.set_cons_succ, List.set_cons_zero]
            refine wpAnyH_take (i := 10) (oi := ⟨some 5, .assign (.tmp 27), 30, _, _, none⟩) (v := .int .i64 6) rfl (by kernel_rfl) (by kernel_rfl) (by kernel_rfl) (fun _ _ _ h => h) (Or.inl ⟨by rfl, fun _ _ => by go_simp⟩) HS.out ?_
            try simp only [Act.put, List.setIfInBounds_toArray, List.set_cons_succ, List.set_cons_zero]
            refine wpAnyH_done (by kernel_rfl) ?_ _
            go_wp2
            go_ret2
            exact ⟨_, _, rfl, by rw [HA.out]; exact OwnR.nil _ _, by rw [HA.out], HBW.out.trans (HS.out.mono HBW.out.size)⟩
        · have HLONG := Lib.hid hlong
          have HA := Lib.hid (show addR l r = (putP l r, 0) by rw [HA0.out]; exact if_neg hlong)
          clear hlong
          go_wp2_with fail
          refine wp_region_held_drew (S := fun w' => Below W.heap.size W w') (by kernel_rfl) (Below.refl _ _).drew (fun _ => ?_)
          have HS := Lib.hid ((Below.refl W.heap.size W).drew)
          have HL := Lib.hid (HL.out.on (HS.out))
          generalize World.drew W = v0 at *
          try simp only [Act.put, List.setIfInBounds_toArray, List.set_cons_succ, List.set_cons_zero]
          refine wpAnyH_take (i := 0) (oi := ⟨some 19, .move (.tmp 0), 22, _, _, none⟩) (v := .slice a n c) rfl (by kernel_rfl) (by kernel_rfl) (by kernel_rfl) (fun _ _ _ h => h) (Or.inl ⟨by rfl, fun _ _ => by go_simp⟩) HS.out ?_
          try simp only [Act.put, List.setIfInBounds_toArray, List.set_cons_succ, List.set_cons_zero]
          refine wpAnyH_take (i := 2) (oi := ⟨some 21, .load 25 (.tmp 3), 25, _, _, none⟩) (v := .agg #[.int .u64 (r.lo : Nat), .int .u64 (r.hi : Nat)]) rfl (by kernel_rfl) (by kernel_rfl) (by kernel_rfl) (fun _ _ _ h => h) (Or.inl ⟨by rfl, fun vv hvv => yields_agg 25 (.tmp 3) rfl w.heap.size rfl (BG.out.below hvv BG.out.lt) _ Try.underlying25 rfl size_rg⟩) HS.out ?_
          try simp only [Act.put, List.setIfInBounds_toArray, List.set_cons_succ, List.set_cons_zero]
          refine wpAnyH_ready (rs := [1, 3]) (by kernel_rfl) (by simp) ?_
          refine AllReadyH.cons (o := ⟨some 20, .call { callee := .value (.func 78), args := #[.tmp 19], argTypes := #[22] }, 22, _, _, none⟩) rfl (fun K hK => ?_) (AllReadyH.cons (o := ⟨some 22, .buildSlice 22 1 #[(0, .tmp 21)], 22, _, _, none⟩) rfl (fun K hK => ?_) AllReadyH.nil)
          · go_simp
            refine (clone_walkR l a n c v0 HL.out HLn.out).mono ?_
            rintro e v1 ⟨a2, n2, c2, rfl, hO, hb⟩
            have hO := hO.mono HS.out.size
            have HL := Lib.hid (HL.out.on hb)
            have HS := Lib.hid (HS.out.trans (hb.mono HS.out.size))
            have HO := Lib.hid (hO)
            clear hO hb
            refine hK _ _ HS.out (fun _ => ?_)
            clear hK K
            try simp only [Act.put, List.setIfInBounds_toArray, List.set_cons_succ, List.set_cons_zero]
            refine wpAnyH_ready (rs := [3]) (by kernel_rfl) (by simp) ?_
            refine AllReadyH.cons (o := ⟨some 22, .buildSlice 22 1 #[(0, .tmp 21)], 22, _, _, none⟩) rfl (fun K hK => ?_) AllReadyH.nil
            go_simp
            have BJ := Blk.new v1 #[.int .u64 (r.lo : Nat), .int .u64 (r.hi : Nat)] 25
            have hb := below_one1 v1 (.cells #[.int .u64 (r.lo : Nat), .int .u64 (r.hi : Nat)] 25)
            generalize World.alloc v1 _ = v2 at *
            have HL := Lib.hid (HL.out.on hb)
            have HS := Lib.hid (HS.out.trans (hb.mono HS.out.size))
            have HO := Lib.hid (HO.out.on hb)
            replace BJ := Lib.hid BJ
            clear hb
            refine hK _ _ HS.out (fun _ => ?_)
            clear hK K
            try simp only [Act.put, List.setIfInBounds_toArray, List.set_cons_succ, List.set_cons_zero]
            refine wpAnyH_ready (rs := [4]) (by kernel_rfl) (by simp) ?_
            refine AllReadyH.cons (o := ⟨some 23, .call { callee := .builtin .append, args := #[.tmp 20, .tmp 22], argTypes := #[22, 22] }, 22, _, _, none⟩) rfl (fun K hK => ?_) AllReadyH.nil
            refine wp_append_rgs (.tmp 20) (.tmp 22) rfl W.heap.size _ l (by rfl) HO.out _ 1 1 [r] (by rfl) rfl (RgR.one BJ.out) HLEN.out HS.out.size ?_
            intro a4 n4 c4 v3 hO4 hg4
            have hb := below_ownR HS.out HO.out HS.out.size hg4
            have HS := Lib.hid hb
            have HO4 := Lib.hid hO4
            have HL := Lib.hid (HL0.out.on hb)
            clear hO4 hg4 hb HO BJ
            refine hK _ _ HS.out (fun _ => ?_)
            clear hK K
            try simp only [Act.put, List.setIfInBounds_toArray, List.set_cons_succ, List.set_cons_zero]
            refine wpAnyH_ready (rs := [5]) (by kernel_rfl) (by simp) ?_
            refine AllReadyH.cons (o := ⟨some 24, .call { callee := .value (.func 77), args := #[.tmp 23], argTypes := #[22] }, 22, _, _, none⟩) rfl (fun K hK => ?_) AllReadyH.nil
            go_simp
            refine (merged_walk (l ++ [r]) a4 n4 c4 v3 (HO4.out.rgs HB64.out) HLEN2.out).mono ?_
            rintro e v4 ⟨v5, k5, rfl, hp5, hs5, hO5, hb⟩
            have hO5 := hO5.mono HS.out.size
            rw [add_put HSEP.out HPOS.out hp5 hs5] at hO5
            obtain ⟨a5, c5, rfl, _⟩ := hO5.form
            have HL := Lib.hid (HL.out.on hb)
            have HS := Lib.hid (HS.out.trans (hb.mono HS.out.size))
            have HO5 := Lib.hid (hO5)
            clear hO5 hb hp5 hs5
            refine hK _ _ HS.out (fun _ => ?_)
            clear hK K
            try simp only [Act.put, List.setIfInBounds_toArray, List.set_cons_succ, List.set_cons_zero]
            refine wpAnyH_ready (rs := [6]) (by kernel_rfl) (by simp) ?_
            refine AllReadyH.cons (o := ⟨some 25, .call { callee := .value (.func 76), args := #[.tmp 24], argTypes := #[22] }, _, _, _, none⟩) rfl (fun K hK => ?_) AllReadyH.nil
            go_simp
            refine (sized_walk (putP l r) a5 _ c5 rfl v4).mono ?_
            rintro e v4 ⟨he, rfl⟩
            rw [if_neg HLONG.out] at he
            subst he
            refine hK _ _ HS.out (fun _ => ?_)
            clear hK K
            try simp only [Act.put, List.setIfInBounds_toArray, List.set_cons_succ, List.set_cons_zero]
            refine wpAnyH_take (i := 7) (oi := ⟨some 26, .extract (.tmp 25) 0, 22, _, _, none⟩) (v := .slice a5 (putP l r).length c5) rfl (by kernel_rfl) (by kernel_rfl) (by kernel_rfl) (fun _ _ _ h => h) (Or.inl ⟨by rfl, fun _ _ => by go_simp⟩) HS.out ?_
            try simp only [Act.put, List.setIfInBounds_toArray, List.set_cons_succ, List.set_cons_zero]
            refine wpAnyH_take (i := 8) (oi := ⟨some 27, .extract (.tmp 25) 1, 30, _, _, none⟩) (v := .int .i64 0) rfl (by kernel_rfl) (by kernel_rfl) (by kernel_rfl) (fun _ _ _ h => h) (Or.inl ⟨by rfl, fun _ _ => by go_simp⟩) HS.out ?_
            try simp only [Act.put, List.setIfInBounds_toArray, List.set_cons_succ, List.set_cons_zero]
            refine wpAnyH_take (i := 9) (oi := ⟨some 4, .assign (.tmp 26), 22, _, _, none⟩) (v := .slice a5 (putP l r).length c5) rfl (by kernel_rfl) (by kernel_rfl) (by kernel_rfl) (fun _ _ _ h => h) (Or.inl ⟨by rfl, fun _ _ => by go_simp⟩) HS.out ?_
            try simp only [Act.put, List.setIfInBounds_toArray, List.set_cons_succ, List.set_cons_zero]
            refine wpAnyH_take (i := 10) (oi := ⟨some 5, .assign (.tmp 27), 30, _, _, none⟩) (v := .int .i64 0) rfl (by kernel_rfl) (by kernel_rfl) (by kernel_rfl) (fun _ _ _ h => h) (Or.inl ⟨by rfl, fun _ _ => by go_simp⟩) HS.out ?_
            try simp only [Act.put, List.setIfInBounds_toArray, List.set_cons_succ, List.set_cons_zero]
            refine wpAnyH_done (by kernel_rfl) ?_ _
            go_wp2
            go_ret2
            exact ⟨_, _, rfl, by rw [HA.out]; exact HO5.out.mono HBW.out.size, by rw [HA.out], HBW.out.trans (HS.out.mono HBW.out.size)⟩
          · go_simp
            have BJ := Blk.new v0 #[.int .u64 (r.lo : Nat), .int .u64 (r.hi : Nat)] 25
            have hb := below_one1 v0 (.cells #[.int .u64 (r.lo : Nat), .int .u64 (r.hi : Nat)] 25)
            generalize World.alloc v0 _ = v6 at *
            have HL := Lib.hid (HL.out.on hb)
            have HS := Lib.hid (HS.out.trans (hb.mono HS.out.size))
            replace BJ := Lib.hid BJ
            clear hb
            refine hK _ _ HS.out (fun _ => ?_)
            clear hK K
            try simp only [Act.put, List.setIfInBounds_toArray, List.set_cons_succ, List.set_cons_zero]
            refine wpAnyH_ready (rs := [1]) (by kernel_rfl) (by simp) ?_
            refine AllReadyH.cons (o := ⟨some 20, .call { callee := .value (.func 78), args := #[.tmp 19], argTypes := #[22] }, 22, _, _, none⟩) rfl (fun K hK => ?_) AllReadyH.nil
            go_simp
            refine (clone_walkR l a n c v6 HL.out HLn.out).mono ?_
            rintro e v7 ⟨a2, n2, c2, rfl, hO, hb⟩
            have hO := hO.mono HS.out.size
            have HL := Lib.hid (HL.out.on hb)
            have HS := Lib.hid (HS.out.trans (hb.mono HS.out.size))
            have BJ := Lib.hid (BJ.out.on hb)
            have HO := Lib.hid (hO)
            clear hO hb
            refine hK _ _ HS.out (fun _ => ?_)
            clear hK K
            try simp only [Act.put, List.setIfInBounds_toArray, List.set_cons_succ, List.set_cons_zero]
            refine wpAnyH_ready (rs := [4]) (by kernel_rfl) (by simp) ?_
            refine AllReadyH.cons (o := ⟨some 23, .call { callee := .builtin .append, args := #[.tmp 20, .tmp 22], argTypes := #[22, 22] }, 22, _, _, none⟩) rfl (fun K hK => ?_) AllReadyH.nil
            refine wp_append_rgs (.tmp 20) (.tmp 22) rfl W.heap.size _ l (by rfl) HO.out _ 1 1 [r] (by rfl) rfl (RgR.one BJ.out) HLEN.out HS.out.size ?_
            intro a4 n4 c4 v8 hO4 hg4
            have hb := below_ownR HS.out HO.out HS.out.size hg4
            have HS := Lib.hid hb
            have HO4 := Lib.hid hO4
            have HL := Lib.hid (HL0.out.on hb)
            clear hO4 hg4 hb HO BJ
            refine hK _ _ HS.out (fun _ => ?_)
            clear hK K
            try simp only [Act.put, List.setIfInBounds_toArray, List.set_cons_succ, List.set_cons_zero]
            refine wpAnyH_ready (rs := [5]) (by kernel_rfl) (by simp) ?_
            refine AllReadyH.cons (o := ⟨some 24, .call { callee := .value (.func 77), args := #[.tmp 23], argTypes := #[22] }, 22, _, _, none⟩) rfl (fun K hK => ?_) AllReadyH.nil
            go_simp
            refine (merged_walk (l ++ [r]) a4 n4 c4 v8 (HO4.out.rgs HB64.out) HLEN2.out).mono ?_
            rintro e v9 ⟨v5, k5, rfl, hp5, hs5, hO5, hb⟩
            have hO5 := hO5.mono HS.out.size
            rw [add_put HSEP.out HPOS.out hp5 hs5] at hO5
            obtain ⟨a5, c5, rfl, _⟩ := hO5.form
            have HL := Lib.hid (HL.out.on hb)
            have HS := Lib.hid (HS.out.trans (hb.mono HS.out.size))
            have HO5 := Lib.hid (hO5)
            clear hO5 hb hp5 hs5
            refine hK _ _ HS.out (fun _ => ?_)
            clear hK K
            try simp only [Act.put, List.setIfInBounds_toArray, List.set_cons_succ, List.set_cons_zero]
            refine wpAnyH_ready (rs := [6]) (by kernel_rfl) (by simp) ?_
            refine AllReadyH.cons (o := ⟨some 25, .call { callee := .value (.func 76), args := #[.tmp 24], argTypes := #[22] }, _, _, _, none⟩) rfl (fun K hK => ?_) AllReadyH.nil
            go_simp
            refine (sized_walk (putP l r) a5 _ c5 rfl v9).mono ?_
            rintro e v9 ⟨he, rfl⟩
            rw [if_neg HLONG.out] at he
            subst he
            refine hK _ _ HS.out (fun _ => ?_)
            clear hK K
            try simp only [Act.put, List.setIfInBounds_toArray, List.set_cons_succ, List.set_cons_zero]
            refine wpAnyH_take (i := 7) (oi := ⟨some 26, .extract (.tmp 25) 0, 22, _, _, none⟩) (v := .slice a5 (putP l r).length c5) rfl (by kernel_rfl) (by kernel_rfl) (by kernel_rfl) (fun _ _ _ h => h) (Or.inl ⟨by rfl, fun _ _ => by go_simp⟩) HS.out ?_
            try simp only [Act.put, List.setIfInBounds_toArray, List.set_cons_succ, List.set_cons_zero]
            refine wpAnyH_take (i := 8) (oi := ⟨some 27, .extract (.tmp 25) 1, 30, _, _, none⟩) (v := .int .i64 0) rfl (by kernel_rfl) (by kernel_rfl) (by kernel_rfl) (fun _ _ _ h => h) (Or.inl ⟨by rfl, fun _ _ => by go_simp⟩) HS.out ?_
            try simp only [Act.put, List.setIfInBounds_toArray, List.set_cons_succ, List.set_cons_zero]
            refine wpAnyH_take (i := 9) (oi := ⟨some 4, .assign (.tmp 26), 22, _, _, none⟩) (v := .slice a5 (putP l r).length c5) rfl (by kernel_rfl) (by kernel_rfl) (by kernel_rfl) (fun _ _ _ h => h) (Or.inl ⟨by rfl, fun _ _ => by go_simp⟩) HS.out ?_
            try simp only [Act.put, List.setIfInBounds_toArray, List.set_cons_succ, List.set_cons_zero]
            refine wpAnyH_take (i := 10) (oi := ⟨some 5, .assign (.tmp 27), 30, _, _, none⟩) (v := .int .i64 0) rfl (by kernel_rfl) (by kernel_rfl) (by kernel_rfl) (fun _ _ _ h => h) (Or.inl ⟨by rfl, fun _ _ => by go_simp⟩) HS.out ?_
            try simp only [Act.put, List.setIfInBounds_toArray, List.set_cons_succ, List.set_cons_zero]
            refine wpAnyH_done (by kernel_rfl) ?_ _
            go_wp2
            go_ret2
            exact ⟨_, _, rfl, by rw [HA.out]; exact HO5.out.mono HBW.out.size, by rw [HA.out], HBW.out.trans (HS.out.mono HBW.out.size)⟩
    · have HO := Lib.hid ho
      have HA := Lib.hid (show addR l r = ([], 190) from if_pos (fun h => ho h.2))
      clear ho
      go_wp2_with fail
      refine (one_walk r _).mono ?_
      rintro e w3 ⟨he, hb3⟩
      rw [decide_eq_false HO.out] at he
      subst he
      have HB3 := Lib.hid (HB2.out.trans (hb3.mono HB2.out.size))
      clear hb3
      go_wp2
      go_ret2
      exact ⟨_, _, rfl, by rw [HA.out]; exact OwnR.nil _ _, by rw [HA.out], HB3.out⟩
end Go.Proofs.Ytajjbffppkpjpaa
