import Derived.Test.YtajjbffppkpjpaaSpanN2
/-
  The walk of liverylaw19.SpanOne.
-/
namespace Go.Proofs.Ytajjbffppkpjpaa
open Go.RowKit
theorem OwnR.head {w : World} {lo n c : Nat} {a : Option Addr} {l : List Rg} (h : OwnR w lo (.slice a n c) l) (hl : 0 < l.length) : ∃ g, a = some ⟨g, 0, none⟩ ∧ lo ≤ g := by
  rcases h.2 with ⟨e, h0⟩ | ⟨g, cap, cur, e, h2, _⟩
  · omega
  · simp only [Value.slice.injEq] at e
    exact ⟨g, e.1, h2⟩
theorem OwnR.rng {w : World} {lo g n c : Nat} {l : List Rg} (h : OwnR w lo (.slice (some ⟨g, 0, none⟩) n c) l) (i : Nat) (hi : i < l.length) : w.rangeAt g (i * 2) (rcl (l.getD i r0)) := by
  obtain ⟨a, c', e, _, _, hR, _⟩ := h.form
  simp only [Value.slice.injEq] at e
  obtain ⟨g', o', e2, _, hr⟩ := hR i hi
  rw [← e.1] at e2
  simp only [Option.some.injEq, Addr.mk.injEq] at e2
  obtain ⟨rfl, rfl, _⟩ := e2
  rw [Nat.zero_add] at hr; exact hr
theorem wp_store_rg {o : Oper} {a : Act} {w : World} {K : Act → World → Prop} {Q : Exit → Act → World → Prop} (x y : Operand) (ho : o.op = .store 25 x y) (lo g n c : Nat) (L : List Rg) (i : Nat) (hi : i < L.length) (q : Rg)
    (hx : a.eval x = .pointer (some ⟨g, i * 2, none⟩)) (hy : a.eval y = rag q) (hO : OwnR w lo (.slice (some ⟨g, 0, none⟩) n c) L)
    (h : ∀ W, OwnR W lo (.slice (some ⟨g, 0, none⟩) n c) (L.set i q) → w.grownBy W (Value.slice (some ⟨g, 0, none⟩) n c).ownBlock → K (a.put o.dst undef) W) : o.wp Try.prog a w K Q := by
  obtain ⟨W, h1, h2, h3⟩ := hO.store i hi q
  unfold Oper.wp execOp
  simp only [ho, hx, hy, Instr.storeAt, Instr.sureAddr, Sem.run_bind, Sem.run_pure, Result.andThen_ok, h1]
  exact h _ h2 h3
set_option maxRecDepth 100000 in
set_option maxHeartbeats 4000000 in
theorem spanone_walk (l : List Rg) (m : Int) (pa : Option Addr) (n c : Nat) (w : World) (hL : RgsIn w pa n c l) :
    Calls Try.prog 9 #[.slice pa n c, .int .i64 m] w fun e w' => e = .returned (.bool true) ∧ Below w.heap.size w w' := by
  have HL := Lib.hid hL
  obtain ⟨z, hz⟩ : ∃ z, z = (normR l).2 := ⟨_, rfl⟩
  have HZ := Lib.hid hz
  clear hL hz
  go_enter Try.func9, Try.ntmps9
  go_wp2_with fail
  refine (live19_walk _).mono ?_
  rintro e w1 ⟨rfl, hb2⟩
  have HB2 := Lib.hid hb2
  have HL2 := Lib.hid (HL.out.on hb2)
  clear hb2 HL
  go_wp2_with fail
  refine (few19_walk pa n c _).mono ?_
  rintro e W ⟨he, rfl⟩
  by_cases hf : n ≤ 300
  · rw [decide_eq_true hf] at he
    subst he
    by_cases hn0 : n = 0
    · subst hn0
      go_wp2_with fail
      refine (live19_walk _).mono ?_
      rintro e w9 ⟨rfl, hb9⟩
      have HB9 := Lib.hid (HB2.out.trans (hb9.mono HB2.out.size))
      clear hb9
      go_wp2
      go_ret
      exact ⟨rfl, HB9.out⟩
    by_cases hm0 : m < 0
    · have g0 : ((n : Int) == 0) = false := by simpa using hn0
      go_wp2_with fail
      refine (live19_walk _).mono ?_
      rintro e w9 ⟨rfl, hb9⟩
      have HB9 := Lib.hid (HB2.out.trans (hb9.mono HB2.out.size))
      clear hb9
      go_wp2
      go_ret
      exact ⟨rfl, HB9.out⟩
    obtain ⟨tm, rfl⟩ : ∃ t : Nat, m = t := ⟨m.toNat, by omega⟩
    have g0 : ((n : Int) == 0) = false := by simpa using hn0
    have g00 : ¬ (n : Int) = 0 := by omega
    have g1 : ¬ (tm : Int) < 0 := by omega
    obtain ⟨k, hk⟩ : ∃ k, k = tm % n := ⟨_, rfl⟩
    have hkn : k < n := by rw [hk]; exact Nat.mod_lt _ (by omega)
    have f1 : (tm : Int) % (n : Int) = (k : Int) := by rw [hk]; simp
    have f2 : (tm : Int).tmod (n : Int) = (k : Int) := by rw [hk]; exact (Int.ofNat_tmod tm n).symm
    obtain ⟨q3, hq3⟩ : ∃ q, q = tm % 3 := ⟨_, rfl⟩
    have f3 : (tm : Int) % 3 = (q3 : Int) := by rw [hq3]; simp
    have f4 : (tm : Int).tmod 3 = (q3 : Int) := by rw [hq3]; exact (Int.ofNat_tmod tm 3).symm
    have hkn2 : (k : Int) < (n : Int) := by omega
    have HLEN := Lib.hid (show l.length = n from HL2.out.len.symm)
    obtain ⟨A1, C1, hs1, hr1⟩ := slice_rg_l HL2.out hkn
    obtain ⟨A2, C2, hs2, hr2⟩ := slice_rg_h HL2.out hkn
    obtain ⟨n1, hn1⟩ : ∃ x, x = n - k := ⟨_, rfl⟩
    rw [← hn1] at hs1
    have HN1 := Lib.hid (show n1 = (l.drop k).length by rw [List.length_drop, HLEN.out, hn1])
    have HN2 := Lib.hid (show k = (l.take k).length by rw [List.length_take, HLEN.out]; omega)
    have HR1 := Lib.hid hr1
    have HR2 := Lib.hid hr2
    have HLE1 := Lib.hid (show ([] : List Rg).length + (l.drop k).length ≤ 1000000000000 by rw [List.length_drop, HLEN.out]; simp; omega)
    have HLE2 := Lib.hid (show (l.drop k).length + (l.take k).length ≤ 1000000000000 by rw [List.length_drop, List.length_take, HLEN.out]; omega)
    have HBW := Lib.hid HB2.out
    have HLW := Lib.hid HL2.out
    clear hk hq3 hr1 hr2 hn1
    go_wp2_with fail
    refine wp_region_held_drew (S := fun w' => Below W.heap.size W w') (by kernel_rfl) (Below.refl _ _).drew (fun _ => ?_)
    have HS := Lib.hid ((Below.refl W.heap.size W).drew)
    generalize World.drew W = v0 at *
    try simp only [Act.put, List.setIfInBounds_toArray, List.set_cons_succ, List.set_cons_zero]
    refine wpAnyH_take (i := 1) (oi := ⟨some 34, .move (.tmp 0), 22, _, _, none⟩) (v := .slice pa n c) rfl (by kernel_rfl) (by kernel_rfl) (by kernel_rfl) (fun _ _ _ h => h) (Or.inl ⟨by rfl, fun _ _ => by go_simp⟩) HS.out ?_
    try simp only [Act.put, List.setIfInBounds_toArray, List.set_cons_succ, List.set_cons_zero]
    refine wpAnyH_take (i := 2) (oi := ⟨some 35, .move (.tmp 5), 3, _, _, none⟩) (v := .int .i64 (k : Nat)) rfl (by kernel_rfl) (by kernel_rfl) (by kernel_rfl) (fun _ _ _ h => h) (Or.inl ⟨by rfl, fun _ _ => by go_simp⟩) HS.out ?_
    try simp only [Act.put, List.setIfInBounds_toArray, List.set_cons_succ, List.set_cons_zero]
    refine wpAnyH_take (i := 3) (oi := ⟨some 36, .slice 22 (.tmp 34) (some (.tmp 35)) none none, 22, _, _, none⟩) (v := .slice A1 n1 C1) rfl (by kernel_rfl) (by kernel_rfl) (by kernel_rfl) (fun _ _ _ h => h) (Or.inl ⟨by rfl, fun _ _ => by go_simp⟩) HS.out ?_
    try simp only [Act.put, List.setIfInBounds_toArray, List.set_cons_succ, List.set_cons_zero]
    refine wpAnyH_take (i := 5) (oi := ⟨some 38, .move (.tmp 0), 22, _, _, none⟩) (v := .slice pa n c) rfl (by kernel_rfl) (by kernel_rfl) (by kernel_rfl) (fun _ _ _ h => h) (Or.inl ⟨by rfl, fun _ _ => by go_simp⟩) HS.out ?_
    try simp only [Act.put, List.setIfInBounds_toArray, List.set_cons_succ, List.set_cons_zero]
    refine wpAnyH_take (i := 6) (oi := ⟨some 39, .move (.tmp 5), 3, _, _, none⟩) (v := .int .i64 (k : Nat)) rfl (by kernel_rfl) (by kernel_rfl) (by kernel_rfl) (fun _ _ _ h => h) (Or.inl ⟨by rfl, fun _ _ => by go_simp⟩) HS.out ?_
    try simp only [Act.put, List.setIfInBounds_toArray, List.set_cons_succ, List.set_cons_zero]
    refine wpAnyH_take (i := 7) (oi := ⟨some 40, .slice 22 (.tmp 38) none (some (.tmp 39)) none, 22, _, _, none⟩) (v := .slice A2 k C2) rfl (by kernel_rfl) (by kernel_rfl) (by kernel_rfl) (fun _ _ _ h => h) (Or.inl ⟨by rfl, fun _ _ => by go_simp⟩) HS.out ?_
    try simp only [Act.put, List.setIfInBounds_toArray, List.set_cons_succ, List.set_cons_zero]
    refine wpAnyH_ready (rs := [0]) (by kernel_rfl) (by simp) ?_
    refine AllReadyH.cons (o := ⟨some 33, .buildSlice 22 0 #[], 22, _, _, none⟩) rfl (fun K hK => ?_) AllReadyH.nil
    go_simp
    have BJ := Blk.new v0 #[] 25
    have hb := below_one1 v0 (.cells #[] 25)
    have HE := OwnR.empty v0 (lo := W.heap.size) HS.out.size
    generalize World.alloc v0 _ = v1 at *
    have HS := Lib.hid (HS.out.trans (hb.mono HS.out.size))
    replace BJ := Lib.hid BJ
    have HE := Lib.hid (HE)
    clear hb
    refine hK _ _ HS.out (fun _ => ?_)
    clear hK K
    try simp only [Act.put, List.setIfInBounds_toArray, List.set_cons_succ, List.set_cons_zero]
    refine wpAnyH_ready (rs := [4]) (by kernel_rfl) (by simp) ?_
    refine AllReadyH.cons (o := ⟨some 37, .call { callee := .builtin .append, args := #[.tmp 33, .tmp 36], argTypes := #[22, 22] }, 22, _, _, none⟩) rfl (fun K hK => ?_) AllReadyH.nil
    refine wp_append_rgs (.tmp 33) (.tmp 36) rfl W.heap.size _ [] (by rfl) HE.out _ _ _ (l.drop k) (by rfl) HN1.out (HR1.out.on HS.out) HLE1.out HS.out.size ?_
    intro a4 n4 c4 v2 hO4 hg4
    have hb := below_ownR HS.out HE.out HS.out.size hg4
    have HS := Lib.hid hb
    have HO4 := Lib.hid (show OwnR v2 W.heap.size (.slice a4 n4 c4) (l.drop k) from hO4)
    clear hO4 hg4 hb HE BJ
    refine hK _ _ HS.out (fun _ => ?_)
    clear hK K
    try simp only [Act.put, List.setIfInBounds_toArray, List.set_cons_succ, List.set_cons_zero]
    refine wpAnyH_ready (rs := [8]) (by kernel_rfl) (by simp) ?_
    refine AllReadyH.cons (o := ⟨some 41, .call { callee := .builtin .append, args := #[.tmp 37, .tmp 40], argTypes := #[22, 22] }, 22, _, _, none⟩) rfl (fun K hK => ?_) AllReadyH.nil
    refine wp_append_rgs (.tmp 37) (.tmp 40) rfl W.heap.size _ (l.drop k) (by rfl) HO4.out _ _ _ (l.take k) (by rfl) HN2.out (HR2.out.on HS.out) HLE2.out HS.out.size ?_
    intro a8 n8 c8 v3 hO8 hg8
    have hb := below_ownR HS.out HO4.out HS.out.size hg8
    have HS := Lib.hid hb
    have HO8 := Lib.hid hO8
    clear hO8 hg8 hb HO4
    refine hK _ _ HS.out (fun _ => ?_)
    clear hK K
    try simp only [Act.put, List.setIfInBounds_toArray, List.set_cons_succ, List.set_cons_zero]
    refine wpAnyH_take (i := 9) (oi := ⟨some 6, .assign (.tmp 41), 22, _, _, none⟩) (v := .slice a8 n8 c8) rfl (by kernel_rfl) (by kernel_rfl) (by kernel_rfl) (fun _ _ _ h => h) (Or.inl ⟨by rfl, fun _ _ => by go_simp⟩) HS.out ?_
    try simp only [Act.put, List.setIfInBounds_toArray, List.set_cons_succ, List.set_cons_zero]
    refine wpAnyH_done (by kernel_rfl) ?_ _
    have HW9 := Lib.hid HS.out
    obtain ⟨w9, rfl⟩ : ∃ x : World, x = v3 := ⟨_, rfl⟩
    obtain ⟨g8, e8, hlt8⟩ := HO8.out.head (by have hl := HLEN.out; simp; omega)
    subst e8
    obtain ⟨_, _, e, _⟩ := HO8.out.form
    simp only [Value.slice.injEq] at e
    have hnn : n8 = n := by have hl := HLEN.out; rw [e.2.1]; simp; omega
    subst hnn
    obtain ⟨h, hh⟩ : ∃ h, h = n8 / 2 := ⟨_, rfl⟩
    have q1 : (n8 : Int) / 2 = (h : Int) := by omega
    have q2 : (n8 : Int).tdiv 2 = (h : Int) := by rw [Int.tdiv_eq_ediv_of_nonneg (by omega)]; omega
    have hh2 : h ≤ n8 := by omega
    have h63 : h ≤ 9223372036854775807 := by omega
    have HH := Lib.hid hh
    have HLT8 := Lib.hid hlt8
    clear e hh hlt8
    obtain ⟨n, rfl⟩ : ∃ x : Nat, x = n8 := ⟨_, rfl⟩
    go_wp2
    go_loopw [45] (fun x wr => ∃ (i : Nat) (Kl : List Rg), i ≤ h ∧ x = .int .i64 (i : Nat) ∧ Hid (Kl.Perm l) ∧ Hid (OwnR wr W.heap.size (.slice (some ⟨g8, 0, none⟩) n c8) Kl) ∧ Below W.heap.size W wr) (fun x _ => h - (intOf x).toNat)
    case atStart => exact ⟨0, _, Nat.zero_le _, rfl, Lib.hid (List.perm_append_comm.trans (List.Perm.of_eq (List.take_append_drop k l))), HO8.out, HW9.out⟩
    case round =>
      obtain ⟨i, Kl, hi, rfl, HKP, HO, hb⟩ := hrel
      have HBr := Lib.hid hb
      have HKn := Lib.hid (show Kl.length = n by rw [HKP.out.length_eq, HLEN.out])
      clear hb
      by_cases hlt : i < h
      · have HI := Lib.hid hlt
        by_cases hq3 : q3 = 0
        · have g3 : ¬ (0 : Int) < (q3 : Int) := by omega
          go_wp2
          go_roundw
          case rel => exact ⟨i + 1, Kl, by have := HI.out; omega, by go_num, HKP.out, HO.out, HBr.out⟩
          case measure => have := HI.out; simp [intOf]; omega
        · have g3 : (0 : Int) < (q3 : Int) := by omega
          go_wp2
          obtain ⟨m1, hm1⟩ : ∃ m, m = n - 1 := ⟨_, rfl⟩
          obtain ⟨j, hj⟩ : ∃ j, j = m1 - i := ⟨_, rfl⟩
          have hhd := HH.out
          have e1 : (n : Int) - 1 = (m1 : Int) := by omega
          have e2 : (m1 : Int) - (i : Int) = (j : Int) := by omega
          have e3 : IntKind.i64.wrap (m1 : Int) = (m1 : Int) := by simp [IntKind.wrap, IntKind.bits, IntKind.signed]; omega
          have e4 : IntKind.i64.wrap (j : Int) = (j : Int) := by simp [IntKind.wrap, IntKind.bits, IntKind.signed]; omega
          have hjn : j < n := by omega
          have hin : i < n := by omega
          have hjn2 : (j : Int) < (n : Int) := by omega
          have hin2 : (i : Int) < (n : Int) := by omega
          have HKi := Lib.hid (show i < Kl.length by rw [HKn.out]; omega)
          have HKj0 := Lib.hid (show j < Kl.length by rw [HKn.out]; omega)
          obtain ⟨x, hx⟩ : ∃ x, x = Kl.getD j r0 := ⟨_, rfl⟩
          obtain ⟨y, hy⟩ : ∃ y, y = Kl.getD i r0 := ⟨_, rfl⟩
          have HX := Lib.hid hx
          have HY := Lib.hid hy
          have HKj := Lib.hid (show j < (Kl.set i x).length by rw [List.length_set]; exact HKj0.out)
          have HSW := Lib.hid (show x = Kl.getD j r0 → y = Kl.getD i r0 → ((Kl.set i x).set j y).Perm Kl from fun a b => by rw [a, b]; exact swap_perm Kl i j HKi.out HKj0.out)
          clear hm1 hj hhd hx hy
          refine wp_region_held_drew (S := fun w' => Below W.heap.size W w') (by kernel_rfl) HBr.out.drew (fun _ => ?_)
          have HS := Lib.hid (HBr.out.drew)
          have hb : Below wr.heap.size wr (World.drew wr) := (Below.refl _ _).drew
          have HO := Lib.hid (HO.out.on hb)
          clear hb
          generalize World.drew wr = v0 at *
          have HXr := Lib.hid (show v0.rangeAt g8 (j * 2) (rcl x) by rw [HX.out]; exact HO.out.rng j HKj0.out)
          have HYr := Lib.hid (show v0.rangeAt g8 (i * 2) (rcl y) by rw [HY.out]; exact HO.out.rng i HKi.out)
          try simp only [Act.put, List.setIfInBounds_toArray, List.set_cons_succ, List.set_cons_zero]
          refine wpAnyH_take (i := 0) (oi := ⟨some 51, .move (.tmp 6), 22, _, _, none⟩) (v := .slice (some ⟨g8, 0, none⟩) n c8) rfl (by kernel_rfl) (by kernel_rfl) (by kernel_rfl) (fun _ _ _ h => h) (Or.inl ⟨by rfl, fun _ _ => by go_simp⟩) HS.out ?_
          try simp only [Act.put, List.setIfInBounds_toArray, List.set_cons_succ, List.set_cons_zero]
          refine wpAnyH_take (i := 1) (oi := ⟨some 52, .move (.tmp 7), 3, _, _, none⟩) (v := .int .i64 (i : Nat)) rfl (by kernel_rfl) (by kernel_rfl) (by kernel_rfl) (fun _ _ _ h => h) (Or.inl ⟨by rfl, fun _ _ => by go_simp⟩) HS.out ?_
          try simp only [Act.put, List.setIfInBounds_toArray, List.set_cons_succ, List.set_cons_zero]
          refine wpAnyH_take (i := 2) (oi := ⟨some 53, .move (.tmp 6), 22, _, _, none⟩) (v := .slice (some ⟨g8, 0, none⟩) n c8) rfl (by kernel_rfl) (by kernel_rfl) (by kernel_rfl) (fun _ _ _ h => h) (Or.inl ⟨by rfl, fun _ _ => by go_simp⟩) HS.out ?_
          try simp only [Act.put, List.setIfInBounds_toArray, List.set_cons_succ, List.set_cons_zero]
          refine wpAnyH_take (i := 3) (oi := ⟨some 54, .move (.tmp 6), 22, _, _, none⟩) (v := .slice (some ⟨g8, 0, none⟩) n c8) rfl (by kernel_rfl) (by kernel_rfl) (by kernel_rfl) (fun _ _ _ h => h) (Or.inl ⟨by rfl, fun _ _ => by go_simp⟩) HS.out ?_
          try simp only [Act.put, List.setIfInBounds_toArray, List.set_cons_succ, List.set_cons_zero]
          refine wpAnyH_take (i := 4) (oi := ⟨some 55, .call { callee := .builtin .len, args := #[.tmp 54], argTypes := #[22] }, 3, _, _, none⟩) (v := .int .i64 (n : Nat)) rfl (by kernel_rfl) (by kernel_rfl) (by kernel_rfl) (fun _ _ _ h => h) (Or.inl ⟨by rfl, fun _ _ => by go_simp⟩) HS.out ?_
          try simp only [Act.put, List.setIfInBounds_toArray, List.set_cons_succ, List.set_cons_zero]
          refine wpAnyH_take (i := 5) (oi := ⟨some 56, .binOp .sub 3 (.tmp 55) (.const (.int .i64 1)) 3, 3, _, _, none⟩) (v := .int .i64 (m1 : Nat)) rfl (by kernel_rfl) (by kernel_rfl) (by kernel_rfl) (fun _ _ _ h => h) (Or.inl ⟨by rfl, fun _ _ => by go_simp⟩) HS.out ?_
          try simp only [Act.put, List.setIfInBounds_toArray, List.set_cons_succ, List.set_cons_zero]
          refine wpAnyH_take (i := 6) (oi := ⟨some 57, .move (.tmp 7), 3, _, _, none⟩) (v := .int .i64 (i : Nat)) rfl (by kernel_rfl) (by kernel_rfl) (by kernel_rfl) (fun _ _ _ h => h) (Or.inl ⟨by rfl, fun _ _ => by go_simp⟩) HS.out ?_
          try simp only [Act.put, List.setIfInBounds_toArray, List.set_cons_succ, List.set_cons_zero]
          refine wpAnyH_take (i := 7) (oi := ⟨some 58, .binOp .sub 3 (.tmp 56) (.tmp 57) 3, 3, _, _, none⟩) (v := .int .i64 (j : Nat)) rfl (by kernel_rfl) (by kernel_rfl) (by kernel_rfl) (fun _ _ _ h => h) (Or.inl ⟨by rfl, fun _ _ => by go_simp⟩) HS.out ?_
          try simp only [Act.put, List.setIfInBounds_toArray, List.set_cons_succ, List.set_cons_zero]
          refine wpAnyH_take (i := 8) (oi := ⟨some 59, .move (.tmp 6), 22, _, _, none⟩) (v := .slice (some ⟨g8, 0, none⟩) n c8) rfl (by kernel_rfl) (by kernel_rfl) (by kernel_rfl) (fun _ _ _ h => h) (Or.inl ⟨by rfl, fun _ _ => by go_simp⟩) HS.out ?_
          try simp only [Act.put, List.setIfInBounds_toArray, List.set_cons_succ, List.set_cons_zero]
          refine wpAnyH_take (i := 9) (oi := ⟨some 60, .move (.tmp 6), 22, _, _, none⟩) (v := .slice (some ⟨g8, 0, none⟩) n c8) rfl (by kernel_rfl) (by kernel_rfl) (by kernel_rfl) (fun _ _ _ h => h) (Or.inl ⟨by rfl, fun _ _ => by go_simp⟩) HS.out ?_
          try simp only [Act.put, List.setIfInBounds_toArray, List.set_cons_succ, List.set_cons_zero]
          refine wpAnyH_take (i := 10) (oi := ⟨some 61, .call { callee := .builtin .len, args := #[.tmp 60], argTypes := #[22] }, 3, _, _, none⟩) (v := .int .i64 (n : Nat)) rfl (by kernel_rfl) (by kernel_rfl) (by kernel_rfl) (fun _ _ _ h => h) (Or.inl ⟨by rfl, fun _ _ => by go_simp⟩) HS.out ?_
          try simp only [Act.put, List.setIfInBounds_toArray, List.set_cons_succ, List.set_cons_zero]
          refine wpAnyH_take (i := 11) (oi := ⟨some 62, .binOp .sub 3 (.tmp 61) (.const (.int .i64 1)) 3, 3, _, _, none⟩) (v := .int .i64 (m1 : Nat)) rfl (by kernel_rfl) (by kernel_rfl) (by kernel_rfl) (fun _ _ _ h => h) (Or.inl ⟨by rfl, fun _ _ => by go_simp⟩) HS.out ?_
          try simp only [Act.put, List.setIfInBounds_toArray, List.set_cons_succ, List.set_cons_zero]
          refine wpAnyH_take (i := 12) (oi := ⟨some 63, .move (.tmp 7), 3, _, _, none⟩) (v := .int .i64 (i : Nat)) rfl (by kernel_rfl) (by kernel_rfl) (by kernel_rfl) (fun _ _ _ h => h) (Or.inl ⟨by rfl, fun _ _ => by go_simp⟩) HS.out ?_
          try simp only [Act.put, List.setIfInBounds_toArray, List.set_cons_succ, List.set_cons_zero]
          refine wpAnyH_take (i := 13) (oi := ⟨some 64, .binOp .sub 3 (.tmp 62) (.tmp 63) 3, 3, _, _, none⟩) (v := .int .i64 (j : Nat)) rfl (by kernel_rfl) (by kernel_rfl) (by kernel_rfl) (fun _ _ _ h => h) (Or.inl ⟨by rfl, fun _ _ => by go_simp⟩) HS.out ?_
          try simp only [Act.put, List.setIfInBounds_toArray, List.set_cons_succ, List.set_cons_zero]
          refine wpAnyH_take (i := 14) (oi := ⟨some 65, .indexAddr 22 (.tmp 59) (.tmp 64), _, _, _, none⟩) (v := .pointer (some ⟨g8, j * 2, none⟩)) rfl (by kernel_rfl) (by kernel_rfl) (by kernel_rfl) (fun _ _ _ h => h) (Or.inl ⟨by rfl, fun _ _ => by go_simp⟩) HS.out ?_
          try simp only [Act.put, List.setIfInBounds_toArray, List.set_cons_succ, List.set_cons_zero]
          refine wpAnyH_take (i := 16) (oi := ⟨some 67, .move (.tmp 6), 22, _, _, none⟩) (v := .slice (some ⟨g8, 0, none⟩) n c8) rfl (by kernel_rfl) (by kernel_rfl) (by kernel_rfl) (fun _ _ _ h => h) (Or.inl ⟨by rfl, fun _ _ => by go_simp⟩) HS.out ?_
          try simp only [Act.put, List.setIfInBounds_toArray, List.set_cons_succ, List.set_cons_zero]
          refine wpAnyH_take (i := 17) (oi := ⟨some 68, .move (.tmp 7), 3, _, _, none⟩) (v := .int .i64 (i : Nat)) rfl (by kernel_rfl) (by kernel_rfl) (by kernel_rfl) (fun _ _ _ h => h) (Or.inl ⟨by rfl, fun _ _ => by go_simp⟩) HS.out ?_
          try simp only [Act.put, List.setIfInBounds_toArray, List.set_cons_succ, List.set_cons_zero]
          refine wpAnyH_take (i := 18) (oi := ⟨some 69, .indexAddr 22 (.tmp 67) (.tmp 68), _, _, _, none⟩) (v := .pointer (some ⟨g8, i * 2, none⟩)) rfl (by kernel_rfl) (by kernel_rfl) (by kernel_rfl) (fun _ _ _ h => h) (Or.inl ⟨by rfl, fun _ _ => by go_simp⟩) HS.out ?_
          try simp only [Act.put, List.setIfInBounds_toArray, List.set_cons_succ, List.set_cons_zero]
          refine wpAnyH_ready (rs := [15, 19]) (by kernel_rfl) (by simp) ?_
          refine AllReadyH.cons (o := ⟨some 66, .load 25 (.tmp 65), 25, _, _, none⟩) rfl (fun K hK => ?_) (AllReadyH.cons (o := ⟨some 70, .load 25 (.tmp 69), 25, _, _, none⟩) rfl (fun K hK => ?_) AllReadyH.nil)
          · refine wp_load_mid 25 (.tmp 65) rfl g8 (j * 2) rfl (rcl x) _ HXr.out Try.underlying25 rfl size_rg ?_
            refine hK _ _ HS.out (fun _ => ?_)
            clear hK K
            try simp only [Act.put, List.setIfInBounds_toArray, List.set_cons_succ, List.set_cons_zero]
            refine wpAnyH_ready (rs := [19]) (by kernel_rfl) (by simp) ?_
            refine AllReadyH.cons (o := ⟨some 70, .load 25 (.tmp 69), 25, _, _, none⟩) rfl (fun K hK => ?_) AllReadyH.nil
            refine wp_load_mid 25 (.tmp 69) rfl g8 (i * 2) rfl (rcl y) _ HYr.out Try.underlying25 rfl size_rg ?_
            refine hK _ _ HS.out (fun _ => ?_)
            clear hK K
            try simp only [Act.put, List.setIfInBounds_toArray, List.set_cons_succ, List.set_cons_zero]
            refine wpAnyH_take (i := 20) (oi := ⟨some 71, .indexAddr 22 (.tmp 51) (.tmp 52), _, _, _, none⟩) (v := .pointer (some ⟨g8, i * 2, none⟩)) rfl (by kernel_rfl) (by kernel_rfl) (by kernel_rfl) (fun _ _ _ h => h) (Or.inl ⟨by rfl, fun _ _ => by go_simp⟩) HS.out ?_
            try simp only [Act.put, List.setIfInBounds_toArray, List.set_cons_succ, List.set_cons_zero]
            refine wpAnyH_ready (rs := [21]) (by kernel_rfl) (by simp) ?_
            refine AllReadyH.cons (o := ⟨none, .store 25 (.tmp 71) (.tmp 66), _, _, _, none⟩) rfl (fun K hK => ?_) AllReadyH.nil
            refine wp_store_rg (.tmp 71) (.tmp 66) rfl W.heap.size g8 n c8 (Kl) i HKi.out x rfl rfl HO.out ?_
            intro v3 hO hg
            have hb := below_ownR HS.out HO.out HS.out.size hg
            have HS := Lib.hid hb
            have HO := Lib.hid hO
            clear hO hg hb
            refine hK _ _ HS.out (fun _ => ?_)
            clear hK K
            try simp only [Act.put, List.setIfInBounds_toArray, List.set_cons_succ, List.set_cons_zero]
            refine wpAnyH_take (i := 22) (oi := ⟨some 72, .indexAddr 22 (.tmp 53) (.tmp 58), _, _, _, none⟩) (v := .pointer (some ⟨g8, j * 2, none⟩)) rfl (by kernel_rfl) (by kernel_rfl) (by kernel_rfl) (fun _ _ _ h => h) (Or.inl ⟨by rfl, fun _ _ => by go_simp⟩) HS.out ?_
            try simp only [Act.put, List.setIfInBounds_toArray, List.set_cons_succ, List.set_cons_zero]
            refine wpAnyH_ready (rs := [23]) (by kernel_rfl) (by simp) ?_
            refine AllReadyH.cons (o := ⟨none, .store 25 (.tmp 72) (.tmp 70), _, _, _, none⟩) rfl (fun K hK => ?_) AllReadyH.nil
            refine wp_store_rg (.tmp 72) (.tmp 70) rfl W.heap.size g8 n c8 (Kl.set i x) j HKj.out y rfl rfl HO.out ?_
            intro v4 hO hg
            have hb := below_ownR HS.out HO.out HS.out.size hg
            have HS := Lib.hid hb
            have HO := Lib.hid hO
            clear hO hg hb
            refine hK _ _ HS.out (fun _ => ?_)
            clear hK K
            try simp only [Act.put, List.setIfInBounds_toArray, List.set_cons_succ, List.set_cons_zero]
            refine wpAnyH_done (by kernel_rfl) ?_ _
            have HP := Lib.hid (HSW.out HX.out HY.out)
            go_wp2
            go_roundw
            case rel => exact ⟨i + 1, _, by have := HI.out; omega, by go_num, HP.out.trans HKP.out, HO.out, HS.out⟩
            case measure => have := HI.out; simp [intOf]; omega
          · refine wp_load_mid 25 (.tmp 69) rfl g8 (i * 2) rfl (rcl y) _ HYr.out Try.underlying25 rfl size_rg ?_
            refine hK _ _ HS.out (fun _ => ?_)
            clear hK K
            try simp only [Act.put, List.setIfInBounds_toArray, List.set_cons_succ, List.set_cons_zero]
            refine wpAnyH_ready (rs := [15]) (by kernel_rfl) (by simp) ?_
            refine AllReadyH.cons (o := ⟨some 66, .load 25 (.tmp 65), 25, _, _, none⟩) rfl (fun K hK => ?_) AllReadyH.nil
            refine wp_load_mid 25 (.tmp 65) rfl g8 (j * 2) rfl (rcl x) _ HXr.out Try.underlying25 rfl size_rg ?_
            refine hK _ _ HS.out (fun _ => ?_)
            clear hK K
            try simp only [Act.put, List.setIfInBounds_toArray, List.set_cons_succ, List.set_cons_zero]
            refine wpAnyH_take (i := 20) (oi := ⟨some 71, .indexAddr 22 (.tmp 51) (.tmp 52), _, _, _, none⟩) (v := .pointer (some ⟨g8, i * 2, none⟩)) rfl (by kernel_rfl) (by kernel_rfl) (by kernel_rfl) (fun _ _ _ h => h) (Or.inl ⟨by rfl, fun _ _ => by go_simp⟩) HS.out ?_
            try simp only [Act.put, List.setIfInBounds_toArray, List.set_cons_succ, List.set_cons_zero]
            refine wpAnyH_ready (rs := [21]) (by kernel_rfl) (by simp) ?_
            refine AllReadyH.cons (o := ⟨none, .store 25 (.tmp 71) (.tmp 66), _, _, _, none⟩) rfl (fun K hK => ?_) AllReadyH.nil
            refine wp_store_rg (.tmp 71) (.tmp 66) rfl W.heap.size g8 n c8 (Kl) i HKi.out x rfl rfl HO.out ?_
            intro v7 hO hg
            have hb := below_ownR HS.out HO.out HS.out.size hg
            have HS := Lib.hid hb
            have HO := Lib.hid hO
            clear hO hg hb
            refine hK _ _ HS.out (fun _ => ?_)
            clear hK K
            try simp only [Act.put, List.setIfInBounds_toArray, List.set_cons_succ, List.set_cons_zero]
            refine wpAnyH_take (i := 22) (oi := ⟨some 72, .indexAddr 22 (.tmp 53) (.tmp 58), _, _, _, none⟩) (v := .pointer (some ⟨g8, j * 2, none⟩)) rfl (by kernel_rfl) (by kernel_rfl) (by kernel_rfl) (fun _ _ _ h => h) (Or.inl ⟨by rfl, fun _ _ => by go_simp⟩) HS.out ?_
            try simp only [Act.put, List.setIfInBounds_toArray, List.set_cons_succ, List.set_cons_zero]
            refine wpAnyH_ready (rs := [23]) (by kernel_rfl) (by simp) ?_
            refine AllReadyH.cons (o := ⟨none, .store 25 (.tmp 72) (.tmp 70), _, _, _, none⟩) rfl (fun K hK => ?_) AllReadyH.nil
            refine wp_store_rg (.tmp 72) (.tmp 70) rfl W.heap.size g8 n c8 (Kl.set i x) j HKj.out y rfl rfl HO.out ?_
            intro v8 hO hg
            have hb := below_ownR HS.out HO.out HS.out.size hg
            have HS := Lib.hid hb
            have HO := Lib.hid hO
            clear hO hg hb
            refine hK _ _ HS.out (fun _ => ?_)
            clear hK K
            try simp only [Act.put, List.setIfInBounds_toArray, List.set_cons_succ, List.set_cons_zero]
            refine wpAnyH_done (by kernel_rfl) ?_ _
            have HP := Lib.hid (HSW.out HX.out HY.out)
            go_wp2
            go_roundw
            case rel => exact ⟨i + 1, _, by have := HI.out; omega, by go_num, HP.out.trans HKP.out, HO.out, HS.out⟩
            case measure => have := HI.out; simp [intOf]; omega
      · have HOK := Lib.hid (HO.out.rgs (fun x hx => HL2.out.b64 x (HKP.out.mem_iff.1 hx)))
        have HNR := Lib.hid (norm_perm HKP.out)
        have HBw := Lib.hid (HBW.out.trans (HBr.out.mono HBW.out.size))
        have HLw := Lib.hid (HLW.out.on HBr.out)
        obtain ⟨w10, rfl⟩ : ∃ x : World, x = wr := ⟨_, rfl⟩
        clear HBr
        go_wp2_with fail
        refine (norm_walk l pa n c _ HLw.out).mono ?_
        rintro e w11 ⟨v11, z11, rfl, hO, hz, hb⟩
        obtain ⟨pv, cv, rfl, _⟩ := hO.form
        obtain rfl : z11 = z := by rw [hz, HZ.out]
        have HB11 := Lib.hid (HBw.out.trans (hb.mono HBw.out.size))
        have HL11 := Lib.hid (HLw.out.on hb)
        have HK11 := Lib.hid (HOK.out.on hb)
        have HV11 := Lib.hid (hO.set (normR_may l))
        clear hO hb hz HLw HOK
        go_wp2_with fail
        refine (norm_walk Kl _ n c8 _ HK11.out).mono ?_
        rintro e w12 ⟨v12, z12, rfl, hO, hz, hb⟩
        rw [HNR.out] at hO hz
        obtain ⟨pu, cu, rfl, _⟩ := hO.form
        obtain rfl : z12 = z11 := by rw [hz, HZ.out]
        obtain ⟨z, rfl⟩ : ∃ t : Int, t = z12 := ⟨_, rfl⟩
        have HB12 := Lib.hid (HB11.out.trans (hb.mono HB11.out.size))
        have HL12 := Lib.hid (HL11.out.on hb)
        have HV12 := Lib.hid (HV11.out.on hb)
        have HU12 := Lib.hid (hO.set (normR_may l))
        clear hO hb hz HL11 HK11 HV11
        go_wp2_with fail
        refine (same_walk (normR l).1 (normR l).1 _ _ _ _ _ _ _ HV12.out.len HU12.out.len (by have := (normR_may l).2.2; omega) HV12.out.rd HU12.out.rd).mono ?_
        rintro e w13 ⟨he, hb⟩
        rw [decide_eq_true rfl] at he
        subst he
        have HB13 := Lib.hid (HB12.out.trans (hb.mono HB12.out.size))
        have HL13 := Lib.hid (HL12.out.on hb)
        have HV13 := Lib.hid (HV12.out.on hb)
        clear hb HL12 HV12 HU12
        obtain ⟨M, hM⟩ := bool_of (MayP l)
        have HM := Lib.hid hM
        clear hM
        by_cases hz0 : z = 0
        · have gz : z = 0 := hz0
          subst gz
          go_wp2_with fail
          refine (may_walkS (normR l).1 _ _ _ _ HV13.out true ⟨fun _ => normR_may l, fun _ => rfl⟩).mono ?_
          rintro e w14 ⟨rfl, hb⟩
          have HB14 := Lib.hid (HB13.out.trans (hb.mono HB13.out.size))
          have HL14 := Lib.hid (HL13.out.on hb)
          have HV14 := Lib.hid (HV13.out.on hb)
          clear hb HL13 HV13
          go_wp2_with fail
          refine (may_walkS l pa n c _ HL14.out M HM.out).mono ?_
          rintro e w15 ⟨rfl, hb⟩
          have HB15 := Lib.hid (HB14.out.trans (hb.mono HB14.out.size))
          have HL15 := Lib.hid (HL14.out.on hb)
          have HV15 := Lib.hid (HV14.out.on hb)
          clear hb HL14 HV14
          cases M with
          | false =>
            go_wp2
            go_ret
            exact ⟨rfl, HB15.out⟩
          | true =>
            have HNS := Lib.hid (norm_self (HM.out.1 rfl))
            go_wp2_with fail
            refine (same_walk (normR l).1 l _ _ _ _ _ _ _ HV15.out.len HL15.out.len (by have := (normR_may l).2.2; omega) HV15.out.rd HL15.out.rd).mono ?_
            rintro e w16 ⟨he, hb⟩
            rw [decide_eq_true (by rw [HNS.out])] at he
            subst he
            have HB16 := Lib.hid (HB15.out.trans (hb.mono HB15.out.size))
            clear hb
            go_wp2
            go_ret
            exact ⟨rfl, HB16.out⟩
        · have HB14 := Lib.hid HB13.out
          have HL14 := Lib.hid HL13.out
          have HV14 := Lib.hid HV13.out
          go_wp2_with fail
          refine (may_walkS l pa n c _ HL14.out M HM.out).mono ?_
          rintro e w15 ⟨rfl, hb⟩
          have HB15 := Lib.hid (HB14.out.trans (hb.mono HB14.out.size))
          have HL15 := Lib.hid (HL14.out.on hb)
          have HV15 := Lib.hid (HV14.out.on hb)
          clear hb HL14 HV14
          cases M with
          | false =>
            go_wp2
            go_ret
            exact ⟨rfl, HB15.out⟩
          | true =>
            have HNS := Lib.hid (norm_self (HM.out.1 rfl))
            go_wp2_with fail
            refine (same_walk (normR l).1 l _ _ _ _ _ _ _ HV15.out.len HL15.out.len (by have := (normR_may l).2.2; omega) HV15.out.rd HL15.out.rd).mono ?_
            rintro e w16 ⟨he, hb⟩
            rw [decide_eq_true (by rw [HNS.out])] at he
            subst he
            have HB16 := Lib.hid (HB15.out.trans (hb.mono HB15.out.size))
            clear hb
            go_wp2
            go_ret
            exact ⟨rfl, HB16.out⟩
  · rw [decide_eq_false hf] at he
    subst he
    go_wp2_with fail
    refine (live19_walk _).mono ?_
    rintro e w9 ⟨rfl, hb9⟩
    have HB9 := Lib.hid (HB2.out.trans (hb9.mono HB2.out.size))
    clear hb9
    go_wp2
    go_ret
    exact ⟨rfl, HB9.out⟩
end Go.Proofs.Ytajjbffppkpjpaa
