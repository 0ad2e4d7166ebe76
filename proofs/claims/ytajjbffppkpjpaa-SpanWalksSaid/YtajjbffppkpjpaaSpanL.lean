import Derived.Test.YtajjbffppkpjpaaSpanK
/-
  span.Meet.
-/
namespace Go.Proofs.Ytajjbffppkpjpaa
open Go.RowKit
def rowF (x : Rg) (l : List Rg) : List Rg := (l.map (inter x)).filter fun r => decide (r.lo < r.hi)
theorem rowF_yes (x : Rg) (l : List Rg) (j : Nat) (h : j < l.length) (hi : (inter x (l.getD j r0)).lo < (inter x (l.getD j r0)).hi) : rowF x (l.take (j + 1)) = rowF x (l.take j) ++ [inter x (l.getD j r0)] := by
  have e : l.getD j r0 = l[j] := by simp [List.getD, h]
  rw [List.take_add_one, rowF, List.map_append, List.filter_append]
  rw [e] at hi ⊢
  simp [rowF, h, hi]
theorem rowF_no (x : Rg) (l : List Rg) (j : Nat) (h : j < l.length) (hi : ¬ (inter x (l.getD j r0)).lo < (inter x (l.getD j r0)).hi) : rowF x (l.take (j + 1)) = rowF x (l.take j) := by
  have e : l.getD j r0 = l[j] := by simp [List.getD, h]
  rw [List.take_add_one, rowF, List.map_append, List.filter_append]
  rw [e] at hi
  simp only [h, List.getElem?_eq_getElem, Option.toList_some, List.map_cons, List.map_nil]
  rw [List.filter_cons_of_neg (by simpa using hi)]
  simp [rowF]
theorem rowF_len (x : Rg) (l : List Rg) : (rowF x l).length ≤ l.length := by
  unfold rowF
  exact Nat.le_trans (List.length_filter_le _ _) (by simp)
theorem pairs_succ (a b : List Rg) (i : Nat) (h : i < a.length) : pairsP (a.take (i + 1)) b = pairsP (a.take i) b ++ rowF (a.getD i r0) b := by
  rw [List.take_add_one, pairsP, List.flatMap_append]
  simp [pairsP, rowF, List.getD, h]
theorem pairs_len (a b : List Rg) : (pairsP a b).length ≤ a.length * b.length := by
  induction a with
  | nil => simp [pairsP]
  | cons x a ih =>
    have := rowF_len x b
    have e : pairsP (x :: a) b = rowF x b ++ pairsP a b := by simp [pairsP, rowF]
    rw [e, List.length_append, List.length_cons, Nat.add_mul]
    omega
theorem far_app {w : World} {g : Nat} {cs : Array Value} {t : TypeId} {k k' : Option Nat} (h : ∀ j, k = some j → j ≠ g) (hB : Blk w g cs t) (e : k' = k ∨ k' = some w.heap.size) : ∀ j, k' = some j → j ≠ g := fun j hj => by
  rcases e with e | e
  · exact h j (e ▸ hj)
  · rw [e, Option.some.injEq] at hj
    have := hB.lt
    omega
set_option maxRecDepth 100000 in
set_option maxHeartbeats 2000000 in
theorem meet_walk (a b : List Rg) (pa : Option Addr) (na ca : Nat) (pb : Option Addr) (nb cb : Nat) (w : World) (hLa : RgsIn w pa na ca a) (hLb : RgsIn w pb nb cb b) :
    Calls Try.prog 68 #[.slice pa na ca, .slice pb nb cb] w fun e w' => ∃ v z, e = .returned (.tuple #[v, .int .i64 z]) ∧ OwnR w' w.heap.size v (meetR a b).1 ∧ z = (meetR a b).2 ∧ Below w.heap.size w w' := by
  have HLa := Lib.hid hLa
  have HLb := Lib.hid hLb
  obtain ⟨M1, h1⟩ := bool_of (MayP a)
  obtain ⟨M2, h2⟩ := bool_of (MayP b)
  have H1 := Lib.hid h1
  have H2 := Lib.hid h2
  obtain rfl : na = a.length := hLa.len
  obtain rfl : nb = b.length := hLb.len
  clear hLa hLb h1 h2
  go_enter Try.func68, Try.ntmps68
  go_wp2_with fail
  refine (may_walkS a pa _ ca _ HLa.out M1 H1.out).mono ?_
  rintro e w2 ⟨rfl, hb2⟩
  have HB2 := Lib.hid hb2
  have HLa2 := Lib.hid (HLa.out.on hb2)
  have HLb2 := Lib.hid (HLb.out.on hb2)
  clear hb2 HLa HLb
  cases M1 with
  | false =>
    have HA := Lib.hid (show meetR a b = ([], 190) from if_pos (fun h => by have := H1.out.2 h.1; cases this))
    go_wp2
    go_ret2
    exact ⟨_, _, rfl, by rw [HA.out]; exact OwnR.nil _ _, by rw [HA.out], HB2.out⟩
  | true =>
    have HMa := Lib.hid (H1.out.1 rfl)
    go_wp2_with fail
    refine (may_walkS b pb _ cb _ HLb2.out M2 H2.out).mono ?_
    rintro e w4 ⟨rfl, hb4⟩
    have HB4 := Lib.hid (HB2.out.trans (hb4.mono HB2.out.size))
    have HLa4 := Lib.hid (HLa2.out.on hb4)
    have HLb4 := Lib.hid (HLb2.out.on hb4)
    clear hb4 HLa2 HLb2
    cases M2 with
    | false =>
      have HA := Lib.hid (show meetR a b = ([], 190) from if_pos (fun h => by have := H2.out.2 h.2; cases this))
      go_wp2
      go_ret2
      exact ⟨_, _, rfl, by rw [HA.out]; exact OwnR.nil _ _, by rw [HA.out], HB4.out⟩
    | true =>
      have HMb := Lib.hid (H2.out.1 rfl)
      have HA0 := Lib.hid (show meetR a b = sizeR (bothP a b) from if_neg (not_not_intro ⟨HMa.out, HMb.out⟩))
      have ha64 := HMa.out.2.2
      have hb64 := HMb.out.2.2
      have hna : a.length ≤ 9223372036854775807 := by omega
      have hnb : b.length ≤ 9223372036854775807 := by omega
      go_wp2
      go_loopw [23, 6] (fun x s wr => ∃ i : Nat, i ≤ a.length ∧ x = .int .i64 (i : Nat) ∧ Hid (OwnR wr w4.heap.size s (pairsP (a.take i) b)) ∧ Below w4.heap.size w4 wr) (fun x _ _ => a.length - (intOf x).toNat)
      case atStart => exact ⟨0, Nat.zero_le _, rfl, OwnR.nil _ _, Below.refl _ _⟩
      case round =>
        obtain ⟨i, hi, rfl, HOS, hb⟩ := hrel
        have HBr := Lib.hid hb
        obtain ⟨P, hP⟩ : ∃ P, P = pairsP (a.take i) b := ⟨_, rfl⟩
        rw [← hP] at HOS
        have HPl := Lib.hid (show P.length ≤ 4096 by
          have h1 := pairs_len (a.take i) b
          rw [← hP, List.length_take, Nat.min_eq_left hi] at h1
          exact Nat.le_trans h1 (Nat.mul_le_mul (show i ≤ 64 by omega) hb64))
        by_cases hlt : i < a.length
        · have hsu := pairs_succ a b i hlt
          rw [← hP] at hsu
          clear hP
          obtain ⟨g, o, rfl, hg, hr⟩ := HLa4.out.rd i hlt
          have HR := Lib.hid (rng_on hr hb)
          obtain ⟨x, hx⟩ : ∃ x, x = a.getD i r0 := ⟨_, rfl⟩
          rw [← hx] at HR hsu
          have HSU := Lib.hid hsu
          have HI := Lib.hid hlt
          obtain ⟨sp, cp, rfl, _⟩ := HOS.out.form
          have HNX0 := Lib.hid (show ∀ k, (Value.slice sp P.length cp).ownBlock = some k → k ≠ wr.heap.size from fun k hk => Nat.ne_of_lt (HOS.out.lt k hk).2)
          clear hr hx hsu hg hb hlt
          go_wp2_with (first | (refine wpList_load_mid rfl 25 (.tmp 25) rfl g (o + i * 2) rfl (rcl x) _ HR.out Try.underlying25 rfl size_rg ?_) | (refine wpList_store_abs rfl 25 (.tmp 8) (.tmp 26) (by rfl) wr.heap.size #[.int .u64 (x.lo : Nat), .int .u64 (x.hi : Nat)] (by rfl) (by rfl) 25 _ (Blk.new wr _ _) size_rg (by rfl) (by simp [Value.oneCell']) ?_; intro W hW hp5; have hbW := hW.below ((Below.refl _ wr).alloc (Nat.le_refl _) _) (Nat.le_refl _); have HBW := Lib.hid (HBr.out.trans (hbW.mono HBr.out.size)); have BXW := Lib.hid hp5; have HOSW := Lib.hid (HOS.out.on hbW); clear hW hbW hp5))
          generalize wr.heap.size = gx at *
          obtain ⟨wo, rfl⟩ : ∃ wo : World, wo = wr := ⟨_, rfl⟩
          go_loopw [29, 6] (fun x2 s wr => ∃ j : Nat, j ≤ b.length ∧ x2 = .int .i64 (j : Nat) ∧ Hid (OwnR wr w4.heap.size s (P ++ rowF x (b.take j))) ∧ Hid (Blk wr gx #[.int .u64 (x.lo : Nat), .int .u64 (x.hi : Nat)] 25) ∧ Hid (∀ k, s.ownBlock = some k → k ≠ gx) ∧ Below w4.heap.size w4 wr) (fun x2 _ _ => b.length - (intOf x2).toNat)
          case atStart => exact ⟨0, Nat.zero_le _, rfl, (by rw [show rowF x (b.take 0) = [] from rfl, List.append_nil]; exact HOSW.out), BXW.out, HNX0.out, HBW.out⟩
          case round =>
            obtain ⟨j, hj, rfl, HOS2, BX2, HNX, hb2⟩ := hrel
            have HBr2 := Lib.hid hb2
            obtain ⟨O, hO⟩ : ∃ O, O = P ++ rowF x (b.take j) := ⟨_, rfl⟩
            by_cases hlt2 : j < b.length
            · have HLEN := Lib.hid (show ∀ y : Rg, O.length + [y].length ≤ 1000000000000 from fun y => by
                have h1 := rowF_len x (b.take j)
                have h2 := HPl.out
                rw [List.length_take] at h1
                rw [hO, List.length_append, List.length_singleton]
                omega)
              have hyes := rowF_yes x b j hlt2
              have hno := rowF_no x b j hlt2
              have HJ := Lib.hid hlt2
              rw [← hO] at HOS2
              obtain ⟨sa, cs, rfl, _⟩ := HOS2.out.form
              obtain ⟨g2, o2, rfl, hg, hr⟩ := HLb4.out.rd j hlt2
              have HR2 := Lib.hid (rng_on hr hb2)
              obtain ⟨y, hy⟩ : ∃ y, y = b.getD j r0 := ⟨_, rfl⟩
              rw [← hy] at HR2 hyes hno
              have HYES := Lib.hid hyes
              have HNO := Lib.hid hno
              have HO := Lib.hid hO
              clear hr hy hg hb2 hlt2 hyes hno hO
              go_wp2_with (first | (refine wpList_load_mid rfl 25 (.tmp 31) rfl g2 (o2 + j * 2) rfl (rcl y) _ HR2.out Try.underlying25 rfl size_rg ?_) | (refine wpList_store_abs rfl 25 (.tmp 10) (.tmp 32) (by rfl) wr.heap.size #[.int .u64 (y.lo : Nat), .int .u64 (y.hi : Nat)] (by rfl) (by rfl) 25 _ (Blk.new wr _ _) size_rg (by rfl) (by simp [Value.oneCell']) ?_; intro V hV hp6; have hbV := hV.below ((Below.refl _ wr).alloc (Nat.le_refl _) _) (Nat.le_refl _); have HBV := Lib.hid (HBr2.out.trans (hbV.mono HBr2.out.size)); have BYV := Lib.hid hp6; have BXV := Lib.hid (BX2.out.on hbV); have HOSV := Lib.hid (HOS2.out.on hbV); have b0 := BXV.out.cell 0 rfl; have b1 := BXV.out.cell 1 rfl; have b2 := hp6.cell 0 rfl; have b3 := hp6.cell 1 rfl; clear hV hbV hp6))
              refine (both_walk x y _).mono ?_
              rintro e w5 ⟨he, hb5⟩
              have HB5 := Lib.hid (HBV.out.trans (hb5.mono HBV.out.size))
              have BX5 := Lib.hid (BXV.out.on hb5)
              have HOS5 := Lib.hid (HOSV.out.on hb5)
              clear hb5 b0 b1 b2 b3
              by_cases his : (inter x y).lo < (inter x y).hi
              · rw [decide_eq_true his] at he
                subst he
                have HSU2 := Lib.hid (show P ++ rowF x (b.take (j + 1)) = O ++ [inter x y] by rw [HYES.out his, HO.out, List.append_assoc])
                clear his
                go_wp2_with (first | (refine wpList_store_abs rfl 25 (.tmp 11) (.tmp 37) (by rfl) w5.heap.size #[.int .u64 ((inter x y).lo : Nat), .int .u64 ((inter x y).hi : Nat)] (by rfl) (by rfl) 25 _ (Blk.new w5 _ _) size_rg (by rfl) (by simp [Value.oneCell']) ?_; intro U hU hpU; have hbU := hU.below ((Below.refl _ w5).alloc (Nat.le_refl _) _) (Nat.le_refl _); have HBU := Lib.hid (HB5.out.trans (hbU.mono HB5.out.size)); have BIU := Lib.hid hpU; have BXU := Lib.hid (BX5.out.on hbU); have HOSU := Lib.hid (HOS5.out.on hbU); clear hU hbU hpU; have HQ6 := Lib.hid (HOSU.out.on (below_one1 U (.cells #[.int .u64 ((inter x y).lo : Nat), .int .u64 ((inter x y).hi : Nat)] 25))); have HA6 := Lib.hid (below_alloc HBU.out HBU.out.size (.cells #[.int .u64 ((inter x y).lo : Nat), .int .u64 ((inter x y).hi : Nat)] 25)); have BX6 := Lib.hid (BXU.out.alloc (.cells #[.int .u64 ((inter x y).lo : Nat), .int .u64 ((inter x y).hi : Nat)] 25))) | (refine wpList_load_mid rfl 25 (.tmp 11) rfl w5.heap.size 0 rfl [.int .u64 ((inter x y).lo : Nat), .int .u64 ((inter x y).hi : Nat)] _ (range_blk BIU.out 0 _ (fun j hj => by simp)) Try.underlying25 rfl size_rg ?_) | (refine wpList_append_rgs2 rfl (.tmp 40) (.tmp 42) (by rfl) w4.heap.size _ O (by rfl) HQ6.out _ 1 1 [inter x y] (by rfl) rfl (RgR.one (Blk.new U #[.int .u64 ((inter x y).lo : Nat), .int .u64 ((inter x y).hi : Nat)] 25)) (HLEN.out _) HA6.out.size ?_; intro a6 n6 c6 w6 hO hg he; have HO6 := Lib.hid hO; have HB6 := Lib.hid (below_ownR HA6.out HQ6.out HA6.out.size hg); have BX7 := Lib.hid (BX6.out.past hg HNX.out); have HNX7 := Lib.hid (far_app HNX.out BX6.out he); clear hO hg he))
                go_roundw
                case rel => exact ⟨j + 1, by have := HJ.out; omega, by go_num, by rw [HSU2.out]; exact HO6.out, BX7.out, HNX7.out, HB6.out⟩
                case measure => have := HJ.out; simp [intOf]; omega
              · rw [decide_eq_false his] at he
                subst he
                have HSU2 := Lib.hid (show P ++ rowF x (b.take (j + 1)) = O by rw [HNO.out his, HO.out])
                clear his
                go_wp2_with (first | (refine wpList_store_abs rfl 25 (.tmp 11) (.tmp 37) (by rfl) w5.heap.size #[.int .u64 ((inter x y).lo : Nat), .int .u64 ((inter x y).hi : Nat)] (by rfl) (by rfl) 25 _ (Blk.new w5 _ _) size_rg (by rfl) (by simp [Value.oneCell']) ?_; intro U hU hpU; have hbU := hU.below ((Below.refl _ w5).alloc (Nat.le_refl _) _) (Nat.le_refl _); have HBU := Lib.hid (HB5.out.trans (hbU.mono HB5.out.size)); have BIU := Lib.hid hpU; have BXU := Lib.hid (BX5.out.on hbU); have HOSU := Lib.hid (HOS5.out.on hbU); clear hU hbU hpU))
                go_roundw
                case rel => exact ⟨j + 1, by have := HJ.out; omega, by go_num, by rw [HSU2.out]; exact HOSU.out, BXU.out, HNX.out, HBU.out⟩
                case measure => have := HJ.out; simp [intOf]; omega
            · have HF := Lib.hid (show O = pairsP (a.take (i + 1)) b by rw [hO, HSU.out, List.take_of_length_le (by omega)])
              rw [← hO] at HOS2
              clear hO
              go_wp2
              go_roundw
              case rel => exact ⟨i + 1, by have := HI.out; omega, by go_num, by rw [← HF.out]; exact HOS2.out, HBr2.out⟩
              case measure => have := HI.out; simp [intOf]; omega
        · have HF := Lib.hid (show P = pairsP a b by rw [hP, List.take_of_length_le (by omega)])
          clear hP
          obtain ⟨sa, cs, rfl, _⟩ := HOS.out.form
          go_wp2_with fail
          refine (merged_walk P sa _ cs _ (HOS.out.rgs (fun q hq => by
            rw [HF.out] at hq
            obtain ⟨x, hx, q2⟩ := List.mem_flatMap.1 hq
            obtain ⟨y, hy, rfl⟩ := List.mem_map.1 (List.mem_filter.1 q2).1
            have h1 := HMa.out.b64 x hx
            have h2 := HMb.out.b64 y hy
            simp only [inter]
            omega)) (Nat.le_trans HPl.out (by omega))).mono ?_
          rintro e w6 ⟨v, k, rfl, hp, hs, hO6, hb6⟩
          rw [HF.out] at hp
          rw [meet_both hp hs] at hO6
          have HB6 := Lib.hid (HB4.out.trans ((HBr.out.trans (hb6.mono HBr.out.size)).mono HB4.out.size))
          have HO6 := Lib.hid (hO6.mono (Nat.le_trans HB4.out.size HBr.out.size))
          clear hp hs hO6 hb6
          obtain ⟨v6, c6, rfl, _⟩ := HO6.out.form
          by_cases hlong : 64 < (bothP a b).length
          · have HA := Lib.hid (show meetR a b = ([], 6) by rw [HA0.out]; exact if_pos hlong)
            go_wp2_with fail
            refine (sized_walk (bothP a b) v6 _ c6 rfl _).mono ?_
            rintro e w7 ⟨he, rfl⟩
            rw [if_pos hlong] at he
            subst he
            go_wp2
            go_ret2
            exact ⟨_, _, rfl, by rw [HA.out]; exact OwnR.nil _ _, by rw [HA.out], HB6.out⟩
          · have HA := Lib.hid (show meetR a b = (bothP a b, 0) by rw [HA0.out]; exact if_neg hlong)
            go_wp2_with fail
            refine (sized_walk (bothP a b) v6 _ c6 rfl _).mono ?_
            rintro e w7 ⟨he, rfl⟩
            rw [if_neg hlong] at he
            subst he
            go_wp2
            go_ret2
            exact ⟨_, _, rfl, by rw [HA.out]; exact HO6.out, by rw [HA.out], HB6.out⟩
end Go.Proofs.Ytajjbffppkpjpaa
