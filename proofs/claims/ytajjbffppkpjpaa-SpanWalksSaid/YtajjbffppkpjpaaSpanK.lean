import Derived.Test.YtajjbffppkpjpaaSpanJ
/-
  Two lists of the call's own; span.Cut.
-/
namespace Go.Proofs.Ytajjbffppkpjpaa
open Go.RowKit
/-- Two slices that do not share their block. -/
def Apart (y z : Value) : Prop := ∀ k, y.ownBlock = some k → z.ownBlock ≠ some k
theorem Apart.symm {y z : Value} (h : Apart y z) : Apart z y := fun k h1 h2 => h k h2 h1
theorem Apart.app {w : World} {lo : Nat} {y y' z : Value} {l : List Rg} (h : Apart y z) (hz : OwnR w lo z l) (e : y'.ownBlock = y.ownBlock ∨ y'.ownBlock = some w.heap.size) : Apart y' z := fun k hk hz' => by
  rcases e with e | e
  · exact h k (e ▸ hk) hz'
  · rw [e, Option.some.injEq] at hk
    exact Nat.lt_irrefl _ (hk ▸ (hz.lt k hz').2)
theorem Apart.keep {w w' : World} {lo : Nat} {y z : Value} {l : List Rg} (h : Apart y z) (hz : OwnR w lo z l) (hg : w.grownBy w' y.ownBlock) : OwnR w' lo z l := by
  refine hz.grown hg ?_
  cases hk : z.ownBlock with
  | none => exact .inl rfl
  | some k => exact .inr fun e => h k e.symm hk
theorem run_append_rgs2 (w : World) (lo : Nat) (ty : TypeId) (v : Value) (l : List Rg) (hown : OwnR w lo v l) (a : Addr) (n c : Nat) (l2 : List Rg) (hn : n = l2.length) (hr : RgR w (some a) l2)
    (hlen : l.length + l2.length ≤ 1000000000000) (hbase : lo ≤ w.heap.size) :
    ∃ a' n' cap' w', (Builtin.append_ #[22, 22] ty #[v, .slice (some a) n c]).run Try.prog w = .ok (.slice a' n' cap') w' ∧ OwnR w' lo (.slice a' n' cap') (l ++ l2) ∧ w.grownBy w' v.ownBlock ∧ ((Value.slice a' n' cap').ownBlock = v.ownBlock ∨ (Value.slice a' n' cap').ownBlock = some w.heap.size) := by
  obtain ⟨i, i1, i2, i3, i4⟩ := info_parts info_rg
  subst hn
  obtain ⟨v', w', h1, h2, h3, _, h5⟩ := run_append_own_at (P := Try.prog) w lo 22 ty 25 i (.agg #[.int .u64 0, .int .u64 0]) 2 16 Try.underlying22 i1 i2 i3 i4 rfl (by decide) v l.length (rcs l) hown a l2.length c (rcs l2) (rcs_len l2)
      (fun j u hj => hr.cells j u hj) (fun u hu => rcs_one u l2 hu) (by unfold maxLen; omega) (by omega) hbase
  have h4 : OwnR w' lo v' (l ++ l2) := by unfold OwnR; rw [List.length_append, rcs_append]; exact h2
  obtain ⟨a', cap', rfl, _⟩ := h4.form
  exact ⟨a', _, cap', w', h1, h4, h3, h5⟩
theorem wpList_append_rgs2 {ops : Array Oper} {rest : List Oper} {o : Oper} {a : Act} {w : World} {Q : Exit → Act → World → Prop} (hgd : o.guard = none) (s x : Operand)
    (ho : o.op = .call { callee := .builtin .append, args := #[s, x], argTypes := #[22, 22] }) (lo : Nat) (v : Value) (l : List Rg) (hs : a.eval s = v) (hown : OwnR w lo v l)
    (ap : Addr) (n c : Nat) (l2 : List Rg) (hx : a.eval x = .slice (some ap) n c) (hn : n = l2.length) (hr : RgR w (some ap) l2) (hlen : l.length + l2.length ≤ 1000000000000) (hbase : lo ≤ w.heap.size)
    (h : ∀ a' n' cap' w', OwnR w' lo (.slice a' n' cap') (l ++ l2) → w.grownBy w' v.ownBlock → ((Value.slice a' n' cap').ownBlock = v.ownBlock ∨ (Value.slice a' n' cap').ownBlock = some w.heap.size) → wpList Try.prog ops Q rest (a.put o.dst (.slice a' n' cap')) w') : wpList Try.prog ops Q (o :: rest) a w :=
  wpList_plain hgd fun _ hK => by
    obtain ⟨a', n', cap', w', h1, h2, h3, h4⟩ := run_append_rgs2 w lo o.type v l hown ap n c l2 hn hr hlen hbase
    unfold Oper.wp execOp
    simp only [ho, resolve, invoke, builtin, Sem.run_bind, Sem.run_pure, Result.andThen_ok, List.map_toArray, List.map_cons, List.map_nil, hs, hx, h1]
    exact hK _ _ (h a' n' cap' w' h2 h3 h4)
theorem below_succ (l : List Rg) (m i : Nat) (h : i < l.length) : belowP (l.take (i + 1)) m = belowP (l.take i) m ++ (if (l.getD i r0).lo < m then [⟨(l.getD i r0).lo, min (l.getD i r0).hi m⟩] else []) := by
  rw [List.take_add_one, belowP, List.flatMap_append]
  simp [belowP, List.getD, h]
theorem above_succ (l : List Rg) (m i : Nat) (h : i < l.length) : aboveP (l.take (i + 1)) m = aboveP (l.take i) m ++ (if m < (l.getD i r0).hi then [⟨max (l.getD i r0).lo m, (l.getD i r0).hi⟩] else []) := by
  rw [List.take_add_one, aboveP, List.flatMap_append]
  simp [aboveP, List.getD, h]
set_option maxRecDepth 100000 in
set_option maxHeartbeats 2000000 in
theorem cut_walk (l : List Rg) (m : Nat) (a : Option Addr) (n c : Nat) (w : World) (hL : RgsIn w a n c l) :
    Calls Try.prog 22 #[.slice a n c, .int .u64 (m : Nat)] w fun e w' => ∃ v u, e = .returned (.tuple #[v, u]) ∧ OwnR w' w.heap.size v (cutR l m).1 ∧ OwnR w' w.heap.size u (cutR l m).2 ∧ Below w.heap.size w w' := by
  have HL := Lib.hid hL
  obtain ⟨M1, h1⟩ := bool_of (MayP l)
  have H1 := Lib.hid h1
  obtain rfl : n = l.length := hL.len
  clear hL h1
  go_enter Try.func22, Try.ntmps22
  go_wp2_with fail
  refine (may_walkS l a _ c _ HL.out M1 H1.out).mono ?_
  rintro e w2 ⟨rfl, hb2⟩
  have HB2 := Lib.hid hb2
  have HL2 := Lib.hid (HL.out.on hb2)
  clear hb2 HL
  cases M1 with
  | false =>
    have HA := Lib.hid (show cutR l m = ([], []) from if_neg (fun h => by have := H1.out.2 h; cases this))
    go_wp2
    go_ret2
    exact ⟨_, _, rfl, by rw [HA.out]; exact OwnR.nil _ _, by rw [HA.out]; exact OwnR.nil _ _, HB2.out⟩
  | true =>
    have HMAY := Lib.hid (H1.out.1 rfl)
    have HA := Lib.hid (show cutR l m = (belowP l m, aboveP l m) from if_pos HMAY.out)
    have hn63 : l.length ≤ 9223372036854775807 := by have := HMAY.out.2.2; omega
    go_wp2
    go_loopw [13, 4, 5] (fun x y z wr => ∃ i : Nat, i ≤ l.length ∧ x = .int .i64 (i : Nat) ∧ Hid (OwnR wr w2.heap.size y (belowP (l.take i) m)) ∧ Hid (OwnR wr w2.heap.size z (aboveP (l.take i) m)) ∧ Hid (Apart y z) ∧ Below w2.heap.size w2 wr) (fun x _ _ _ => l.length - (intOf x).toNat)
    case atStart => exact ⟨0, Nat.zero_le _, rfl, OwnR.nil _ _, OwnR.nil _ _, fun k h => (by cases h), Below.refl _ _⟩
    case round =>
      obtain ⟨i, hi, rfl, HY, HZ, HAP, hb⟩ := hrel
      have HBr := Lib.hid hb
      obtain ⟨Y, hY⟩ : ∃ Y, Y = belowP (l.take i) m := ⟨_, rfl⟩
      obtain ⟨Z, hZ⟩ : ∃ Z, Z = aboveP (l.take i) m := ⟨_, rfl⟩
      rw [← hY] at HY
      rw [← hZ] at HZ
      by_cases hlt : i < l.length
      · have HLY := Lib.hid (show ∀ y : Rg, Y.length + [y].length ≤ 1000000000000 from fun y => by
          have h1 := below_len (l.take i) m
          have h2 := HMAY.out.2.2
          rw [← hY] at h1
          simp [Nat.min_eq_left hi] at h1 ⊢
          omega)
        have HLZ := Lib.hid (show ∀ y : Rg, Z.length + [y].length ≤ 1000000000000 from fun y => by
          have h1 := above_len (l.take i) m
          have h2 := HMAY.out.2.2
          rw [← hZ] at h1
          simp [Nat.min_eq_left hi] at h1 ⊢
          omega)
        have hsy := below_succ l m i hlt
        have hsz := above_succ l m i hlt
        rw [← hY] at hsy
        rw [← hZ] at hsz
        clear hY hZ
        obtain ⟨g, o, rfl, hg, hr⟩ := HL2.out.rd i hlt
        have HR := Lib.hid (rng_on hr hb)
        have hone := HMAY.out.one hlt
        obtain ⟨x, hx⟩ : ∃ x, x = l.getD i r0 := ⟨_, rfl⟩
        rw [← hx] at HR hsy hsz hone
        have hx1 := hone.1
        have HI := Lib.hid hlt
        obtain ⟨sa, cs, rfl, _⟩ := HY.out.form
        obtain ⟨ta, ct, rfl, _⟩ := HZ.out.form
        have HNE := Lib.hid (show ∀ k, (Value.slice sa Y.length cs).ownBlock = some k → k ≠ wr.heap.size from fun k hk => Nat.ne_of_lt (HY.out.lt k hk).2)
        clear hr hx hg hb hlt hone
        rcases Nat.lt_or_ge x.lo m with hp | hp
        · have gp : (x.lo : Int) < (m : Int) := by omega
          rw [if_pos hp] at hsy
          rcases Nat.lt_or_ge m x.hi with hq | hq
          · have gq : (m : Int) < (x.hi : Int) := by omega
            rw [Nat.min_eq_right (by omega)] at hsy
            rw [if_pos hq, Nat.max_eq_right (by omega)] at hsz
            have HSY := Lib.hid hsy
            have HSZ := Lib.hid hsz
            have gmin : min (x.hi : Int) (m : Int) = (m : Int) := by omega
            have gmax : max (x.lo : Int) (m : Int) = (m : Int) := by omega
            clear hp hq hsy hsz hx1
            go_wp2_with (first | (refine wpList_load_mid rfl 25 (.tmp 15) rfl g (o + i * 2) rfl (rcl x) _ HR.out Try.underlying25 rfl size_rg ?_) | (refine wpList_store_abs rfl 25 (.tmp 7) (.tmp 16) (by rfl) wr.heap.size #[.int .u64 (x.lo : Nat), .int .u64 (x.hi : Nat)] (by rfl) (by rfl) 25 _ (Blk.new wr _ _) size_rg (by rfl) (by simp [Value.oneCell']) ?_; intro W hW hp5; have hbW := hW.below ((Below.refl _ wr).alloc (Nat.le_refl _) _) (Nat.le_refl _); have HBW := Lib.hid (HBr.out.trans (hbW.mono HBr.out.size)); have BXW := Lib.hid hp5; have HYW := Lib.hid (HY.out.on hbW); have HZW := Lib.hid (HZ.out.on hbW); have b2 := hp5.cell 0 rfl; have b3 := hp5.cell 1 rfl; have HQ6 := Lib.hid (HYW.out.on (below_one1 W (.cells #[.int .u64 (x.lo : Nat), .int .u64 (m : Nat)] 25))); have HA6 := Lib.hid (below_alloc HBW.out HBW.out.size (.cells #[.int .u64 (x.lo : Nat), .int .u64 (m : Nat)] 25)); have HT6 := Lib.hid (HZW.out.on (below_one1 W (.cells #[.int .u64 (x.lo : Nat), .int .u64 (m : Nat)] 25))); have BT6 := Lib.hid (BXW.out.alloc (.cells #[.int .u64 (x.lo : Nat), .int .u64 (m : Nat)] 25)); clear hW hbW hp5) | (refine wpList_append_rgs2 rfl (.tmp 21) (.tmp 29) (by rfl) w2.heap.size _ Y (by rfl) HQ6.out _ 1 1 [⟨x.lo, m⟩] (by rfl) rfl (RgR.one (Blk.new W #[.int .u64 (x.lo : Nat), .int .u64 (m : Nat)] 25)) (HLY.out _) HA6.out.size ?_; intro a6 n6 c6 w6 hO hg he; have HO6 := Lib.hid hO; have HB6 := Lib.hid (below_ownR HA6.out HQ6.out HA6.out.size hg); have HK6 := Lib.hid (HAP.out.keep HT6.out hg); have AP6 := Lib.hid (HAP.out.app HT6.out he); have AP6s := Lib.hid AP6.out.symm; have BX6 := Lib.hid (BT6.out.past hg HNE.out); have b2 := BX6.out.cell 0 rfl; have b3 := BX6.out.cell 1 rfl; have HQ7 := Lib.hid (HK6.out.on (below_one1 w6 (.cells #[.int .u64 (m : Nat), .int .u64 (x.hi : Nat)] 25))); have HA7 := Lib.hid (below_alloc HB6.out HB6.out.size (.cells #[.int .u64 (m : Nat), .int .u64 (x.hi : Nat)] 25)); have HT7 := Lib.hid (HO6.out.on (below_one1 w6 (.cells #[.int .u64 (m : Nat), .int .u64 (x.hi : Nat)] 25))); clear hO hg he) | (refine wpList_append_rgs2 rfl (.tmp 35) (.tmp 43) (by rfl) w2.heap.size _ Z (by rfl) HQ7.out _ 1 1 [⟨m, x.hi⟩] (by rfl) rfl (RgR.one (Blk.new w6 #[.int .u64 (m : Nat), .int .u64 (x.hi : Nat)] 25)) (HLZ.out _) HA7.out.size ?_; intro a7 n7 c7 w7 hO hg he; have HO7 := Lib.hid hO; have HB7 := Lib.hid (below_ownR HA7.out HQ7.out HA7.out.size hg); have HK7 := Lib.hid (AP6s.out.keep HT7.out hg); have AP7 := Lib.hid (AP6s.out.app HT7.out he); clear hO hg he))
            go_roundw
            case rel => exact ⟨i + 1, by have := HI.out; omega, by go_num, by rw [HSY.out]; exact HK7.out, by rw [HSZ.out]; exact HO7.out, AP7.out.symm, HB7.out⟩
            case measure => have := HI.out; simp [intOf]; omega
          · have gq : (x.hi : Int) ≤ (m : Int) := by omega
            have gq2 : ¬ (m : Int) < (x.hi : Int) := by omega
            rw [Nat.min_eq_left (by omega)] at hsy
            rw [if_neg (by omega), List.append_nil] at hsz
            have HSY := Lib.hid hsy
            have HSZ := Lib.hid hsz
            have gmin : min (x.hi : Int) (m : Int) = (x.hi : Int) := by omega
            clear hp hq hsy hsz hx1
            go_wp2_with (first | (refine wpList_load_mid rfl 25 (.tmp 15) rfl g (o + i * 2) rfl (rcl x) _ HR.out Try.underlying25 rfl size_rg ?_) | (refine wpList_store_abs rfl 25 (.tmp 7) (.tmp 16) (by rfl) wr.heap.size #[.int .u64 (x.lo : Nat), .int .u64 (x.hi : Nat)] (by rfl) (by rfl) 25 _ (Blk.new wr _ _) size_rg (by rfl) (by simp [Value.oneCell']) ?_; intro W hW hp5; have hbW := hW.below ((Below.refl _ wr).alloc (Nat.le_refl _) _) (Nat.le_refl _); have HBW := Lib.hid (HBr.out.trans (hbW.mono HBr.out.size)); have BXW := Lib.hid hp5; have HYW := Lib.hid (HY.out.on hbW); have HZW := Lib.hid (HZ.out.on hbW); have b2 := hp5.cell 0 rfl; have b3 := hp5.cell 1 rfl; have HQ6 := Lib.hid (HYW.out.on (below_one1 W (.cells #[.int .u64 (x.lo : Nat), .int .u64 (x.hi : Nat)] 25))); have HA6 := Lib.hid (below_alloc HBW.out HBW.out.size (.cells #[.int .u64 (x.lo : Nat), .int .u64 (x.hi : Nat)] 25)); have HT6 := Lib.hid (HZW.out.on (below_one1 W (.cells #[.int .u64 (x.lo : Nat), .int .u64 (x.hi : Nat)] 25))); have BT6 := Lib.hid (BXW.out.alloc (.cells #[.int .u64 (x.lo : Nat), .int .u64 (x.hi : Nat)] 25)); clear hW hbW hp5) | (refine wpList_append_rgs2 rfl (.tmp 21) (.tmp 29) (by rfl) w2.heap.size _ Y (by rfl) HQ6.out _ 1 1 [⟨x.lo, x.hi⟩] (by rfl) rfl (RgR.one (Blk.new W #[.int .u64 (x.lo : Nat), .int .u64 (x.hi : Nat)] 25)) (HLY.out _) HA6.out.size ?_; intro a6 n6 c6 w6 hO hg he; have HO6 := Lib.hid hO; have HB6 := Lib.hid (below_ownR HA6.out HQ6.out HA6.out.size hg); have HK6 := Lib.hid (HAP.out.keep HT6.out hg); have AP6 := Lib.hid (HAP.out.app HT6.out he); have BX6 := Lib.hid (BT6.out.past hg HNE.out); have b2 := BX6.out.cell 0 rfl; have b3 := BX6.out.cell 1 rfl; clear hO hg he))
            go_roundw
            case rel => exact ⟨i + 1, by have := HI.out; omega, by go_num, by rw [HSY.out]; exact HO6.out, by rw [HSZ.out]; exact HK6.out, AP6.out, HB6.out⟩
            case measure => have := HI.out; simp [intOf]; omega
        · have gp : (m : Int) ≤ (x.lo : Int) := by omega
          have gq : (m : Int) < (x.hi : Int) := by omega
          rw [if_neg (by omega), List.append_nil] at hsy
          rw [if_pos (by omega), Nat.max_eq_left (by omega)] at hsz
          have HSY := Lib.hid hsy
          have HSZ := Lib.hid hsz
          have HAPs := Lib.hid HAP.out.symm
          have gmax : max (x.lo : Int) (m : Int) = (x.lo : Int) := by omega
          clear hp hsy hsz hx1
          go_wp2_with (first | (refine wpList_load_mid rfl 25 (.tmp 15) rfl g (o + i * 2) rfl (rcl x) _ HR.out Try.underlying25 rfl size_rg ?_) | (refine wpList_store_abs rfl 25 (.tmp 7) (.tmp 16) (by rfl) wr.heap.size #[.int .u64 (x.lo : Nat), .int .u64 (x.hi : Nat)] (by rfl) (by rfl) 25 _ (Blk.new wr _ _) size_rg (by rfl) (by simp [Value.oneCell']) ?_; intro W hW hp5; have hbW := hW.below ((Below.refl _ wr).alloc (Nat.le_refl _) _) (Nat.le_refl _); have HBW := Lib.hid (HBr.out.trans (hbW.mono HBr.out.size)); have BXW := Lib.hid hp5; have HYW := Lib.hid (HY.out.on hbW); have HZW := Lib.hid (HZ.out.on hbW); have b2 := hp5.cell 0 rfl; have b3 := hp5.cell 1 rfl; have HQ7 := Lib.hid (HZW.out.on (below_one1 W (.cells #[.int .u64 (x.lo : Nat), .int .u64 (x.hi : Nat)] 25))); have HA7 := Lib.hid (below_alloc HBW.out HBW.out.size (.cells #[.int .u64 (x.lo : Nat), .int .u64 (x.hi : Nat)] 25)); have HT7 := Lib.hid (HYW.out.on (below_one1 W (.cells #[.int .u64 (x.lo : Nat), .int .u64 (x.hi : Nat)] 25))); clear hW hbW hp5) | (refine wpList_append_rgs2 rfl (.tmp 35) (.tmp 43) (by rfl) w2.heap.size _ Z (by rfl) HQ7.out _ 1 1 [⟨x.lo, x.hi⟩] (by rfl) rfl (RgR.one (Blk.new W #[.int .u64 (x.lo : Nat), .int .u64 (x.hi : Nat)] 25)) (HLZ.out _) HA7.out.size ?_; intro a7 n7 c7 w7 hO hg he; have HO7 := Lib.hid hO; have HB7 := Lib.hid (below_ownR HA7.out HQ7.out HA7.out.size hg); have HK7 := Lib.hid (HAPs.out.keep HT7.out hg); have AP7 := Lib.hid (HAPs.out.app HT7.out he); clear hO hg he))
          go_roundw
          case rel => exact ⟨i + 1, by have := HI.out; omega, by go_num, by rw [HSY.out]; exact HK7.out, by rw [HSZ.out]; exact HO7.out, AP7.out.symm, HB7.out⟩
          case measure => have := HI.out; simp [intOf]; omega
      · have HF := Lib.hid (show Y = belowP l m by rw [hY, List.take_of_length_le (by omega)])
        have HG := Lib.hid (show Z = aboveP l m by rw [hZ, List.take_of_length_le (by omega)])
        clear hY hZ
        obtain ⟨sa, cs, rfl, _⟩ := HY.out.form
        obtain ⟨ta, ct, rfl, _⟩ := HZ.out.form
        go_wp2
        go_ret2
        exact ⟨_, _, rfl, by rw [HA.out]; exact HF.out ▸ HY.out.mono HB2.out.size, by rw [HA.out]; exact HG.out ▸ HZ.out.mono HB2.out.size, HB2.out.trans (HBr.out.mono HB2.out.size)⟩
end Go.Proofs.Ytajjbffppkpjpaa
