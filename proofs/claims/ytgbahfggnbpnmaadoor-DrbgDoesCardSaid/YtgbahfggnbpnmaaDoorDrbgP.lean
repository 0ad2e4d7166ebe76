import Derived.Test.YtgbahfggnbpnmaaDoorPieces
/-
  A Drbg's 66 cells; its state as plain Lean; may, none, Count, Left.
-/
namespace Go.Proofs.YtgbahfggnbpnmaaDoor
open Go.RowKit
def dlist (k v : List UInt8) (cnt : Int) : List Value := Value.bool true :: (k.map bv ++ (v.map bv ++ [.int .i64 cnt]))
def dcells (k v : List UInt8) (cnt : Int) : Array Value := (dlist k v cnt).toArray
section
variable {k v : List UInt8} {cnt : Int} (hk : k.length = 32) (hv : v.length = 32)
include hk hv
theorem dcells_size : (dcells k v cnt).size = 66 := by simp [dcells, dlist, hk, hv]
omit hk hv in
theorem dcells_made : (dcells k v cnt)[0]? = some (.bool true) := by simp [dcells, dlist]
omit hv in
theorem dcells_k (i : Nat) (hi : i < 32) : (dcells k v cnt)[1 + i]? = (k.map bv)[i]? := by
  simp only [dcells, dlist, List.getElem?_toArray, Nat.add_comm 1 i, List.getElem?_cons_succ]
  rw [List.getElem?_append_left (by simp [hk]; exact hi)]
theorem dcells_v (i : Nat) (hi : i < 32) : (dcells k v cnt)[33 + i]? = (v.map bv)[i]? := by
  simp only [dcells, dlist, List.getElem?_toArray, show 33 + i = (32 + i) + 1 by omega, List.getElem?_cons_succ]
  rw [List.getElem?_append_right (by simp [hk]), List.getElem?_append_left (by simp [hk, hv]; omega)]
  simp [hk]
theorem dcells_cnt : (dcells k v cnt)[65]? = some (.int .i64 cnt) := by
  simp only [dcells, dlist, List.getElem?_toArray, List.getElem?_cons_succ]
  rw [List.getElem?_append_right (by simp [hk]), List.getElem?_append_right (by simp [hk, hv])]
  simp [hk, hv]
theorem dcells_set_cnt (x : Int) : (dcells k v cnt).setIfInBounds 65 (.int .i64 x) = dcells k v x := by
  simp only [dcells, dlist, List.setIfInBounds_toArray, List.set_cons_succ]
  rw [List.set_append_right _ _ (by simp [hk]), List.set_append_right _ _ (by simp [hk, hv])]
  simp [hk, hv]
omit hv in
theorem dcells_splice_k (k' : List UInt8) (h' : k'.length = 32) : (splice (dcells k v cnt).toList 1 (barr k').toList).toArray = dcells k' v cnt := by
  simp only [dcells, dlist, splice, barr, List.length_map, h', List.take_succ_cons, List.take_zero, List.cons_append, List.nil_append, List.drop_succ_cons]
  congr 2
  rw [List.drop_append, List.drop_of_length_le (by simp [hk])]
  simp [hk]
theorem dcells_splice_v (v' : List UInt8) (h' : v'.length = 32) : (splice (dcells k v cnt).toList 33 (barr v').toList).toArray = dcells k v' cnt := by
  simp only [dcells, dlist, splice, barr, List.length_map, h', List.take_succ_cons, List.cons_append, List.drop_succ_cons]
  congr 2
  rw [List.take_append_of_le_length (by simp [hk]), List.take_of_length_le (by simp [hk]), List.drop_append, List.drop_of_length_le (by simp [hk])]
  simp [hk, hv]
end
/-- A state in memory. -/
structure DAt (w : World) (G : Nat) (k v : List UInt8) (cnt : Int) : Prop where
  kl : k.length = 32
  vl : v.length = 32
  blk : Blk w G (dcells k v cnt) 155
theorem DAt.on {w w' : World} {G : Nat} {k v : List UInt8} {cnt : Int} (h : DAt w G k v cnt) (hb : Below w.heap.size w w') : DAt w' G k v cnt := ⟨h.kl, h.vl, h.blk.on hb⟩
theorem DAt.txtK {w : World} {G : Nat} {k v : List UInt8} {cnt : Int} (h : DAt w G k v cnt) : Txt w (some ⟨G, 1, none⟩) 32 32 k :=
  ⟨h.kl.symm, Nat.le_refl _, fun i hi => ⟨G, 1, rfl, by rw [List.getElem?_eq_getElem hi]; exact h.blk.cell (1 + i) ((dcells_k h.kl i (by simpa [h.kl] using hi)).trans (List.getElem?_eq_getElem hi))⟩, fun b o e _ => by simp only [Option.some.injEq, Addr.mk.injEq] at e; obtain ⟨rfl, _⟩ := e; exact h.blk.lt⟩
theorem DAt.txtV {w : World} {G : Nat} {k v : List UInt8} {cnt : Int} (h : DAt w G k v cnt) : Txt w (some ⟨G, 33, none⟩) 32 32 v :=
  ⟨h.vl.symm, Nat.le_refl _, fun i hi => ⟨G, 33, rfl, by rw [List.getElem?_eq_getElem hi]; exact h.blk.cell (33 + i) ((dcells_v h.kl h.vl i (by simpa [h.vl] using hi)).trans (List.getElem?_eq_getElem hi))⟩, fun b o e _ => by simp only [Option.some.injEq, Addr.mk.injEq] at e; obtain ⟨rfl, _⟩ := e; exact h.blk.lt⟩
/-! The state as plain Lean. -/
def stepK (k v : List UInt8) (i : UInt8) (t : List UInt8) : List UInt8 := macL k (v ++ ([i] ++ t))
def updK (k v t : List UInt8) : List UInt8 := if t = [] then stepK k v 0 t else stepK (stepK k v 0 t) (macL (stepK k v 0 t) v) 1 t
def updV (k v t : List UInt8) : List UInt8 := if t = [] then macL (stepK k v 0 t) v else macL (updK k v t) (macL (stepK k v 0 t) v)
theorem stepK_len (k v : List UInt8) (i : UInt8) (t : List UInt8) : (stepK k v i t).length = 32 := macL_len _ _
theorem updK_len (k v t : List UInt8) : (updK k v t).length = 32 := by unfold updK; split <;> exact stepK_len _ _ _ _
theorem updV_len (k v t : List UInt8) : (updV k v t).length = 32 := by unfold updV; split <;> exact macL_len _ _
set_option maxRecDepth 100000 in
theorem dnone_nil (w : World) : Calls Tryd.prog 115 #[.pointer none] w fun e w' => e = .returned (.bool true) ∧ w = w' := by
  go_enter Tryd.func115, Tryd.ntmps115
  go_wp2
  go_ret
  exact ⟨rfl, rfl⟩
set_option maxRecDepth 100000 in
theorem dnone_at {w : World} {G : Nat} {k v : List UInt8} {cnt : Int} (h : DAt w G k v cnt) : Calls Tryd.prog 115 #[.pointer (some ⟨G, 0, none⟩)] w fun e w' => e = .returned (.bool false) ∧ w = w' := by
  have h0 := h.blk.cell 0 dcells_made
  clear h
  go_enter Tryd.func115, Tryd.ntmps115
  go_wp2
  go_ret
  exact ⟨rfl, rfl⟩
set_option maxRecDepth 100000 in
theorem count_at {w : World} {G : Nat} {k v : List UInt8} {cnt : Int} (h : DAt w G k v cnt) : Calls Tryd.prog 62 #[.pointer (some ⟨G, 0, none⟩)] w fun e w' => e = .returned (.int .i64 cnt) ∧ w = w' := by
  have h0 := h.blk.cell 65 (dcells_cnt h.kl h.vl)
  have H := Lib.hid h
  clear h
  go_enter Tryd.func62, Tryd.ntmps62
  go_wp2_with (go_at_call 115; refine (dnone_at H.out).mono ?_; rintro e w' ⟨rfl, rfl⟩)
  go_ret
  exact ⟨rfl, rfl⟩
set_option maxRecDepth 100000 in
theorem left_at {w : World} {G : Nat} {k v : List UInt8} {cnt : Int} (h : DAt w G k v cnt) (h1 : 0 ≤ cnt) (h2 : cnt ≤ 100000) : Calls Tryd.prog 64 #[.pointer (some ⟨G, 0, none⟩)] w fun e w' => e = .returned (.int .i64 (1025 - cnt)) ∧ w = w' := by
  have h0 := h.blk.cell 65 (dcells_cnt h.kl h.vl)
  have H := Lib.hid h
  have f1 : IntKind.i64.wrap (1025 - cnt) = 1025 - cnt := IntWalk.i64_in _ (by omega)
  clear h
  go_enter Tryd.func64, Tryd.ntmps64
  go_wp2_with (go_at_call 115; refine (dnone_at H.out).mono ?_; rintro e w' ⟨rfl, rfl⟩)
  go_ret
  exact ⟨rfl, rfl⟩
end Go.Proofs.YtgbahfggnbpnmaaDoor
/-
  drbg.may.
-/
namespace Go.Proofs.YtgbahfggnbpnmaaDoor
open Go.RowKit
theorem Pcs.on {w w' : World} {xs : List Value} {ls : List (List UInt8)} (h : Pcs w xs ls) (hb : Below w.heap.size w w') : Pcs w' xs ls :=
  ⟨h.1, fun i hi => by obtain ⟨a, n, c, h1, h2⟩ := h.2 i hi; exact ⟨a, n, c, h1, h2.on hb⟩⟩
theorem OwnS.of_blk {w : World} {lo g : Nat} {xs : List Value} (h : Blk w g xs.toArray 28) (hb : lo ≤ g) (hm : xs.length ≤ maxLen) : OwnS w lo (.slice (some ⟨g, 0, none⟩) xs.length xs.length) xs :=
  ⟨by simp, Or.inr ⟨g, xs.length, xs.toArray, rfl, hb, h, Nat.le_refl _, hm, by simp, by simp⟩⟩
/-- The error of entropy and others. -/
def mayE (ent : List UInt8) (ls : List (List UInt8)) : Int := if ent.length < 32 then 50 else if fewOf 4096 (ls ++ [ent]) = true then 0 else 3
set_option maxRecDepth 100000 in
set_option maxHeartbeats 1000000 in
theorem may_walk (ent : List UInt8) (ls : List (List UInt8)) (xs : List Value) (a r : Option Addr) (n c m d lo : Nat) (w : World) (hE : Txt w a n c ent) (hR : OwnS w lo (.slice r m d) xs) (hP : Pcs w xs ls) (hlo : lo ≤ w.heap.size) (hls : ls.length ≤ 1000) :
    Calls Tryd.prog 113 #[.slice a n c, .slice r m d] w fun e w' => e = .returned (.int .i64 (mayE ent ls)) ∧ w.grownBy w' (Value.slice r m d).ownBlock := by
  have hn := hE.len
  by_cases h32 : n < 32
  · have e1 : mayE ent ls = 50 := by unfold mayE; rw [if_pos (by omega)]
    rw [e1]
    have g1 : (n : Int) < 32 := by omega
    clear hn hE hR hP
    go_enter Tryd.func113, Tryd.ntmps113
    go_wp2
    go_ret
    exact ⟨rfl, World.grownBy.refl w _⟩
  · have e1 : mayE ent ls = if fewOf 4096 (ls ++ [ent]) = true then 0 else 3 := by unfold mayE; rw [if_neg (by omega)]
    rw [e1]
    obtain ⟨LS, hLS⟩ : ∃ LS, LS = ls ++ [ent] := ⟨_, rfl⟩
    rw [← hLS]
    obtain ⟨ER, hER⟩ : ∃ z : Int, z = if fewOf 4096 LS = true then 0 else 3 := ⟨_, rfl⟩
    rw [← hER]
    have HER := Lib.hid hER
    clear hER
    have g1 : ¬ (n : Int) < 32 := by omega
    have hb := below_one' w (.cells #[.slice a n c] 28)
    have HR := Lib.hid (hR.below hb)
    have HP := Lib.hid (hP.snoc hE)
    rw [← hLS] at HP
    have hlt2 : LS.length ≤ 100000 := by rw [hLS]; simp; omega
    have HL := Lib.hid (show lo ≤ (w.alloc (.cells #[.slice a n c] 28)).heap.size by simp; omega)
    have HX := Lib.hid (show xs.length ≤ 1000000 by rw [hP.1]; omega)
    have HB := Lib.hid hb
    clear hn hE hR hP hb e1 hLS
    go_enter Tryd.func113, Tryd.ntmps113
    go_wp2_with (refine wpList_append_slc rfl (.tmp 10) (.tmp 12) rfl lo _ xs rfl HR.out w.heap.size (.slice a n c) rfl ((Blk.new w #[.slice a n c] 28).cell 0 rfl) rfl HX.out HL.out ?_; intro a2 n2 c2 w2 hO2 hg2; have HO2 := Lib.hid hO2; have HG2 := Lib.hid (grownBy_trans (grownBy_of_below HB.out) hg2); clear hO2 hg2)
    obtain ⟨XS, hXS⟩ : ∃ XS, XS = xs ++ [.slice a n c] := ⟨_, rfl⟩
    rw [← hXS] at HP HO2
    have hlen : n2 = LS.length := by
      obtain ⟨a', c', e, _⟩ := HO2.out.form
      simp only [Value.slice.injEq] at e
      rw [e.2.1, HP.out.1]
    have HN := Lib.hid hlen
    clear hXS hlen
    go_loop [15] (fun i => ∃ k, k ≤ LS.length ∧ i = .int .i64 (k : Nat) ∧ Hid (∀ j, j < k → (LS.getD j []).length ≤ 4096)) (fun i => LS.length - (intOf i).toNat)
    case atStart => exact ⟨0, Nat.zero_le _, rfl, fun j hj => by omega⟩
    case round =>
      obtain ⟨k, hk, rfl, hall⟩ := hrel
      by_cases hlt : k < LS.length
      · obtain ⟨a5, n5, c5, h5, h6⟩ := HP.out.2 k hlt
        obtain ⟨g5, e5, _, hc5⟩ : ∃ g, a2 = some ⟨g, 0, none⟩ ∧ g < w2.heap.size ∧ w2.cell? ⟨g, k, none⟩ = XS[k]? := by
          obtain ⟨a', c', e, h1⟩ := HO2.out.form
          simp only [Value.slice.injEq] at e
          obtain ⟨rfl, _, _⟩ := e
          exact h1 k (by rw [HP.out.1]; exact hlt)
        subst e5
        rw [h5] at hc5
        have H4 := Lib.hid h6.len
        have hkn : k < n2 := by rw [HN.out]; exact hlt
        clear h5 h6
        by_cases h3000 : n5 ≤ 4096
        · have hd : decide ((n5 : Int) > 4096) = false := by simp; omega
          go_wp2
          go_round
          case rel =>
            refine ⟨k + 1, by omega, by go_num, fun j hj => ?_⟩
            rcases Nat.lt_or_ge j k with h | h
            · exact hall.out j h
            · obtain rfl : j = k := by omega
              rw [← H4.out]; exact h3000
          case measure => simp [intOf]; omega
        · have hd : (4096 : Int) < (n5 : Int) := by omega
          go_wp2
          go_ret
          refine ⟨?_, HG2.out⟩
          have : ¬ fewOf 4096 LS = true := by
            intro h
            simp only [fewOf, List.all_eq_true, decide_eq_true_eq] at h
            have := h (LS.getD k []) (by simp [List.getD, hlt])
            have := H4.out
            omega
          show Ending.returned (.int .i64 3) = _
          rw [HER.out, if_neg this]
      · have HK := Lib.hid (show k = LS.length by omega)
        have hkn : ¬ k < n2 := by rw [HN.out]; exact hlt
        go_wp2
        go_ret
        refine ⟨?_, HG2.out⟩
        have h1 : fewOf 4096 LS = true := by
          simp only [fewOf, List.all_eq_true, decide_eq_true_eq]
          intro l hl
          obtain ⟨j, hj, rfl⟩ := List.getElem_of_mem hl
          have := hall.out j (by have := HK.out; omega)
          simpa [List.getD, hj] using this
        show Ending.returned (.int .i64 0) = _
        rw [HER.out, if_pos h1]
end Go.Proofs.YtgbahfggnbpnmaaDoor
/-
  append of a row of texts that came in.
-/
namespace Go.Proofs.YtgbahfggnbpnmaaDoor
open Go.RowKit
/-- The row's values. -/
def rowVals (w : World) (pa : Option Addr) (n : Nat) : List Value := (List.range n).map fun i => match pa with | some a => (w.cell? (a.add i)).getD undef | none => undef
theorem rowVals_len (w : World) (pa : Option Addr) (n : Nat) : (rowVals w pa n).length = n := by simp [rowVals]
theorem Parts.vals {w : World} {pa : Option Addr} {ls : List (List UInt8)} (h : Parts w (· < w.heap.size) pa ls) : Pcs w (rowVals w pa ls.length) ls := by
  refine ⟨rowVals_len _ _ _, fun i hi => ?_⟩
  obtain ⟨b, o, a, n, cap, rfl, h2, h3, h4, h5, h6, h7⟩ := h i hi
  refine ⟨a, n, cap, ?_, h4, h5, h6, h7⟩
  simp [rowVals, hi, Addr.add_mid, h3]
theorem Parts.reads {w : World} {av : Nat → Prop} {pa : Option Addr} {ls : List (List UInt8)} (h : Parts w av pa ls) (i : Nat) (hi : i < ls.length) : ∃ p y, pa = some p ∧ w.cell? (p.add i) = some y ∧ (rowVals w pa ls.length)[i]? = some y ∧ y.oneCell' = true := by
  obtain ⟨b, o, a, n, cap, rfl, h2, h3, _⟩ := h i hi
  refine ⟨⟨b, o, none⟩, .slice a n cap, rfl, by rw [Addr.add_mid]; exact h3, ?_, rfl⟩
  simp [rowVals, hi, Addr.add_mid, h3]
theorem run_append_row (w : World) (lo : Nat) (ty : TypeId) (v : Value) (xs : List Value) (hown : OwnS w lo v xs) (pa : Option Addr) (n c : Nat) (ls : List (List UInt8)) (hn : n = ls.length) (hr : Parts w (· < w.heap.size) pa ls)
    (hlen : xs.length + ls.length ≤ 1000000) (hbase : lo ≤ w.heap.size) :
    ∃ a' n' cap' w', (Builtin.append_ #[35, 35] ty #[v, .slice pa n c]).run Tryd.prog w = .ok (.slice a' n' cap') w' ∧ OwnS w' lo (.slice a' n' cap') (xs ++ rowVals w pa ls.length) ∧ w.grownBy w' v.ownBlock := by
  obtain ⟨i, i1, i2, i3, i4⟩ := info_parts info_u8s
  subst hn
  have fin : ∀ v' w', (Builtin.append_ #[35, 35] ty #[v, .slice pa ls.length c]).run Tryd.prog w = .ok v' w' → w'.ownsRow lo 28 1 v' (xs.length + (rowVals w pa ls.length).length) (xs ++ rowVals w pa ls.length) → w.grownBy w' v.ownBlock →
      ∃ a' n' cap' w', (Builtin.append_ #[35, 35] ty #[v, .slice pa ls.length c]).run Tryd.prog w = .ok (.slice a' n' cap') w' ∧ OwnS w' lo (.slice a' n' cap') (xs ++ rowVals w pa ls.length) ∧ w.grownBy w' v.ownBlock := by
    intro v' w' h1 h2 h3
    have h4 : OwnS w' lo v' (xs ++ rowVals w pa ls.length) := by unfold OwnS; rw [List.length_append]; exact h2
    obtain ⟨a', cap', rfl, _⟩ := h4.form
    exact ⟨a', _, cap', w', h1, h4, h3⟩
  cases pa with
  | none =>
    have h0 : ls = [] := by
      rcases Nat.eq_zero_or_pos ls.length with h | h
      · exact List.eq_nil_of_length_eq_zero h
      · obtain ⟨p, y, e, _⟩ := hr.reads 0 h; cases e
    subst h0
    refine fin v w ?_ (by simpa [OwnS, rowVals] using hown) (World.grownBy.refl w _)
    show (Builtin.append_ _ ty #[v, .slice none 0 c]).run Tryd.prog w = _
    rcases hown.2 with ⟨rfl, h0⟩ | ⟨g, cap, cur, rfl, _, _, hnc, _⟩
    · simp [Builtin.append_, run_underlying Tryd.underlying35, sizeOf, typeInfo, i1, Builtin.lenOf, Builtin.firstCells]
    · simp [Builtin.append_, run_underlying Tryd.underlying35, sizeOf, typeInfo, i1, Builtin.lenOf, Builtin.firstCells, hnc, storeCells]
  | some a =>
    obtain ⟨v', w', h1, h2, h3, _, _⟩ := run_append_own_at (P := Tryd.prog) w lo 35 ty 28 i (.slice none 0 0) 1 24 Tryd.underlying35 i1 i2 i3 i4 rfl (by decide) v xs.length xs hown a ls.length c (rowVals w (some a) ls.length) (by rw [rowVals_len, Nat.mul_one])
      (fun j u hj => by
        have hj' : j < ls.length := by
          rcases Nat.lt_or_ge j ls.length with h | h
          · exact h
          · rw [List.getElem?_eq_none (by rw [rowVals_len]; exact h)] at hj; cases hj
        obtain ⟨p, y, e, h2, h3, _⟩ := hr.reads j hj'
        simp only [Option.some.injEq] at e
        subst e
        rw [h2, ← hj, h3])
      (fun u hu => by
        obtain ⟨j, hj, rfl⟩ := List.getElem_of_mem hu
        rw [rowVals_len] at hj
        obtain ⟨p, y, _, _, h3, h4⟩ := hr.reads j hj
        rw [List.getElem?_eq_getElem (by rw [rowVals_len]; exact hj)] at h3
        simp only [Option.some.injEq] at h3
        rw [h3]; exact h4) (by unfold maxLen; omega) (by omega) hbase
    exact fin v' w' h1 (by rw [rowVals_len]; exact h2) h3
theorem wp_append_row {o : Oper} {a : Act} {w : World} {K : Act → World → Prop} {Q : Exit → Act → World → Prop} (s x : Operand)
    (ho : o.op = .call { callee := .builtin .append, args := #[s, x], argTypes := #[35, 35] }) (lo : Nat) (v : Value) (xs : List Value) (hs : a.eval s = v) (hown : OwnS w lo v xs)
    (pa : Option Addr) (n c : Nat) (ls : List (List UInt8)) (hx : a.eval x = .slice pa n c) (hn : n = ls.length) (hr : Parts w (· < w.heap.size) pa ls) (hlen : xs.length + ls.length ≤ 1000000) (hbase : lo ≤ w.heap.size)
    (h : ∀ a' n' c' w', OwnS w' lo (.slice a' n' c') (xs ++ rowVals w pa ls.length) → w.grownBy w' v.ownBlock → K (a.put o.dst (.slice a' n' c')) w') : o.wp Tryd.prog a w K Q := by
  obtain ⟨a', n', cap', w', h1, h2, h3⟩ := run_append_row w lo o.type v xs hown pa n c ls hn hr hlen hbase
  unfold Oper.wp execOp
  simp only [ho, resolve, invoke, builtin, Sem.run_bind, Sem.run_pure, Result.andThen_ok, List.map_toArray, List.map_cons, List.map_nil, hs, hx, h1]
  exact h a' n' cap' w' h2 h3
theorem Pcs.append {w : World} {xs ys : List Value} {ls ms : List (List UInt8)} (h : Pcs w xs ls) (k : Pcs w ys ms) : Pcs w (xs ++ ys) (ls ++ ms) := by
  refine ⟨by simp [h.1, k.1], fun i hi => ?_⟩
  by_cases hlt : i < ls.length
  · obtain ⟨a', n', c', h1, h2⟩ := h.2 i hlt
    refine ⟨a', n', c', by rw [List.getElem?_append_left (by rw [h.1]; exact hlt)]; exact h1, ?_⟩
    have e : (ls ++ ms).getD i [] = ls.getD i [] := by simp only [List.getD]; rw [List.getElem?_append_left hlt]
    rw [e]; exact h2
  · obtain ⟨a', n', c', h1, h2⟩ := k.2 (i - ls.length) (by simp at hi; omega)
    refine ⟨a', n', c', by rw [List.getElem?_append_right (by rw [h.1]; omega), h.1]; exact h1, ?_⟩
    have e : (ls ++ ms).getD i [] = ms.getD (i - ls.length) [] := by simp only [List.getD]; rw [List.getElem?_append_right (by omega)]
    rw [e]; exact h2
end Go.Proofs.YtgbahfggnbpnmaaDoor
