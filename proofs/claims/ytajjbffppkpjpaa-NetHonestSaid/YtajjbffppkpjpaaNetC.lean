import Derived.Test.YtajjbffppkpjpaaNetB
import Derived.IntWalk
/-
  net.put.
-/
namespace Go.Proofs.Ytajjbffppkpjpaa
set_option linter.unusedSimpArgs false
set_option linter.unusedVariables false
open Go.RowKit
theorem yields_row {P : Program} {o : Oper} {a : Act} {w : World} (ty : TypeId) (x : Operand) (ho : o.op = .load ty x)
    (g : Nat) (hx : a.eval x = .pointer (some ⟨g, 0, none⟩)) {cur : Array Value} {t : TypeId} (hg : Blk w g cur t)
    (d : TypeDesc) (hu : P.underlying ty = some d) (hd : d.isRow = true) (hi : (P.info? ty).map (·.size) = some cur.size) : (execOp a.eval o).run P w = .ok (.value (.agg cur)) w := by
  unfold execOp
  have := run_loadVar_mid w g 0 ty cur.toList d (range_blk hg 0 cur.toList (by simp)) hu hd (by simpa using hi)
  simp [ho, hx, Instr.loadAt, Instr.sureAddr, this]
theorem Blk.on {w w' : World} {g : Nat} {cs : Array Value} {t : TypeId} (h : Blk w g cs t) (hb : Below w.heap.size w w') : Blk w' g cs t := h.below hb h.lt
theorem info_sent : (Try.prog.info? 47).map (fun i => (i.zero, i.size, i.bytes)) = some (some (.agg #[.int .i64 0, .int .i64 0, .slice none 0 0]), 3, 40) := by kernel_rfl
theorem size_sents : (Try.prog.info? 41).map (·.size) = some 1 := by kernel_rfl
theorem Tn.of_blkn {w : World} {av : Nat → Prop} {g n : Nat} {l : List UInt8} (h : Blk w g (barr l) 5) (hn : n = l.length) (hg : av g) : Tn w av (.slice (some ⟨g, 0, none⟩) n n) l := by subst hn; exact Tn.of_blk h hg
theorem Txt.onlyT {w w' : World} {F : Nat → Prop} {a : Option Addr} {n c : Nat} {l : List UInt8} (h : Txt w a n c l) (hO : Only F w w') (hF : ∀ g o, a = some ⟨g, o, none⟩ → 0 < l.length → ¬ F g) : Txt w' a n c l :=
  ⟨h.len, h.fit, hO.rdB h.rd (fun b o e h0 => hF b o e h0), fun b o e h0 => Nat.lt_of_lt_of_le (h.old b o e h0) hO.size⟩
/-- A net whose rows r1, r2 its cells do not hold yet. -/
structure NPart (w : World) (av : Nat → Prop) (b : Nat) (u1 u2 v3 r1 r2 : Value) (L1 L2 L3 : List Snt) : Prop where
  blk : Blk w b #[.bool true, u1, u2, v3] 43
  way : SRow w av r1 L1
  ever : SRow w av r2 L2
  came : SRow w av v3 L3
  a12 : ∀ k, r1.ownBlock = some k → r2.ownBlock ≠ some k
  a13 : ∀ k, r1.ownBlock = some k → v3.ownBlock ≠ some k
  a23 : ∀ k, r2.ownBlock = some k → v3.ownBlock ≠ some k
section
variable {w w' : World} {av : Nat → Prop} {b : Nat} {u1 u2 v3 r1 r2 : Value} {L1 L2 L3 : List Snt}
theorem NPart.c1 (h : NPart w av b u1 u2 v3 r1 r2 L1 L2 L3) : w.cell? ⟨b, 1, none⟩ = some u1 := h.blk.cell 1 rfl
theorem NPart.c2 (h : NPart w av b u1 u2 v3 r1 r2 L1 L2 L3) : w.cell? ⟨b, 2, none⟩ = some u2 := h.blk.cell 2 rfl
theorem NPart.on (h : NPart w av b u1 u2 v3 r1 r2 L1 L2 L3) (hb : Below w.heap.size w w') : NPart w' av b u1 u2 v3 r1 r2 L1 L2 L3 := ⟨h.blk.below hb h.blk.lt, h.way.on hb, h.ever.on hb, h.came.on hb, h.a12, h.a13, h.a23⟩
theorem SRow.not_b {v : Value} {L : List Snt} {cs : Array Value} (h : SRow w av v L) (hb : Blk w b cs 43) : ¬ v.ownBlock = some b := fun e => by
  obtain ⟨ls, h1, _⟩ := h
  obtain ⟨c, hc⟩ := row_blk' h1 e
  exact blk_type_ne hb hc (by decide) rfl
theorem SRow.not_u8 {v : Value} {L : List Snt} (h : SRow w av v L) {k : Nat} {cs : Array Value} (hk : Blk w k cs 5) : ¬ v.ownBlock = some k := fun e => by
  obtain ⟨ls, h1, _⟩ := h
  obtain ⟨c, hc⟩ := row_blk' h1 e
  exact blk_type_ne hk hc (by decide) rfl
theorem NPart.app_way {s : Snt} {a7 : Option Addr} {m c7 g n wn : Nat} {ls : List (Snt × Value)} (h : NPart w av b u1 u2 v3 r1 r2 L1 L2 L3) (hwn : wn = L1.length) (hg : w.grownBy w' r1.ownBlock)
    (hO : w'.ownsRow 0 47 3 (.slice a7 m c7) (wn + 1) (ncells ls ++ [.int .i64 s.f, .int .i64 s.t, .slice (some ⟨g, 0, none⟩) n n])) (hw2 : SnL w av ls L1) (hx : Tn w av (.slice (some ⟨g, 0, none⟩) n n) s.d)
    (hat : ∀ k, (Value.slice a7 m c7).ownBlock = some k → r1.ownBlock = some k ∨ k = w.heap.size) : NPart w' av b u1 u2 v3 (.slice a7 m c7) r2 (L1 ++ [s]) L2 L3 := by
  have hO3 : Only (fun k => r1.ownBlock = some k) w w' := Only.grown hg (fun k e => e)
  have hne : ∀ k cur, av k → Blk w k cur 5 → ¬ r1.ownBlock = some k := fun k cur _ hb => h.way.not_u8 hb
  refine ⟨hO3.blk h.blk (h.way.not_b h.blk), ⟨ls ++ [(s, .slice (some ⟨g, 0, none⟩) n n)], by rw [ncells_snoc, List.length_append, ← hwn]; exact hO, (hw2.keep hO3 hne).snoc (hx.keep hO3 hne)⟩,
    h.ever.keep hO3 (fun k e q => h.a12 k q e) hne, h.came.keep hO3 (fun k e q => h.a13 k q e) hne, fun k e q => ?_, fun k e q => ?_, h.a23⟩
  · rcases hat k e with p | p
    · exact h.a12 k p q
    · have := h.ever.lt q; omega
  · rcases hat k e with p | p
    · exact h.a13 k p q
    · have := h.came.lt q; omega
theorem NPart.app_ever {s : Snt} {a7 : Option Addr} {m c7 g n wn : Nat} {ls : List (Snt × Value)} (h : NPart w av b u1 u2 v3 r1 r2 L1 L2 L3) (hwn : wn = L2.length) (hg : w.grownBy w' r2.ownBlock)
    (hO : w'.ownsRow 0 47 3 (.slice a7 m c7) (wn + 1) (ncells ls ++ [.int .i64 s.f, .int .i64 s.t, .slice (some ⟨g, 0, none⟩) n n])) (hw2 : SnL w av ls L2) (hx : Tn w av (.slice (some ⟨g, 0, none⟩) n n) s.d)
    (hat : ∀ k, (Value.slice a7 m c7).ownBlock = some k → r2.ownBlock = some k ∨ k = w.heap.size) : NPart w' av b u1 u2 v3 r1 (.slice a7 m c7) L1 (L2 ++ [s]) L3 := by
  have hO3 : Only (fun k => r2.ownBlock = some k) w w' := Only.grown hg (fun k e => e)
  have hne : ∀ k cur, av k → Blk w k cur 5 → ¬ r2.ownBlock = some k := fun k cur _ hb => h.ever.not_u8 hb
  refine ⟨hO3.blk h.blk (h.ever.not_b h.blk), h.way.keep hO3 (fun k e q => h.a12 k e q) hne, ⟨ls ++ [(s, .slice (some ⟨g, 0, none⟩) n n)], by rw [ncells_snoc, List.length_append, ← hwn]; exact hO, (hw2.keep hO3 hne).snoc (hx.keep hO3 hne)⟩,
    h.came.keep hO3 (fun k e q => h.a23 k q e) hne, fun k e q => ?_, h.a13, fun k e q => ?_⟩
  · rcases hat k q with p | p
    · exact h.a12 k e p
    · have := h.way.lt e; omega
  · rcases hat k e with p | p
    · exact h.a23 k p q
    · have := h.came.lt q; omega
theorem NPart.store1 (h : NPart w av b u1 u2 v3 r1 r2 L1 L2 L3) {x : Value} (hW : Wrote w w' b) (hB : Blk w' b (#[.bool true, u1, u2, v3].setIfInBounds 1 x) 43) : NPart w' av b x u2 v3 r1 r2 L1 L2 L3 := by
  have hO : Only (· = b) w w' := Only.wrote hW rfl
  have hne : ∀ k cur, av k → Blk w k cur 5 → ¬ k = b := fun k cur _ hb e => blk_type_ne hb h.blk (by decide) e
  exact ⟨hB, h.way.keep hO (fun k e q => h.way.not_b h.blk (q ▸ e)) hne, h.ever.keep hO (fun k e q => h.ever.not_b h.blk (q ▸ e)) hne, h.came.keep hO (fun k e q => h.came.not_b h.blk (q ▸ e)) hne, h.a12, h.a13, h.a23⟩
theorem NPart.store2 (h : NPart w av b u1 u2 v3 r1 r2 L1 L2 L3) {x : Value} (hW : Wrote w w' b) (hB : Blk w' b (#[.bool true, u1, u2, v3].setIfInBounds 2 x) 43) : NPart w' av b u1 x v3 r1 r2 L1 L2 L3 := by
  have hO : Only (· = b) w w' := Only.wrote hW rfl
  have hne : ∀ k cur, av k → Blk w k cur 5 → ¬ k = b := fun k cur _ hb e => blk_type_ne hb h.blk (by decide) e
  exact ⟨hB, h.way.keep hO (fun k e q => h.way.not_b h.blk (q ▸ e)) hne, h.ever.keep hO (fun k e q => h.ever.not_b h.blk (q ▸ e)) hne, h.came.keep hO (fun k e q => h.came.not_b h.blk (q ▸ e)) hne, h.a12, h.a13, h.a23⟩
end
theorem NetAt.part {w : World} {av : Nat → Prop} {b : Nat} {v1 v2 v3 : Value} {S : NS} (h : NetAt w av b v1 v2 v3 S) : NPart w av b v1 v2 v3 v1 v2 S.way S.ever S.came := ⟨h.blk, h.way, h.ever, h.came, h.a12, h.a13, h.a23⟩
theorem NPart.whole {w : World} {av : Nat → Prop} {b : Nat} {v1 v2 v3 : Value} {L1 L2 L3 : List Snt} (h : NPart w av b v1 v2 v3 v1 v2 L1 L2 L3) : NetAt w av b v1 v2 v3 ⟨L1, L2, L3⟩ := ⟨h.blk, h.way, h.ever, h.came, h.a12, h.a13, h.a23⟩
/-- Letters that are handed in: their row, their texts lie in blocks that 'na' names. -/
def LIn (w : World) (na : Nat → Prop) (a : Option Addr) (L : List Snt) : Prop := ∀ i, i < L.length → ∃ g o n cx px, a = some ⟨g, o, none⟩ ∧ na g ∧ g < w.heap.size ∧
  w.rangeAt g (o + i * 3) [.int .i64 (L.getD i snt0).f, .int .i64 (L.getD i snt0).t, .slice px n cx] ∧ Txt w px n cx (L.getD i snt0).d ∧ ∀ b o, px = some ⟨b, o, none⟩ → 0 < (L.getD i snt0).d.length → na b
theorem LIn.only {w w' : World} {na F : Nat → Prop} {a : Option Addr} {L : List Snt} (h : LIn w na a L) (hO : Only F w w') (hF : ∀ k, na k → ¬ F k) : LIn w' na a L := fun i hi => by
  obtain ⟨g, o, n, cx, px, h1, h2, h3, h4, h5, h6⟩ := h i hi
  refine ⟨g, o, n, cx, px, h1, h2, Nat.lt_of_lt_of_le h3 hO.size, fun j v hj => ?_, h5.onlyT hO (fun b o e h0 => hF b (h6 b o e h0)), h6⟩
  rw [← h4 j v hj]
  exact World.cell?_of_block (a := ⟨g, o + i * 3 + j, none⟩) (hO.same g h3 (hF g h2))
theorem LIn.on {w w' : World} {na : Nat → Prop} {a : Option Addr} {L : List Snt} (h : LIn w na a L) (hb : Below w.heap.size w w') : LIn w' na a L := h.only (F := fun _ => False) (Only.of_below hb) (fun _ _ q => q)
set_option maxRecDepth 100000 in
set_option maxHeartbeats 40000000 in
theorem nput_walk {av na : Nat → Prop} {b : Nat} {vx vy vz : Value} {S : NS} {K : Nat} (L : List Snt) (a : Option Addr) (m c : Nat) (hm : m = L.length) (w0 : World) (h : NetAt w0 av b vx vy vz S) (hI : LIn w0 na a L) (hna : ∀ k, na k → k < w0.heap.size ∧ ¬ NFoot b vx vy vz k)
    (hL : S.Lim K) (hd : ∀ s, s ∈ L → s.d.length ≤ 1000000) (hK : K + L.length ≤ 1000000) :
    Calls Try.prog 90 #[.pointer (some ⟨b, 0, none⟩), .slice a m c] w0 fun e w' => e = .returned (.int .i64 (S.put L).1) ∧ ∃ x1 x2, NetAt w' (fun k => av k ∨ w0.heap.size ≤ k) b x1 x2 vz (S.put L).2 ∧ Only (NFoot b vx vy vz) w0 w' ∧ ∀ k, NFoot b x1 x2 vz k → NFoot b vx vy vz k ∨ w0.heap.size ≤ k := by
  obtain ⟨a1, c1, rfl, _⟩ := h.way.form
  obtain ⟨n1, hn1⟩ : ∃ n1, n1 = S.way.length := ⟨_, rfl⟩
  have H := Lib.hid (h.mono (av' := fun k => av k ∨ w0.heap.size ≤ k) fun k e _ => .inl e)
  have HI := Lib.hid hI
  have HNA := Lib.hid hna
  have HLI := Lib.hid hL
  have HDD := Lib.hid hd
  have HKK := Lib.hid hK
  have HM := Lib.hid hm
  have HN1 := Lib.hid hn1
  have cc1 := h.c1
  rw [← hn1] at cc1
  have hw1 := hL.way
  have hb1 : n1 ≤ 1024 := by omega
  have hm1 : m ≤ 1000000 := by omega
  have hwr : wrap64 (1024 - (n1 : Int)) = 1024 - (n1 : Int) := by unfold wrap64; omega
  have hwr2 : IntKind.i64.wrap (1024 - (n1 : Int)) = 1024 - (n1 : Int) := by rw [IntWalk.i64_in _ (by omega)]
  clear h hI hna hL hd hK hm hw1
  go_enter Try.func90, Try.ntmps90
  by_cases hfull : (1024 : Int) - (n1 : Int) < (m : Int)
  · have HE := Lib.hid (show S.put L = (6, S) from if_pos (by rw [← hn1, ← HM.out]; exact hfull))
    clear hn1
    go_wp2
    go_ret
    exact ⟨by rw [HE.out]; rfl, _, _, by rw [HE.out]; exact H.out, Only.refl _ _, fun k e => .inl e⟩
  · have HE := Lib.hid (show S.put L = (0, { S with way := S.way ++ L, ever := S.ever ++ L }) from if_neg (by rw [← hn1, ← HM.out]; exact hfull))
    have HFU := Lib.hid (show n1 + m ≤ 1024 by omega)
    clear hn1
    go_wp2
    clear cc1 hwr hwr2 hfull hb1
    go_loopw [18] (fun y wr => ∃ (k : Nat) (x1 x2 : Value), k ≤ m ∧ y = .int .i64 (k : Nat) ∧ Hid (NetAt wr (fun k => av k ∨ w0.heap.size ≤ k) b x1 x2 vz ⟨S.way ++ L.take k, S.ever ++ L.take k, S.came⟩) ∧ Hid (Only (NFoot b (.slice a1 S.way.length c1) vy vz) w0 wr) ∧ Hid (∀ j, NFoot b x1 x2 vz j → NFoot b (.slice a1 S.way.length c1) vy vz j ∨ w0.heap.size ≤ j)) (fun y _ => m - (intOf y).toNat)
    case atStart => exact ⟨0, _, _, Nat.zero_le _, rfl, by rw [List.take_zero, List.append_nil, List.append_nil]; exact H.out, Only.refl _ _, fun j e => .inl e⟩
    case round =>
      obtain ⟨k, x1, x2, hk, rfl, HP, HO, HG⟩ := hrel
      by_cases hlt : k < m
      · have HLT := Lib.hid hlt
        have HKL := Lib.hid (show k < L.length by rw [← HM.out]; exact hlt)
        have HNF := Lib.hid (show ∀ j, na j → j < w0.heap.size ∧ ¬ NFoot b x1 x2 vz j from fun j hj => ⟨(HNA.out j hj).1, fun q => (HG.out j q).elim (HNA.out j hj).2 (fun p => by have := (HNA.out j hj).1; omega)⟩)
        obtain ⟨gi, oi, n, cx, px, ha, hga, _, hr, ht, hpx⟩ := HI.out.only HO.out (fun j hj => (HNA.out j hj).2) k HKL.out
        subst ha
        obtain ⟨s, hs⟩ : ∃ s, s = L.getD k snt0 := ⟨_, rfl⟩
        rw [← hs] at hr ht hpx
        have HSM := Lib.hid (show L.take (k + 1) = L.take k ++ [s] by rw [List.take_succ_eq_append_getElem HKL.out, hs, List.getD, List.getElem?_eq_getElem HKL.out]; rfl)
        have HDL0 := Lib.hid (show s.d.length ≤ 1000000 from HDD.out s (by rw [hs, List.getD, List.getElem?_eq_getElem HKL.out]; exact List.getElem_mem _))
        obtain ⟨f, t, dd⟩ := s
        have HDL := Lib.hid (show dd.length ≤ 1000000 from HDL0.out)
        have HR := Lib.hid (show wr.rangeAt gi (oi + k * 3) [.int .i64 f, .int .i64 t, .slice px n cx] from hr)
        have HTX := Lib.hid (show Txt wr px n cx dd from ht)
        have HNL := Lib.hid (show n = dd.length from ht.len)
        have HWR := Lib.hid HO.out.size
        obtain ⟨wa, wc, rfl, _⟩ := HP.out.way.form
        obtain ⟨ea, ec, rfl, _⟩ := HP.out.ever.form
        obtain ⟨wn, hwn⟩ : ∃ wn, wn = (S.way ++ L.take k).length := ⟨_, rfl⟩
        obtain ⟨en, hen⟩ : ∃ en, en = (S.ever ++ L.take k).length := ⟨_, rfl⟩
        have HP := Lib.hid (show NPart wr (fun k => av k ∨ w0.heap.size ≤ k) b (.slice wa wn wc) (.slice ea en ec) vz (.slice wa wn wc) (.slice ea en ec) (S.way ++ L.take k) (S.ever ++ L.take k) S.came by rw [hwn, hen]; exact HP.out.part)
        have HG := Lib.hid (show ∀ j, NFoot b (.slice wa wn wc) (.slice ea en ec) vz j → NFoot b (.slice a1 S.way.length c1) vy vz j ∨ w0.heap.size ≤ j by rw [hwn, hen]; exact HG.out)
        have HNX := Lib.hid (show ∀ g0 o0, px = some ⟨g0, o0, none⟩ → 0 < dd.length → ¬ NFoot b (.slice wa wn wc) (.slice ea en ec) vz g0 by rw [hwn, hen]; exact fun g0 o0 e h0 => (HNF.out g0 (hpx g0 o0 e h0)).2)
        have HwayN := Lib.hid hwn
        have HeverN := Lib.hid hen
        have hlw : wn ≤ 1024 := by rw [hwn, List.length_append, List.length_take]; have := HFU.out; have := HN1.out; omega
        have hle : en ≤ 1000000 := by rw [hen, List.length_append, List.length_take]; have := HKK.out; have := HLI.out.ever; omega
        have H63way := Lib.hid (show wn + 1 ≤ maxLen by unfold maxLen; omega)
        have HBYway := Lib.hid (show (wn + 1) * 40 ≤ 140737488355328 by omega)
        have H63ever := Lib.hid (show en + 1 ≤ maxLen by unfold maxLen; omega)
        have HBYever := Lib.hid (show (en + 1) * 40 ≤ 140737488355328 by omega)
        have HNBway := Lib.hid (show ¬ (Value.slice wa wn wc).ownBlock = some wr.heap.size from fun q => by have := HP.out.way.lt q; omega)
        have HNBever := Lib.hid (show ¬ (Value.slice ea en ec).ownBlock = some wr.heap.size from fun q => by have := HP.out.ever.lt q; omega)
        clear hs hr ht hpx hga hwn hen hlw hle HDL0
        go_wp2_with (first | (refine wpList_load_mid rfl 47 (.tmp 20) rfl gi (oi + k * 3) rfl [.int .i64 f, .int .i64 t, .slice px n cx] _ HR.out Try.underlying47 rfl size_sent ?_) | (refine wpList_store_abs rfl 47 (.tmp 6) (.tmp 21) rfl wr.heap.size #[.int .i64 f, .int .i64 t, .slice px n cx] (by rfl) (by rfl) 47 _ (Blk.new wr _ _) size_sent (by rfl) (by simp [Value.oneCell']) ?_; intro W hW p5; have hbw := hW.below ((Below.refl _ wr).alloc (Nat.le_refl _) _) (Nat.le_refl _); have HP := Lib.hid (HP.out.on hbw); have HTX := Lib.hid (HTX.out.below hbw); have HO2 := Lib.hid (Only.of_below (S := NFoot b (.slice wa wn wc) (.slice ea en ec) vz) hbw); have HS := Lib.hid p5; clear hW p5 hbw))
        generalize hbx : wr.heap.size = bx at *
        have HBX := Lib.hid hbx
        clear hbx
        refine wp_region_held_drew (S := fun W => Blk W bx #[.int .i64 f, .int .i64 t, .slice px n cx] 47) (by kernel_rfl) HS.out (fun _ => ?_)
        have hb : Below W.heap.size W (World.drew W) := (Below.refl _ _).drew
        have HS := Lib.hid (HS.out.on hb)
        have HP := Lib.hid (HP.out.on hb)
        have HTX := Lib.hid (HTX.out.below hb)
        have HO2 := Lib.hid (HO2.out.trans (Only.of_below hb))
        clear hb
        generalize World.drew W = v0 at *
        try simp only [Act.put, List.setIfInBounds_toArray, List.set_cons_succ, List.set_cons_zero]
        refine wpAnyH_take (i := 0) (oi := ⟨some 22, .move (.tmp 0), _, _, _, none⟩) (v := .pointer (some ⟨b, 0, none⟩)) rfl (by kernel_rfl) (by kernel_rfl) (by kernel_rfl) (fun _ _ _ h => h) (Or.inl ⟨by rfl, fun _ _ => by go_simp⟩) HS.out ?_
        try simp only [Act.put, List.setIfInBounds_toArray, List.set_cons_succ, List.set_cons_zero]
        refine wpAnyH_take (i := 1) (oi := ⟨some 23, .move (.tmp 0), _, _, _, none⟩) (v := .pointer (some ⟨b, 0, none⟩)) rfl (by kernel_rfl) (by kernel_rfl) (by kernel_rfl) (fun _ _ _ h => h) (Or.inl ⟨by rfl, fun _ _ => by go_simp⟩) HS.out ?_
        try simp only [Act.put, List.setIfInBounds_toArray, List.set_cons_succ, List.set_cons_zero]
        refine wpAnyH_take (i := 2) (oi := ⟨some 24, .move (.tmp 0), _, _, _, none⟩) (v := .pointer (some ⟨b, 0, none⟩)) rfl (by kernel_rfl) (by kernel_rfl) (by kernel_rfl) (fun _ _ _ h => h) (Or.inl ⟨by rfl, fun _ _ => by go_simp⟩) HS.out ?_
        try simp only [Act.put, List.setIfInBounds_toArray, List.set_cons_succ, List.set_cons_zero]
        refine wpAnyH_take (i := 3) (oi := ⟨some 25, .nilCheck (.tmp 24), _, _, _, none⟩) (v := .pointer (some ⟨b, 0, none⟩)) rfl (by kernel_rfl) (by kernel_rfl) (by kernel_rfl) (fun _ _ _ h => h) (Or.inl ⟨by rfl, fun _ _ => by go_simp⟩) HS.out ?_
        try simp only [Act.put, List.setIfInBounds_toArray, List.set_cons_succ, List.set_cons_zero]
        refine wpAnyH_take (i := 4) (oi := ⟨some 26, .fieldAddr 43 (.tmp 25) 1, _, _, _, none⟩) (v := .pointer (some ⟨b, 1, none⟩)) rfl (by kernel_rfl) (by kernel_rfl) (by kernel_rfl) (fun _ _ _ h => h) (Or.inl ⟨by rfl, fun _ _ => by go_simp⟩) HS.out ?_
        try simp only [Act.put, List.setIfInBounds_toArray, List.set_cons_succ, List.set_cons_zero]
        refine wpAnyH_take (i := 6) (oi := ⟨some 28, .load 47 (.tmp 6), 47, _, _, none⟩) (v := .agg #[.int .i64 f, .int .i64 t, .slice px n cx]) rfl (by kernel_rfl) (by kernel_rfl) (by kernel_rfl) (fun _ _ _ h => h) (Or.inl ⟨by rfl, fun vv hvv => yields_row 47 (.tmp 6) rfl bx rfl hvv _ Try.underlying47 rfl size_sent⟩) HS.out ?_
        try simp only [Act.put, List.setIfInBounds_toArray, List.set_cons_succ, List.set_cons_zero]
        refine wpAnyH_take (i := 10) (oi := ⟨some 32, .move (.tmp 0), _, _, _, none⟩) (v := .pointer (some ⟨b, 0, none⟩)) rfl (by kernel_rfl) (by kernel_rfl) (by kernel_rfl) (fun _ _ _ h => h) (Or.inl ⟨by rfl, fun _ _ => by go_simp⟩) HS.out ?_
        try simp only [Act.put, List.setIfInBounds_toArray, List.set_cons_succ, List.set_cons_zero]
        refine wpAnyH_take (i := 11) (oi := ⟨some 33, .nilCheck (.tmp 32), _, _, _, none⟩) (v := .pointer (some ⟨b, 0, none⟩)) rfl (by kernel_rfl) (by kernel_rfl) (by kernel_rfl) (fun _ _ _ h => h) (Or.inl ⟨by rfl, fun _ _ => by go_simp⟩) HS.out ?_
        try simp only [Act.put, List.setIfInBounds_toArray, List.set_cons_succ, List.set_cons_zero]
        refine wpAnyH_take (i := 12) (oi := ⟨some 34, .fieldAddr 43 (.tmp 33) 2, _, _, _, none⟩) (v := .pointer (some ⟨b, 2, none⟩)) rfl (by kernel_rfl) (by kernel_rfl) (by kernel_rfl) (fun _ _ _ h => h) (Or.inl ⟨by rfl, fun _ _ => by go_simp⟩) HS.out ?_
        try simp only [Act.put, List.setIfInBounds_toArray, List.set_cons_succ, List.set_cons_zero]
        refine wpAnyH_take (i := 14) (oi := ⟨some 36, .load 47 (.tmp 6), 47, _, _, none⟩) (v := .agg #[.int .i64 f, .int .i64 t, .slice px n cx]) rfl (by kernel_rfl) (by kernel_rfl) (by kernel_rfl) (fun _ _ _ h => h) (Or.inl ⟨by rfl, fun vv hvv => yields_row 47 (.tmp 6) rfl bx rfl hvv _ Try.underlying47 rfl size_sent⟩) HS.out ?_
        try simp only [Act.put, List.setIfInBounds_toArray, List.set_cons_succ, List.set_cons_zero]
        refine wpAnyH_ready (rs := [5, 7, 13]) (by kernel_rfl) (by simp) ?_
        refine AllReadyH.cons (o := ⟨some 27, .load 41 (.tmp 26), 41, _, _, none⟩) rfl (fun K hK => ?_) (AllReadyH.cons (o := ⟨some 29, .call { callee := .value (.func 84), args := #[.tmp 28], argTypes := #[47] }, 47, _, _, none⟩) rfl (fun K hK => ?_) (AllReadyH.cons (o := ⟨some 35, .load 41 (.tmp 34), 41, _, _, none⟩) rfl (fun K hK => ?_) AllReadyH.nil))
        · have c1 := HP.out.c1
          refine wp_of_yields' (v := .slice wa wn wc) (by unfold execOp; go_simp) ?_
          clear c1
          refine hK _ _ HS.out (fun _ => ?_)
          clear hK K
          try simp only [Act.put, List.setIfInBounds_toArray, List.set_cons_succ, List.set_cons_zero]
          refine wpAnyH_ready (rs := [7, 13]) (by kernel_rfl) (by simp) ?_
          refine AllReadyH.cons (o := ⟨some 29, .call { callee := .value (.func 84), args := #[.tmp 28], argTypes := #[47] }, 47, _, _, none⟩) rfl (fun K hK => ?_) (AllReadyH.cons (o := ⟨some 35, .load 41 (.tmp 34), 41, _, _, none⟩) rfl (fun K hK => ?_) AllReadyH.nil)
          · go_simp
            refine (own_walk f t px n cx dd HDL.out v0 HTX.out).mono ?_
            rintro e v2 ⟨g1, rfl, hB1, hge, hb⟩
            have hsz : bx ≤ v0.heap.size := (by rw [← HBX.out]; exact HO2.out.size)
            have HS := Lib.hid (HS.out.on hb)
            have HP := Lib.hid (HP.out.on hb)
            have HTX := Lib.hid (HTX.out.below hb)
            have HO2 := Lib.hid (HO2.out.trans (Only.of_below hb))
            have HX_g1 := Lib.hid (Tn.of_blkn (av := fun k => av k ∨ w0.heap.size ≤ k) hB1 HNL.out (show av g1 ∨ w0.heap.size ≤ g1 from .inr (Nat.le_trans HWR.out (Nat.le_trans hsz hge))))
            clear hb hB1 hge hsz
            refine hK _ _ HS.out (fun _ => ?_)
            clear hK K
            try simp only [Act.put, List.setIfInBounds_toArray, List.set_cons_succ, List.set_cons_zero]
            refine wpAnyH_ready (rs := [8, 13]) (by kernel_rfl) (by simp) ?_
            refine AllReadyH.cons (o := ⟨some 30, .buildSlice 41 1 #[(0, .tmp 29)], 41, _, _, none⟩) rfl (fun K hK => ?_) (AllReadyH.cons (o := ⟨some 35, .load 41 (.tmp 34), 41, _, _, none⟩) rfl (fun K hK => ?_) AllReadyH.nil)
            · go_simp
              have BJ1 := Blk.new v2 #[.int .i64 f, .int .i64 t, .slice (some ⟨g1, 0, none⟩) n n] 47
              have hb := below_one' v2 (.cells #[.int .i64 f, .int .i64 t, .slice (some ⟨g1, 0, none⟩) n n] 47)
              generalize World.alloc v2 _ = v3 at *
              have HS := Lib.hid (HS.out.on hb)
              have HP := Lib.hid (HP.out.on hb)
              have HTX := Lib.hid (HTX.out.below hb)
              have HO2 := Lib.hid (HO2.out.trans (Only.of_below hb))
              have HX_g1 := Lib.hid (HX_g1.out.on hb)
              replace BJ1 := Lib.hid BJ1
              clear hb
              refine hK _ _ HS.out (fun _ => ?_)
              clear hK K
              try simp only [Act.put, List.setIfInBounds_toArray, List.set_cons_succ, List.set_cons_zero]
              refine wpAnyH_ready (rs := [9, 13]) (by kernel_rfl) (by simp) ?_
              refine AllReadyH.cons (o := ⟨some 31, .call { callee := .builtin .append, args := #[.tmp 27, .tmp 30], argTypes := #[41, 41] }, 41, _, _, none⟩) rfl (fun K hK => ?_) (AllReadyH.cons (o := ⟨some 35, .load 41 (.tmp 34), 41, _, _, none⟩) rfl (fun K hK => ?_) AllReadyH.nil)
              · obtain ⟨ls, hw, hw2⟩ := HP.out.way
                rw [← HwayN.out] at hw
                have HWS := Lib.hid hw
                have HW2 := Lib.hid hw2
                clear hw hw2
                refine wp_append_row (.tmp 27) (.tmp 30) 41 47 rfl (.agg #[.int .i64 0, .int .i64 0, .slice none 0 0]) 3 40 Try.underlying41 info_sent (by rfl) (by decide) (.slice wa wn wc) wn (ncells ls) (by rfl) HWS.out _ 1 [.int .i64 f, .int .i64 t, .slice (some ⟨g1, 0, none⟩) n n] (by rfl) (by rfl) BJ1.out (by simp [Value.oneCell']) H63way.out HBYway.out ?_
                intro a7 c7 v4 hO hg hat
                have HP := Lib.hid (HP.out.app_way (s := ⟨f, t, dd⟩) HwayN.out hg hO HW2.out HX_g1.out hat)
                have HGway := Lib.hid (show ∀ j, (Value.slice a7 (wn + 1) c7).ownBlock = some j → ((.slice wa wn wc) : Value).ownBlock = some j ∨ bx ≤ j from fun j e => (hat j e).imp id (fun q => by rw [q, ← HBX.out]; exact HO2.out.size))
                have HS := Lib.hid ((Only.grown (S := fun j => ((.slice wa wn wc) : Value).ownBlock = some j) hg (fun j e => e)).blk HS.out (HNBway.out))
                have HTX := Lib.hid (HTX.out.onlyT (Only.grown (S := fun j => ((.slice wa wn wc) : Value).ownBlock = some j) hg (fun j e => e)) (fun g0 o0 e h0 q => HNX.out g0 o0 e h0 (.inr (.inl q))))
                have HO2 := Lib.hid (HO2.out.trans (Only.grown (S := NFoot b (.slice wa wn wc) (.slice ea en ec) vz) hg (fun j e => .inr (.inl e))))
                clear hO hg hat HWS HW2 HX_g1 BJ1
                refine hK _ _ HS.out (fun _ => ?_)
                clear hK K
                try simp only [Act.put, List.setIfInBounds_toArray, List.set_cons_succ, List.set_cons_zero]
                refine wpAnyH_ready (rs := [13, 15]) (by kernel_rfl) (by simp) ?_
                refine AllReadyH.cons (o := ⟨some 35, .load 41 (.tmp 34), 41, _, _, none⟩) rfl (fun K hK => ?_) (AllReadyH.cons (o := ⟨some 37, .call { callee := .value (.func 84), args := #[.tmp 36], argTypes := #[47] }, 47, _, _, none⟩) rfl (fun K hK => ?_) AllReadyH.nil)
                · have c1 := HP.out.c2
                  refine wp_of_yields' (v := .slice ea en ec) (by unfold execOp; go_simp) ?_
                  clear c1
                  refine hK _ _ HS.out (fun _ => ?_)
                  clear hK K
                  try simp only [Act.put, List.setIfInBounds_toArray, List.set_cons_succ, List.set_cons_zero]
                  refine wpAnyH_ready (rs := [15]) (by kernel_rfl) (by simp) ?_
                  refine AllReadyH.cons (o := ⟨some 37, .call { callee := .value (.func 84), args := #[.tmp 36], argTypes := #[47] }, 47, _, _, none⟩) rfl (fun K hK => ?_) AllReadyH.nil
                  go_simp
                  refine (own_walk f t px n cx dd HDL.out v4 HTX.out).mono ?_
                  rintro e v6 ⟨g2, rfl, hB1, hge, hb⟩
                  have hsz : bx ≤ v4.heap.size := (by rw [← HBX.out]; exact HO2.out.size)
                  have HS := Lib.hid (HS.out.on hb)
                  have HP := Lib.hid (HP.out.on hb)
                  have HTX := Lib.hid (HTX.out.below hb)
                  have HO2 := Lib.hid (HO2.out.trans (Only.of_below hb))
                  have HX_g2 := Lib.hid (Tn.of_blkn (av := fun k => av k ∨ w0.heap.size ≤ k) hB1 HNL.out (show av g2 ∨ w0.heap.size ≤ g2 from .inr (Nat.le_trans HWR.out (Nat.le_trans hsz hge))))
                  clear hb hB1 hge hsz
                  refine hK _ _ HS.out (fun _ => ?_)
                  clear hK K
                  try simp only [Act.put, List.setIfInBounds_toArray, List.set_cons_succ, List.set_cons_zero]
                  refine wpAnyH_ready (rs := [16]) (by kernel_rfl) (by simp) ?_
                  refine AllReadyH.cons (o := ⟨some 38, .buildSlice 41 1 #[(0, .tmp 37)], 41, _, _, none⟩) rfl (fun K hK => ?_) AllReadyH.nil
                  go_simp
                  have BJ2 := Blk.new v6 #[.int .i64 f, .int .i64 t, .slice (some ⟨g2, 0, none⟩) n n] 47
                  have hb := below_one' v6 (.cells #[.int .i64 f, .int .i64 t, .slice (some ⟨g2, 0, none⟩) n n] 47)
                  generalize World.alloc v6 _ = v7 at *
                  have HS := Lib.hid (HS.out.on hb)
                  have HP := Lib.hid (HP.out.on hb)
                  have HTX := Lib.hid (HTX.out.below hb)
                  have HO2 := Lib.hid (HO2.out.trans (Only.of_below hb))
                  have HX_g2 := Lib.hid (HX_g2.out.on hb)
                  replace BJ2 := Lib.hid BJ2
                  clear hb
                  refine hK _ _ HS.out (fun _ => ?_)
                  clear hK K
                  try simp only [Act.put, List.setIfInBounds_toArray, List.set_cons_succ, List.set_cons_zero]
                  refine wpAnyH_ready (rs := [17]) (by kernel_rfl) (by simp) ?_
                  refine AllReadyH.cons (o := ⟨some 39, .call { callee := .builtin .append, args := #[.tmp 35, .tmp 38], argTypes := #[41, 41] }, 41, _, _, none⟩) rfl (fun K hK => ?_) AllReadyH.nil
                  obtain ⟨ls, hw, hw2⟩ := HP.out.ever
                  rw [← HeverN.out] at hw
                  have HWS := Lib.hid hw
                  have HW2 := Lib.hid hw2
                  clear hw hw2
                  refine wp_append_row (.tmp 35) (.tmp 38) 41 47 rfl (.agg #[.int .i64 0, .int .i64 0, .slice none 0 0]) 3 40 Try.underlying41 info_sent (by rfl) (by decide) (.slice ea en ec) en (ncells ls) (by rfl) HWS.out _ 1 [.int .i64 f, .int .i64 t, .slice (some ⟨g2, 0, none⟩) n n] (by rfl) (by rfl) BJ2.out (by simp [Value.oneCell']) H63ever.out HBYever.out ?_
                  intro a8 c8 v8 hO hg hat
                  have HP := Lib.hid (HP.out.app_ever (s := ⟨f, t, dd⟩) HeverN.out hg hO HW2.out HX_g2.out hat)
                  have HGever := Lib.hid (show ∀ j, (Value.slice a8 (en + 1) c8).ownBlock = some j → ((.slice ea en ec) : Value).ownBlock = some j ∨ bx ≤ j from fun j e => (hat j e).imp id (fun q => by rw [q, ← HBX.out]; exact HO2.out.size))
                  have HS := Lib.hid ((Only.grown (S := fun j => ((.slice ea en ec) : Value).ownBlock = some j) hg (fun j e => e)).blk HS.out (HNBever.out))
                  have HTX := Lib.hid (HTX.out.onlyT (Only.grown (S := fun j => ((.slice ea en ec) : Value).ownBlock = some j) hg (fun j e => e)) (fun g0 o0 e h0 q => HNX.out g0 o0 e h0 (.inr (.inr (.inl q)))))
                  have HO2 := Lib.hid (HO2.out.trans (Only.grown (S := NFoot b (.slice wa wn wc) (.slice ea en ec) vz) hg (fun j e => .inr (.inr (.inl e)))))
                  clear hO hg hat HWS HW2 HX_g2 BJ2
                  refine hK _ _ HS.out (fun _ => ?_)
                  clear hK K
                  try simp only [Act.put, List.setIfInBounds_toArray, List.set_cons_succ, List.set_cons_zero]
                  refine wpAnyH_take (i := 18) (oi := ⟨some 40, .nilCheck (.tmp 22), _, _, _, none⟩) (v := .pointer (some ⟨b, 0, none⟩)) rfl (by kernel_rfl) (by kernel_rfl) (by kernel_rfl) (fun _ _ _ h => h) (Or.inl ⟨by rfl, fun _ _ => by go_simp⟩) HS.out ?_
                  try simp only [Act.put, List.setIfInBounds_toArray, List.set_cons_succ, List.set_cons_zero]
                  refine wpAnyH_take (i := 19) (oi := ⟨some 41, .fieldAddr 43 (.tmp 40) 1, _, _, _, none⟩) (v := .pointer (some ⟨b, 1, none⟩)) rfl (by kernel_rfl) (by kernel_rfl) (by kernel_rfl) (fun _ _ _ h => h) (Or.inl ⟨by rfl, fun _ _ => by go_simp⟩) HS.out ?_
                  try simp only [Act.put, List.setIfInBounds_toArray, List.set_cons_succ, List.set_cons_zero]
                  refine wpAnyH_ready (rs := [20]) (by kernel_rfl) (by simp) ?_
                  refine AllReadyH.cons (o := ⟨none, .store 41 (.tmp 41) (.tmp 31), _, _, _, none⟩) rfl (fun K hK => ?_) AllReadyH.nil
                  refine wp_store_one (.tmp 41) (.tmp 31) 41 size_sents rfl b 1 (.slice a7 (wn + 1) c7) (by rfl) (by rfl) (by rfl) (by rfl) HP.out.blk (by simp) ?_
                  intro v9 hW hB
                  have HS := Lib.hid (hW.blk HS.out (blk_type_ne HS.out HP.out.blk (by decide)))
                  have HP := Lib.hid (HP.out.store1 hW hB)
                  have HO2 := Lib.hid (HO2.out.trans (Only.wrote (S := NFoot b (.slice wa wn wc) (.slice ea en ec) vz) hW (.inl rfl)))
                  clear hW hB
                  refine hK _ _ HS.out (fun _ => ?_)
                  clear hK K
                  try simp only [Act.put, List.setIfInBounds_toArray, List.set_cons_succ, List.set_cons_zero]
                  refine wpAnyH_take (i := 21) (oi := ⟨some 42, .nilCheck (.tmp 23), _, _, _, none⟩) (v := .pointer (some ⟨b, 0, none⟩)) rfl (by kernel_rfl) (by kernel_rfl) (by kernel_rfl) (fun _ _ _ h => h) (Or.inl ⟨by rfl, fun _ _ => by go_simp⟩) HS.out ?_
                  try simp only [Act.put, List.setIfInBounds_toArray, List.set_cons_succ, List.set_cons_zero]
                  refine wpAnyH_take (i := 22) (oi := ⟨some 43, .fieldAddr 43 (.tmp 42) 2, _, _, _, none⟩) (v := .pointer (some ⟨b, 2, none⟩)) rfl (by kernel_rfl) (by kernel_rfl) (by kernel_rfl) (fun _ _ _ h => h) (Or.inl ⟨by rfl, fun _ _ => by go_simp⟩) HS.out ?_
                  try simp only [Act.put, List.setIfInBounds_toArray, List.set_cons_succ, List.set_cons_zero]
                  refine wpAnyH_ready (rs := [23]) (by kernel_rfl) (by simp) ?_
                  refine AllReadyH.cons (o := ⟨none, .store 41 (.tmp 43) (.tmp 39), _, _, _, none⟩) rfl (fun K hK => ?_) AllReadyH.nil
                  refine wp_store_one (.tmp 43) (.tmp 39) 41 size_sents rfl b 2 (.slice a8 (en + 1) c8) (by rfl) (by rfl) (by rfl) (by rfl) HP.out.blk (by simp) ?_
                  intro v10 hW hB
                  have HS := Lib.hid (hW.blk HS.out (blk_type_ne HS.out HP.out.blk (by decide)))
                  have HP := Lib.hid (HP.out.store2 hW hB)
                  have HO2 := Lib.hid (HO2.out.trans (Only.wrote (S := NFoot b (.slice wa wn wc) (.slice ea en ec) vz) hW (.inl rfl)))
                  clear hW hB
                  refine hK _ _ HS.out (fun _ => ?_)
                  clear hK K
                  try simp only [Act.put, List.setIfInBounds_toArray, List.set_cons_succ, List.set_cons_zero]
                  refine wpAnyH_done (by kernel_rfl) ?_ _
                  go_wp2
                  go_roundw
                  case rel => exact ⟨k + 1, .slice a7 (wn + 1) c7, .slice a8 (en + 1) c8, by have := HLT.out; omega, by go_num, by rw [HSM.out, ← List.append_assoc, ← List.append_assoc]; exact HP.out.whole, HO.out.trans' HO2.out HG.out, fun j q => by
                    rcases q with e | e | e | e
                    · exact HG.out j (.inl e)
                    · exact (HGway.out j e).elim (fun p => HG.out j (.inr (.inl p))) (fun p => .inr (Nat.le_trans HWR.out p))
                    · exact (HGever.out j e).elim (fun p => HG.out j (.inr (.inr (.inl p)))) (fun p => .inr (Nat.le_trans HWR.out p))
                    · exact HG.out j (.inr (.inr (.inr e)))⟩
                  case measure => have := HLT.out; simp [intOf]; omega
                · go_simp
                  refine (own_walk f t px n cx dd HDL.out v4 HTX.out).mono ?_
                  rintro e v11 ⟨g2, rfl, hB1, hge, hb⟩
                  have hsz : bx ≤ v4.heap.size := (by rw [← HBX.out]; exact HO2.out.size)
                  have HS := Lib.hid (HS.out.on hb)
                  have HP := Lib.hid (HP.out.on hb)
                  have HTX := Lib.hid (HTX.out.below hb)
                  have HO2 := Lib.hid (HO2.out.trans (Only.of_below hb))
                  have HX_g2 := Lib.hid (Tn.of_blkn (av := fun k => av k ∨ w0.heap.size ≤ k) hB1 HNL.out (show av g2 ∨ w0.heap.size ≤ g2 from .inr (Nat.le_trans HWR.out (Nat.le_trans hsz hge))))
                  clear hb hB1 hge hsz
                  refine hK _ _ HS.out (fun _ => ?_)
                  clear hK K
                  try simp only [Act.put, List.setIfInBounds_toArray, List.set_cons_succ, List.set_cons_zero]
                  refine wpAnyH_ready (rs := [13, 16]) (by kernel_rfl) (by simp) ?_
                  refine AllReadyH.cons (o := ⟨some 35, .load 41 (.tmp 34), 41, _, _, none⟩) rfl (fun K hK => ?_) (AllReadyH.cons (o := ⟨some 38, .buildSlice 41 1 #[(0, .tmp 37)], 41, _, _, none⟩) rfl (fun K hK => ?_) AllReadyH.nil)
                  · have c1 := HP.out.c2
                    refine wp_of_yields' (v := .slice ea en ec) (by unfold execOp; go_simp) ?_
                    clear c1
                    refine hK _ _ HS.out (fun _ => ?_)
                    clear hK K
                    try simp only [Act.put, List.setIfInBounds_toArray, List.set_cons_succ, List.set_cons_zero]
                    refine wpAnyH_ready (rs := [16]) (by kernel_rfl) (by simp) ?_
                    refine AllReadyH.cons (o := ⟨some 38, .buildSlice 41 1 #[(0, .tmp 37)], 41, _, _, none⟩) rfl (fun K hK => ?_) AllReadyH.nil
                    go_simp
                    have BJ2 := Blk.new v11 #[.int .i64 f, .int .i64 t, .slice (some ⟨g2, 0, none⟩) n n] 47
                    have hb := below_one' v11 (.cells #[.int .i64 f, .int .i64 t, .slice (some ⟨g2, 0, none⟩) n n] 47)
                    generalize World.alloc v11 _ = v13 at *
                    have HS := Lib.hid (HS.out.on hb)
                    have HP := Lib.hid (HP.out.on hb)
                    have HTX := Lib.hid (HTX.out.below hb)
                    have HO2 := Lib.hid (HO2.out.trans (Only.of_below hb))
                    have HX_g2 := Lib.hid (HX_g2.out.on hb)
                    replace BJ2 := Lib.hid BJ2
                    clear hb
                    refine hK _ _ HS.out (fun _ => ?_)
                    clear hK K
                    try simp only [Act.put, List.setIfInBounds_toArray, List.set_cons_succ, List.set_cons_zero]
                    refine wpAnyH_ready (rs := [17]) (by kernel_rfl) (by simp) ?_
                    refine AllReadyH.cons (o := ⟨some 39, .call { callee := .builtin .append, args := #[.tmp 35, .tmp 38], argTypes := #[41, 41] }, 41, _, _, none⟩) rfl (fun K hK => ?_) AllReadyH.nil
                    obtain ⟨ls, hw, hw2⟩ := HP.out.ever
                    rw [← HeverN.out] at hw
                    have HWS := Lib.hid hw
                    have HW2 := Lib.hid hw2
                    clear hw hw2
                    refine wp_append_row (.tmp 35) (.tmp 38) 41 47 rfl (.agg #[.int .i64 0, .int .i64 0, .slice none 0 0]) 3 40 Try.underlying41 info_sent (by rfl) (by decide) (.slice ea en ec) en (ncells ls) (by rfl) HWS.out _ 1 [.int .i64 f, .int .i64 t, .slice (some ⟨g2, 0, none⟩) n n] (by rfl) (by rfl) BJ2.out (by simp [Value.oneCell']) H63ever.out HBYever.out ?_
                    intro a8 c8 v14 hO hg hat
                    have HP := Lib.hid (HP.out.app_ever (s := ⟨f, t, dd⟩) HeverN.out hg hO HW2.out HX_g2.out hat)
                    have HGever := Lib.hid (show ∀ j, (Value.slice a8 (en + 1) c8).ownBlock = some j → ((.slice ea en ec) : Value).ownBlock = some j ∨ bx ≤ j from fun j e => (hat j e).imp id (fun q => by rw [q, ← HBX.out]; exact HO2.out.size))
                    have HS := Lib.hid ((Only.grown (S := fun j => ((.slice ea en ec) : Value).ownBlock = some j) hg (fun j e => e)).blk HS.out (HNBever.out))
                    have HTX := Lib.hid (HTX.out.onlyT (Only.grown (S := fun j => ((.slice ea en ec) : Value).ownBlock = some j) hg (fun j e => e)) (fun g0 o0 e h0 q => HNX.out g0 o0 e h0 (.inr (.inr (.inl q)))))
                    have HO2 := Lib.hid (HO2.out.trans (Only.grown (S := NFoot b (.slice wa wn wc) (.slice ea en ec) vz) hg (fun j e => .inr (.inr (.inl e)))))
                    clear hO hg hat HWS HW2 HX_g2 BJ2
                    refine hK _ _ HS.out (fun _ => ?_)
                    clear hK K
                    try simp only [Act.put, List.setIfInBounds_toArray, List.set_cons_succ, List.set_cons_zero]
                    refine wpAnyH_take (i := 18) (oi := ⟨some 40, .nilCheck (.tmp 22), _, _, _, none⟩) (v := .pointer (some ⟨b, 0, none⟩)) rfl (by kernel_rfl) (by kernel_rfl) (by kernel_rfl) (fun _ _ _ h => h) (Or.inl ⟨by rfl, fun _ _ => by go_simp⟩) HS.out ?_
                    try simp only [Act.put, List.setIfInBounds_toArray, List.set_cons_succ, List.set_cons_zero]
                    refine wpAnyH_take (i := 19) (oi := ⟨some 41, .fieldAddr 43 (.tmp 40) 1, _, _, _, none⟩) (v := .pointer (some ⟨b, 1, none⟩)) rfl (by kernel_rfl) (by kernel_rfl) (by kernel_rfl) (fun _ _ _ h => h) (Or.inl ⟨by rfl, fun _ _ => by go_simp⟩) HS.out ?_
                    try simp only [Act.put, List.setIfInBounds_toArray, List.set_cons_succ, List.set_cons_zero]
                    refine wpAnyH_ready (rs := [20]) (by kernel_rfl) (by simp) ?_
                    refine AllReadyH.cons (o := ⟨none, .store 41 (.tmp 41) (.tmp 31), _, _, _, none⟩) rfl (fun K hK => ?_) AllReadyH.nil
                    refine wp_store_one (.tmp 41) (.tmp 31) 41 size_sents rfl b 1 (.slice a7 (wn + 1) c7) (by rfl) (by rfl) (by rfl) (by rfl) HP.out.blk (by simp) ?_
                    intro v15 hW hB
                    have HS := Lib.hid (hW.blk HS.out (blk_type_ne HS.out HP.out.blk (by decide)))
                    have HP := Lib.hid (HP.out.store1 hW hB)
                    have HO2 := Lib.hid (HO2.out.trans (Only.wrote (S := NFoot b (.slice wa wn wc) (.slice ea en ec) vz) hW (.inl rfl)))
                    clear hW hB
                    refine hK _ _ HS.out (fun _ => ?_)
                    clear hK K
                    try simp only [Act.put, List.setIfInBounds_toArray, List.set_cons_succ, List.set_cons_zero]
                    refine wpAnyH_take (i := 21) (oi := ⟨some 42, .nilCheck (.tmp 23), _, _, _, none⟩) (v := .pointer (some ⟨b, 0, none⟩)) rfl (by kernel_rfl) (by kernel_rfl) (by kernel_rfl) (fun _ _ _ h => h) (Or.inl ⟨by rfl, fun _ _ => by go_simp⟩) HS.out ?_
                    try simp only [Act.put, List.setIfInBounds_toArray, List.set_cons_succ, List.set_cons_zero]
                    refine wpAnyH_take (i := 22) (oi := ⟨some 43, .fieldAddr 43 (.tmp 42) 2, _, _, _, none⟩) (v := .pointer (some ⟨b, 2, none⟩)) rfl (by kernel_rfl) (by kernel_rfl) (by kernel_rfl) (fun _ _ _ h => h) (Or.inl ⟨by rfl, fun _ _ => by go_simp⟩) HS.out ?_
                    try simp only [Act.put, List.setIfInBounds_toArray, List.set_cons_succ, List.set_cons_zero]
                    refine wpAnyH_ready (rs := [23]) (by kernel_rfl) (by simp) ?_
                    refine AllReadyH.cons (o := ⟨none, .store 41 (.tmp 43) (.tmp 39), _, _, _, none⟩) rfl (fun K hK => ?_) AllReadyH.nil
                    refine wp_store_one (.tmp 43) (.tmp 39) 41 size_sents rfl b 2 (.slice a8 (en + 1) c8) (by rfl) (by rfl) (by rfl) (by rfl) HP.out.blk (by simp) ?_
                    intro v16 hW hB
                    have HS := Lib.hid (hW.blk HS.out (blk_type_ne HS.out HP.out.blk (by decide)))
                    have HP := Lib.hid (HP.out.store2 hW hB)
                    have HO2 := Lib.hid (HO2.out.trans (Only.wrote (S := NFoot b (.slice wa wn wc) (.slice ea en ec) vz) hW (.inl rfl)))
                    clear hW hB
                    refine hK _ _ HS.out (fun _ => ?_)
                    clear hK K
                    try simp only [Act.put, List.setIfInBounds_toArray, List.set_cons_succ, List.set_cons_zero]
                    refine wpAnyH_done (by kernel_rfl) ?_ _
                    go_wp2
                    go_roundw
                    case rel => exact ⟨k + 1, .slice a7 (wn + 1) c7, .slice a8 (en + 1) c8, by have := HLT.out; omega, by go_num, by rw [HSM.out, ← List.append_assoc, ← List.append_assoc]; exact HP.out.whole, HO.out.trans' HO2.out HG.out, fun j q => by
                      rcases q with e | e | e | e
                      · exact HG.out j (.inl e)
                      · exact (HGway.out j e).elim (fun p => HG.out j (.inr (.inl p))) (fun p => .inr (Nat.le_trans HWR.out p))
                      · exact (HGever.out j e).elim (fun p => HG.out j (.inr (.inr (.inl p)))) (fun p => .inr (Nat.le_trans HWR.out p))
                      · exact HG.out j (.inr (.inr (.inr e)))⟩
                    case measure => have := HLT.out; simp [intOf]; omega
                  · go_simp
                    have BJ2 := Blk.new v11 #[.int .i64 f, .int .i64 t, .slice (some ⟨g2, 0, none⟩) n n] 47
                    have hb := below_one' v11 (.cells #[.int .i64 f, .int .i64 t, .slice (some ⟨g2, 0, none⟩) n n] 47)
                    generalize World.alloc v11 _ = v17 at *
                    have HS := Lib.hid (HS.out.on hb)
                    have HP := Lib.hid (HP.out.on hb)
                    have HTX := Lib.hid (HTX.out.below hb)
                    have HO2 := Lib.hid (HO2.out.trans (Only.of_below hb))
                    have HX_g2 := Lib.hid (HX_g2.out.on hb)
                    replace BJ2 := Lib.hid BJ2
                    clear hb
                    refine hK _ _ HS.out (fun _ => ?_)
                    clear hK K
                    try simp only [Act.put, List.setIfInBounds_toArray, List.set_cons_succ, List.set_cons_zero]
                    refine wpAnyH_ready (rs := [13]) (by kernel_rfl) (by simp) ?_
                    refine AllReadyH.cons (o := ⟨some 35, .load 41 (.tmp 34), 41, _, _, none⟩) rfl (fun K hK => ?_) AllReadyH.nil
                    have c1 := HP.out.c2
                    refine wp_of_yields' (v := .slice ea en ec) (by unfold execOp; go_simp) ?_
                    clear c1
                    refine hK _ _ HS.out (fun _ => ?_)
                    clear hK K
                    try simp only [Act.put, List.setIfInBounds_toArray, List.set_cons_succ, List.set_cons_zero]
                    refine wpAnyH_ready (rs := [17]) (by kernel_rfl) (by simp) ?_
                    refine AllReadyH.cons (o := ⟨some 39, .call { callee := .builtin .append, args := #[.tmp 35, .tmp 38], argTypes := #[41, 41] }, 41, _, _, none⟩) rfl (fun K hK => ?_) AllReadyH.nil
                    obtain ⟨ls, hw, hw2⟩ := HP.out.ever
                    rw [← HeverN.out] at hw
                    have HWS := Lib.hid hw
                    have HW2 := Lib.hid hw2
                    clear hw hw2
                    refine wp_append_row (.tmp 35) (.tmp 38) 41 47 rfl (.agg #[.int .i64 0, .int .i64 0, .slice none 0 0]) 3 40 Try.underlying41 info_sent (by rfl) (by decide) (.slice ea en ec) en (ncells ls) (by rfl) HWS.out _ 1 [.int .i64 f, .int .i64 t, .slice (some ⟨g2, 0, none⟩) n n] (by rfl) (by rfl) BJ2.out (by simp [Value.oneCell']) H63ever.out HBYever.out ?_
                    intro a8 c8 v19 hO hg hat
                    have HP := Lib.hid (HP.out.app_ever (s := ⟨f, t, dd⟩) HeverN.out hg hO HW2.out HX_g2.out hat)
                    have HGever := Lib.hid (show ∀ j, (Value.slice a8 (en + 1) c8).ownBlock = some j → ((.slice ea en ec) : Value).ownBlock = some j ∨ bx ≤ j from fun j e => (hat j e).imp id (fun q => by rw [q, ← HBX.out]; exact HO2.out.size))
                    have HS := Lib.hid ((Only.grown (S := fun j => ((.slice ea en ec) : Value).ownBlock = some j) hg (fun j e => e)).blk HS.out (HNBever.out))
                    have HTX := Lib.hid (HTX.out.onlyT (Only.grown (S := fun j => ((.slice ea en ec) : Value).ownBlock = some j) hg (fun j e => e)) (fun g0 o0 e h0 q => HNX.out g0 o0 e h0 (.inr (.inr (.inl q)))))
                    have HO2 := Lib.hid (HO2.out.trans (Only.grown (S := NFoot b (.slice wa wn wc) (.slice ea en ec) vz) hg (fun j e => .inr (.inr (.inl e)))))
                    clear hO hg hat HWS HW2 HX_g2 BJ2
                    refine hK _ _ HS.out (fun _ => ?_)
                    clear hK K
                    try simp only [Act.put, List.setIfInBounds_toArray, List.set_cons_succ, List.set_cons_zero]
                    refine wpAnyH_take (i := 18) (oi := ⟨some 40, .nilCheck (.tmp 22), _, _, _, none⟩) (v := .pointer (some ⟨b, 0, none⟩)) rfl (by kernel_rfl) (by kernel_rfl) (by kernel_rfl) (fun _ _ _ h => h) (Or.inl ⟨by rfl, fun _ _ => by go_simp⟩) HS.out ?_
                    try simp only [Act.put, List.setIfInBounds_toArray, List.set_cons_succ, List.set_cons_zero]
                    refine wpAnyH_take (i := 19) (oi := ⟨some 41, .fieldAddr 43 (.tmp 40) 1, _, _, _, none⟩) (v := .pointer (some ⟨b, 1, none⟩)) rfl (by kernel_rfl) (by kernel_rfl) (by kernel_rfl) (fun _ _ _ h => h) (Or.inl ⟨by rfl, fun _ _ => by go_simp⟩) HS.out ?_
                    try simp only [Act.put, List.setIfInBounds_toArray, List.set_cons_succ, List.set_cons_zero]
                    refine wpAnyH_ready (rs := [20]) (by kernel_rfl) (by simp) ?_
                    refine AllReadyH.cons (o := ⟨none, .store 41 (.tmp 41) (.tmp 31), _, _, _, none⟩) rfl (fun K hK => ?_) AllReadyH.nil
                    refine wp_store_one (.tmp 41) (.tmp 31) 41 size_sents rfl b 1 (.slice a7 (wn + 1) c7) (by rfl) (by rfl) (by rfl) (by rfl) HP.out.blk (by simp) ?_
                    intro v20 hW hB
                    have HS := Lib.hid (hW.blk HS.out (blk_type_ne HS.out HP.out.blk (by decide)))
                    have HP := Lib.hid (HP.out.store1 hW hB)
                    have HO2 := Lib.hid (HO2.out.trans (Only.wrote (S := NFoot b (.slice wa wn wc) (.slice ea en ec) vz) hW (.inl rfl)))
                    clear hW hB
                    refine hK _ _ HS.out (fun _ => ?_)
                    clear hK K
                    try simp only [Act.put, List.setIfInBounds_toArray, List.set_cons_succ, List.set_cons_zero]
                    refine wpAnyH_take (i := 21) (oi := ⟨some 42, .nilCheck (.tmp 23), _, _, _, none⟩) (v := .pointer (some ⟨b, 0, none⟩)) rfl (by kernel_rfl) (by kernel_rfl) (by kernel_rfl) (fun _ _ _ h => h) (Or.inl ⟨by rfl, fun _ _ => by go_simp⟩) HS.out ?_
                    try simp only [Act.put, List.setIfInBounds_toArray, List.set_cons_succ, List.set_cons_zero]
                    refine wpAnyH_take (i := 22) (oi := ⟨some 43, .fieldAddr 43 (.tmp 42) 2, _, _, _, none⟩) (v := .pointer (some ⟨b, 2, none⟩)) rfl (by kernel_rfl) (by kernel_rfl) (by kernel_rfl) (fun _ _ _ h => h) (Or.inl ⟨by rfl, fun _ _ => by go_simp⟩) HS.out ?_
                    try simp only [Act.put, List.setIfInBounds_toArray, List.set_cons_succ, List.set_cons_zero]
                    refine wpAnyH_ready (rs := [23]) (by kernel_rfl) (by simp) ?_
                    refine AllReadyH.cons (o := ⟨none, .store 41 (.tmp 43) (.tmp 39), _, _, _, none⟩) rfl (fun K hK => ?_) AllReadyH.nil
                    refine wp_store_one (.tmp 43) (.tmp 39) 41 size_sents rfl b 2 (.slice a8 (en + 1) c8) (by rfl) (by rfl) (by rfl) (by rfl) HP.out.blk (by simp) ?_
                    intro v21 hW hB
                    have HS := Lib.hid (hW.blk HS.out (blk_type_ne HS.out HP.out.blk (by decide)))
                    have HP := Lib.hid (HP.out.store2 hW hB)
                    have HO2 := Lib.hid (HO2.out.trans (Only.wrote (S := NFoot b (.slice wa wn wc) (.slice ea en ec) vz) hW (.inl rfl)))
                    clear hW hB
                    refine hK _ _ HS.out (fun _ => ?_)
                    clear hK K
                    try simp only [Act.put, List.setIfInBounds_toArray, List.set_cons_succ, List.set_cons_zero]
                    refine wpAnyH_done (by kernel_rfl) ?_ _
                    go_wp2
                    go_roundw
                    case rel => exact ⟨k + 1, .slice a7 (wn + 1) c7, .slice a8 (en + 1) c8, by have := HLT.out; omega, by go_num, by rw [HSM.out, ← List.append_assoc, ← List.append_assoc]; exact HP.out.whole, HO.out.trans' HO2.out HG.out, fun j q => by
                      rcases q with e | e | e | e
                      · exact HG.out j (.inl e)
                      · exact (HGway.out j e).elim (fun p => HG.out j (.inr (.inl p))) (fun p => .inr (Nat.le_trans HWR.out p))
                      · exact (HGever.out j e).elim (fun p => HG.out j (.inr (.inr (.inl p)))) (fun p => .inr (Nat.le_trans HWR.out p))
                      · exact HG.out j (.inr (.inr (.inr e)))⟩
                    case measure => have := HLT.out; simp [intOf]; omega
              · have c1 := HP.out.c2
                refine wp_of_yields' (v := .slice ea en ec) (by unfold execOp; go_simp) ?_
                clear c1
                refine hK _ _ HS.out (fun _ => ?_)
                clear hK K
                try simp only [Act.put, List.setIfInBounds_toArray, List.set_cons_succ, List.set_cons_zero]
                refine wpAnyH_ready (rs := [9]) (by kernel_rfl) (by simp) ?_
                refine AllReadyH.cons (o := ⟨some 31, .call { callee := .builtin .append, args := #[.tmp 27, .tmp 30], argTypes := #[41, 41] }, 41, _, _, none⟩) rfl (fun K hK => ?_) AllReadyH.nil
                obtain ⟨ls, hw, hw2⟩ := HP.out.way
                rw [← HwayN.out] at hw
                have HWS := Lib.hid hw
                have HW2 := Lib.hid hw2
                clear hw hw2
                refine wp_append_row (.tmp 27) (.tmp 30) 41 47 rfl (.agg #[.int .i64 0, .int .i64 0, .slice none 0 0]) 3 40 Try.underlying41 info_sent (by rfl) (by decide) (.slice wa wn wc) wn (ncells ls) (by rfl) HWS.out _ 1 [.int .i64 f, .int .i64 t, .slice (some ⟨g1, 0, none⟩) n n] (by rfl) (by rfl) BJ1.out (by simp [Value.oneCell']) H63way.out HBYway.out ?_
                intro a7 c7 v23 hO hg hat
                have HP := Lib.hid (HP.out.app_way (s := ⟨f, t, dd⟩) HwayN.out hg hO HW2.out HX_g1.out hat)
                have HGway := Lib.hid (show ∀ j, (Value.slice a7 (wn + 1) c7).ownBlock = some j → ((.slice wa wn wc) : Value).ownBlock = some j ∨ bx ≤ j from fun j e => (hat j e).imp id (fun q => by rw [q, ← HBX.out]; exact HO2.out.size))
                have HS := Lib.hid ((Only.grown (S := fun j => ((.slice wa wn wc) : Value).ownBlock = some j) hg (fun j e => e)).blk HS.out (HNBway.out))
                have HTX := Lib.hid (HTX.out.onlyT (Only.grown (S := fun j => ((.slice wa wn wc) : Value).ownBlock = some j) hg (fun j e => e)) (fun g0 o0 e h0 q => HNX.out g0 o0 e h0 (.inr (.inl q))))
                have HO2 := Lib.hid (HO2.out.trans (Only.grown (S := NFoot b (.slice wa wn wc) (.slice ea en ec) vz) hg (fun j e => .inr (.inl e))))
                clear hO hg hat HWS HW2 HX_g1 BJ1
                refine hK _ _ HS.out (fun _ => ?_)
                clear hK K
                try simp only [Act.put, List.setIfInBounds_toArray, List.set_cons_succ, List.set_cons_zero]
                refine wpAnyH_ready (rs := [15]) (by kernel_rfl) (by simp) ?_
                refine AllReadyH.cons (o := ⟨some 37, .call { callee := .value (.func 84), args := #[.tmp 36], argTypes := #[47] }, 47, _, _, none⟩) rfl (fun K hK => ?_) AllReadyH.nil
                go_simp
                refine (own_walk f t px n cx dd HDL.out v23 HTX.out).mono ?_
                rintro e v24 ⟨g2, rfl, hB1, hge, hb⟩
                have hsz : bx ≤ v23.heap.size := (by rw [← HBX.out]; exact HO2.out.size)
                have HS := Lib.hid (HS.out.on hb)
                have HP := Lib.hid (HP.out.on hb)
                have HTX := Lib.hid (HTX.out.below hb)
                have HO2 := Lib.hid (HO2.out.trans (Only.of_below hb))
                have HX_g2 := Lib.hid (Tn.of_blkn (av := fun k => av k ∨ w0.heap.size ≤ k) hB1 HNL.out (show av g2 ∨ w0.heap.size ≤ g2 from .inr (Nat.le_trans HWR.out (Nat.le_trans hsz hge))))
                clear hb hB1 hge hsz
                refine hK _ _ HS.out (fun _ => ?_)
                clear hK K
                try simp only [Act.put, List.setIfInBounds_toArray, List.set_cons_succ, List.set_cons_zero]
                refine wpAnyH_ready (rs := [16]) (by kernel_rfl) (by simp) ?_
                refine AllReadyH.cons (o := ⟨some 38, .buildSlice 41 1 #[(0, .tmp 37)], 41, _, _, none⟩) rfl (fun K hK => ?_) AllReadyH.nil
                go_simp
                have BJ2 := Blk.new v24 #[.int .i64 f, .int .i64 t, .slice (some ⟨g2, 0, none⟩) n n] 47
                have hb := below_one' v24 (.cells #[.int .i64 f, .int .i64 t, .slice (some ⟨g2, 0, none⟩) n n] 47)
                generalize World.alloc v24 _ = v25 at *
                have HS := Lib.hid (HS.out.on hb)
                have HP := Lib.hid (HP.out.on hb)
                have HTX := Lib.hid (HTX.out.below hb)
                have HO2 := Lib.hid (HO2.out.trans (Only.of_below hb))
                have HX_g2 := Lib.hid (HX_g2.out.on hb)
                replace BJ2 := Lib.hid BJ2
                clear hb
                refine hK _ _ HS.out (fun _ => ?_)
                clear hK K
                try simp only [Act.put, List.setIfInBounds_toArray, List.set_cons_succ, List.set_cons_zero]
                refine wpAnyH_ready (rs := [17]) (by kernel_rfl) (by simp) ?_
                refine AllReadyH.cons (o := ⟨some 39, .call { callee := .builtin .append, args := #[.tmp 35, .tmp 38], argTypes := #[41, 41] }, 41, _, _, none⟩) rfl (fun K hK => ?_) AllReadyH.nil
                obtain ⟨ls, hw, hw2⟩ := HP.out.ever
                rw [← HeverN.out] at hw
                have HWS := Lib.hid hw
                have HW2 := Lib.hid hw2
                clear hw hw2
                refine wp_append_row (.tmp 35) (.tmp 38) 41 47 rfl (.agg #[.int .i64 0, .int .i64 0, .slice none 0 0]) 3 40 Try.underlying41 info_sent (by rfl) (by decide) (.slice ea en ec) en (ncells ls) (by rfl) HWS.out _ 1 [.int .i64 f, .int .i64 t, .slice (some ⟨g2, 0, none⟩) n n] (by rfl) (by rfl) BJ2.out (by simp [Value.oneCell']) H63ever.out HBYever.out ?_
                intro a8 c8 v26 hO hg hat
                have HP := Lib.hid (HP.out.app_ever (s := ⟨f, t, dd⟩) HeverN.out hg hO HW2.out HX_g2.out hat)
                have HGever := Lib.hid (show ∀ j, (Value.slice a8 (en + 1) c8).ownBlock = some j → ((.slice ea en ec) : Value).ownBlock = some j ∨ bx ≤ j from fun j e => (hat j e).imp id (fun q => by rw [q, ← HBX.out]; exact HO2.out.size))
                have HS := Lib.hid ((Only.grown (S := fun j => ((.slice ea en ec) : Value).ownBlock = some j) hg (fun j e => e)).blk HS.out (HNBever.out))
                have HTX := Lib.hid (HTX.out.onlyT (Only.grown (S := fun j => ((.slice ea en ec) : Value).ownBlock = some j) hg (fun j e => e)) (fun g0 o0 e h0 q => HNX.out g0 o0 e h0 (.inr (.inr (.inl q)))))
                have HO2 := Lib.hid (HO2.out.trans (Only.grown (S := NFoot b (.slice wa wn wc) (.slice ea en ec) vz) hg (fun j e => .inr (.inr (.inl e)))))
                clear hO hg hat HWS HW2 HX_g2 BJ2
                refine hK _ _ HS.out (fun _ => ?_)
                clear hK K
                try simp only [Act.put, List.setIfInBounds_toArray, List.set_cons_succ, List.set_cons_zero]
                refine wpAnyH_take (i := 18) (oi := ⟨some 40, .nilCheck (.tmp 22), _, _, _, none⟩) (v := .pointer (some ⟨b, 0, none⟩)) rfl (by kernel_rfl) (by kernel_rfl) (by kernel_rfl) (fun _ _ _ h => h) (Or.inl ⟨by rfl, fun _ _ => by go_simp⟩) HS.out ?_
                try simp only [Act.put, List.setIfInBounds_toArray, List.set_cons_succ, List.set_cons_zero]
                refine wpAnyH_take (i := 19) (oi := ⟨some 41, .fieldAddr 43 (.tmp 40) 1, _, _, _, none⟩) (v := .pointer (some ⟨b, 1, none⟩)) rfl (by kernel_rfl) (by kernel_rfl) (by kernel_rfl) (fun _ _ _ h => h) (Or.inl ⟨by rfl, fun _ _ => by go_simp⟩) HS.out ?_
                try simp only [Act.put, List.setIfInBounds_toArray, List.set_cons_succ, List.set_cons_zero]
                refine wpAnyH_ready (rs := [20]) (by kernel_rfl) (by simp) ?_
                refine AllReadyH.cons (o := ⟨none, .store 41 (.tmp 41) (.tmp 31), _, _, _, none⟩) rfl (fun K hK => ?_) AllReadyH.nil
                refine wp_store_one (.tmp 41) (.tmp 31) 41 size_sents rfl b 1 (.slice a7 (wn + 1) c7) (by rfl) (by rfl) (by rfl) (by rfl) HP.out.blk (by simp) ?_
                intro v27 hW hB
                have HS := Lib.hid (hW.blk HS.out (blk_type_ne HS.out HP.out.blk (by decide)))
                have HP := Lib.hid (HP.out.store1 hW hB)
                have HO2 := Lib.hid (HO2.out.trans (Only.wrote (S := NFoot b (.slice wa wn wc) (.slice ea en ec) vz) hW (.inl rfl)))
                clear hW hB
                refine hK _ _ HS.out (fun _ => ?_)
                clear hK K
                try simp only [Act.put, List.setIfInBounds_toArray, List.set_cons_succ, List.set_cons_zero]
                refine wpAnyH_take (i := 21) (oi := ⟨some 42, .nilCheck (.tmp 23), _, _, _, none⟩) (v := .pointer (some ⟨b, 0, none⟩)) rfl (by kernel_rfl) (by kernel_rfl) (by kernel_rfl) (fun _ _ _ h => h) (Or.inl ⟨by rfl, fun _ _ => by go_simp⟩) HS.out ?_
                try simp only [Act.put, List.setIfInBounds_toArray, List.set_cons_succ, List.set_cons_zero]
                refine wpAnyH_take (i := 22) (oi := ⟨some 43, .fieldAddr 43 (.tmp 42) 2, _, _, _, none⟩) (v := .pointer (some ⟨b, 2, none⟩)) rfl (by kernel_rfl) (by kernel_rfl) (by kernel_rfl) (fun _ _ _ h => h) (Or.inl ⟨by rfl, fun _ _ => by go_simp⟩) HS.out ?_
                try simp only [Act.put, List.setIfInBounds_toArray, List.set_cons_succ, List.set_cons_zero]
                refine wpAnyH_ready (rs := [23]) (by kernel_rfl) (by simp) ?_
                refine AllReadyH.cons (o := ⟨none, .store 41 (.tmp 43) (.tmp 39), _, _, _, none⟩) rfl (fun K hK => ?_) AllReadyH.nil
                refine wp_store_one (.tmp 43) (.tmp 39) 41 size_sents rfl b 2 (.slice a8 (en + 1) c8) (by rfl) (by rfl) (by rfl) (by rfl) HP.out.blk (by simp) ?_
                intro v28 hW hB
                have HS := Lib.hid (hW.blk HS.out (blk_type_ne HS.out HP.out.blk (by decide)))
                have HP := Lib.hid (HP.out.store2 hW hB)
                have HO2 := Lib.hid (HO2.out.trans (Only.wrote (S := NFoot b (.slice wa wn wc) (.slice ea en ec) vz) hW (.inl rfl)))
                clear hW hB
                refine hK _ _ HS.out (fun _ => ?_)
                clear hK K
                try simp only [Act.put, List.setIfInBounds_toArray, List.set_cons_succ, List.set_cons_zero]
                refine wpAnyH_done (by kernel_rfl) ?_ _
                go_wp2
                go_roundw
                case rel => exact ⟨k + 1, .slice a7 (wn + 1) c7, .slice a8 (en + 1) c8, by have := HLT.out; omega, by go_num, by rw [HSM.out, ← List.append_assoc, ← List.append_assoc]; exact HP.out.whole, HO.out.trans' HO2.out HG.out, fun j q => by
                  rcases q with e | e | e | e
                  · exact HG.out j (.inl e)
                  · exact (HGway.out j e).elim (fun p => HG.out j (.inr (.inl p))) (fun p => .inr (Nat.le_trans HWR.out p))
                  · exact (HGever.out j e).elim (fun p => HG.out j (.inr (.inr (.inl p)))) (fun p => .inr (Nat.le_trans HWR.out p))
                  · exact HG.out j (.inr (.inr (.inr e)))⟩
                case measure => have := HLT.out; simp [intOf]; omega
            · have c1 := HP.out.c2
              refine wp_of_yields' (v := .slice ea en ec) (by unfold execOp; go_simp) ?_
              clear c1
              refine hK _ _ HS.out (fun _ => ?_)
              clear hK K
              try simp only [Act.put, List.setIfInBounds_toArray, List.set_cons_succ, List.set_cons_zero]
              refine wpAnyH_ready (rs := [8]) (by kernel_rfl) (by simp) ?_
              refine AllReadyH.cons (o := ⟨some 30, .buildSlice 41 1 #[(0, .tmp 29)], 41, _, _, none⟩) rfl (fun K hK => ?_) AllReadyH.nil
              go_simp
              have BJ1 := Blk.new v2 #[.int .i64 f, .int .i64 t, .slice (some ⟨g1, 0, none⟩) n n] 47
              have hb := below_one' v2 (.cells #[.int .i64 f, .int .i64 t, .slice (some ⟨g1, 0, none⟩) n n] 47)
              generalize World.alloc v2 _ = v30 at *
              have HS := Lib.hid (HS.out.on hb)
              have HP := Lib.hid (HP.out.on hb)
              have HTX := Lib.hid (HTX.out.below hb)
              have HO2 := Lib.hid (HO2.out.trans (Only.of_below hb))
              have HX_g1 := Lib.hid (HX_g1.out.on hb)
              replace BJ1 := Lib.hid BJ1
              clear hb
              refine hK _ _ HS.out (fun _ => ?_)
              clear hK K
              try simp only [Act.put, List.setIfInBounds_toArray, List.set_cons_succ, List.set_cons_zero]
              refine wpAnyH_ready (rs := [9]) (by kernel_rfl) (by simp) ?_
              refine AllReadyH.cons (o := ⟨some 31, .call { callee := .builtin .append, args := #[.tmp 27, .tmp 30], argTypes := #[41, 41] }, 41, _, _, none⟩) rfl (fun K hK => ?_) AllReadyH.nil
              obtain ⟨ls, hw, hw2⟩ := HP.out.way
              rw [← HwayN.out] at hw
              have HWS := Lib.hid hw
              have HW2 := Lib.hid hw2
              clear hw hw2
              refine wp_append_row (.tmp 27) (.tmp 30) 41 47 rfl (.agg #[.int .i64 0, .int .i64 0, .slice none 0 0]) 3 40 Try.underlying41 info_sent (by rfl) (by decide) (.slice wa wn wc) wn (ncells ls) (by rfl) HWS.out _ 1 [.int .i64 f, .int .i64 t, .slice (some ⟨g1, 0, none⟩) n n] (by rfl) (by rfl) BJ1.out (by simp [Value.oneCell']) H63way.out HBYway.out ?_
              intro a7 c7 v31 hO hg hat
              have HP := Lib.hid (HP.out.app_way (s := ⟨f, t, dd⟩) HwayN.out hg hO HW2.out HX_g1.out hat)
              have HGway := Lib.hid (show ∀ j, (Value.slice a7 (wn + 1) c7).ownBlock = some j → ((.slice wa wn wc) : Value).ownBlock = some j ∨ bx ≤ j from fun j e => (hat j e).imp id (fun q => by rw [q, ← HBX.out]; exact HO2.out.size))
              have HS := Lib.hid ((Only.grown (S := fun j => ((.slice wa wn wc) : Value).ownBlock = some j) hg (fun j e => e)).blk HS.out (HNBway.out))
              have HTX := Lib.hid (HTX.out.onlyT (Only.grown (S := fun j => ((.slice wa wn wc) : Value).ownBlock = some j) hg (fun j e => e)) (fun g0 o0 e h0 q => HNX.out g0 o0 e h0 (.inr (.inl q))))
              have HO2 := Lib.hid (HO2.out.trans (Only.grown (S := NFoot b (.slice wa wn wc) (.slice ea en ec) vz) hg (fun j e => .inr (.inl e))))
              clear hO hg hat HWS HW2 HX_g1 BJ1
              refine hK _ _ HS.out (fun _ => ?_)
              clear hK K
              try simp only [Act.put, List.setIfInBounds_toArray, List.set_cons_succ, List.set_cons_zero]
              refine wpAnyH_ready (rs := [15]) (by kernel_rfl) (by simp) ?_
              refine AllReadyH.cons (o := ⟨some 37, .call { callee := .value (.func 84), args := #[.tmp 36], argTypes := #[47] }, 47, _, _, none⟩) rfl (fun K hK => ?_) AllReadyH.nil
              go_simp
              refine (own_walk f t px n cx dd HDL.out v31 HTX.out).mono ?_
              rintro e v32 ⟨g2, rfl, hB1, hge, hb⟩
              have hsz : bx ≤ v31.heap.size := (by rw [← HBX.out]; exact HO2.out.size)
              have HS := Lib.hid (HS.out.on hb)
              have HP := Lib.hid (HP.out.on hb)
              have HTX := Lib.hid (HTX.out.below hb)
              have HO2 := Lib.hid (HO2.out.trans (Only.of_below hb))
              have HX_g2 := Lib.hid (Tn.of_blkn (av := fun k => av k ∨ w0.heap.size ≤ k) hB1 HNL.out (show av g2 ∨ w0.heap.size ≤ g2 from .inr (Nat.le_trans HWR.out (Nat.le_trans hsz hge))))
              clear hb hB1 hge hsz
              refine hK _ _ HS.out (fun _ => ?_)
              clear hK K
              try simp only [Act.put, List.setIfInBounds_toArray, List.set_cons_succ, List.set_cons_zero]
              refine wpAnyH_ready (rs := [16]) (by kernel_rfl) (by simp) ?_
              refine AllReadyH.cons (o := ⟨some 38, .buildSlice 41 1 #[(0, .tmp 37)], 41, _, _, none⟩) rfl (fun K hK => ?_) AllReadyH.nil
              go_simp
              have BJ2 := Blk.new v32 #[.int .i64 f, .int .i64 t, .slice (some ⟨g2, 0, none⟩) n n] 47
              have hb := below_one' v32 (.cells #[.int .i64 f, .int .i64 t, .slice (some ⟨g2, 0, none⟩) n n] 47)
              generalize World.alloc v32 _ = v33 at *
              have HS := Lib.hid (HS.out.on hb)
              have HP := Lib.hid (HP.out.on hb)
              have HTX := Lib.hid (HTX.out.below hb)
              have HO2 := Lib.hid (HO2.out.trans (Only.of_below hb))
              have HX_g2 := Lib.hid (HX_g2.out.on hb)
              replace BJ2 := Lib.hid BJ2
              clear hb
              refine hK _ _ HS.out (fun _ => ?_)
              clear hK K
              try simp only [Act.put, List.setIfInBounds_toArray, List.set_cons_succ, List.set_cons_zero]
              refine wpAnyH_ready (rs := [17]) (by kernel_rfl) (by simp) ?_
              refine AllReadyH.cons (o := ⟨some 39, .call { callee := .builtin .append, args := #[.tmp 35, .tmp 38], argTypes := #[41, 41] }, 41, _, _, none⟩) rfl (fun K hK => ?_) AllReadyH.nil
              obtain ⟨ls, hw, hw2⟩ := HP.out.ever
              rw [← HeverN.out] at hw
              have HWS := Lib.hid hw
              have HW2 := Lib.hid hw2
              clear hw hw2
              refine wp_append_row (.tmp 35) (.tmp 38) 41 47 rfl (.agg #[.int .i64 0, .int .i64 0, .slice none 0 0]) 3 40 Try.underlying41 info_sent (by rfl) (by decide) (.slice ea en ec) en (ncells ls) (by rfl) HWS.out _ 1 [.int .i64 f, .int .i64 t, .slice (some ⟨g2, 0, none⟩) n n] (by rfl) (by rfl) BJ2.out (by simp [Value.oneCell']) H63ever.out HBYever.out ?_
              intro a8 c8 v34 hO hg hat
              have HP := Lib.hid (HP.out.app_ever (s := ⟨f, t, dd⟩) HeverN.out hg hO HW2.out HX_g2.out hat)
              have HGever := Lib.hid (show ∀ j, (Value.slice a8 (en + 1) c8).ownBlock = some j → ((.slice ea en ec) : Value).ownBlock = some j ∨ bx ≤ j from fun j e => (hat j e).imp id (fun q => by rw [q, ← HBX.out]; exact HO2.out.size))
              have HS := Lib.hid ((Only.grown (S := fun j => ((.slice ea en ec) : Value).ownBlock = some j) hg (fun j e => e)).blk HS.out (HNBever.out))
              have HTX := Lib.hid (HTX.out.onlyT (Only.grown (S := fun j => ((.slice ea en ec) : Value).ownBlock = some j) hg (fun j e => e)) (fun g0 o0 e h0 q => HNX.out g0 o0 e h0 (.inr (.inr (.inl q)))))
              have HO2 := Lib.hid (HO2.out.trans (Only.grown (S := NFoot b (.slice wa wn wc) (.slice ea en ec) vz) hg (fun j e => .inr (.inr (.inl e)))))
              clear hO hg hat HWS HW2 HX_g2 BJ2
              refine hK _ _ HS.out (fun _ => ?_)
              clear hK K
              try simp only [Act.put, List.setIfInBounds_toArray, List.set_cons_succ, List.set_cons_zero]
              refine wpAnyH_take (i := 18) (oi := ⟨some 40, .nilCheck (.tmp 22), _, _, _, none⟩) (v := .pointer (some ⟨b, 0, none⟩)) rfl (by kernel_rfl) (by kernel_rfl) (by kernel_rfl) (fun _ _ _ h => h) (Or.inl ⟨by rfl, fun _ _ => by go_simp⟩) HS.out ?_
              try simp only [Act.put, List.setIfInBounds_toArray, List.set_cons_succ, List.set_cons_zero]
              refine wpAnyH_take (i := 19) (oi := ⟨some 41, .fieldAddr 43 (.tmp 40) 1, _, _, _, none⟩) (v := .pointer (some ⟨b, 1, none⟩)) rfl (by kernel_rfl) (by kernel_rfl) (by kernel_rfl) (fun _ _ _ h => h) (Or.inl ⟨by rfl, fun _ _ => by go_simp⟩) HS.out ?_
              try simp only [Act.put, List.setIfInBounds_toArray, List.set_cons_succ, List.set_cons_zero]
              refine wpAnyH_ready (rs := [20]) (by kernel_rfl) (by simp) ?_
              refine AllReadyH.cons (o := ⟨none, .store 41 (.tmp 41) (.tmp 31), _, _, _, none⟩) rfl (fun K hK => ?_) AllReadyH.nil
              refine wp_store_one (.tmp 41) (.tmp 31) 41 size_sents rfl b 1 (.slice a7 (wn + 1) c7) (by rfl) (by rfl) (by rfl) (by rfl) HP.out.blk (by simp) ?_
              intro v35 hW hB
              have HS := Lib.hid (hW.blk HS.out (blk_type_ne HS.out HP.out.blk (by decide)))
              have HP := Lib.hid (HP.out.store1 hW hB)
              have HO2 := Lib.hid (HO2.out.trans (Only.wrote (S := NFoot b (.slice wa wn wc) (.slice ea en ec) vz) hW (.inl rfl)))
              clear hW hB
              refine hK _ _ HS.out (fun _ => ?_)
              clear hK K
              try simp only [Act.put, List.setIfInBounds_toArray, List.set_cons_succ, List.set_cons_zero]
              refine wpAnyH_take (i := 21) (oi := ⟨some 42, .nilCheck (.tmp 23), _, _, _, none⟩) (v := .pointer (some ⟨b, 0, none⟩)) rfl (by kernel_rfl) (by kernel_rfl) (by kernel_rfl) (fun _ _ _ h => h) (Or.inl ⟨by rfl, fun _ _ => by go_simp⟩) HS.out ?_
              try simp only [Act.put, List.setIfInBounds_toArray, List.set_cons_succ, List.set_cons_zero]
              refine wpAnyH_take (i := 22) (oi := ⟨some 43, .fieldAddr 43 (.tmp 42) 2, _, _, _, none⟩) (v := .pointer (some ⟨b, 2, none⟩)) rfl (by kernel_rfl) (by kernel_rfl) (by kernel_rfl) (fun _ _ _ h => h) (Or.inl ⟨by rfl, fun _ _ => by go_simp⟩) HS.out ?_
              try simp only [Act.put, List.setIfInBounds_toArray, List.set_cons_succ, List.set_cons_zero]
              refine wpAnyH_ready (rs := [23]) (by kernel_rfl) (by simp) ?_
              refine AllReadyH.cons (o := ⟨none, .store 41 (.tmp 43) (.tmp 39), _, _, _, none⟩) rfl (fun K hK => ?_) AllReadyH.nil
              refine wp_store_one (.tmp 43) (.tmp 39) 41 size_sents rfl b 2 (.slice a8 (en + 1) c8) (by rfl) (by rfl) (by rfl) (by rfl) HP.out.blk (by simp) ?_
              intro v36 hW hB
              have HS := Lib.hid (hW.blk HS.out (blk_type_ne HS.out HP.out.blk (by decide)))
              have HP := Lib.hid (HP.out.store2 hW hB)
              have HO2 := Lib.hid (HO2.out.trans (Only.wrote (S := NFoot b (.slice wa wn wc) (.slice ea en ec) vz) hW (.inl rfl)))
              clear hW hB
              refine hK _ _ HS.out (fun _ => ?_)
              clear hK K
              try simp only [Act.put, List.setIfInBounds_toArray, List.set_cons_succ, List.set_cons_zero]
              refine wpAnyH_done (by kernel_rfl) ?_ _
              go_wp2
              go_roundw
              case rel => exact ⟨k + 1, .slice a7 (wn + 1) c7, .slice a8 (en + 1) c8, by have := HLT.out; omega, by go_num, by rw [HSM.out, ← List.append_assoc, ← List.append_assoc]; exact HP.out.whole, HO.out.trans' HO2.out HG.out, fun j q => by
                rcases q with e | e | e | e
                · exact HG.out j (.inl e)
                · exact (HGway.out j e).elim (fun p => HG.out j (.inr (.inl p))) (fun p => .inr (Nat.le_trans HWR.out p))
                · exact (HGever.out j e).elim (fun p => HG.out j (.inr (.inr (.inl p)))) (fun p => .inr (Nat.le_trans HWR.out p))
                · exact HG.out j (.inr (.inr (.inr e)))⟩
              case measure => have := HLT.out; simp [intOf]; omega
          · have c1 := HP.out.c2
            refine wp_of_yields' (v := .slice ea en ec) (by unfold execOp; go_simp) ?_
            clear c1
            refine hK _ _ HS.out (fun _ => ?_)
            clear hK K
            try simp only [Act.put, List.setIfInBounds_toArray, List.set_cons_succ, List.set_cons_zero]
            refine wpAnyH_ready (rs := [7]) (by kernel_rfl) (by simp) ?_
            refine AllReadyH.cons (o := ⟨some 29, .call { callee := .value (.func 84), args := #[.tmp 28], argTypes := #[47] }, 47, _, _, none⟩) rfl (fun K hK => ?_) AllReadyH.nil
            go_simp
            refine (own_walk f t px n cx dd HDL.out v0 HTX.out).mono ?_
            rintro e v38 ⟨g1, rfl, hB1, hge, hb⟩
            have hsz : bx ≤ v0.heap.size := (by rw [← HBX.out]; exact HO2.out.size)
            have HS := Lib.hid (HS.out.on hb)
            have HP := Lib.hid (HP.out.on hb)
            have HTX := Lib.hid (HTX.out.below hb)
            have HO2 := Lib.hid (HO2.out.trans (Only.of_below hb))
            have HX_g1 := Lib.hid (Tn.of_blkn (av := fun k => av k ∨ w0.heap.size ≤ k) hB1 HNL.out (show av g1 ∨ w0.heap.size ≤ g1 from .inr (Nat.le_trans HWR.out (Nat.le_trans hsz hge))))
            clear hb hB1 hge hsz
            refine hK _ _ HS.out (fun _ => ?_)
            clear hK K
            try simp only [Act.put, List.setIfInBounds_toArray, List.set_cons_succ, List.set_cons_zero]
            refine wpAnyH_ready (rs := [8]) (by kernel_rfl) (by simp) ?_
            refine AllReadyH.cons (o := ⟨some 30, .buildSlice 41 1 #[(0, .tmp 29)], 41, _, _, none⟩) rfl (fun K hK => ?_) AllReadyH.nil
            go_simp
            have BJ1 := Blk.new v38 #[.int .i64 f, .int .i64 t, .slice (some ⟨g1, 0, none⟩) n n] 47
            have hb := below_one' v38 (.cells #[.int .i64 f, .int .i64 t, .slice (some ⟨g1, 0, none⟩) n n] 47)
            generalize World.alloc v38 _ = v39 at *
            have HS := Lib.hid (HS.out.on hb)
            have HP := Lib.hid (HP.out.on hb)
            have HTX := Lib.hid (HTX.out.below hb)
            have HO2 := Lib.hid (HO2.out.trans (Only.of_below hb))
            have HX_g1 := Lib.hid (HX_g1.out.on hb)
            replace BJ1 := Lib.hid BJ1
            clear hb
            refine hK _ _ HS.out (fun _ => ?_)
            clear hK K
            try simp only [Act.put, List.setIfInBounds_toArray, List.set_cons_succ, List.set_cons_zero]
            refine wpAnyH_ready (rs := [9]) (by kernel_rfl) (by simp) ?_
            refine AllReadyH.cons (o := ⟨some 31, .call { callee := .builtin .append, args := #[.tmp 27, .tmp 30], argTypes := #[41, 41] }, 41, _, _, none⟩) rfl (fun K hK => ?_) AllReadyH.nil
            obtain ⟨ls, hw, hw2⟩ := HP.out.way
            rw [← HwayN.out] at hw
            have HWS := Lib.hid hw
            have HW2 := Lib.hid hw2
            clear hw hw2
            refine wp_append_row (.tmp 27) (.tmp 30) 41 47 rfl (.agg #[.int .i64 0, .int .i64 0, .slice none 0 0]) 3 40 Try.underlying41 info_sent (by rfl) (by decide) (.slice wa wn wc) wn (ncells ls) (by rfl) HWS.out _ 1 [.int .i64 f, .int .i64 t, .slice (some ⟨g1, 0, none⟩) n n] (by rfl) (by rfl) BJ1.out (by simp [Value.oneCell']) H63way.out HBYway.out ?_
            intro a7 c7 v40 hO hg hat
            have HP := Lib.hid (HP.out.app_way (s := ⟨f, t, dd⟩) HwayN.out hg hO HW2.out HX_g1.out hat)
            have HGway := Lib.hid (show ∀ j, (Value.slice a7 (wn + 1) c7).ownBlock = some j → ((.slice wa wn wc) : Value).ownBlock = some j ∨ bx ≤ j from fun j e => (hat j e).imp id (fun q => by rw [q, ← HBX.out]; exact HO2.out.size))
            have HS := Lib.hid ((Only.grown (S := fun j => ((.slice wa wn wc) : Value).ownBlock = some j) hg (fun j e => e)).blk HS.out (HNBway.out))
            have HTX := Lib.hid (HTX.out.onlyT (Only.grown (S := fun j => ((.slice wa wn wc) : Value).ownBlock = some j) hg (fun j e => e)) (fun g0 o0 e h0 q => HNX.out g0 o0 e h0 (.inr (.inl q))))
            have HO2 := Lib.hid (HO2.out.trans (Only.grown (S := NFoot b (.slice wa wn wc) (.slice ea en ec) vz) hg (fun j e => .inr (.inl e))))
            clear hO hg hat HWS HW2 HX_g1 BJ1
            refine hK _ _ HS.out (fun _ => ?_)
            clear hK K
            try simp only [Act.put, List.setIfInBounds_toArray, List.set_cons_succ, List.set_cons_zero]
            refine wpAnyH_ready (rs := [15]) (by kernel_rfl) (by simp) ?_
            refine AllReadyH.cons (o := ⟨some 37, .call { callee := .value (.func 84), args := #[.tmp 36], argTypes := #[47] }, 47, _, _, none⟩) rfl (fun K hK => ?_) AllReadyH.nil
            go_simp
            refine (own_walk f t px n cx dd HDL.out v40 HTX.out).mono ?_
            rintro e v41 ⟨g2, rfl, hB1, hge, hb⟩
            have hsz : bx ≤ v40.heap.size := (by rw [← HBX.out]; exact HO2.out.size)
            have HS := Lib.hid (HS.out.on hb)
            have HP := Lib.hid (HP.out.on hb)
            have HTX := Lib.hid (HTX.out.below hb)
            have HO2 := Lib.hid (HO2.out.trans (Only.of_below hb))
            have HX_g2 := Lib.hid (Tn.of_blkn (av := fun k => av k ∨ w0.heap.size ≤ k) hB1 HNL.out (show av g2 ∨ w0.heap.size ≤ g2 from .inr (Nat.le_trans HWR.out (Nat.le_trans hsz hge))))
            clear hb hB1 hge hsz
            refine hK _ _ HS.out (fun _ => ?_)
            clear hK K
            try simp only [Act.put, List.setIfInBounds_toArray, List.set_cons_succ, List.set_cons_zero]
            refine wpAnyH_ready (rs := [16]) (by kernel_rfl) (by simp) ?_
            refine AllReadyH.cons (o := ⟨some 38, .buildSlice 41 1 #[(0, .tmp 37)], 41, _, _, none⟩) rfl (fun K hK => ?_) AllReadyH.nil
            go_simp
            have BJ2 := Blk.new v41 #[.int .i64 f, .int .i64 t, .slice (some ⟨g2, 0, none⟩) n n] 47
            have hb := below_one' v41 (.cells #[.int .i64 f, .int .i64 t, .slice (some ⟨g2, 0, none⟩) n n] 47)
            generalize World.alloc v41 _ = v42 at *
            have HS := Lib.hid (HS.out.on hb)
            have HP := Lib.hid (HP.out.on hb)
            have HTX := Lib.hid (HTX.out.below hb)
            have HO2 := Lib.hid (HO2.out.trans (Only.of_below hb))
            have HX_g2 := Lib.hid (HX_g2.out.on hb)
            replace BJ2 := Lib.hid BJ2
            clear hb
            refine hK _ _ HS.out (fun _ => ?_)
            clear hK K
            try simp only [Act.put, List.setIfInBounds_toArray, List.set_cons_succ, List.set_cons_zero]
            refine wpAnyH_ready (rs := [17]) (by kernel_rfl) (by simp) ?_
            refine AllReadyH.cons (o := ⟨some 39, .call { callee := .builtin .append, args := #[.tmp 35, .tmp 38], argTypes := #[41, 41] }, 41, _, _, none⟩) rfl (fun K hK => ?_) AllReadyH.nil
            obtain ⟨ls, hw, hw2⟩ := HP.out.ever
            rw [← HeverN.out] at hw
            have HWS := Lib.hid hw
            have HW2 := Lib.hid hw2
            clear hw hw2
            refine wp_append_row (.tmp 35) (.tmp 38) 41 47 rfl (.agg #[.int .i64 0, .int .i64 0, .slice none 0 0]) 3 40 Try.underlying41 info_sent (by rfl) (by decide) (.slice ea en ec) en (ncells ls) (by rfl) HWS.out _ 1 [.int .i64 f, .int .i64 t, .slice (some ⟨g2, 0, none⟩) n n] (by rfl) (by rfl) BJ2.out (by simp [Value.oneCell']) H63ever.out HBYever.out ?_
            intro a8 c8 v43 hO hg hat
            have HP := Lib.hid (HP.out.app_ever (s := ⟨f, t, dd⟩) HeverN.out hg hO HW2.out HX_g2.out hat)
            have HGever := Lib.hid (show ∀ j, (Value.slice a8 (en + 1) c8).ownBlock = some j → ((.slice ea en ec) : Value).ownBlock = some j ∨ bx ≤ j from fun j e => (hat j e).imp id (fun q => by rw [q, ← HBX.out]; exact HO2.out.size))
            have HS := Lib.hid ((Only.grown (S := fun j => ((.slice ea en ec) : Value).ownBlock = some j) hg (fun j e => e)).blk HS.out (HNBever.out))
            have HTX := Lib.hid (HTX.out.onlyT (Only.grown (S := fun j => ((.slice ea en ec) : Value).ownBlock = some j) hg (fun j e => e)) (fun g0 o0 e h0 q => HNX.out g0 o0 e h0 (.inr (.inr (.inl q)))))
            have HO2 := Lib.hid (HO2.out.trans (Only.grown (S := NFoot b (.slice wa wn wc) (.slice ea en ec) vz) hg (fun j e => .inr (.inr (.inl e)))))
            clear hO hg hat HWS HW2 HX_g2 BJ2
            refine hK _ _ HS.out (fun _ => ?_)
            clear hK K
            try simp only [Act.put, List.setIfInBounds_toArray, List.set_cons_succ, List.set_cons_zero]
            refine wpAnyH_take (i := 18) (oi := ⟨some 40, .nilCheck (.tmp 22), _, _, _, none⟩) (v := .pointer (some ⟨b, 0, none⟩)) rfl (by kernel_rfl) (by kernel_rfl) (by kernel_rfl) (fun _ _ _ h => h) (Or.inl ⟨by rfl, fun _ _ => by go_simp⟩) HS.out ?_
            try simp only [Act.put, List.setIfInBounds_toArray, List.set_cons_succ, List.set_cons_zero]
            refine wpAnyH_take (i := 19) (oi := ⟨some 41, .fieldAddr 43 (.tmp 40) 1, _, _, _, none⟩) (v := .pointer (some ⟨b, 1, none⟩)) rfl (by kernel_rfl) (by kernel_rfl) (by kernel_rfl) (fun _ _ _ h => h) (Or.inl ⟨by rfl, fun _ _ => by go_simp⟩) HS.out ?_
            try simp only [Act.put, List.setIfInBounds_toArray, List.set_cons_succ, List.set_cons_zero]
            refine wpAnyH_ready (rs := [20]) (by kernel_rfl) (by simp) ?_
            refine AllReadyH.cons (o := ⟨none, .store 41 (.tmp 41) (.tmp 31), _, _, _, none⟩) rfl (fun K hK => ?_) AllReadyH.nil
            refine wp_store_one (.tmp 41) (.tmp 31) 41 size_sents rfl b 1 (.slice a7 (wn + 1) c7) (by rfl) (by rfl) (by rfl) (by rfl) HP.out.blk (by simp) ?_
            intro v44 hW hB
            have HS := Lib.hid (hW.blk HS.out (blk_type_ne HS.out HP.out.blk (by decide)))
            have HP := Lib.hid (HP.out.store1 hW hB)
            have HO2 := Lib.hid (HO2.out.trans (Only.wrote (S := NFoot b (.slice wa wn wc) (.slice ea en ec) vz) hW (.inl rfl)))
            clear hW hB
            refine hK _ _ HS.out (fun _ => ?_)
            clear hK K
            try simp only [Act.put, List.setIfInBounds_toArray, List.set_cons_succ, List.set_cons_zero]
            refine wpAnyH_take (i := 21) (oi := ⟨some 42, .nilCheck (.tmp 23), _, _, _, none⟩) (v := .pointer (some ⟨b, 0, none⟩)) rfl (by kernel_rfl) (by kernel_rfl) (by kernel_rfl) (fun _ _ _ h => h) (Or.inl ⟨by rfl, fun _ _ => by go_simp⟩) HS.out ?_
            try simp only [Act.put, List.setIfInBounds_toArray, List.set_cons_succ, List.set_cons_zero]
            refine wpAnyH_take (i := 22) (oi := ⟨some 43, .fieldAddr 43 (.tmp 42) 2, _, _, _, none⟩) (v := .pointer (some ⟨b, 2, none⟩)) rfl (by kernel_rfl) (by kernel_rfl) (by kernel_rfl) (fun _ _ _ h => h) (Or.inl ⟨by rfl, fun _ _ => by go_simp⟩) HS.out ?_
            try simp only [Act.put, List.setIfInBounds_toArray, List.set_cons_succ, List.set_cons_zero]
            refine wpAnyH_ready (rs := [23]) (by kernel_rfl) (by simp) ?_
            refine AllReadyH.cons (o := ⟨none, .store 41 (.tmp 43) (.tmp 39), _, _, _, none⟩) rfl (fun K hK => ?_) AllReadyH.nil
            refine wp_store_one (.tmp 43) (.tmp 39) 41 size_sents rfl b 2 (.slice a8 (en + 1) c8) (by rfl) (by rfl) (by rfl) (by rfl) HP.out.blk (by simp) ?_
            intro v45 hW hB
            have HS := Lib.hid (hW.blk HS.out (blk_type_ne HS.out HP.out.blk (by decide)))
            have HP := Lib.hid (HP.out.store2 hW hB)
            have HO2 := Lib.hid (HO2.out.trans (Only.wrote (S := NFoot b (.slice wa wn wc) (.slice ea en ec) vz) hW (.inl rfl)))
            clear hW hB
            refine hK _ _ HS.out (fun _ => ?_)
            clear hK K
            try simp only [Act.put, List.setIfInBounds_toArray, List.set_cons_succ, List.set_cons_zero]
            refine wpAnyH_done (by kernel_rfl) ?_ _
            go_wp2
            go_roundw
            case rel => exact ⟨k + 1, .slice a7 (wn + 1) c7, .slice a8 (en + 1) c8, by have := HLT.out; omega, by go_num, by rw [HSM.out, ← List.append_assoc, ← List.append_assoc]; exact HP.out.whole, HO.out.trans' HO2.out HG.out, fun j q => by
              rcases q with e | e | e | e
              · exact HG.out j (.inl e)
              · exact (HGway.out j e).elim (fun p => HG.out j (.inr (.inl p))) (fun p => .inr (Nat.le_trans HWR.out p))
              · exact (HGever.out j e).elim (fun p => HG.out j (.inr (.inr (.inl p)))) (fun p => .inr (Nat.le_trans HWR.out p))
              · exact HG.out j (.inr (.inr (.inr e)))⟩
            case measure => have := HLT.out; simp [intOf]; omega
        · go_simp
          refine (own_walk f t px n cx dd HDL.out v0 HTX.out).mono ?_
          rintro e v46 ⟨g1, rfl, hB1, hge, hb⟩
          have hsz : bx ≤ v0.heap.size := (by rw [← HBX.out]; exact HO2.out.size)
          have HS := Lib.hid (HS.out.on hb)
          have HP := Lib.hid (HP.out.on hb)
          have HTX := Lib.hid (HTX.out.below hb)
          have HO2 := Lib.hid (HO2.out.trans (Only.of_below hb))
          have HX_g1 := Lib.hid (Tn.of_blkn (av := fun k => av k ∨ w0.heap.size ≤ k) hB1 HNL.out (show av g1 ∨ w0.heap.size ≤ g1 from .inr (Nat.le_trans HWR.out (Nat.le_trans hsz hge))))
          clear hb hB1 hge hsz
          refine hK _ _ HS.out (fun _ => ?_)
          clear hK K
          try simp only [Act.put, List.setIfInBounds_toArray, List.set_cons_succ, List.set_cons_zero]
          refine wpAnyH_ready (rs := [5, 8, 13]) (by kernel_rfl) (by simp) ?_
          refine AllReadyH.cons (o := ⟨some 27, .load 41 (.tmp 26), 41, _, _, none⟩) rfl (fun K hK => ?_) (AllReadyH.cons (o := ⟨some 30, .buildSlice 41 1 #[(0, .tmp 29)], 41, _, _, none⟩) rfl (fun K hK => ?_) (AllReadyH.cons (o := ⟨some 35, .load 41 (.tmp 34), 41, _, _, none⟩) rfl (fun K hK => ?_) AllReadyH.nil))
          · have c1 := HP.out.c1
            refine wp_of_yields' (v := .slice wa wn wc) (by unfold execOp; go_simp) ?_
            clear c1
            refine hK _ _ HS.out (fun _ => ?_)
            clear hK K
            try simp only [Act.put, List.setIfInBounds_toArray, List.set_cons_succ, List.set_cons_zero]
            refine wpAnyH_ready (rs := [8, 13]) (by kernel_rfl) (by simp) ?_
            refine AllReadyH.cons (o := ⟨some 30, .buildSlice 41 1 #[(0, .tmp 29)], 41, _, _, none⟩) rfl (fun K hK => ?_) (AllReadyH.cons (o := ⟨some 35, .load 41 (.tmp 34), 41, _, _, none⟩) rfl (fun K hK => ?_) AllReadyH.nil)
            · go_simp
              have BJ1 := Blk.new v46 #[.int .i64 f, .int .i64 t, .slice (some ⟨g1, 0, none⟩) n n] 47
              have hb := below_one' v46 (.cells #[.int .i64 f, .int .i64 t, .slice (some ⟨g1, 0, none⟩) n n] 47)
              generalize World.alloc v46 _ = v48 at *
              have HS := Lib.hid (HS.out.on hb)
              have HP := Lib.hid (HP.out.on hb)
              have HTX := Lib.hid (HTX.out.below hb)
              have HO2 := Lib.hid (HO2.out.trans (Only.of_below hb))
              have HX_g1 := Lib.hid (HX_g1.out.on hb)
              replace BJ1 := Lib.hid BJ1
              clear hb
              refine hK _ _ HS.out (fun _ => ?_)
              clear hK K
              try simp only [Act.put, List.setIfInBounds_toArray, List.set_cons_succ, List.set_cons_zero]
              refine wpAnyH_ready (rs := [9, 13]) (by kernel_rfl) (by simp) ?_
              refine AllReadyH.cons (o := ⟨some 31, .call { callee := .builtin .append, args := #[.tmp 27, .tmp 30], argTypes := #[41, 41] }, 41, _, _, none⟩) rfl (fun K hK => ?_) (AllReadyH.cons (o := ⟨some 35, .load 41 (.tmp 34), 41, _, _, none⟩) rfl (fun K hK => ?_) AllReadyH.nil)
              · obtain ⟨ls, hw, hw2⟩ := HP.out.way
                rw [← HwayN.out] at hw
                have HWS := Lib.hid hw
                have HW2 := Lib.hid hw2
                clear hw hw2
                refine wp_append_row (.tmp 27) (.tmp 30) 41 47 rfl (.agg #[.int .i64 0, .int .i64 0, .slice none 0 0]) 3 40 Try.underlying41 info_sent (by rfl) (by decide) (.slice wa wn wc) wn (ncells ls) (by rfl) HWS.out _ 1 [.int .i64 f, .int .i64 t, .slice (some ⟨g1, 0, none⟩) n n] (by rfl) (by rfl) BJ1.out (by simp [Value.oneCell']) H63way.out HBYway.out ?_
                intro a7 c7 v49 hO hg hat
                have HP := Lib.hid (HP.out.app_way (s := ⟨f, t, dd⟩) HwayN.out hg hO HW2.out HX_g1.out hat)
                have HGway := Lib.hid (show ∀ j, (Value.slice a7 (wn + 1) c7).ownBlock = some j → ((.slice wa wn wc) : Value).ownBlock = some j ∨ bx ≤ j from fun j e => (hat j e).imp id (fun q => by rw [q, ← HBX.out]; exact HO2.out.size))
                have HS := Lib.hid ((Only.grown (S := fun j => ((.slice wa wn wc) : Value).ownBlock = some j) hg (fun j e => e)).blk HS.out (HNBway.out))
                have HTX := Lib.hid (HTX.out.onlyT (Only.grown (S := fun j => ((.slice wa wn wc) : Value).ownBlock = some j) hg (fun j e => e)) (fun g0 o0 e h0 q => HNX.out g0 o0 e h0 (.inr (.inl q))))
                have HO2 := Lib.hid (HO2.out.trans (Only.grown (S := NFoot b (.slice wa wn wc) (.slice ea en ec) vz) hg (fun j e => .inr (.inl e))))
                clear hO hg hat HWS HW2 HX_g1 BJ1
                refine hK _ _ HS.out (fun _ => ?_)
                clear hK K
                try simp only [Act.put, List.setIfInBounds_toArray, List.set_cons_succ, List.set_cons_zero]
                refine wpAnyH_ready (rs := [13, 15]) (by kernel_rfl) (by simp) ?_
                refine AllReadyH.cons (o := ⟨some 35, .load 41 (.tmp 34), 41, _, _, none⟩) rfl (fun K hK => ?_) (AllReadyH.cons (o := ⟨some 37, .call { callee := .value (.func 84), args := #[.tmp 36], argTypes := #[47] }, 47, _, _, none⟩) rfl (fun K hK => ?_) AllReadyH.nil)
                · have c1 := HP.out.c2
                  refine wp_of_yields' (v := .slice ea en ec) (by unfold execOp; go_simp) ?_
                  clear c1
                  refine hK _ _ HS.out (fun _ => ?_)
                  clear hK K
                  try simp only [Act.put, List.setIfInBounds_toArray, List.set_cons_succ, List.set_cons_zero]
                  refine wpAnyH_ready (rs := [15]) (by kernel_rfl) (by simp) ?_
                  refine AllReadyH.cons (o := ⟨some 37, .call { callee := .value (.func 84), args := #[.tmp 36], argTypes := #[47] }, 47, _, _, none⟩) rfl (fun K hK => ?_) AllReadyH.nil
                  go_simp
                  refine (own_walk f t px n cx dd HDL.out v49 HTX.out).mono ?_
                  rintro e v51 ⟨g2, rfl, hB1, hge, hb⟩
                  have hsz : bx ≤ v49.heap.size := (by rw [← HBX.out]; exact HO2.out.size)
                  have HS := Lib.hid (HS.out.on hb)
                  have HP := Lib.hid (HP.out.on hb)
                  have HTX := Lib.hid (HTX.out.below hb)
                  have HO2 := Lib.hid (HO2.out.trans (Only.of_below hb))
                  have HX_g2 := Lib.hid (Tn.of_blkn (av := fun k => av k ∨ w0.heap.size ≤ k) hB1 HNL.out (show av g2 ∨ w0.heap.size ≤ g2 from .inr (Nat.le_trans HWR.out (Nat.le_trans hsz hge))))
                  clear hb hB1 hge hsz
                  refine hK _ _ HS.out (fun _ => ?_)
                  clear hK K
                  try simp only [Act.put, List.setIfInBounds_toArray, List.set_cons_succ, List.set_cons_zero]
                  refine wpAnyH_ready (rs := [16]) (by kernel_rfl) (by simp) ?_
                  refine AllReadyH.cons (o := ⟨some 38, .buildSlice 41 1 #[(0, .tmp 37)], 41, _, _, none⟩) rfl (fun K hK => ?_) AllReadyH.nil
                  go_simp
                  have BJ2 := Blk.new v51 #[.int .i64 f, .int .i64 t, .slice (some ⟨g2, 0, none⟩) n n] 47
                  have hb := below_one' v51 (.cells #[.int .i64 f, .int .i64 t, .slice (some ⟨g2, 0, none⟩) n n] 47)
                  generalize World.alloc v51 _ = v52 at *
                  have HS := Lib.hid (HS.out.on hb)
                  have HP := Lib.hid (HP.out.on hb)
                  have HTX := Lib.hid (HTX.out.below hb)
                  have HO2 := Lib.hid (HO2.out.trans (Only.of_below hb))
                  have HX_g2 := Lib.hid (HX_g2.out.on hb)
                  replace BJ2 := Lib.hid BJ2
                  clear hb
                  refine hK _ _ HS.out (fun _ => ?_)
                  clear hK K
                  try simp only [Act.put, List.setIfInBounds_toArray, List.set_cons_succ, List.set_cons_zero]
                  refine wpAnyH_ready (rs := [17]) (by kernel_rfl) (by simp) ?_
                  refine AllReadyH.cons (o := ⟨some 39, .call { callee := .builtin .append, args := #[.tmp 35, .tmp 38], argTypes := #[41, 41] }, 41, _, _, none⟩) rfl (fun K hK => ?_) AllReadyH.nil
                  obtain ⟨ls, hw, hw2⟩ := HP.out.ever
                  rw [← HeverN.out] at hw
                  have HWS := Lib.hid hw
                  have HW2 := Lib.hid hw2
                  clear hw hw2
                  refine wp_append_row (.tmp 35) (.tmp 38) 41 47 rfl (.agg #[.int .i64 0, .int .i64 0, .slice none 0 0]) 3 40 Try.underlying41 info_sent (by rfl) (by decide) (.slice ea en ec) en (ncells ls) (by rfl) HWS.out _ 1 [.int .i64 f, .int .i64 t, .slice (some ⟨g2, 0, none⟩) n n] (by rfl) (by rfl) BJ2.out (by simp [Value.oneCell']) H63ever.out HBYever.out ?_
                  intro a8 c8 v53 hO hg hat
                  have HP := Lib.hid (HP.out.app_ever (s := ⟨f, t, dd⟩) HeverN.out hg hO HW2.out HX_g2.out hat)
                  have HGever := Lib.hid (show ∀ j, (Value.slice a8 (en + 1) c8).ownBlock = some j → ((.slice ea en ec) : Value).ownBlock = some j ∨ bx ≤ j from fun j e => (hat j e).imp id (fun q => by rw [q, ← HBX.out]; exact HO2.out.size))
                  have HS := Lib.hid ((Only.grown (S := fun j => ((.slice ea en ec) : Value).ownBlock = some j) hg (fun j e => e)).blk HS.out (HNBever.out))
                  have HTX := Lib.hid (HTX.out.onlyT (Only.grown (S := fun j => ((.slice ea en ec) : Value).ownBlock = some j) hg (fun j e => e)) (fun g0 o0 e h0 q => HNX.out g0 o0 e h0 (.inr (.inr (.inl q)))))
                  have HO2 := Lib.hid (HO2.out.trans (Only.grown (S := NFoot b (.slice wa wn wc) (.slice ea en ec) vz) hg (fun j e => .inr (.inr (.inl e)))))
                  clear hO hg hat HWS HW2 HX_g2 BJ2
                  refine hK _ _ HS.out (fun _ => ?_)
                  clear hK K
                  try simp only [Act.put, List.setIfInBounds_toArray, List.set_cons_succ, List.set_cons_zero]
                  refine wpAnyH_take (i := 18) (oi := ⟨some 40, .nilCheck (.tmp 22), _, _, _, none⟩) (v := .pointer (some ⟨b, 0, none⟩)) rfl (by kernel_rfl) (by kernel_rfl) (by kernel_rfl) (fun _ _ _ h => h) (Or.inl ⟨by rfl, fun _ _ => by go_simp⟩) HS.out ?_
                  try simp only [Act.put, List.setIfInBounds_toArray, List.set_cons_succ, List.set_cons_zero]
                  refine wpAnyH_take (i := 19) (oi := ⟨some 41, .fieldAddr 43 (.tmp 40) 1, _, _, _, none⟩) (v := .pointer (some ⟨b, 1, none⟩)) rfl (by kernel_rfl) (by kernel_rfl) (by kernel_rfl) (fun _ _ _ h => h) (Or.inl ⟨by rfl, fun _ _ => by go_simp⟩) HS.out ?_
                  try simp only [Act.put, List.setIfInBounds_toArray, List.set_cons_succ, List.set_cons_zero]
                  refine wpAnyH_ready (rs := [20]) (by kernel_rfl) (by simp) ?_
                  refine AllReadyH.cons (o := ⟨none, .store 41 (.tmp 41) (.tmp 31), _, _, _, none⟩) rfl (fun K hK => ?_) AllReadyH.nil
                  refine wp_store_one (.tmp 41) (.tmp 31) 41 size_sents rfl b 1 (.slice a7 (wn + 1) c7) (by rfl) (by rfl) (by rfl) (by rfl) HP.out.blk (by simp) ?_
                  intro v54 hW hB
                  have HS := Lib.hid (hW.blk HS.out (blk_type_ne HS.out HP.out.blk (by decide)))
                  have HP := Lib.hid (HP.out.store1 hW hB)
                  have HO2 := Lib.hid (HO2.out.trans (Only.wrote (S := NFoot b (.slice wa wn wc) (.slice ea en ec) vz) hW (.inl rfl)))
                  clear hW hB
                  refine hK _ _ HS.out (fun _ => ?_)
                  clear hK K
                  try simp only [Act.put, List.setIfInBounds_toArray, List.set_cons_succ, List.set_cons_zero]
                  refine wpAnyH_take (i := 21) (oi := ⟨some 42, .nilCheck (.tmp 23), _, _, _, none⟩) (v := .pointer (some ⟨b, 0, none⟩)) rfl (by kernel_rfl) (by kernel_rfl) (by kernel_rfl) (fun _ _ _ h => h) (Or.inl ⟨by rfl, fun _ _ => by go_simp⟩) HS.out ?_
                  try simp only [Act.put, List.setIfInBounds_toArray, List.set_cons_succ, List.set_cons_zero]
                  refine wpAnyH_take (i := 22) (oi := ⟨some 43, .fieldAddr 43 (.tmp 42) 2, _, _, _, none⟩) (v := .pointer (some ⟨b, 2, none⟩)) rfl (by kernel_rfl) (by kernel_rfl) (by kernel_rfl) (fun _ _ _ h => h) (Or.inl ⟨by rfl, fun _ _ => by go_simp⟩) HS.out ?_
                  try simp only [Act.put, List.setIfInBounds_toArray, List.set_cons_succ, List.set_cons_zero]
                  refine wpAnyH_ready (rs := [23]) (by kernel_rfl) (by simp) ?_
                  refine AllReadyH.cons (o := ⟨none, .store 41 (.tmp 43) (.tmp 39), _, _, _, none⟩) rfl (fun K hK => ?_) AllReadyH.nil
                  refine wp_store_one (.tmp 43) (.tmp 39) 41 size_sents rfl b 2 (.slice a8 (en + 1) c8) (by rfl) (by rfl) (by rfl) (by rfl) HP.out.blk (by simp) ?_
                  intro v55 hW hB
                  have HS := Lib.hid (hW.blk HS.out (blk_type_ne HS.out HP.out.blk (by decide)))
                  have HP := Lib.hid (HP.out.store2 hW hB)
                  have HO2 := Lib.hid (HO2.out.trans (Only.wrote (S := NFoot b (.slice wa wn wc) (.slice ea en ec) vz) hW (.inl rfl)))
                  clear hW hB
                  refine hK _ _ HS.out (fun _ => ?_)
                  clear hK K
                  try simp only [Act.put, List.setIfInBounds_toArray, List.set_cons_succ, List.set_cons_zero]
                  refine wpAnyH_done (by kernel_rfl) ?_ _
                  go_wp2
                  go_roundw
                  case rel => exact ⟨k + 1, .slice a7 (wn + 1) c7, .slice a8 (en + 1) c8, by have := HLT.out; omega, by go_num, by rw [HSM.out, ← List.append_assoc, ← List.append_assoc]; exact HP.out.whole, HO.out.trans' HO2.out HG.out, fun j q => by
                    rcases q with e | e | e | e
                    · exact HG.out j (.inl e)
                    · exact (HGway.out j e).elim (fun p => HG.out j (.inr (.inl p))) (fun p => .inr (Nat.le_trans HWR.out p))
                    · exact (HGever.out j e).elim (fun p => HG.out j (.inr (.inr (.inl p)))) (fun p => .inr (Nat.le_trans HWR.out p))
                    · exact HG.out j (.inr (.inr (.inr e)))⟩
                  case measure => have := HLT.out; simp [intOf]; omega
                · go_simp
                  refine (own_walk f t px n cx dd HDL.out v49 HTX.out).mono ?_
                  rintro e v56 ⟨g2, rfl, hB1, hge, hb⟩
                  have hsz : bx ≤ v49.heap.size := (by rw [← HBX.out]; exact HO2.out.size)
                  have HS := Lib.hid (HS.out.on hb)
                  have HP := Lib.hid (HP.out.on hb)
                  have HTX := Lib.hid (HTX.out.below hb)
                  have HO2 := Lib.hid (HO2.out.trans (Only.of_below hb))
                  have HX_g2 := Lib.hid (Tn.of_blkn (av := fun k => av k ∨ w0.heap.size ≤ k) hB1 HNL.out (show av g2 ∨ w0.heap.size ≤ g2 from .inr (Nat.le_trans HWR.out (Nat.le_trans hsz hge))))
                  clear hb hB1 hge hsz
                  refine hK _ _ HS.out (fun _ => ?_)
                  clear hK K
                  try simp only [Act.put, List.setIfInBounds_toArray, List.set_cons_succ, List.set_cons_zero]
                  refine wpAnyH_ready (rs := [13, 16]) (by kernel_rfl) (by simp) ?_
                  refine AllReadyH.cons (o := ⟨some 35, .load 41 (.tmp 34), 41, _, _, none⟩) rfl (fun K hK => ?_) (AllReadyH.cons (o := ⟨some 38, .buildSlice 41 1 #[(0, .tmp 37)], 41, _, _, none⟩) rfl (fun K hK => ?_) AllReadyH.nil)
                  · have c1 := HP.out.c2
                    refine wp_of_yields' (v := .slice ea en ec) (by unfold execOp; go_simp) ?_
                    clear c1
                    refine hK _ _ HS.out (fun _ => ?_)
                    clear hK K
                    try simp only [Act.put, List.setIfInBounds_toArray, List.set_cons_succ, List.set_cons_zero]
                    refine wpAnyH_ready (rs := [16]) (by kernel_rfl) (by simp) ?_
                    refine AllReadyH.cons (o := ⟨some 38, .buildSlice 41 1 #[(0, .tmp 37)], 41, _, _, none⟩) rfl (fun K hK => ?_) AllReadyH.nil
                    go_simp
                    have BJ2 := Blk.new v56 #[.int .i64 f, .int .i64 t, .slice (some ⟨g2, 0, none⟩) n n] 47
                    have hb := below_one' v56 (.cells #[.int .i64 f, .int .i64 t, .slice (some ⟨g2, 0, none⟩) n n] 47)
                    generalize World.alloc v56 _ = v58 at *
                    have HS := Lib.hid (HS.out.on hb)
                    have HP := Lib.hid (HP.out.on hb)
                    have HTX := Lib.hid (HTX.out.below hb)
                    have HO2 := Lib.hid (HO2.out.trans (Only.of_below hb))
                    have HX_g2 := Lib.hid (HX_g2.out.on hb)
                    replace BJ2 := Lib.hid BJ2
                    clear hb
                    refine hK _ _ HS.out (fun _ => ?_)
                    clear hK K
                    try simp only [Act.put, List.setIfInBounds_toArray, List.set_cons_succ, List.set_cons_zero]
                    refine wpAnyH_ready (rs := [17]) (by kernel_rfl) (by simp) ?_
                    refine AllReadyH.cons (o := ⟨some 39, .call { callee := .builtin .append, args := #[.tmp 35, .tmp 38], argTypes := #[41, 41] }, 41, _, _, none⟩) rfl (fun K hK => ?_) AllReadyH.nil
                    obtain ⟨ls, hw, hw2⟩ := HP.out.ever
                    rw [← HeverN.out] at hw
                    have HWS := Lib.hid hw
                    have HW2 := Lib.hid hw2
                    clear hw hw2
                    refine wp_append_row (.tmp 35) (.tmp 38) 41 47 rfl (.agg #[.int .i64 0, .int .i64 0, .slice none 0 0]) 3 40 Try.underlying41 info_sent (by rfl) (by decide) (.slice ea en ec) en (ncells ls) (by rfl) HWS.out _ 1 [.int .i64 f, .int .i64 t, .slice (some ⟨g2, 0, none⟩) n n] (by rfl) (by rfl) BJ2.out (by simp [Value.oneCell']) H63ever.out HBYever.out ?_
                    intro a8 c8 v59 hO hg hat
                    have HP := Lib.hid (HP.out.app_ever (s := ⟨f, t, dd⟩) HeverN.out hg hO HW2.out HX_g2.out hat)
                    have HGever := Lib.hid (show ∀ j, (Value.slice a8 (en + 1) c8).ownBlock = some j → ((.slice ea en ec) : Value).ownBlock = some j ∨ bx ≤ j from fun j e => (hat j e).imp id (fun q => by rw [q, ← HBX.out]; exact HO2.out.size))
                    have HS := Lib.hid ((Only.grown (S := fun j => ((.slice ea en ec) : Value).ownBlock = some j) hg (fun j e => e)).blk HS.out (HNBever.out))
                    have HTX := Lib.hid (HTX.out.onlyT (Only.grown (S := fun j => ((.slice ea en ec) : Value).ownBlock = some j) hg (fun j e => e)) (fun g0 o0 e h0 q => HNX.out g0 o0 e h0 (.inr (.inr (.inl q)))))
                    have HO2 := Lib.hid (HO2.out.trans (Only.grown (S := NFoot b (.slice wa wn wc) (.slice ea en ec) vz) hg (fun j e => .inr (.inr (.inl e)))))
                    clear hO hg hat HWS HW2 HX_g2 BJ2
                    refine hK _ _ HS.out (fun _ => ?_)
                    clear hK K
                    try simp only [Act.put, List.setIfInBounds_toArray, List.set_cons_succ, List.set_cons_zero]
                    refine wpAnyH_take (i := 18) (oi := ⟨some 40, .nilCheck (.tmp 22), _, _, _, none⟩) (v := .pointer (some ⟨b, 0, none⟩)) rfl (by kernel_rfl) (by kernel_rfl) (by kernel_rfl) (fun _ _ _ h => h) (Or.inl ⟨by rfl, fun _ _ => by go_simp⟩) HS.out ?_
                    try simp only [Act.put, List.setIfInBounds_toArray, List.set_cons_succ, List.set_cons_zero]
                    refine wpAnyH_take (i := 19) (oi := ⟨some 41, .fieldAddr 43 (.tmp 40) 1, _, _, _, none⟩) (v := .pointer (some ⟨b, 1, none⟩)) rfl (by kernel_rfl) (by kernel_rfl) (by kernel_rfl) (fun _ _ _ h => h) (Or.inl ⟨by rfl, fun _ _ => by go_simp⟩) HS.out ?_
                    try simp only [Act.put, List.setIfInBounds_toArray, List.set_cons_succ, List.set_cons_zero]
                    refine wpAnyH_ready (rs := [20]) (by kernel_rfl) (by simp) ?_
                    refine AllReadyH.cons (o := ⟨none, .store 41 (.tmp 41) (.tmp 31), _, _, _, none⟩) rfl (fun K hK => ?_) AllReadyH.nil
                    refine wp_store_one (.tmp 41) (.tmp 31) 41 size_sents rfl b 1 (.slice a7 (wn + 1) c7) (by rfl) (by rfl) (by rfl) (by rfl) HP.out.blk (by simp) ?_
                    intro v60 hW hB
                    have HS := Lib.hid (hW.blk HS.out (blk_type_ne HS.out HP.out.blk (by decide)))
                    have HP := Lib.hid (HP.out.store1 hW hB)
                    have HO2 := Lib.hid (HO2.out.trans (Only.wrote (S := NFoot b (.slice wa wn wc) (.slice ea en ec) vz) hW (.inl rfl)))
                    clear hW hB
                    refine hK _ _ HS.out (fun _ => ?_)
                    clear hK K
                    try simp only [Act.put, List.setIfInBounds_toArray, List.set_cons_succ, List.set_cons_zero]
                    refine wpAnyH_take (i := 21) (oi := ⟨some 42, .nilCheck (.tmp 23), _, _, _, none⟩) (v := .pointer (some ⟨b, 0, none⟩)) rfl (by kernel_rfl) (by kernel_rfl) (by kernel_rfl) (fun _ _ _ h => h) (Or.inl ⟨by rfl, fun _ _ => by go_simp⟩) HS.out ?_
                    try simp only [Act.put, List.setIfInBounds_toArray, List.set_cons_succ, List.set_cons_zero]
                    refine wpAnyH_take (i := 22) (oi := ⟨some 43, .fieldAddr 43 (.tmp 42) 2, _, _, _, none⟩) (v := .pointer (some ⟨b, 2, none⟩)) rfl (by kernel_rfl) (by kernel_rfl) (by kernel_rfl) (fun _ _ _ h => h) (Or.inl ⟨by rfl, fun _ _ => by go_simp⟩) HS.out ?_
                    try simp only [Act.put, List.setIfInBounds_toArray, List.set_cons_succ, List.set_cons_zero]
                    refine wpAnyH_ready (rs := [23]) (by kernel_rfl) (by simp) ?_
                    refine AllReadyH.cons (o := ⟨none, .store 41 (.tmp 43) (.tmp 39), _, _, _, none⟩) rfl (fun K hK => ?_) AllReadyH.nil
                    refine wp_store_one (.tmp 43) (.tmp 39) 41 size_sents rfl b 2 (.slice a8 (en + 1) c8) (by rfl) (by rfl) (by rfl) (by rfl) HP.out.blk (by simp) ?_
                    intro v61 hW hB
                    have HS := Lib.hid (hW.blk HS.out (blk_type_ne HS.out HP.out.blk (by decide)))
                    have HP := Lib.hid (HP.out.store2 hW hB)
                    have HO2 := Lib.hid (HO2.out.trans (Only.wrote (S := NFoot b (.slice wa wn wc) (.slice ea en ec) vz) hW (.inl rfl)))
                    clear hW hB
                    refine hK _ _ HS.out (fun _ => ?_)
                    clear hK K
                    try simp only [Act.put, List.setIfInBounds_toArray, List.set_cons_succ, List.set_cons_zero]
                    refine wpAnyH_done (by kernel_rfl) ?_ _
                    go_wp2
                    go_roundw
                    case rel => exact ⟨k + 1, .slice a7 (wn + 1) c7, .slice a8 (en + 1) c8, by have := HLT.out; omega, by go_num, by rw [HSM.out, ← List.append_assoc, ← List.append_assoc]; exact HP.out.whole, HO.out.trans' HO2.out HG.out, fun j q => by
                      rcases q with e | e | e | e
                      · exact HG.out j (.inl e)
                      · exact (HGway.out j e).elim (fun p => HG.out j (.inr (.inl p))) (fun p => .inr (Nat.le_trans HWR.out p))
                      · exact (HGever.out j e).elim (fun p => HG.out j (.inr (.inr (.inl p)))) (fun p => .inr (Nat.le_trans HWR.out p))
                      · exact HG.out j (.inr (.inr (.inr e)))⟩
                    case measure => have := HLT.out; simp [intOf]; omega
                  · go_simp
                    have BJ2 := Blk.new v56 #[.int .i64 f, .int .i64 t, .slice (some ⟨g2, 0, none⟩) n n] 47
                    have hb := below_one' v56 (.cells #[.int .i64 f, .int .i64 t, .slice (some ⟨g2, 0, none⟩) n n] 47)
                    generalize World.alloc v56 _ = v62 at *
                    have HS := Lib.hid (HS.out.on hb)
                    have HP := Lib.hid (HP.out.on hb)
                    have HTX := Lib.hid (HTX.out.below hb)
                    have HO2 := Lib.hid (HO2.out.trans (Only.of_below hb))
                    have HX_g2 := Lib.hid (HX_g2.out.on hb)
                    replace BJ2 := Lib.hid BJ2
                    clear hb
                    refine hK _ _ HS.out (fun _ => ?_)
                    clear hK K
                    try simp only [Act.put, List.setIfInBounds_toArray, List.set_cons_succ, List.set_cons_zero]
                    refine wpAnyH_ready (rs := [13]) (by kernel_rfl) (by simp) ?_
                    refine AllReadyH.cons (o := ⟨some 35, .load 41 (.tmp 34), 41, _, _, none⟩) rfl (fun K hK => ?_) AllReadyH.nil
                    have c1 := HP.out.c2
                    refine wp_of_yields' (v := .slice ea en ec) (by unfold execOp; go_simp) ?_
                    clear c1
                    refine hK _ _ HS.out (fun _ => ?_)
                    clear hK K
                    try simp only [Act.put, List.setIfInBounds_toArray, List.set_cons_succ, List.set_cons_zero]
                    refine wpAnyH_ready (rs := [17]) (by kernel_rfl) (by simp) ?_
                    refine AllReadyH.cons (o := ⟨some 39, .call { callee := .builtin .append, args := #[.tmp 35, .tmp 38], argTypes := #[41, 41] }, 41, _, _, none⟩) rfl (fun K hK => ?_) AllReadyH.nil
                    obtain ⟨ls, hw, hw2⟩ := HP.out.ever
                    rw [← HeverN.out] at hw
                    have HWS := Lib.hid hw
                    have HW2 := Lib.hid hw2
                    clear hw hw2
                    refine wp_append_row (.tmp 35) (.tmp 38) 41 47 rfl (.agg #[.int .i64 0, .int .i64 0, .slice none 0 0]) 3 40 Try.underlying41 info_sent (by rfl) (by decide) (.slice ea en ec) en (ncells ls) (by rfl) HWS.out _ 1 [.int .i64 f, .int .i64 t, .slice (some ⟨g2, 0, none⟩) n n] (by rfl) (by rfl) BJ2.out (by simp [Value.oneCell']) H63ever.out HBYever.out ?_
                    intro a8 c8 v64 hO hg hat
                    have HP := Lib.hid (HP.out.app_ever (s := ⟨f, t, dd⟩) HeverN.out hg hO HW2.out HX_g2.out hat)
                    have HGever := Lib.hid (show ∀ j, (Value.slice a8 (en + 1) c8).ownBlock = some j → ((.slice ea en ec) : Value).ownBlock = some j ∨ bx ≤ j from fun j e => (hat j e).imp id (fun q => by rw [q, ← HBX.out]; exact HO2.out.size))
                    have HS := Lib.hid ((Only.grown (S := fun j => ((.slice ea en ec) : Value).ownBlock = some j) hg (fun j e => e)).blk HS.out (HNBever.out))
                    have HTX := Lib.hid (HTX.out.onlyT (Only.grown (S := fun j => ((.slice ea en ec) : Value).ownBlock = some j) hg (fun j e => e)) (fun g0 o0 e h0 q => HNX.out g0 o0 e h0 (.inr (.inr (.inl q)))))
                    have HO2 := Lib.hid (HO2.out.trans (Only.grown (S := NFoot b (.slice wa wn wc) (.slice ea en ec) vz) hg (fun j e => .inr (.inr (.inl e)))))
                    clear hO hg hat HWS HW2 HX_g2 BJ2
                    refine hK _ _ HS.out (fun _ => ?_)
                    clear hK K
                    try simp only [Act.put, List.setIfInBounds_toArray, List.set_cons_succ, List.set_cons_zero]
                    refine wpAnyH_take (i := 18) (oi := ⟨some 40, .nilCheck (.tmp 22), _, _, _, none⟩) (v := .pointer (some ⟨b, 0, none⟩)) rfl (by kernel_rfl) (by kernel_rfl) (by kernel_rfl) (fun _ _ _ h => h) (Or.inl ⟨by rfl, fun _ _ => by go_simp⟩) HS.out ?_
                    try simp only [Act.put, List.setIfInBounds_toArray, List.set_cons_succ, List.set_cons_zero]
                    refine wpAnyH_take (i := 19) (oi := ⟨some 41, .fieldAddr 43 (.tmp 40) 1, _, _, _, none⟩) (v := .pointer (some ⟨b, 1, none⟩)) rfl (by kernel_rfl) (by kernel_rfl) (by kernel_rfl) (fun _ _ _ h => h) (Or.inl ⟨by rfl, fun _ _ => by go_simp⟩) HS.out ?_
                    try simp only [Act.put, List.setIfInBounds_toArray, List.set_cons_succ, List.set_cons_zero]
                    refine wpAnyH_ready (rs := [20]) (by kernel_rfl) (by simp) ?_
                    refine AllReadyH.cons (o := ⟨none, .store 41 (.tmp 41) (.tmp 31), _, _, _, none⟩) rfl (fun K hK => ?_) AllReadyH.nil
                    refine wp_store_one (.tmp 41) (.tmp 31) 41 size_sents rfl b 1 (.slice a7 (wn + 1) c7) (by rfl) (by rfl) (by rfl) (by rfl) HP.out.blk (by simp) ?_
                    intro v65 hW hB
                    have HS := Lib.hid (hW.blk HS.out (blk_type_ne HS.out HP.out.blk (by decide)))
                    have HP := Lib.hid (HP.out.store1 hW hB)
                    have HO2 := Lib.hid (HO2.out.trans (Only.wrote (S := NFoot b (.slice wa wn wc) (.slice ea en ec) vz) hW (.inl rfl)))
                    clear hW hB
                    refine hK _ _ HS.out (fun _ => ?_)
                    clear hK K
                    try simp only [Act.put, List.setIfInBounds_toArray, List.set_cons_succ, List.set_cons_zero]
                    refine wpAnyH_take (i := 21) (oi := ⟨some 42, .nilCheck (.tmp 23), _, _, _, none⟩) (v := .pointer (some ⟨b, 0, none⟩)) rfl (by kernel_rfl) (by kernel_rfl) (by kernel_rfl) (fun _ _ _ h => h) (Or.inl ⟨by rfl, fun _ _ => by go_simp⟩) HS.out ?_
                    try simp only [Act.put, List.setIfInBounds_toArray, List.set_cons_succ, List.set_cons_zero]
                    refine wpAnyH_take (i := 22) (oi := ⟨some 43, .fieldAddr 43 (.tmp 42) 2, _, _, _, none⟩) (v := .pointer (some ⟨b, 2, none⟩)) rfl (by kernel_rfl) (by kernel_rfl) (by kernel_rfl) (fun _ _ _ h => h) (Or.inl ⟨by rfl, fun _ _ => by go_simp⟩) HS.out ?_
                    try simp only [Act.put, List.setIfInBounds_toArray, List.set_cons_succ, List.set_cons_zero]
                    refine wpAnyH_ready (rs := [23]) (by kernel_rfl) (by simp) ?_
                    refine AllReadyH.cons (o := ⟨none, .store 41 (.tmp 43) (.tmp 39), _, _, _, none⟩) rfl (fun K hK => ?_) AllReadyH.nil
                    refine wp_store_one (.tmp 43) (.tmp 39) 41 size_sents rfl b 2 (.slice a8 (en + 1) c8) (by rfl) (by rfl) (by rfl) (by rfl) HP.out.blk (by simp) ?_
                    intro v66 hW hB
                    have HS := Lib.hid (hW.blk HS.out (blk_type_ne HS.out HP.out.blk (by decide)))
                    have HP := Lib.hid (HP.out.store2 hW hB)
                    have HO2 := Lib.hid (HO2.out.trans (Only.wrote (S := NFoot b (.slice wa wn wc) (.slice ea en ec) vz) hW (.inl rfl)))
                    clear hW hB
                    refine hK _ _ HS.out (fun _ => ?_)
                    clear hK K
                    try simp only [Act.put, List.setIfInBounds_toArray, List.set_cons_succ, List.set_cons_zero]
                    refine wpAnyH_done (by kernel_rfl) ?_ _
                    go_wp2
                    go_roundw
                    case rel => exact ⟨k + 1, .slice a7 (wn + 1) c7, .slice a8 (en + 1) c8, by have := HLT.out; omega, by go_num, by rw [HSM.out, ← List.append_assoc, ← List.append_assoc]; exact HP.out.whole, HO.out.trans' HO2.out HG.out, fun j q => by
                      rcases q with e | e | e | e
                      · exact HG.out j (.inl e)
                      · exact (HGway.out j e).elim (fun p => HG.out j (.inr (.inl p))) (fun p => .inr (Nat.le_trans HWR.out p))
                      · exact (HGever.out j e).elim (fun p => HG.out j (.inr (.inr (.inl p)))) (fun p => .inr (Nat.le_trans HWR.out p))
                      · exact HG.out j (.inr (.inr (.inr e)))⟩
                    case measure => have := HLT.out; simp [intOf]; omega
              · have c1 := HP.out.c2
                refine wp_of_yields' (v := .slice ea en ec) (by unfold execOp; go_simp) ?_
                clear c1
                refine hK _ _ HS.out (fun _ => ?_)
                clear hK K
                try simp only [Act.put, List.setIfInBounds_toArray, List.set_cons_succ, List.set_cons_zero]
                refine wpAnyH_ready (rs := [9]) (by kernel_rfl) (by simp) ?_
                refine AllReadyH.cons (o := ⟨some 31, .call { callee := .builtin .append, args := #[.tmp 27, .tmp 30], argTypes := #[41, 41] }, 41, _, _, none⟩) rfl (fun K hK => ?_) AllReadyH.nil
                obtain ⟨ls, hw, hw2⟩ := HP.out.way
                rw [← HwayN.out] at hw
                have HWS := Lib.hid hw
                have HW2 := Lib.hid hw2
                clear hw hw2
                refine wp_append_row (.tmp 27) (.tmp 30) 41 47 rfl (.agg #[.int .i64 0, .int .i64 0, .slice none 0 0]) 3 40 Try.underlying41 info_sent (by rfl) (by decide) (.slice wa wn wc) wn (ncells ls) (by rfl) HWS.out _ 1 [.int .i64 f, .int .i64 t, .slice (some ⟨g1, 0, none⟩) n n] (by rfl) (by rfl) BJ1.out (by simp [Value.oneCell']) H63way.out HBYway.out ?_
                intro a7 c7 v68 hO hg hat
                have HP := Lib.hid (HP.out.app_way (s := ⟨f, t, dd⟩) HwayN.out hg hO HW2.out HX_g1.out hat)
                have HGway := Lib.hid (show ∀ j, (Value.slice a7 (wn + 1) c7).ownBlock = some j → ((.slice wa wn wc) : Value).ownBlock = some j ∨ bx ≤ j from fun j e => (hat j e).imp id (fun q => by rw [q, ← HBX.out]; exact HO2.out.size))
                have HS := Lib.hid ((Only.grown (S := fun j => ((.slice wa wn wc) : Value).ownBlock = some j) hg (fun j e => e)).blk HS.out (HNBway.out))
                have HTX := Lib.hid (HTX.out.onlyT (Only.grown (S := fun j => ((.slice wa wn wc) : Value).ownBlock = some j) hg (fun j e => e)) (fun g0 o0 e h0 q => HNX.out g0 o0 e h0 (.inr (.inl q))))
                have HO2 := Lib.hid (HO2.out.trans (Only.grown (S := NFoot b (.slice wa wn wc) (.slice ea en ec) vz) hg (fun j e => .inr (.inl e))))
                clear hO hg hat HWS HW2 HX_g1 BJ1
                refine hK _ _ HS.out (fun _ => ?_)
                clear hK K
                try simp only [Act.put, List.setIfInBounds_toArray, List.set_cons_succ, List.set_cons_zero]
                refine wpAnyH_ready (rs := [15]) (by kernel_rfl) (by simp) ?_
                refine AllReadyH.cons (o := ⟨some 37, .call { callee := .value (.func 84), args := #[.tmp 36], argTypes := #[47] }, 47, _, _, none⟩) rfl (fun K hK => ?_) AllReadyH.nil
                go_simp
                refine (own_walk f t px n cx dd HDL.out v68 HTX.out).mono ?_
                rintro e v69 ⟨g2, rfl, hB1, hge, hb⟩
                have hsz : bx ≤ v68.heap.size := (by rw [← HBX.out]; exact HO2.out.size)
                have HS := Lib.hid (HS.out.on hb)
                have HP := Lib.hid (HP.out.on hb)
                have HTX := Lib.hid (HTX.out.below hb)
                have HO2 := Lib.hid (HO2.out.trans (Only.of_below hb))
                have HX_g2 := Lib.hid (Tn.of_blkn (av := fun k => av k ∨ w0.heap.size ≤ k) hB1 HNL.out (show av g2 ∨ w0.heap.size ≤ g2 from .inr (Nat.le_trans HWR.out (Nat.le_trans hsz hge))))
                clear hb hB1 hge hsz
                refine hK _ _ HS.out (fun _ => ?_)
                clear hK K
                try simp only [Act.put, List.setIfInBounds_toArray, List.set_cons_succ, List.set_cons_zero]
                refine wpAnyH_ready (rs := [16]) (by kernel_rfl) (by simp) ?_
                refine AllReadyH.cons (o := ⟨some 38, .buildSlice 41 1 #[(0, .tmp 37)], 41, _, _, none⟩) rfl (fun K hK => ?_) AllReadyH.nil
                go_simp
                have BJ2 := Blk.new v69 #[.int .i64 f, .int .i64 t, .slice (some ⟨g2, 0, none⟩) n n] 47
                have hb := below_one' v69 (.cells #[.int .i64 f, .int .i64 t, .slice (some ⟨g2, 0, none⟩) n n] 47)
                generalize World.alloc v69 _ = v70 at *
                have HS := Lib.hid (HS.out.on hb)
                have HP := Lib.hid (HP.out.on hb)
                have HTX := Lib.hid (HTX.out.below hb)
                have HO2 := Lib.hid (HO2.out.trans (Only.of_below hb))
                have HX_g2 := Lib.hid (HX_g2.out.on hb)
                replace BJ2 := Lib.hid BJ2
                clear hb
                refine hK _ _ HS.out (fun _ => ?_)
                clear hK K
                try simp only [Act.put, List.setIfInBounds_toArray, List.set_cons_succ, List.set_cons_zero]
                refine wpAnyH_ready (rs := [17]) (by kernel_rfl) (by simp) ?_
                refine AllReadyH.cons (o := ⟨some 39, .call { callee := .builtin .append, args := #[.tmp 35, .tmp 38], argTypes := #[41, 41] }, 41, _, _, none⟩) rfl (fun K hK => ?_) AllReadyH.nil
                obtain ⟨ls, hw, hw2⟩ := HP.out.ever
                rw [← HeverN.out] at hw
                have HWS := Lib.hid hw
                have HW2 := Lib.hid hw2
                clear hw hw2
                refine wp_append_row (.tmp 35) (.tmp 38) 41 47 rfl (.agg #[.int .i64 0, .int .i64 0, .slice none 0 0]) 3 40 Try.underlying41 info_sent (by rfl) (by decide) (.slice ea en ec) en (ncells ls) (by rfl) HWS.out _ 1 [.int .i64 f, .int .i64 t, .slice (some ⟨g2, 0, none⟩) n n] (by rfl) (by rfl) BJ2.out (by simp [Value.oneCell']) H63ever.out HBYever.out ?_
                intro a8 c8 v71 hO hg hat
                have HP := Lib.hid (HP.out.app_ever (s := ⟨f, t, dd⟩) HeverN.out hg hO HW2.out HX_g2.out hat)
                have HGever := Lib.hid (show ∀ j, (Value.slice a8 (en + 1) c8).ownBlock = some j → ((.slice ea en ec) : Value).ownBlock = some j ∨ bx ≤ j from fun j e => (hat j e).imp id (fun q => by rw [q, ← HBX.out]; exact HO2.out.size))
                have HS := Lib.hid ((Only.grown (S := fun j => ((.slice ea en ec) : Value).ownBlock = some j) hg (fun j e => e)).blk HS.out (HNBever.out))
                have HTX := Lib.hid (HTX.out.onlyT (Only.grown (S := fun j => ((.slice ea en ec) : Value).ownBlock = some j) hg (fun j e => e)) (fun g0 o0 e h0 q => HNX.out g0 o0 e h0 (.inr (.inr (.inl q)))))
                have HO2 := Lib.hid (HO2.out.trans (Only.grown (S := NFoot b (.slice wa wn wc) (.slice ea en ec) vz) hg (fun j e => .inr (.inr (.inl e)))))
                clear hO hg hat HWS HW2 HX_g2 BJ2
                refine hK _ _ HS.out (fun _ => ?_)
                clear hK K
                try simp only [Act.put, List.setIfInBounds_toArray, List.set_cons_succ, List.set_cons_zero]
                refine wpAnyH_take (i := 18) (oi := ⟨some 40, .nilCheck (.tmp 22), _, _, _, none⟩) (v := .pointer (some ⟨b, 0, none⟩)) rfl (by kernel_rfl) (by kernel_rfl) (by kernel_rfl) (fun _ _ _ h => h) (Or.inl ⟨by rfl, fun _ _ => by go_simp⟩) HS.out ?_
                try simp only [Act.put, List.setIfInBounds_toArray, List.set_cons_succ, List.set_cons_zero]
                refine wpAnyH_take (i := 19) (oi := ⟨some 41, .fieldAddr 43 (.tmp 40) 1, _, _, _, none⟩) (v := .pointer (some ⟨b, 1, none⟩)) rfl (by kernel_rfl) (by kernel_rfl) (by kernel_rfl) (fun _ _ _ h => h) (Or.inl ⟨by rfl, fun _ _ => by go_simp⟩) HS.out ?_
                try simp only [Act.put, List.setIfInBounds_toArray, List.set_cons_succ, List.set_cons_zero]
                refine wpAnyH_ready (rs := [20]) (by kernel_rfl) (by simp) ?_
                refine AllReadyH.cons (o := ⟨none, .store 41 (.tmp 41) (.tmp 31), _, _, _, none⟩) rfl (fun K hK => ?_) AllReadyH.nil
                refine wp_store_one (.tmp 41) (.tmp 31) 41 size_sents rfl b 1 (.slice a7 (wn + 1) c7) (by rfl) (by rfl) (by rfl) (by rfl) HP.out.blk (by simp) ?_
                intro v72 hW hB
                have HS := Lib.hid (hW.blk HS.out (blk_type_ne HS.out HP.out.blk (by decide)))
                have HP := Lib.hid (HP.out.store1 hW hB)
                have HO2 := Lib.hid (HO2.out.trans (Only.wrote (S := NFoot b (.slice wa wn wc) (.slice ea en ec) vz) hW (.inl rfl)))
                clear hW hB
                refine hK _ _ HS.out (fun _ => ?_)
                clear hK K
                try simp only [Act.put, List.setIfInBounds_toArray, List.set_cons_succ, List.set_cons_zero]
                refine wpAnyH_take (i := 21) (oi := ⟨some 42, .nilCheck (.tmp 23), _, _, _, none⟩) (v := .pointer (some ⟨b, 0, none⟩)) rfl (by kernel_rfl) (by kernel_rfl) (by kernel_rfl) (fun _ _ _ h => h) (Or.inl ⟨by rfl, fun _ _ => by go_simp⟩) HS.out ?_
                try simp only [Act.put, List.setIfInBounds_toArray, List.set_cons_succ, List.set_cons_zero]
                refine wpAnyH_take (i := 22) (oi := ⟨some 43, .fieldAddr 43 (.tmp 42) 2, _, _, _, none⟩) (v := .pointer (some ⟨b, 2, none⟩)) rfl (by kernel_rfl) (by kernel_rfl) (by kernel_rfl) (fun _ _ _ h => h) (Or.inl ⟨by rfl, fun _ _ => by go_simp⟩) HS.out ?_
                try simp only [Act.put, List.setIfInBounds_toArray, List.set_cons_succ, List.set_cons_zero]
                refine wpAnyH_ready (rs := [23]) (by kernel_rfl) (by simp) ?_
                refine AllReadyH.cons (o := ⟨none, .store 41 (.tmp 43) (.tmp 39), _, _, _, none⟩) rfl (fun K hK => ?_) AllReadyH.nil
                refine wp_store_one (.tmp 43) (.tmp 39) 41 size_sents rfl b 2 (.slice a8 (en + 1) c8) (by rfl) (by rfl) (by rfl) (by rfl) HP.out.blk (by simp) ?_
                intro v73 hW hB
                have HS := Lib.hid (hW.blk HS.out (blk_type_ne HS.out HP.out.blk (by decide)))
                have HP := Lib.hid (HP.out.store2 hW hB)
                have HO2 := Lib.hid (HO2.out.trans (Only.wrote (S := NFoot b (.slice wa wn wc) (.slice ea en ec) vz) hW (.inl rfl)))
                clear hW hB
                refine hK _ _ HS.out (fun _ => ?_)
                clear hK K
                try simp only [Act.put, List.setIfInBounds_toArray, List.set_cons_succ, List.set_cons_zero]
                refine wpAnyH_done (by kernel_rfl) ?_ _
                go_wp2
                go_roundw
                case rel => exact ⟨k + 1, .slice a7 (wn + 1) c7, .slice a8 (en + 1) c8, by have := HLT.out; omega, by go_num, by rw [HSM.out, ← List.append_assoc, ← List.append_assoc]; exact HP.out.whole, HO.out.trans' HO2.out HG.out, fun j q => by
                  rcases q with e | e | e | e
                  · exact HG.out j (.inl e)
                  · exact (HGway.out j e).elim (fun p => HG.out j (.inr (.inl p))) (fun p => .inr (Nat.le_trans HWR.out p))
                  · exact (HGever.out j e).elim (fun p => HG.out j (.inr (.inr (.inl p)))) (fun p => .inr (Nat.le_trans HWR.out p))
                  · exact HG.out j (.inr (.inr (.inr e)))⟩
                case measure => have := HLT.out; simp [intOf]; omega
            · have c1 := HP.out.c2
              refine wp_of_yields' (v := .slice ea en ec) (by unfold execOp; go_simp) ?_
              clear c1
              refine hK _ _ HS.out (fun _ => ?_)
              clear hK K
              try simp only [Act.put, List.setIfInBounds_toArray, List.set_cons_succ, List.set_cons_zero]
              refine wpAnyH_ready (rs := [8]) (by kernel_rfl) (by simp) ?_
              refine AllReadyH.cons (o := ⟨some 30, .buildSlice 41 1 #[(0, .tmp 29)], 41, _, _, none⟩) rfl (fun K hK => ?_) AllReadyH.nil
              go_simp
              have BJ1 := Blk.new v46 #[.int .i64 f, .int .i64 t, .slice (some ⟨g1, 0, none⟩) n n] 47
              have hb := below_one' v46 (.cells #[.int .i64 f, .int .i64 t, .slice (some ⟨g1, 0, none⟩) n n] 47)
              generalize World.alloc v46 _ = v75 at *
              have HS := Lib.hid (HS.out.on hb)
              have HP := Lib.hid (HP.out.on hb)
              have HTX := Lib.hid (HTX.out.below hb)
              have HO2 := Lib.hid (HO2.out.trans (Only.of_below hb))
              have HX_g1 := Lib.hid (HX_g1.out.on hb)
              replace BJ1 := Lib.hid BJ1
              clear hb
              refine hK _ _ HS.out (fun _ => ?_)
              clear hK K
              try simp only [Act.put, List.setIfInBounds_toArray, List.set_cons_succ, List.set_cons_zero]
              refine wpAnyH_ready (rs := [9]) (by kernel_rfl) (by simp) ?_
              refine AllReadyH.cons (o := ⟨some 31, .call { callee := .builtin .append, args := #[.tmp 27, .tmp 30], argTypes := #[41, 41] }, 41, _, _, none⟩) rfl (fun K hK => ?_) AllReadyH.nil
              obtain ⟨ls, hw, hw2⟩ := HP.out.way
              rw [← HwayN.out] at hw
              have HWS := Lib.hid hw
              have HW2 := Lib.hid hw2
              clear hw hw2
              refine wp_append_row (.tmp 27) (.tmp 30) 41 47 rfl (.agg #[.int .i64 0, .int .i64 0, .slice none 0 0]) 3 40 Try.underlying41 info_sent (by rfl) (by decide) (.slice wa wn wc) wn (ncells ls) (by rfl) HWS.out _ 1 [.int .i64 f, .int .i64 t, .slice (some ⟨g1, 0, none⟩) n n] (by rfl) (by rfl) BJ1.out (by simp [Value.oneCell']) H63way.out HBYway.out ?_
              intro a7 c7 v76 hO hg hat
              have HP := Lib.hid (HP.out.app_way (s := ⟨f, t, dd⟩) HwayN.out hg hO HW2.out HX_g1.out hat)
              have HGway := Lib.hid (show ∀ j, (Value.slice a7 (wn + 1) c7).ownBlock = some j → ((.slice wa wn wc) : Value).ownBlock = some j ∨ bx ≤ j from fun j e => (hat j e).imp id (fun q => by rw [q, ← HBX.out]; exact HO2.out.size))
              have HS := Lib.hid ((Only.grown (S := fun j => ((.slice wa wn wc) : Value).ownBlock = some j) hg (fun j e => e)).blk HS.out (HNBway.out))
              have HTX := Lib.hid (HTX.out.onlyT (Only.grown (S := fun j => ((.slice wa wn wc) : Value).ownBlock = some j) hg (fun j e => e)) (fun g0 o0 e h0 q => HNX.out g0 o0 e h0 (.inr (.inl q))))
              have HO2 := Lib.hid (HO2.out.trans (Only.grown (S := NFoot b (.slice wa wn wc) (.slice ea en ec) vz) hg (fun j e => .inr (.inl e))))
              clear hO hg hat HWS HW2 HX_g1 BJ1
              refine hK _ _ HS.out (fun _ => ?_)
              clear hK K
              try simp only [Act.put, List.setIfInBounds_toArray, List.set_cons_succ, List.set_cons_zero]
              refine wpAnyH_ready (rs := [15]) (by kernel_rfl) (by simp) ?_
              refine AllReadyH.cons (o := ⟨some 37, .call { callee := .value (.func 84), args := #[.tmp 36], argTypes := #[47] }, 47, _, _, none⟩) rfl (fun K hK => ?_) AllReadyH.nil
              go_simp
              refine (own_walk f t px n cx dd HDL.out v76 HTX.out).mono ?_
              rintro e v77 ⟨g2, rfl, hB1, hge, hb⟩
              have hsz : bx ≤ v76.heap.size := (by rw [← HBX.out]; exact HO2.out.size)
              have HS := Lib.hid (HS.out.on hb)
              have HP := Lib.hid (HP.out.on hb)
              have HTX := Lib.hid (HTX.out.below hb)
              have HO2 := Lib.hid (HO2.out.trans (Only.of_below hb))
              have HX_g2 := Lib.hid (Tn.of_blkn (av := fun k => av k ∨ w0.heap.size ≤ k) hB1 HNL.out (show av g2 ∨ w0.heap.size ≤ g2 from .inr (Nat.le_trans HWR.out (Nat.le_trans hsz hge))))
              clear hb hB1 hge hsz
              refine hK _ _ HS.out (fun _ => ?_)
              clear hK K
              try simp only [Act.put, List.setIfInBounds_toArray, List.set_cons_succ, List.set_cons_zero]
              refine wpAnyH_ready (rs := [16]) (by kernel_rfl) (by simp) ?_
              refine AllReadyH.cons (o := ⟨some 38, .buildSlice 41 1 #[(0, .tmp 37)], 41, _, _, none⟩) rfl (fun K hK => ?_) AllReadyH.nil
              go_simp
              have BJ2 := Blk.new v77 #[.int .i64 f, .int .i64 t, .slice (some ⟨g2, 0, none⟩) n n] 47
              have hb := below_one' v77 (.cells #[.int .i64 f, .int .i64 t, .slice (some ⟨g2, 0, none⟩) n n] 47)
              generalize World.alloc v77 _ = v78 at *
              have HS := Lib.hid (HS.out.on hb)
              have HP := Lib.hid (HP.out.on hb)
              have HTX := Lib.hid (HTX.out.below hb)
              have HO2 := Lib.hid (HO2.out.trans (Only.of_below hb))
              have HX_g2 := Lib.hid (HX_g2.out.on hb)
              replace BJ2 := Lib.hid BJ2
              clear hb
              refine hK _ _ HS.out (fun _ => ?_)
              clear hK K
              try simp only [Act.put, List.setIfInBounds_toArray, List.set_cons_succ, List.set_cons_zero]
              refine wpAnyH_ready (rs := [17]) (by kernel_rfl) (by simp) ?_
              refine AllReadyH.cons (o := ⟨some 39, .call { callee := .builtin .append, args := #[.tmp 35, .tmp 38], argTypes := #[41, 41] }, 41, _, _, none⟩) rfl (fun K hK => ?_) AllReadyH.nil
              obtain ⟨ls, hw, hw2⟩ := HP.out.ever
              rw [← HeverN.out] at hw
              have HWS := Lib.hid hw
              have HW2 := Lib.hid hw2
              clear hw hw2
              refine wp_append_row (.tmp 35) (.tmp 38) 41 47 rfl (.agg #[.int .i64 0, .int .i64 0, .slice none 0 0]) 3 40 Try.underlying41 info_sent (by rfl) (by decide) (.slice ea en ec) en (ncells ls) (by rfl) HWS.out _ 1 [.int .i64 f, .int .i64 t, .slice (some ⟨g2, 0, none⟩) n n] (by rfl) (by rfl) BJ2.out (by simp [Value.oneCell']) H63ever.out HBYever.out ?_
              intro a8 c8 v79 hO hg hat
              have HP := Lib.hid (HP.out.app_ever (s := ⟨f, t, dd⟩) HeverN.out hg hO HW2.out HX_g2.out hat)
              have HGever := Lib.hid (show ∀ j, (Value.slice a8 (en + 1) c8).ownBlock = some j → ((.slice ea en ec) : Value).ownBlock = some j ∨ bx ≤ j from fun j e => (hat j e).imp id (fun q => by rw [q, ← HBX.out]; exact HO2.out.size))
              have HS := Lib.hid ((Only.grown (S := fun j => ((.slice ea en ec) : Value).ownBlock = some j) hg (fun j e => e)).blk HS.out (HNBever.out))
              have HTX := Lib.hid (HTX.out.onlyT (Only.grown (S := fun j => ((.slice ea en ec) : Value).ownBlock = some j) hg (fun j e => e)) (fun g0 o0 e h0 q => HNX.out g0 o0 e h0 (.inr (.inr (.inl q)))))
              have HO2 := Lib.hid (HO2.out.trans (Only.grown (S := NFoot b (.slice wa wn wc) (.slice ea en ec) vz) hg (fun j e => .inr (.inr (.inl e)))))
              clear hO hg hat HWS HW2 HX_g2 BJ2
              refine hK _ _ HS.out (fun _ => ?_)
              clear hK K
              try simp only [Act.put, List.setIfInBounds_toArray, List.set_cons_succ, List.set_cons_zero]
              refine wpAnyH_take (i := 18) (oi := ⟨some 40, .nilCheck (.tmp 22), _, _, _, none⟩) (v := .pointer (some ⟨b, 0, none⟩)) rfl (by kernel_rfl) (by kernel_rfl) (by kernel_rfl) (fun _ _ _ h => h) (Or.inl ⟨by rfl, fun _ _ => by go_simp⟩) HS.out ?_
              try simp only [Act.put, List.setIfInBounds_toArray, List.set_cons_succ, List.set_cons_zero]
              refine wpAnyH_take (i := 19) (oi := ⟨some 41, .fieldAddr 43 (.tmp 40) 1, _, _, _, none⟩) (v := .pointer (some ⟨b, 1, none⟩)) rfl (by kernel_rfl) (by kernel_rfl) (by kernel_rfl) (fun _ _ _ h => h) (Or.inl ⟨by rfl, fun _ _ => by go_simp⟩) HS.out ?_
              try simp only [Act.put, List.setIfInBounds_toArray, List.set_cons_succ, List.set_cons_zero]
              refine wpAnyH_ready (rs := [20]) (by kernel_rfl) (by simp) ?_
              refine AllReadyH.cons (o := ⟨none, .store 41 (.tmp 41) (.tmp 31), _, _, _, none⟩) rfl (fun K hK => ?_) AllReadyH.nil
              refine wp_store_one (.tmp 41) (.tmp 31) 41 size_sents rfl b 1 (.slice a7 (wn + 1) c7) (by rfl) (by rfl) (by rfl) (by rfl) HP.out.blk (by simp) ?_
              intro v80 hW hB
              have HS := Lib.hid (hW.blk HS.out (blk_type_ne HS.out HP.out.blk (by decide)))
              have HP := Lib.hid (HP.out.store1 hW hB)
              have HO2 := Lib.hid (HO2.out.trans (Only.wrote (S := NFoot b (.slice wa wn wc) (.slice ea en ec) vz) hW (.inl rfl)))
              clear hW hB
              refine hK _ _ HS.out (fun _ => ?_)
              clear hK K
              try simp only [Act.put, List.setIfInBounds_toArray, List.set_cons_succ, List.set_cons_zero]
              refine wpAnyH_take (i := 21) (oi := ⟨some 42, .nilCheck (.tmp 23), _, _, _, none⟩) (v := .pointer (some ⟨b, 0, none⟩)) rfl (by kernel_rfl) (by kernel_rfl) (by kernel_rfl) (fun _ _ _ h => h) (Or.inl ⟨by rfl, fun _ _ => by go_simp⟩) HS.out ?_
              try simp only [Act.put, List.setIfInBounds_toArray, List.set_cons_succ, List.set_cons_zero]
              refine wpAnyH_take (i := 22) (oi := ⟨some 43, .fieldAddr 43 (.tmp 42) 2, _, _, _, none⟩) (v := .pointer (some ⟨b, 2, none⟩)) rfl (by kernel_rfl) (by kernel_rfl) (by kernel_rfl) (fun _ _ _ h => h) (Or.inl ⟨by rfl, fun _ _ => by go_simp⟩) HS.out ?_
              try simp only [Act.put, List.setIfInBounds_toArray, List.set_cons_succ, List.set_cons_zero]
              refine wpAnyH_ready (rs := [23]) (by kernel_rfl) (by simp) ?_
              refine AllReadyH.cons (o := ⟨none, .store 41 (.tmp 43) (.tmp 39), _, _, _, none⟩) rfl (fun K hK => ?_) AllReadyH.nil
              refine wp_store_one (.tmp 43) (.tmp 39) 41 size_sents rfl b 2 (.slice a8 (en + 1) c8) (by rfl) (by rfl) (by rfl) (by rfl) HP.out.blk (by simp) ?_
              intro v81 hW hB
              have HS := Lib.hid (hW.blk HS.out (blk_type_ne HS.out HP.out.blk (by decide)))
              have HP := Lib.hid (HP.out.store2 hW hB)
              have HO2 := Lib.hid (HO2.out.trans (Only.wrote (S := NFoot b (.slice wa wn wc) (.slice ea en ec) vz) hW (.inl rfl)))
              clear hW hB
              refine hK _ _ HS.out (fun _ => ?_)
              clear hK K
              try simp only [Act.put, List.setIfInBounds_toArray, List.set_cons_succ, List.set_cons_zero]
              refine wpAnyH_done (by kernel_rfl) ?_ _
              go_wp2
              go_roundw
              case rel => exact ⟨k + 1, .slice a7 (wn + 1) c7, .slice a8 (en + 1) c8, by have := HLT.out; omega, by go_num, by rw [HSM.out, ← List.append_assoc, ← List.append_assoc]; exact HP.out.whole, HO.out.trans' HO2.out HG.out, fun j q => by
                rcases q with e | e | e | e
                · exact HG.out j (.inl e)
                · exact (HGway.out j e).elim (fun p => HG.out j (.inr (.inl p))) (fun p => .inr (Nat.le_trans HWR.out p))
                · exact (HGever.out j e).elim (fun p => HG.out j (.inr (.inr (.inl p)))) (fun p => .inr (Nat.le_trans HWR.out p))
                · exact HG.out j (.inr (.inr (.inr e)))⟩
              case measure => have := HLT.out; simp [intOf]; omega
          · go_simp
            have BJ1 := Blk.new v46 #[.int .i64 f, .int .i64 t, .slice (some ⟨g1, 0, none⟩) n n] 47
            have hb := below_one' v46 (.cells #[.int .i64 f, .int .i64 t, .slice (some ⟨g1, 0, none⟩) n n] 47)
            generalize World.alloc v46 _ = v82 at *
            have HS := Lib.hid (HS.out.on hb)
            have HP := Lib.hid (HP.out.on hb)
            have HTX := Lib.hid (HTX.out.below hb)
            have HO2 := Lib.hid (HO2.out.trans (Only.of_below hb))
            have HX_g1 := Lib.hid (HX_g1.out.on hb)
            replace BJ1 := Lib.hid BJ1
            clear hb
            refine hK _ _ HS.out (fun _ => ?_)
            clear hK K
            try simp only [Act.put, List.setIfInBounds_toArray, List.set_cons_succ, List.set_cons_zero]
            refine wpAnyH_ready (rs := [5, 13]) (by kernel_rfl) (by simp) ?_
            refine AllReadyH.cons (o := ⟨some 27, .load 41 (.tmp 26), 41, _, _, none⟩) rfl (fun K hK => ?_) (AllReadyH.cons (o := ⟨some 35, .load 41 (.tmp 34), 41, _, _, none⟩) rfl (fun K hK => ?_) AllReadyH.nil)
            · have c1 := HP.out.c1
              refine wp_of_yields' (v := .slice wa wn wc) (by unfold execOp; go_simp) ?_
              clear c1
              refine hK _ _ HS.out (fun _ => ?_)
              clear hK K
              try simp only [Act.put, List.setIfInBounds_toArray, List.set_cons_succ, List.set_cons_zero]
              refine wpAnyH_ready (rs := [9, 13]) (by kernel_rfl) (by simp) ?_
              refine AllReadyH.cons (o := ⟨some 31, .call { callee := .builtin .append, args := #[.tmp 27, .tmp 30], argTypes := #[41, 41] }, 41, _, _, none⟩) rfl (fun K hK => ?_) (AllReadyH.cons (o := ⟨some 35, .load 41 (.tmp 34), 41, _, _, none⟩) rfl (fun K hK => ?_) AllReadyH.nil)
              · obtain ⟨ls, hw, hw2⟩ := HP.out.way
                rw [← HwayN.out] at hw
                have HWS := Lib.hid hw
                have HW2 := Lib.hid hw2
                clear hw hw2
                refine wp_append_row (.tmp 27) (.tmp 30) 41 47 rfl (.agg #[.int .i64 0, .int .i64 0, .slice none 0 0]) 3 40 Try.underlying41 info_sent (by rfl) (by decide) (.slice wa wn wc) wn (ncells ls) (by rfl) HWS.out _ 1 [.int .i64 f, .int .i64 t, .slice (some ⟨g1, 0, none⟩) n n] (by rfl) (by rfl) BJ1.out (by simp [Value.oneCell']) H63way.out HBYway.out ?_
                intro a7 c7 v84 hO hg hat
                have HP := Lib.hid (HP.out.app_way (s := ⟨f, t, dd⟩) HwayN.out hg hO HW2.out HX_g1.out hat)
                have HGway := Lib.hid (show ∀ j, (Value.slice a7 (wn + 1) c7).ownBlock = some j → ((.slice wa wn wc) : Value).ownBlock = some j ∨ bx ≤ j from fun j e => (hat j e).imp id (fun q => by rw [q, ← HBX.out]; exact HO2.out.size))
                have HS := Lib.hid ((Only.grown (S := fun j => ((.slice wa wn wc) : Value).ownBlock = some j) hg (fun j e => e)).blk HS.out (HNBway.out))
                have HTX := Lib.hid (HTX.out.onlyT (Only.grown (S := fun j => ((.slice wa wn wc) : Value).ownBlock = some j) hg (fun j e => e)) (fun g0 o0 e h0 q => HNX.out g0 o0 e h0 (.inr (.inl q))))
                have HO2 := Lib.hid (HO2.out.trans (Only.grown (S := NFoot b (.slice wa wn wc) (.slice ea en ec) vz) hg (fun j e => .inr (.inl e))))
                clear hO hg hat HWS HW2 HX_g1 BJ1
                refine hK _ _ HS.out (fun _ => ?_)
                clear hK K
                try simp only [Act.put, List.setIfInBounds_toArray, List.set_cons_succ, List.set_cons_zero]
                refine wpAnyH_ready (rs := [13, 15]) (by kernel_rfl) (by simp) ?_
                refine AllReadyH.cons (o := ⟨some 35, .load 41 (.tmp 34), 41, _, _, none⟩) rfl (fun K hK => ?_) (AllReadyH.cons (o := ⟨some 37, .call { callee := .value (.func 84), args := #[.tmp 36], argTypes := #[47] }, 47, _, _, none⟩) rfl (fun K hK => ?_) AllReadyH.nil)
                · have c1 := HP.out.c2
                  refine wp_of_yields' (v := .slice ea en ec) (by unfold execOp; go_simp) ?_
                  clear c1
                  refine hK _ _ HS.out (fun _ => ?_)
                  clear hK K
                  try simp only [Act.put, List.setIfInBounds_toArray, List.set_cons_succ, List.set_cons_zero]
                  refine wpAnyH_ready (rs := [15]) (by kernel_rfl) (by simp) ?_
                  refine AllReadyH.cons (o := ⟨some 37, .call { callee := .value (.func 84), args := #[.tmp 36], argTypes := #[47] }, 47, _, _, none⟩) rfl (fun K hK => ?_) AllReadyH.nil
                  go_simp
                  refine (own_walk f t px n cx dd HDL.out v84 HTX.out).mono ?_
                  rintro e v86 ⟨g2, rfl, hB1, hge, hb⟩
                  have hsz : bx ≤ v84.heap.size := (by rw [← HBX.out]; exact HO2.out.size)
                  have HS := Lib.hid (HS.out.on hb)
                  have HP := Lib.hid (HP.out.on hb)
                  have HTX := Lib.hid (HTX.out.below hb)
                  have HO2 := Lib.hid (HO2.out.trans (Only.of_below hb))
                  have HX_g2 := Lib.hid (Tn.of_blkn (av := fun k => av k ∨ w0.heap.size ≤ k) hB1 HNL.out (show av g2 ∨ w0.heap.size ≤ g2 from .inr (Nat.le_trans HWR.out (Nat.le_trans hsz hge))))
                  clear hb hB1 hge hsz
                  refine hK _ _ HS.out (fun _ => ?_)
                  clear hK K
                  try simp only [Act.put, List.setIfInBounds_toArray, List.set_cons_succ, List.set_cons_zero]
                  refine wpAnyH_ready (rs := [16]) (by kernel_rfl) (by simp) ?_
                  refine AllReadyH.cons (o := ⟨some 38, .buildSlice 41 1 #[(0, .tmp 37)], 41, _, _, none⟩) rfl (fun K hK => ?_) AllReadyH.nil
                  go_simp
                  have BJ2 := Blk.new v86 #[.int .i64 f, .int .i64 t, .slice (some ⟨g2, 0, none⟩) n n] 47
                  have hb := below_one' v86 (.cells #[.int .i64 f, .int .i64 t, .slice (some ⟨g2, 0, none⟩) n n] 47)
                  generalize World.alloc v86 _ = v87 at *
                  have HS := Lib.hid (HS.out.on hb)
                  have HP := Lib.hid (HP.out.on hb)
                  have HTX := Lib.hid (HTX.out.below hb)
                  have HO2 := Lib.hid (HO2.out.trans (Only.of_below hb))
                  have HX_g2 := Lib.hid (HX_g2.out.on hb)
                  replace BJ2 := Lib.hid BJ2
                  clear hb
                  refine hK _ _ HS.out (fun _ => ?_)
                  clear hK K
                  try simp only [Act.put, List.setIfInBounds_toArray, List.set_cons_succ, List.set_cons_zero]
                  refine wpAnyH_ready (rs := [17]) (by kernel_rfl) (by simp) ?_
                  refine AllReadyH.cons (o := ⟨some 39, .call { callee := .builtin .append, args := #[.tmp 35, .tmp 38], argTypes := #[41, 41] }, 41, _, _, none⟩) rfl (fun K hK => ?_) AllReadyH.nil
                  obtain ⟨ls, hw, hw2⟩ := HP.out.ever
                  rw [← HeverN.out] at hw
                  have HWS := Lib.hid hw
                  have HW2 := Lib.hid hw2
                  clear hw hw2
                  refine wp_append_row (.tmp 35) (.tmp 38) 41 47 rfl (.agg #[.int .i64 0, .int .i64 0, .slice none 0 0]) 3 40 Try.underlying41 info_sent (by rfl) (by decide) (.slice ea en ec) en (ncells ls) (by rfl) HWS.out _ 1 [.int .i64 f, .int .i64 t, .slice (some ⟨g2, 0, none⟩) n n] (by rfl) (by rfl) BJ2.out (by simp [Value.oneCell']) H63ever.out HBYever.out ?_
                  intro a8 c8 v88 hO hg hat
                  have HP := Lib.hid (HP.out.app_ever (s := ⟨f, t, dd⟩) HeverN.out hg hO HW2.out HX_g2.out hat)
                  have HGever := Lib.hid (show ∀ j, (Value.slice a8 (en + 1) c8).ownBlock = some j → ((.slice ea en ec) : Value).ownBlock = some j ∨ bx ≤ j from fun j e => (hat j e).imp id (fun q => by rw [q, ← HBX.out]; exact HO2.out.size))
                  have HS := Lib.hid ((Only.grown (S := fun j => ((.slice ea en ec) : Value).ownBlock = some j) hg (fun j e => e)).blk HS.out (HNBever.out))
                  have HTX := Lib.hid (HTX.out.onlyT (Only.grown (S := fun j => ((.slice ea en ec) : Value).ownBlock = some j) hg (fun j e => e)) (fun g0 o0 e h0 q => HNX.out g0 o0 e h0 (.inr (.inr (.inl q)))))
                  have HO2 := Lib.hid (HO2.out.trans (Only.grown (S := NFoot b (.slice wa wn wc) (.slice ea en ec) vz) hg (fun j e => .inr (.inr (.inl e)))))
                  clear hO hg hat HWS HW2 HX_g2 BJ2
                  refine hK _ _ HS.out (fun _ => ?_)
                  clear hK K
                  try simp only [Act.put, List.setIfInBounds_toArray, List.set_cons_succ, List.set_cons_zero]
                  refine wpAnyH_take (i := 18) (oi := ⟨some 40, .nilCheck (.tmp 22), _, _, _, none⟩) (v := .pointer (some ⟨b, 0, none⟩)) rfl (by kernel_rfl) (by kernel_rfl) (by kernel_rfl) (fun _ _ _ h => h) (Or.inl ⟨by rfl, fun _ _ => by go_simp⟩) HS.out ?_
                  try simp only [Act.put, List.setIfInBounds_toArray, List.set_cons_succ, List.set_cons_zero]
                  refine wpAnyH_take (i := 19) (oi := ⟨some 41, .fieldAddr 43 (.tmp 40) 1, _, _, _, none⟩) (v := .pointer (some ⟨b, 1, none⟩)) rfl (by kernel_rfl) (by kernel_rfl) (by kernel_rfl) (fun _ _ _ h => h) (Or.inl ⟨by rfl, fun _ _ => by go_simp⟩) HS.out ?_
                  try simp only [Act.put, List.setIfInBounds_toArray, List.set_cons_succ, List.set_cons_zero]
                  refine wpAnyH_ready (rs := [20]) (by kernel_rfl) (by simp) ?_
                  refine AllReadyH.cons (o := ⟨none, .store 41 (.tmp 41) (.tmp 31), _, _, _, none⟩) rfl (fun K hK => ?_) AllReadyH.nil
                  refine wp_store_one (.tmp 41) (.tmp 31) 41 size_sents rfl b 1 (.slice a7 (wn + 1) c7) (by rfl) (by rfl) (by rfl) (by rfl) HP.out.blk (by simp) ?_
                  intro v89 hW hB
                  have HS := Lib.hid (hW.blk HS.out (blk_type_ne HS.out HP.out.blk (by decide)))
                  have HP := Lib.hid (HP.out.store1 hW hB)
                  have HO2 := Lib.hid (HO2.out.trans (Only.wrote (S := NFoot b (.slice wa wn wc) (.slice ea en ec) vz) hW (.inl rfl)))
                  clear hW hB
                  refine hK _ _ HS.out (fun _ => ?_)
                  clear hK K
                  try simp only [Act.put, List.setIfInBounds_toArray, List.set_cons_succ, List.set_cons_zero]
                  refine wpAnyH_take (i := 21) (oi := ⟨some 42, .nilCheck (.tmp 23), _, _, _, none⟩) (v := .pointer (some ⟨b, 0, none⟩)) rfl (by kernel_rfl) (by kernel_rfl) (by kernel_rfl) (fun _ _ _ h => h) (Or.inl ⟨by rfl, fun _ _ => by go_simp⟩) HS.out ?_
                  try simp only [Act.put, List.setIfInBounds_toArray, List.set_cons_succ, List.set_cons_zero]
                  refine wpAnyH_take (i := 22) (oi := ⟨some 43, .fieldAddr 43 (.tmp 42) 2, _, _, _, none⟩) (v := .pointer (some ⟨b, 2, none⟩)) rfl (by kernel_rfl) (by kernel_rfl) (by kernel_rfl) (fun _ _ _ h => h) (Or.inl ⟨by rfl, fun _ _ => by go_simp⟩) HS.out ?_
                  try simp only [Act.put, List.setIfInBounds_toArray, List.set_cons_succ, List.set_cons_zero]
                  refine wpAnyH_ready (rs := [23]) (by kernel_rfl) (by simp) ?_
                  refine AllReadyH.cons (o := ⟨none, .store 41 (.tmp 43) (.tmp 39), _, _, _, none⟩) rfl (fun K hK => ?_) AllReadyH.nil
                  refine wp_store_one (.tmp 43) (.tmp 39) 41 size_sents rfl b 2 (.slice a8 (en + 1) c8) (by rfl) (by rfl) (by rfl) (by rfl) HP.out.blk (by simp) ?_
                  intro v90 hW hB
                  have HS := Lib.hid (hW.blk HS.out (blk_type_ne HS.out HP.out.blk (by decide)))
                  have HP := Lib.hid (HP.out.store2 hW hB)
                  have HO2 := Lib.hid (HO2.out.trans (Only.wrote (S := NFoot b (.slice wa wn wc) (.slice ea en ec) vz) hW (.inl rfl)))
                  clear hW hB
                  refine hK _ _ HS.out (fun _ => ?_)
                  clear hK K
                  try simp only [Act.put, List.setIfInBounds_toArray, List.set_cons_succ, List.set_cons_zero]
                  refine wpAnyH_done (by kernel_rfl) ?_ _
                  go_wp2
                  go_roundw
                  case rel => exact ⟨k + 1, .slice a7 (wn + 1) c7, .slice a8 (en + 1) c8, by have := HLT.out; omega, by go_num, by rw [HSM.out, ← List.append_assoc, ← List.append_assoc]; exact HP.out.whole, HO.out.trans' HO2.out HG.out, fun j q => by
                    rcases q with e | e | e | e
                    · exact HG.out j (.inl e)
                    · exact (HGway.out j e).elim (fun p => HG.out j (.inr (.inl p))) (fun p => .inr (Nat.le_trans HWR.out p))
                    · exact (HGever.out j e).elim (fun p => HG.out j (.inr (.inr (.inl p)))) (fun p => .inr (Nat.le_trans HWR.out p))
                    · exact HG.out j (.inr (.inr (.inr e)))⟩
                  case measure => have := HLT.out; simp [intOf]; omega
                · go_simp
                  refine (own_walk f t px n cx dd HDL.out v84 HTX.out).mono ?_
                  rintro e v91 ⟨g2, rfl, hB1, hge, hb⟩
                  have hsz : bx ≤ v84.heap.size := (by rw [← HBX.out]; exact HO2.out.size)
                  have HS := Lib.hid (HS.out.on hb)
                  have HP := Lib.hid (HP.out.on hb)
                  have HTX := Lib.hid (HTX.out.below hb)
                  have HO2 := Lib.hid (HO2.out.trans (Only.of_below hb))
                  have HX_g2 := Lib.hid (Tn.of_blkn (av := fun k => av k ∨ w0.heap.size ≤ k) hB1 HNL.out (show av g2 ∨ w0.heap.size ≤ g2 from .inr (Nat.le_trans HWR.out (Nat.le_trans hsz hge))))
                  clear hb hB1 hge hsz
                  refine hK _ _ HS.out (fun _ => ?_)
                  clear hK K
                  try simp only [Act.put, List.setIfInBounds_toArray, List.set_cons_succ, List.set_cons_zero]
                  refine wpAnyH_ready (rs := [13, 16]) (by kernel_rfl) (by simp) ?_
                  refine AllReadyH.cons (o := ⟨some 35, .load 41 (.tmp 34), 41, _, _, none⟩) rfl (fun K hK => ?_) (AllReadyH.cons (o := ⟨some 38, .buildSlice 41 1 #[(0, .tmp 37)], 41, _, _, none⟩) rfl (fun K hK => ?_) AllReadyH.nil)
                  · have c1 := HP.out.c2
                    refine wp_of_yields' (v := .slice ea en ec) (by unfold execOp; go_simp) ?_
                    clear c1
                    refine hK _ _ HS.out (fun _ => ?_)
                    clear hK K
                    try simp only [Act.put, List.setIfInBounds_toArray, List.set_cons_succ, List.set_cons_zero]
                    refine wpAnyH_ready (rs := [16]) (by kernel_rfl) (by simp) ?_
                    refine AllReadyH.cons (o := ⟨some 38, .buildSlice 41 1 #[(0, .tmp 37)], 41, _, _, none⟩) rfl (fun K hK => ?_) AllReadyH.nil
                    go_simp
                    have BJ2 := Blk.new v91 #[.int .i64 f, .int .i64 t, .slice (some ⟨g2, 0, none⟩) n n] 47
                    have hb := below_one' v91 (.cells #[.int .i64 f, .int .i64 t, .slice (some ⟨g2, 0, none⟩) n n] 47)
                    generalize World.alloc v91 _ = v93 at *
                    have HS := Lib.hid (HS.out.on hb)
                    have HP := Lib.hid (HP.out.on hb)
                    have HTX := Lib.hid (HTX.out.below hb)
                    have HO2 := Lib.hid (HO2.out.trans (Only.of_below hb))
                    have HX_g2 := Lib.hid (HX_g2.out.on hb)
                    replace BJ2 := Lib.hid BJ2
                    clear hb
                    refine hK _ _ HS.out (fun _ => ?_)
                    clear hK K
                    try simp only [Act.put, List.setIfInBounds_toArray, List.set_cons_succ, List.set_cons_zero]
                    refine wpAnyH_ready (rs := [17]) (by kernel_rfl) (by simp) ?_
                    refine AllReadyH.cons (o := ⟨some 39, .call { callee := .builtin .append, args := #[.tmp 35, .tmp 38], argTypes := #[41, 41] }, 41, _, _, none⟩) rfl (fun K hK => ?_) AllReadyH.nil
                    obtain ⟨ls, hw, hw2⟩ := HP.out.ever
                    rw [← HeverN.out] at hw
                    have HWS := Lib.hid hw
                    have HW2 := Lib.hid hw2
                    clear hw hw2
                    refine wp_append_row (.tmp 35) (.tmp 38) 41 47 rfl (.agg #[.int .i64 0, .int .i64 0, .slice none 0 0]) 3 40 Try.underlying41 info_sent (by rfl) (by decide) (.slice ea en ec) en (ncells ls) (by rfl) HWS.out _ 1 [.int .i64 f, .int .i64 t, .slice (some ⟨g2, 0, none⟩) n n] (by rfl) (by rfl) BJ2.out (by simp [Value.oneCell']) H63ever.out HBYever.out ?_
                    intro a8 c8 v94 hO hg hat
                    have HP := Lib.hid (HP.out.app_ever (s := ⟨f, t, dd⟩) HeverN.out hg hO HW2.out HX_g2.out hat)
                    have HGever := Lib.hid (show ∀ j, (Value.slice a8 (en + 1) c8).ownBlock = some j → ((.slice ea en ec) : Value).ownBlock = some j ∨ bx ≤ j from fun j e => (hat j e).imp id (fun q => by rw [q, ← HBX.out]; exact HO2.out.size))
                    have HS := Lib.hid ((Only.grown (S := fun j => ((.slice ea en ec) : Value).ownBlock = some j) hg (fun j e => e)).blk HS.out (HNBever.out))
                    have HTX := Lib.hid (HTX.out.onlyT (Only.grown (S := fun j => ((.slice ea en ec) : Value).ownBlock = some j) hg (fun j e => e)) (fun g0 o0 e h0 q => HNX.out g0 o0 e h0 (.inr (.inr (.inl q)))))
                    have HO2 := Lib.hid (HO2.out.trans (Only.grown (S := NFoot b (.slice wa wn wc) (.slice ea en ec) vz) hg (fun j e => .inr (.inr (.inl e)))))
                    clear hO hg hat HWS HW2 HX_g2 BJ2
                    refine hK _ _ HS.out (fun _ => ?_)
                    clear hK K
                    try simp only [Act.put, List.setIfInBounds_toArray, List.set_cons_succ, List.set_cons_zero]
                    refine wpAnyH_take (i := 18) (oi := ⟨some 40, .nilCheck (.tmp 22), _, _, _, none⟩) (v := .pointer (some ⟨b, 0, none⟩)) rfl (by kernel_rfl) (by kernel_rfl) (by kernel_rfl) (fun _ _ _ h => h) (Or.inl ⟨by rfl, fun _ _ => by go_simp⟩) HS.out ?_
                    try simp only [Act.put, List.setIfInBounds_toArray, List.set_cons_succ, List.set_cons_zero]
                    refine wpAnyH_take (i := 19) (oi := ⟨some 41, .fieldAddr 43 (.tmp 40) 1, _, _, _, none⟩) (v := .pointer (some ⟨b, 1, none⟩)) rfl (by kernel_rfl) (by kernel_rfl) (by kernel_rfl) (fun _ _ _ h => h) (Or.inl ⟨by rfl, fun _ _ => by go_simp⟩) HS.out ?_
                    try simp only [Act.put, List.setIfInBounds_toArray, List.set_cons_succ, List.set_cons_zero]
                    refine wpAnyH_ready (rs := [20]) (by kernel_rfl) (by simp) ?_
                    refine AllReadyH.cons (o := ⟨none, .store 41 (.tmp 41) (.tmp 31), _, _, _, none⟩) rfl (fun K hK => ?_) AllReadyH.nil
                    refine wp_store_one (.tmp 41) (.tmp 31) 41 size_sents rfl b 1 (.slice a7 (wn + 1) c7) (by rfl) (by rfl) (by rfl) (by rfl) HP.out.blk (by simp) ?_
                    intro v95 hW hB
                    have HS := Lib.hid (hW.blk HS.out (blk_type_ne HS.out HP.out.blk (by decide)))
                    have HP := Lib.hid (HP.out.store1 hW hB)
                    have HO2 := Lib.hid (HO2.out.trans (Only.wrote (S := NFoot b (.slice wa wn wc) (.slice ea en ec) vz) hW (.inl rfl)))
                    clear hW hB
                    refine hK _ _ HS.out (fun _ => ?_)
                    clear hK K
                    try simp only [Act.put, List.setIfInBounds_toArray, List.set_cons_succ, List.set_cons_zero]
                    refine wpAnyH_take (i := 21) (oi := ⟨some 42, .nilCheck (.tmp 23), _, _, _, none⟩) (v := .pointer (some ⟨b, 0, none⟩)) rfl (by kernel_rfl) (by kernel_rfl) (by kernel_rfl) (fun _ _ _ h => h) (Or.inl ⟨by rfl, fun _ _ => by go_simp⟩) HS.out ?_
                    try simp only [Act.put, List.setIfInBounds_toArray, List.set_cons_succ, List.set_cons_zero]
                    refine wpAnyH_take (i := 22) (oi := ⟨some 43, .fieldAddr 43 (.tmp 42) 2, _, _, _, none⟩) (v := .pointer (some ⟨b, 2, none⟩)) rfl (by kernel_rfl) (by kernel_rfl) (by kernel_rfl) (fun _ _ _ h => h) (Or.inl ⟨by rfl, fun _ _ => by go_simp⟩) HS.out ?_
                    try simp only [Act.put, List.setIfInBounds_toArray, List.set_cons_succ, List.set_cons_zero]
                    refine wpAnyH_ready (rs := [23]) (by kernel_rfl) (by simp) ?_
                    refine AllReadyH.cons (o := ⟨none, .store 41 (.tmp 43) (.tmp 39), _, _, _, none⟩) rfl (fun K hK => ?_) AllReadyH.nil
                    refine wp_store_one (.tmp 43) (.tmp 39) 41 size_sents rfl b 2 (.slice a8 (en + 1) c8) (by rfl) (by rfl) (by rfl) (by rfl) HP.out.blk (by simp) ?_
                    intro v96 hW hB
                    have HS := Lib.hid (hW.blk HS.out (blk_type_ne HS.out HP.out.blk (by decide)))
                    have HP := Lib.hid (HP.out.store2 hW hB)
                    have HO2 := Lib.hid (HO2.out.trans (Only.wrote (S := NFoot b (.slice wa wn wc) (.slice ea en ec) vz) hW (.inl rfl)))
                    clear hW hB
                    refine hK _ _ HS.out (fun _ => ?_)
                    clear hK K
                    try simp only [Act.put, List.setIfInBounds_toArray, List.set_cons_succ, List.set_cons_zero]
                    refine wpAnyH_done (by kernel_rfl) ?_ _
                    go_wp2
                    go_roundw
                    case rel => exact ⟨k + 1, .slice a7 (wn + 1) c7, .slice a8 (en + 1) c8, by have := HLT.out; omega, by go_num, by rw [HSM.out, ← List.append_assoc, ← List.append_assoc]; exact HP.out.whole, HO.out.trans' HO2.out HG.out, fun j q => by
                      rcases q with e | e | e | e
                      · exact HG.out j (.inl e)
                      · exact (HGway.out j e).elim (fun p => HG.out j (.inr (.inl p))) (fun p => .inr (Nat.le_trans HWR.out p))
                      · exact (HGever.out j e).elim (fun p => HG.out j (.inr (.inr (.inl p)))) (fun p => .inr (Nat.le_trans HWR.out p))
                      · exact HG.out j (.inr (.inr (.inr e)))⟩
                    case measure => have := HLT.out; simp [intOf]; omega
                  · go_simp
                    have BJ2 := Blk.new v91 #[.int .i64 f, .int .i64 t, .slice (some ⟨g2, 0, none⟩) n n] 47
                    have hb := below_one' v91 (.cells #[.int .i64 f, .int .i64 t, .slice (some ⟨g2, 0, none⟩) n n] 47)
                    generalize World.alloc v91 _ = v97 at *
                    have HS := Lib.hid (HS.out.on hb)
                    have HP := Lib.hid (HP.out.on hb)
                    have HTX := Lib.hid (HTX.out.below hb)
                    have HO2 := Lib.hid (HO2.out.trans (Only.of_below hb))
                    have HX_g2 := Lib.hid (HX_g2.out.on hb)
                    replace BJ2 := Lib.hid BJ2
                    clear hb
                    refine hK _ _ HS.out (fun _ => ?_)
                    clear hK K
                    try simp only [Act.put, List.setIfInBounds_toArray, List.set_cons_succ, List.set_cons_zero]
                    refine wpAnyH_ready (rs := [13]) (by kernel_rfl) (by simp) ?_
                    refine AllReadyH.cons (o := ⟨some 35, .load 41 (.tmp 34), 41, _, _, none⟩) rfl (fun K hK => ?_) AllReadyH.nil
                    have c1 := HP.out.c2
                    refine wp_of_yields' (v := .slice ea en ec) (by unfold execOp; go_simp) ?_
                    clear c1
                    refine hK _ _ HS.out (fun _ => ?_)
                    clear hK K
                    try simp only [Act.put, List.setIfInBounds_toArray, List.set_cons_succ, List.set_cons_zero]
                    refine wpAnyH_ready (rs := [17]) (by kernel_rfl) (by simp) ?_
                    refine AllReadyH.cons (o := ⟨some 39, .call { callee := .builtin .append, args := #[.tmp 35, .tmp 38], argTypes := #[41, 41] }, 41, _, _, none⟩) rfl (fun K hK => ?_) AllReadyH.nil
                    obtain ⟨ls, hw, hw2⟩ := HP.out.ever
                    rw [← HeverN.out] at hw
                    have HWS := Lib.hid hw
                    have HW2 := Lib.hid hw2
                    clear hw hw2
                    refine wp_append_row (.tmp 35) (.tmp 38) 41 47 rfl (.agg #[.int .i64 0, .int .i64 0, .slice none 0 0]) 3 40 Try.underlying41 info_sent (by rfl) (by decide) (.slice ea en ec) en (ncells ls) (by rfl) HWS.out _ 1 [.int .i64 f, .int .i64 t, .slice (some ⟨g2, 0, none⟩) n n] (by rfl) (by rfl) BJ2.out (by simp [Value.oneCell']) H63ever.out HBYever.out ?_
                    intro a8 c8 v99 hO hg hat
                    have HP := Lib.hid (HP.out.app_ever (s := ⟨f, t, dd⟩) HeverN.out hg hO HW2.out HX_g2.out hat)
                    have HGever := Lib.hid (show ∀ j, (Value.slice a8 (en + 1) c8).ownBlock = some j → ((.slice ea en ec) : Value).ownBlock = some j ∨ bx ≤ j from fun j e => (hat j e).imp id (fun q => by rw [q, ← HBX.out]; exact HO2.out.size))
                    have HS := Lib.hid ((Only.grown (S := fun j => ((.slice ea en ec) : Value).ownBlock = some j) hg (fun j e => e)).blk HS.out (HNBever.out))
                    have HTX := Lib.hid (HTX.out.onlyT (Only.grown (S := fun j => ((.slice ea en ec) : Value).ownBlock = some j) hg (fun j e => e)) (fun g0 o0 e h0 q => HNX.out g0 o0 e h0 (.inr (.inr (.inl q)))))
                    have HO2 := Lib.hid (HO2.out.trans (Only.grown (S := NFoot b (.slice wa wn wc) (.slice ea en ec) vz) hg (fun j e => .inr (.inr (.inl e)))))
                    clear hO hg hat HWS HW2 HX_g2 BJ2
                    refine hK _ _ HS.out (fun _ => ?_)
                    clear hK K
                    try simp only [Act.put, List.setIfInBounds_toArray, List.set_cons_succ, List.set_cons_zero]
                    refine wpAnyH_take (i := 18) (oi := ⟨some 40, .nilCheck (.tmp 22), _, _, _, none⟩) (v := .pointer (some ⟨b, 0, none⟩)) rfl (by kernel_rfl) (by kernel_rfl) (by kernel_rfl) (fun _ _ _ h => h) (Or.inl ⟨by rfl, fun _ _ => by go_simp⟩) HS.out ?_
                    try simp only [Act.put, List.setIfInBounds_toArray, List.set_cons_succ, List.set_cons_zero]
                    refine wpAnyH_take (i := 19) (oi := ⟨some 41, .fieldAddr 43 (.tmp 40) 1, _, _, _, none⟩) (v := .pointer (some ⟨b, 1, none⟩)) rfl (by kernel_rfl) (by kernel_rfl) (by kernel_rfl) (fun _ _ _ h => h) (Or.inl ⟨by rfl, fun _ _ => by go_simp⟩) HS.out ?_
                    try simp only [Act.put, List.setIfInBounds_toArray, List.set_cons_succ, List.set_cons_zero]
                    refine wpAnyH_ready (rs := [20]) (by kernel_rfl) (by simp) ?_
                    refine AllReadyH.cons (o := ⟨none, .store 41 (.tmp 41) (.tmp 31), _, _, _, none⟩) rfl (fun K hK => ?_) AllReadyH.nil
                    refine wp_store_one (.tmp 41) (.tmp 31) 41 size_sents rfl b 1 (.slice a7 (wn + 1) c7) (by rfl) (by rfl) (by rfl) (by rfl) HP.out.blk (by simp) ?_
                    intro v100 hW hB
                    have HS := Lib.hid (hW.blk HS.out (blk_type_ne HS.out HP.out.blk (by decide)))
                    have HP := Lib.hid (HP.out.store1 hW hB)
                    have HO2 := Lib.hid (HO2.out.trans (Only.wrote (S := NFoot b (.slice wa wn wc) (.slice ea en ec) vz) hW (.inl rfl)))
                    clear hW hB
                    refine hK _ _ HS.out (fun _ => ?_)
                    clear hK K
                    try simp only [Act.put, List.setIfInBounds_toArray, List.set_cons_succ, List.set_cons_zero]
                    refine wpAnyH_take (i := 21) (oi := ⟨some 42, .nilCheck (.tmp 23), _, _, _, none⟩) (v := .pointer (some ⟨b, 0, none⟩)) rfl (by kernel_rfl) (by kernel_rfl) (by kernel_rfl) (fun _ _ _ h => h) (Or.inl ⟨by rfl, fun _ _ => by go_simp⟩) HS.out ?_
                    try simp only [Act.put, List.setIfInBounds_toArray, List.set_cons_succ, List.set_cons_zero]
                    refine wpAnyH_take (i := 22) (oi := ⟨some 43, .fieldAddr 43 (.tmp 42) 2, _, _, _, none⟩) (v := .pointer (some ⟨b, 2, none⟩)) rfl (by kernel_rfl) (by kernel_rfl) (by kernel_rfl) (fun _ _ _ h => h) (Or.inl ⟨by rfl, fun _ _ => by go_simp⟩) HS.out ?_
                    try simp only [Act.put, List.setIfInBounds_toArray, List.set_cons_succ, List.set_cons_zero]
                    refine wpAnyH_ready (rs := [23]) (by kernel_rfl) (by simp) ?_
                    refine AllReadyH.cons (o := ⟨none, .store 41 (.tmp 43) (.tmp 39), _, _, _, none⟩) rfl (fun K hK => ?_) AllReadyH.nil
                    refine wp_store_one (.tmp 43) (.tmp 39) 41 size_sents rfl b 2 (.slice a8 (en + 1) c8) (by rfl) (by rfl) (by rfl) (by rfl) HP.out.blk (by simp) ?_
                    intro v101 hW hB
                    have HS := Lib.hid (hW.blk HS.out (blk_type_ne HS.out HP.out.blk (by decide)))
                    have HP := Lib.hid (HP.out.store2 hW hB)
                    have HO2 := Lib.hid (HO2.out.trans (Only.wrote (S := NFoot b (.slice wa wn wc) (.slice ea en ec) vz) hW (.inl rfl)))
                    clear hW hB
                    refine hK _ _ HS.out (fun _ => ?_)
                    clear hK K
                    try simp only [Act.put, List.setIfInBounds_toArray, List.set_cons_succ, List.set_cons_zero]
                    refine wpAnyH_done (by kernel_rfl) ?_ _
                    go_wp2
                    go_roundw
                    case rel => exact ⟨k + 1, .slice a7 (wn + 1) c7, .slice a8 (en + 1) c8, by have := HLT.out; omega, by go_num, by rw [HSM.out, ← List.append_assoc, ← List.append_assoc]; exact HP.out.whole, HO.out.trans' HO2.out HG.out, fun j q => by
                      rcases q with e | e | e | e
                      · exact HG.out j (.inl e)
                      · exact (HGway.out j e).elim (fun p => HG.out j (.inr (.inl p))) (fun p => .inr (Nat.le_trans HWR.out p))
                      · exact (HGever.out j e).elim (fun p => HG.out j (.inr (.inr (.inl p)))) (fun p => .inr (Nat.le_trans HWR.out p))
                      · exact HG.out j (.inr (.inr (.inr e)))⟩
                    case measure => have := HLT.out; simp [intOf]; omega
              · have c1 := HP.out.c2
                refine wp_of_yields' (v := .slice ea en ec) (by unfold execOp; go_simp) ?_
                clear c1
                refine hK _ _ HS.out (fun _ => ?_)
                clear hK K
                try simp only [Act.put, List.setIfInBounds_toArray, List.set_cons_succ, List.set_cons_zero]
                refine wpAnyH_ready (rs := [9]) (by kernel_rfl) (by simp) ?_
                refine AllReadyH.cons (o := ⟨some 31, .call { callee := .builtin .append, args := #[.tmp 27, .tmp 30], argTypes := #[41, 41] }, 41, _, _, none⟩) rfl (fun K hK => ?_) AllReadyH.nil
                obtain ⟨ls, hw, hw2⟩ := HP.out.way
                rw [← HwayN.out] at hw
                have HWS := Lib.hid hw
                have HW2 := Lib.hid hw2
                clear hw hw2
                refine wp_append_row (.tmp 27) (.tmp 30) 41 47 rfl (.agg #[.int .i64 0, .int .i64 0, .slice none 0 0]) 3 40 Try.underlying41 info_sent (by rfl) (by decide) (.slice wa wn wc) wn (ncells ls) (by rfl) HWS.out _ 1 [.int .i64 f, .int .i64 t, .slice (some ⟨g1, 0, none⟩) n n] (by rfl) (by rfl) BJ1.out (by simp [Value.oneCell']) H63way.out HBYway.out ?_
                intro a7 c7 v103 hO hg hat
                have HP := Lib.hid (HP.out.app_way (s := ⟨f, t, dd⟩) HwayN.out hg hO HW2.out HX_g1.out hat)
                have HGway := Lib.hid (show ∀ j, (Value.slice a7 (wn + 1) c7).ownBlock = some j → ((.slice wa wn wc) : Value).ownBlock = some j ∨ bx ≤ j from fun j e => (hat j e).imp id (fun q => by rw [q, ← HBX.out]; exact HO2.out.size))
                have HS := Lib.hid ((Only.grown (S := fun j => ((.slice wa wn wc) : Value).ownBlock = some j) hg (fun j e => e)).blk HS.out (HNBway.out))
                have HTX := Lib.hid (HTX.out.onlyT (Only.grown (S := fun j => ((.slice wa wn wc) : Value).ownBlock = some j) hg (fun j e => e)) (fun g0 o0 e h0 q => HNX.out g0 o0 e h0 (.inr (.inl q))))
                have HO2 := Lib.hid (HO2.out.trans (Only.grown (S := NFoot b (.slice wa wn wc) (.slice ea en ec) vz) hg (fun j e => .inr (.inl e))))
                clear hO hg hat HWS HW2 HX_g1 BJ1
                refine hK _ _ HS.out (fun _ => ?_)
                clear hK K
                try simp only [Act.put, List.setIfInBounds_toArray, List.set_cons_succ, List.set_cons_zero]
                refine wpAnyH_ready (rs := [15]) (by kernel_rfl) (by simp) ?_
                refine AllReadyH.cons (o := ⟨some 37, .call { callee := .value (.func 84), args := #[.tmp 36], argTypes := #[47] }, 47, _, _, none⟩) rfl (fun K hK => ?_) AllReadyH.nil
                go_simp
                refine (own_walk f t px n cx dd HDL.out v103 HTX.out).mono ?_
                rintro e v104 ⟨g2, rfl, hB1, hge, hb⟩
                have hsz : bx ≤ v103.heap.size := (by rw [← HBX.out]; exact HO2.out.size)
                have HS := Lib.hid (HS.out.on hb)
                have HP := Lib.hid (HP.out.on hb)
                have HTX := Lib.hid (HTX.out.below hb)
                have HO2 := Lib.hid (HO2.out.trans (Only.of_below hb))
                have HX_g2 := Lib.hid (Tn.of_blkn (av := fun k => av k ∨ w0.heap.size ≤ k) hB1 HNL.out (show av g2 ∨ w0.heap.size ≤ g2 from .inr (Nat.le_trans HWR.out (Nat.le_trans hsz hge))))
                clear hb hB1 hge hsz
                refine hK _ _ HS.out (fun _ => ?_)
                clear hK K
                try simp only [Act.put, List.setIfInBounds_toArray, List.set_cons_succ, List.set_cons_zero]
                refine wpAnyH_ready (rs := [16]) (by kernel_rfl) (by simp) ?_
                refine AllReadyH.cons (o := ⟨some 38, .buildSlice 41 1 #[(0, .tmp 37)], 41, _, _, none⟩) rfl (fun K hK => ?_) AllReadyH.nil
                go_simp
                have BJ2 := Blk.new v104 #[.int .i64 f, .int .i64 t, .slice (some ⟨g2, 0, none⟩) n n] 47
                have hb := below_one' v104 (.cells #[.int .i64 f, .int .i64 t, .slice (some ⟨g2, 0, none⟩) n n] 47)
                generalize World.alloc v104 _ = v105 at *
                have HS := Lib.hid (HS.out.on hb)
                have HP := Lib.hid (HP.out.on hb)
                have HTX := Lib.hid (HTX.out.below hb)
                have HO2 := Lib.hid (HO2.out.trans (Only.of_below hb))
                have HX_g2 := Lib.hid (HX_g2.out.on hb)
                replace BJ2 := Lib.hid BJ2
                clear hb
                refine hK _ _ HS.out (fun _ => ?_)
                clear hK K
                try simp only [Act.put, List.setIfInBounds_toArray, List.set_cons_succ, List.set_cons_zero]
                refine wpAnyH_ready (rs := [17]) (by kernel_rfl) (by simp) ?_
                refine AllReadyH.cons (o := ⟨some 39, .call { callee := .builtin .append, args := #[.tmp 35, .tmp 38], argTypes := #[41, 41] }, 41, _, _, none⟩) rfl (fun K hK => ?_) AllReadyH.nil
                obtain ⟨ls, hw, hw2⟩ := HP.out.ever
                rw [← HeverN.out] at hw
                have HWS := Lib.hid hw
                have HW2 := Lib.hid hw2
                clear hw hw2
                refine wp_append_row (.tmp 35) (.tmp 38) 41 47 rfl (.agg #[.int .i64 0, .int .i64 0, .slice none 0 0]) 3 40 Try.underlying41 info_sent (by rfl) (by decide) (.slice ea en ec) en (ncells ls) (by rfl) HWS.out _ 1 [.int .i64 f, .int .i64 t, .slice (some ⟨g2, 0, none⟩) n n] (by rfl) (by rfl) BJ2.out (by simp [Value.oneCell']) H63ever.out HBYever.out ?_
                intro a8 c8 v106 hO hg hat
                have HP := Lib.hid (HP.out.app_ever (s := ⟨f, t, dd⟩) HeverN.out hg hO HW2.out HX_g2.out hat)
                have HGever := Lib.hid (show ∀ j, (Value.slice a8 (en + 1) c8).ownBlock = some j → ((.slice ea en ec) : Value).ownBlock = some j ∨ bx ≤ j from fun j e => (hat j e).imp id (fun q => by rw [q, ← HBX.out]; exact HO2.out.size))
                have HS := Lib.hid ((Only.grown (S := fun j => ((.slice ea en ec) : Value).ownBlock = some j) hg (fun j e => e)).blk HS.out (HNBever.out))
                have HTX := Lib.hid (HTX.out.onlyT (Only.grown (S := fun j => ((.slice ea en ec) : Value).ownBlock = some j) hg (fun j e => e)) (fun g0 o0 e h0 q => HNX.out g0 o0 e h0 (.inr (.inr (.inl q)))))
                have HO2 := Lib.hid (HO2.out.trans (Only.grown (S := NFoot b (.slice wa wn wc) (.slice ea en ec) vz) hg (fun j e => .inr (.inr (.inl e)))))
                clear hO hg hat HWS HW2 HX_g2 BJ2
                refine hK _ _ HS.out (fun _ => ?_)
                clear hK K
                try simp only [Act.put, List.setIfInBounds_toArray, List.set_cons_succ, List.set_cons_zero]
                refine wpAnyH_take (i := 18) (oi := ⟨some 40, .nilCheck (.tmp 22), _, _, _, none⟩) (v := .pointer (some ⟨b, 0, none⟩)) rfl (by kernel_rfl) (by kernel_rfl) (by kernel_rfl) (fun _ _ _ h => h) (Or.inl ⟨by rfl, fun _ _ => by go_simp⟩) HS.out ?_
                try simp only [Act.put, List.setIfInBounds_toArray, List.set_cons_succ, List.set_cons_zero]
                refine wpAnyH_take (i := 19) (oi := ⟨some 41, .fieldAddr 43 (.tmp 40) 1, _, _, _, none⟩) (v := .pointer (some ⟨b, 1, none⟩)) rfl (by kernel_rfl) (by kernel_rfl) (by kernel_rfl) (fun _ _ _ h => h) (Or.inl ⟨by rfl, fun _ _ => by go_simp⟩) HS.out ?_
                try simp only [Act.put, List.setIfInBounds_toArray, List.set_cons_succ, List.set_cons_zero]
                refine wpAnyH_ready (rs := [20]) (by kernel_rfl) (by simp) ?_
                refine AllReadyH.cons (o := ⟨none, .store 41 (.tmp 41) (.tmp 31), _, _, _, none⟩) rfl (fun K hK => ?_) AllReadyH.nil
                refine wp_store_one (.tmp 41) (.tmp 31) 41 size_sents rfl b 1 (.slice a7 (wn + 1) c7) (by rfl) (by rfl) (by rfl) (by rfl) HP.out.blk (by simp) ?_
                intro v107 hW hB
                have HS := Lib.hid (hW.blk HS.out (blk_type_ne HS.out HP.out.blk (by decide)))
                have HP := Lib.hid (HP.out.store1 hW hB)
                have HO2 := Lib.hid (HO2.out.trans (Only.wrote (S := NFoot b (.slice wa wn wc) (.slice ea en ec) vz) hW (.inl rfl)))
                clear hW hB
                refine hK _ _ HS.out (fun _ => ?_)
                clear hK K
                try simp only [Act.put, List.setIfInBounds_toArray, List.set_cons_succ, List.set_cons_zero]
                refine wpAnyH_take (i := 21) (oi := ⟨some 42, .nilCheck (.tmp 23), _, _, _, none⟩) (v := .pointer (some ⟨b, 0, none⟩)) rfl (by kernel_rfl) (by kernel_rfl) (by kernel_rfl) (fun _ _ _ h => h) (Or.inl ⟨by rfl, fun _ _ => by go_simp⟩) HS.out ?_
                try simp only [Act.put, List.setIfInBounds_toArray, List.set_cons_succ, List.set_cons_zero]
                refine wpAnyH_take (i := 22) (oi := ⟨some 43, .fieldAddr 43 (.tmp 42) 2, _, _, _, none⟩) (v := .pointer (some ⟨b, 2, none⟩)) rfl (by kernel_rfl) (by kernel_rfl) (by kernel_rfl) (fun _ _ _ h => h) (Or.inl ⟨by rfl, fun _ _ => by go_simp⟩) HS.out ?_
                try simp only [Act.put, List.setIfInBounds_toArray, List.set_cons_succ, List.set_cons_zero]
                refine wpAnyH_ready (rs := [23]) (by kernel_rfl) (by simp) ?_
                refine AllReadyH.cons (o := ⟨none, .store 41 (.tmp 43) (.tmp 39), _, _, _, none⟩) rfl (fun K hK => ?_) AllReadyH.nil
                refine wp_store_one (.tmp 43) (.tmp 39) 41 size_sents rfl b 2 (.slice a8 (en + 1) c8) (by rfl) (by rfl) (by rfl) (by rfl) HP.out.blk (by simp) ?_
                intro v108 hW hB
                have HS := Lib.hid (hW.blk HS.out (blk_type_ne HS.out HP.out.blk (by decide)))
                have HP := Lib.hid (HP.out.store2 hW hB)
                have HO2 := Lib.hid (HO2.out.trans (Only.wrote (S := NFoot b (.slice wa wn wc) (.slice ea en ec) vz) hW (.inl rfl)))
                clear hW hB
                refine hK _ _ HS.out (fun _ => ?_)
                clear hK K
                try simp only [Act.put, List.setIfInBounds_toArray, List.set_cons_succ, List.set_cons_zero]
                refine wpAnyH_done (by kernel_rfl) ?_ _
                go_wp2
                go_roundw
                case rel => exact ⟨k + 1, .slice a7 (wn + 1) c7, .slice a8 (en + 1) c8, by have := HLT.out; omega, by go_num, by rw [HSM.out, ← List.append_assoc, ← List.append_assoc]; exact HP.out.whole, HO.out.trans' HO2.out HG.out, fun j q => by
                  rcases q with e | e | e | e
                  · exact HG.out j (.inl e)
                  · exact (HGway.out j e).elim (fun p => HG.out j (.inr (.inl p))) (fun p => .inr (Nat.le_trans HWR.out p))
                  · exact (HGever.out j e).elim (fun p => HG.out j (.inr (.inr (.inl p)))) (fun p => .inr (Nat.le_trans HWR.out p))
                  · exact HG.out j (.inr (.inr (.inr e)))⟩
                case measure => have := HLT.out; simp [intOf]; omega
            · have c1 := HP.out.c2
              refine wp_of_yields' (v := .slice ea en ec) (by unfold execOp; go_simp) ?_
              clear c1
              refine hK _ _ HS.out (fun _ => ?_)
              clear hK K
              try simp only [Act.put, List.setIfInBounds_toArray, List.set_cons_succ, List.set_cons_zero]
              refine wpAnyH_ready (rs := [5]) (by kernel_rfl) (by simp) ?_
              refine AllReadyH.cons (o := ⟨some 27, .load 41 (.tmp 26), 41, _, _, none⟩) rfl (fun K hK => ?_) AllReadyH.nil
              have c1 := HP.out.c1
              refine wp_of_yields' (v := .slice wa wn wc) (by unfold execOp; go_simp) ?_
              clear c1
              refine hK _ _ HS.out (fun _ => ?_)
              clear hK K
              try simp only [Act.put, List.setIfInBounds_toArray, List.set_cons_succ, List.set_cons_zero]
              refine wpAnyH_ready (rs := [9]) (by kernel_rfl) (by simp) ?_
              refine AllReadyH.cons (o := ⟨some 31, .call { callee := .builtin .append, args := #[.tmp 27, .tmp 30], argTypes := #[41, 41] }, 41, _, _, none⟩) rfl (fun K hK => ?_) AllReadyH.nil
              obtain ⟨ls, hw, hw2⟩ := HP.out.way
              rw [← HwayN.out] at hw
              have HWS := Lib.hid hw
              have HW2 := Lib.hid hw2
              clear hw hw2
              refine wp_append_row (.tmp 27) (.tmp 30) 41 47 rfl (.agg #[.int .i64 0, .int .i64 0, .slice none 0 0]) 3 40 Try.underlying41 info_sent (by rfl) (by decide) (.slice wa wn wc) wn (ncells ls) (by rfl) HWS.out _ 1 [.int .i64 f, .int .i64 t, .slice (some ⟨g1, 0, none⟩) n n] (by rfl) (by rfl) BJ1.out (by simp [Value.oneCell']) H63way.out HBYway.out ?_
              intro a7 c7 v111 hO hg hat
              have HP := Lib.hid (HP.out.app_way (s := ⟨f, t, dd⟩) HwayN.out hg hO HW2.out HX_g1.out hat)
              have HGway := Lib.hid (show ∀ j, (Value.slice a7 (wn + 1) c7).ownBlock = some j → ((.slice wa wn wc) : Value).ownBlock = some j ∨ bx ≤ j from fun j e => (hat j e).imp id (fun q => by rw [q, ← HBX.out]; exact HO2.out.size))
              have HS := Lib.hid ((Only.grown (S := fun j => ((.slice wa wn wc) : Value).ownBlock = some j) hg (fun j e => e)).blk HS.out (HNBway.out))
              have HTX := Lib.hid (HTX.out.onlyT (Only.grown (S := fun j => ((.slice wa wn wc) : Value).ownBlock = some j) hg (fun j e => e)) (fun g0 o0 e h0 q => HNX.out g0 o0 e h0 (.inr (.inl q))))
              have HO2 := Lib.hid (HO2.out.trans (Only.grown (S := NFoot b (.slice wa wn wc) (.slice ea en ec) vz) hg (fun j e => .inr (.inl e))))
              clear hO hg hat HWS HW2 HX_g1 BJ1
              refine hK _ _ HS.out (fun _ => ?_)
              clear hK K
              try simp only [Act.put, List.setIfInBounds_toArray, List.set_cons_succ, List.set_cons_zero]
              refine wpAnyH_ready (rs := [15]) (by kernel_rfl) (by simp) ?_
              refine AllReadyH.cons (o := ⟨some 37, .call { callee := .value (.func 84), args := #[.tmp 36], argTypes := #[47] }, 47, _, _, none⟩) rfl (fun K hK => ?_) AllReadyH.nil
              go_simp
              refine (own_walk f t px n cx dd HDL.out v111 HTX.out).mono ?_
              rintro e v112 ⟨g2, rfl, hB1, hge, hb⟩
              have hsz : bx ≤ v111.heap.size := (by rw [← HBX.out]; exact HO2.out.size)
              have HS := Lib.hid (HS.out.on hb)
              have HP := Lib.hid (HP.out.on hb)
              have HTX := Lib.hid (HTX.out.below hb)
              have HO2 := Lib.hid (HO2.out.trans (Only.of_below hb))
              have HX_g2 := Lib.hid (Tn.of_blkn (av := fun k => av k ∨ w0.heap.size ≤ k) hB1 HNL.out (show av g2 ∨ w0.heap.size ≤ g2 from .inr (Nat.le_trans HWR.out (Nat.le_trans hsz hge))))
              clear hb hB1 hge hsz
              refine hK _ _ HS.out (fun _ => ?_)
              clear hK K
              try simp only [Act.put, List.setIfInBounds_toArray, List.set_cons_succ, List.set_cons_zero]
              refine wpAnyH_ready (rs := [16]) (by kernel_rfl) (by simp) ?_
              refine AllReadyH.cons (o := ⟨some 38, .buildSlice 41 1 #[(0, .tmp 37)], 41, _, _, none⟩) rfl (fun K hK => ?_) AllReadyH.nil
              go_simp
              have BJ2 := Blk.new v112 #[.int .i64 f, .int .i64 t, .slice (some ⟨g2, 0, none⟩) n n] 47
              have hb := below_one' v112 (.cells #[.int .i64 f, .int .i64 t, .slice (some ⟨g2, 0, none⟩) n n] 47)
              generalize World.alloc v112 _ = v113 at *
              have HS := Lib.hid (HS.out.on hb)
              have HP := Lib.hid (HP.out.on hb)
              have HTX := Lib.hid (HTX.out.below hb)
              have HO2 := Lib.hid (HO2.out.trans (Only.of_below hb))
              have HX_g2 := Lib.hid (HX_g2.out.on hb)
              replace BJ2 := Lib.hid BJ2
              clear hb
              refine hK _ _ HS.out (fun _ => ?_)
              clear hK K
              try simp only [Act.put, List.setIfInBounds_toArray, List.set_cons_succ, List.set_cons_zero]
              refine wpAnyH_ready (rs := [17]) (by kernel_rfl) (by simp) ?_
              refine AllReadyH.cons (o := ⟨some 39, .call { callee := .builtin .append, args := #[.tmp 35, .tmp 38], argTypes := #[41, 41] }, 41, _, _, none⟩) rfl (fun K hK => ?_) AllReadyH.nil
              obtain ⟨ls, hw, hw2⟩ := HP.out.ever
              rw [← HeverN.out] at hw
              have HWS := Lib.hid hw
              have HW2 := Lib.hid hw2
              clear hw hw2
              refine wp_append_row (.tmp 35) (.tmp 38) 41 47 rfl (.agg #[.int .i64 0, .int .i64 0, .slice none 0 0]) 3 40 Try.underlying41 info_sent (by rfl) (by decide) (.slice ea en ec) en (ncells ls) (by rfl) HWS.out _ 1 [.int .i64 f, .int .i64 t, .slice (some ⟨g2, 0, none⟩) n n] (by rfl) (by rfl) BJ2.out (by simp [Value.oneCell']) H63ever.out HBYever.out ?_
              intro a8 c8 v114 hO hg hat
              have HP := Lib.hid (HP.out.app_ever (s := ⟨f, t, dd⟩) HeverN.out hg hO HW2.out HX_g2.out hat)
              have HGever := Lib.hid (show ∀ j, (Value.slice a8 (en + 1) c8).ownBlock = some j → ((.slice ea en ec) : Value).ownBlock = some j ∨ bx ≤ j from fun j e => (hat j e).imp id (fun q => by rw [q, ← HBX.out]; exact HO2.out.size))
              have HS := Lib.hid ((Only.grown (S := fun j => ((.slice ea en ec) : Value).ownBlock = some j) hg (fun j e => e)).blk HS.out (HNBever.out))
              have HTX := Lib.hid (HTX.out.onlyT (Only.grown (S := fun j => ((.slice ea en ec) : Value).ownBlock = some j) hg (fun j e => e)) (fun g0 o0 e h0 q => HNX.out g0 o0 e h0 (.inr (.inr (.inl q)))))
              have HO2 := Lib.hid (HO2.out.trans (Only.grown (S := NFoot b (.slice wa wn wc) (.slice ea en ec) vz) hg (fun j e => .inr (.inr (.inl e)))))
              clear hO hg hat HWS HW2 HX_g2 BJ2
              refine hK _ _ HS.out (fun _ => ?_)
              clear hK K
              try simp only [Act.put, List.setIfInBounds_toArray, List.set_cons_succ, List.set_cons_zero]
              refine wpAnyH_take (i := 18) (oi := ⟨some 40, .nilCheck (.tmp 22), _, _, _, none⟩) (v := .pointer (some ⟨b, 0, none⟩)) rfl (by kernel_rfl) (by kernel_rfl) (by kernel_rfl) (fun _ _ _ h => h) (Or.inl ⟨by rfl, fun _ _ => by go_simp⟩) HS.out ?_
              try simp only [Act.put, List.setIfInBounds_toArray, List.set_cons_succ, List.set_cons_zero]
              refine wpAnyH_take (i := 19) (oi := ⟨some 41, .fieldAddr 43 (.tmp 40) 1, _, _, _, none⟩) (v := .pointer (some ⟨b, 1, none⟩)) rfl (by kernel_rfl) (by kernel_rfl) (by kernel_rfl) (fun _ _ _ h => h) (Or.inl ⟨by rfl, fun _ _ => by go_simp⟩) HS.out ?_
              try simp only [Act.put, List.setIfInBounds_toArray, List.set_cons_succ, List.set_cons_zero]
              refine wpAnyH_ready (rs := [20]) (by kernel_rfl) (by simp) ?_
              refine AllReadyH.cons (o := ⟨none, .store 41 (.tmp 41) (.tmp 31), _, _, _, none⟩) rfl (fun K hK => ?_) AllReadyH.nil
              refine wp_store_one (.tmp 41) (.tmp 31) 41 size_sents rfl b 1 (.slice a7 (wn + 1) c7) (by rfl) (by rfl) (by rfl) (by rfl) HP.out.blk (by simp) ?_
              intro v115 hW hB
              have HS := Lib.hid (hW.blk HS.out (blk_type_ne HS.out HP.out.blk (by decide)))
              have HP := Lib.hid (HP.out.store1 hW hB)
              have HO2 := Lib.hid (HO2.out.trans (Only.wrote (S := NFoot b (.slice wa wn wc) (.slice ea en ec) vz) hW (.inl rfl)))
              clear hW hB
              refine hK _ _ HS.out (fun _ => ?_)
              clear hK K
              try simp only [Act.put, List.setIfInBounds_toArray, List.set_cons_succ, List.set_cons_zero]
              refine wpAnyH_take (i := 21) (oi := ⟨some 42, .nilCheck (.tmp 23), _, _, _, none⟩) (v := .pointer (some ⟨b, 0, none⟩)) rfl (by kernel_rfl) (by kernel_rfl) (by kernel_rfl) (fun _ _ _ h => h) (Or.inl ⟨by rfl, fun _ _ => by go_simp⟩) HS.out ?_
              try simp only [Act.put, List.setIfInBounds_toArray, List.set_cons_succ, List.set_cons_zero]
              refine wpAnyH_take (i := 22) (oi := ⟨some 43, .fieldAddr 43 (.tmp 42) 2, _, _, _, none⟩) (v := .pointer (some ⟨b, 2, none⟩)) rfl (by kernel_rfl) (by kernel_rfl) (by kernel_rfl) (fun _ _ _ h => h) (Or.inl ⟨by rfl, fun _ _ => by go_simp⟩) HS.out ?_
              try simp only [Act.put, List.setIfInBounds_toArray, List.set_cons_succ, List.set_cons_zero]
              refine wpAnyH_ready (rs := [23]) (by kernel_rfl) (by simp) ?_
              refine AllReadyH.cons (o := ⟨none, .store 41 (.tmp 43) (.tmp 39), _, _, _, none⟩) rfl (fun K hK => ?_) AllReadyH.nil
              refine wp_store_one (.tmp 43) (.tmp 39) 41 size_sents rfl b 2 (.slice a8 (en + 1) c8) (by rfl) (by rfl) (by rfl) (by rfl) HP.out.blk (by simp) ?_
              intro v116 hW hB
              have HS := Lib.hid (hW.blk HS.out (blk_type_ne HS.out HP.out.blk (by decide)))
              have HP := Lib.hid (HP.out.store2 hW hB)
              have HO2 := Lib.hid (HO2.out.trans (Only.wrote (S := NFoot b (.slice wa wn wc) (.slice ea en ec) vz) hW (.inl rfl)))
              clear hW hB
              refine hK _ _ HS.out (fun _ => ?_)
              clear hK K
              try simp only [Act.put, List.setIfInBounds_toArray, List.set_cons_succ, List.set_cons_zero]
              refine wpAnyH_done (by kernel_rfl) ?_ _
              go_wp2
              go_roundw
              case rel => exact ⟨k + 1, .slice a7 (wn + 1) c7, .slice a8 (en + 1) c8, by have := HLT.out; omega, by go_num, by rw [HSM.out, ← List.append_assoc, ← List.append_assoc]; exact HP.out.whole, HO.out.trans' HO2.out HG.out, fun j q => by
                rcases q with e | e | e | e
                · exact HG.out j (.inl e)
                · exact (HGway.out j e).elim (fun p => HG.out j (.inr (.inl p))) (fun p => .inr (Nat.le_trans HWR.out p))
                · exact (HGever.out j e).elim (fun p => HG.out j (.inr (.inr (.inl p)))) (fun p => .inr (Nat.le_trans HWR.out p))
                · exact HG.out j (.inr (.inr (.inr e)))⟩
              case measure => have := HLT.out; simp [intOf]; omega
          · have c1 := HP.out.c2
            refine wp_of_yields' (v := .slice ea en ec) (by unfold execOp; go_simp) ?_
            clear c1
            refine hK _ _ HS.out (fun _ => ?_)
            clear hK K
            try simp only [Act.put, List.setIfInBounds_toArray, List.set_cons_succ, List.set_cons_zero]
            refine wpAnyH_ready (rs := [5, 8]) (by kernel_rfl) (by simp) ?_
            refine AllReadyH.cons (o := ⟨some 27, .load 41 (.tmp 26), 41, _, _, none⟩) rfl (fun K hK => ?_) (AllReadyH.cons (o := ⟨some 30, .buildSlice 41 1 #[(0, .tmp 29)], 41, _, _, none⟩) rfl (fun K hK => ?_) AllReadyH.nil)
            · have c1 := HP.out.c1
              refine wp_of_yields' (v := .slice wa wn wc) (by unfold execOp; go_simp) ?_
              clear c1
              refine hK _ _ HS.out (fun _ => ?_)
              clear hK K
              try simp only [Act.put, List.setIfInBounds_toArray, List.set_cons_succ, List.set_cons_zero]
              refine wpAnyH_ready (rs := [8]) (by kernel_rfl) (by simp) ?_
              refine AllReadyH.cons (o := ⟨some 30, .buildSlice 41 1 #[(0, .tmp 29)], 41, _, _, none⟩) rfl (fun K hK => ?_) AllReadyH.nil
              go_simp
              have BJ1 := Blk.new v46 #[.int .i64 f, .int .i64 t, .slice (some ⟨g1, 0, none⟩) n n] 47
              have hb := below_one' v46 (.cells #[.int .i64 f, .int .i64 t, .slice (some ⟨g1, 0, none⟩) n n] 47)
              generalize World.alloc v46 _ = v119 at *
              have HS := Lib.hid (HS.out.on hb)
              have HP := Lib.hid (HP.out.on hb)
              have HTX := Lib.hid (HTX.out.below hb)
              have HO2 := Lib.hid (HO2.out.trans (Only.of_below hb))
              have HX_g1 := Lib.hid (HX_g1.out.on hb)
              replace BJ1 := Lib.hid BJ1
              clear hb
              refine hK _ _ HS.out (fun _ => ?_)
              clear hK K
              try simp only [Act.put, List.setIfInBounds_toArray, List.set_cons_succ, List.set_cons_zero]
              refine wpAnyH_ready (rs := [9]) (by kernel_rfl) (by simp) ?_
              refine AllReadyH.cons (o := ⟨some 31, .call { callee := .builtin .append, args := #[.tmp 27, .tmp 30], argTypes := #[41, 41] }, 41, _, _, none⟩) rfl (fun K hK => ?_) AllReadyH.nil
              obtain ⟨ls, hw, hw2⟩ := HP.out.way
              rw [← HwayN.out] at hw
              have HWS := Lib.hid hw
              have HW2 := Lib.hid hw2
              clear hw hw2
              refine wp_append_row (.tmp 27) (.tmp 30) 41 47 rfl (.agg #[.int .i64 0, .int .i64 0, .slice none 0 0]) 3 40 Try.underlying41 info_sent (by rfl) (by decide) (.slice wa wn wc) wn (ncells ls) (by rfl) HWS.out _ 1 [.int .i64 f, .int .i64 t, .slice (some ⟨g1, 0, none⟩) n n] (by rfl) (by rfl) BJ1.out (by simp [Value.oneCell']) H63way.out HBYway.out ?_
              intro a7 c7 v120 hO hg hat
              have HP := Lib.hid (HP.out.app_way (s := ⟨f, t, dd⟩) HwayN.out hg hO HW2.out HX_g1.out hat)
              have HGway := Lib.hid (show ∀ j, (Value.slice a7 (wn + 1) c7).ownBlock = some j → ((.slice wa wn wc) : Value).ownBlock = some j ∨ bx ≤ j from fun j e => (hat j e).imp id (fun q => by rw [q, ← HBX.out]; exact HO2.out.size))
              have HS := Lib.hid ((Only.grown (S := fun j => ((.slice wa wn wc) : Value).ownBlock = some j) hg (fun j e => e)).blk HS.out (HNBway.out))
              have HTX := Lib.hid (HTX.out.onlyT (Only.grown (S := fun j => ((.slice wa wn wc) : Value).ownBlock = some j) hg (fun j e => e)) (fun g0 o0 e h0 q => HNX.out g0 o0 e h0 (.inr (.inl q))))
              have HO2 := Lib.hid (HO2.out.trans (Only.grown (S := NFoot b (.slice wa wn wc) (.slice ea en ec) vz) hg (fun j e => .inr (.inl e))))
              clear hO hg hat HWS HW2 HX_g1 BJ1
              refine hK _ _ HS.out (fun _ => ?_)
              clear hK K
              try simp only [Act.put, List.setIfInBounds_toArray, List.set_cons_succ, List.set_cons_zero]
              refine wpAnyH_ready (rs := [15]) (by kernel_rfl) (by simp) ?_
              refine AllReadyH.cons (o := ⟨some 37, .call { callee := .value (.func 84), args := #[.tmp 36], argTypes := #[47] }, 47, _, _, none⟩) rfl (fun K hK => ?_) AllReadyH.nil
              go_simp
              refine (own_walk f t px n cx dd HDL.out v120 HTX.out).mono ?_
              rintro e v121 ⟨g2, rfl, hB1, hge, hb⟩
              have hsz : bx ≤ v120.heap.size := (by rw [← HBX.out]; exact HO2.out.size)
              have HS := Lib.hid (HS.out.on hb)
              have HP := Lib.hid (HP.out.on hb)
              have HTX := Lib.hid (HTX.out.below hb)
              have HO2 := Lib.hid (HO2.out.trans (Only.of_below hb))
              have HX_g2 := Lib.hid (Tn.of_blkn (av := fun k => av k ∨ w0.heap.size ≤ k) hB1 HNL.out (show av g2 ∨ w0.heap.size ≤ g2 from .inr (Nat.le_trans HWR.out (Nat.le_trans hsz hge))))
              clear hb hB1 hge hsz
              refine hK _ _ HS.out (fun _ => ?_)
              clear hK K
              try simp only [Act.put, List.setIfInBounds_toArray, List.set_cons_succ, List.set_cons_zero]
              refine wpAnyH_ready (rs := [16]) (by kernel_rfl) (by simp) ?_
              refine AllReadyH.cons (o := ⟨some 38, .buildSlice 41 1 #[(0, .tmp 37)], 41, _, _, none⟩) rfl (fun K hK => ?_) AllReadyH.nil
              go_simp
              have BJ2 := Blk.new v121 #[.int .i64 f, .int .i64 t, .slice (some ⟨g2, 0, none⟩) n n] 47
              have hb := below_one' v121 (.cells #[.int .i64 f, .int .i64 t, .slice (some ⟨g2, 0, none⟩) n n] 47)
              generalize World.alloc v121 _ = v122 at *
              have HS := Lib.hid (HS.out.on hb)
              have HP := Lib.hid (HP.out.on hb)
              have HTX := Lib.hid (HTX.out.below hb)
              have HO2 := Lib.hid (HO2.out.trans (Only.of_below hb))
              have HX_g2 := Lib.hid (HX_g2.out.on hb)
              replace BJ2 := Lib.hid BJ2
              clear hb
              refine hK _ _ HS.out (fun _ => ?_)
              clear hK K
              try simp only [Act.put, List.setIfInBounds_toArray, List.set_cons_succ, List.set_cons_zero]
              refine wpAnyH_ready (rs := [17]) (by kernel_rfl) (by simp) ?_
              refine AllReadyH.cons (o := ⟨some 39, .call { callee := .builtin .append, args := #[.tmp 35, .tmp 38], argTypes := #[41, 41] }, 41, _, _, none⟩) rfl (fun K hK => ?_) AllReadyH.nil
              obtain ⟨ls, hw, hw2⟩ := HP.out.ever
              rw [← HeverN.out] at hw
              have HWS := Lib.hid hw
              have HW2 := Lib.hid hw2
              clear hw hw2
              refine wp_append_row (.tmp 35) (.tmp 38) 41 47 rfl (.agg #[.int .i64 0, .int .i64 0, .slice none 0 0]) 3 40 Try.underlying41 info_sent (by rfl) (by decide) (.slice ea en ec) en (ncells ls) (by rfl) HWS.out _ 1 [.int .i64 f, .int .i64 t, .slice (some ⟨g2, 0, none⟩) n n] (by rfl) (by rfl) BJ2.out (by simp [Value.oneCell']) H63ever.out HBYever.out ?_
              intro a8 c8 v123 hO hg hat
              have HP := Lib.hid (HP.out.app_ever (s := ⟨f, t, dd⟩) HeverN.out hg hO HW2.out HX_g2.out hat)
              have HGever := Lib.hid (show ∀ j, (Value.slice a8 (en + 1) c8).ownBlock = some j → ((.slice ea en ec) : Value).ownBlock = some j ∨ bx ≤ j from fun j e => (hat j e).imp id (fun q => by rw [q, ← HBX.out]; exact HO2.out.size))
              have HS := Lib.hid ((Only.grown (S := fun j => ((.slice ea en ec) : Value).ownBlock = some j) hg (fun j e => e)).blk HS.out (HNBever.out))
              have HTX := Lib.hid (HTX.out.onlyT (Only.grown (S := fun j => ((.slice ea en ec) : Value).ownBlock = some j) hg (fun j e => e)) (fun g0 o0 e h0 q => HNX.out g0 o0 e h0 (.inr (.inr (.inl q)))))
              have HO2 := Lib.hid (HO2.out.trans (Only.grown (S := NFoot b (.slice wa wn wc) (.slice ea en ec) vz) hg (fun j e => .inr (.inr (.inl e)))))
              clear hO hg hat HWS HW2 HX_g2 BJ2
              refine hK _ _ HS.out (fun _ => ?_)
              clear hK K
              try simp only [Act.put, List.setIfInBounds_toArray, List.set_cons_succ, List.set_cons_zero]
              refine wpAnyH_take (i := 18) (oi := ⟨some 40, .nilCheck (.tmp 22), _, _, _, none⟩) (v := .pointer (some ⟨b, 0, none⟩)) rfl (by kernel_rfl) (by kernel_rfl) (by kernel_rfl) (fun _ _ _ h => h) (Or.inl ⟨by rfl, fun _ _ => by go_simp⟩) HS.out ?_
              try simp only [Act.put, List.setIfInBounds_toArray, List.set_cons_succ, List.set_cons_zero]
              refine wpAnyH_take (i := 19) (oi := ⟨some 41, .fieldAddr 43 (.tmp 40) 1, _, _, _, none⟩) (v := .pointer (some ⟨b, 1, none⟩)) rfl (by kernel_rfl) (by kernel_rfl) (by kernel_rfl) (fun _ _ _ h => h) (Or.inl ⟨by rfl, fun _ _ => by go_simp⟩) HS.out ?_
              try simp only [Act.put, List.setIfInBounds_toArray, List.set_cons_succ, List.set_cons_zero]
              refine wpAnyH_ready (rs := [20]) (by kernel_rfl) (by simp) ?_
              refine AllReadyH.cons (o := ⟨none, .store 41 (.tmp 41) (.tmp 31), _, _, _, none⟩) rfl (fun K hK => ?_) AllReadyH.nil
              refine wp_store_one (.tmp 41) (.tmp 31) 41 size_sents rfl b 1 (.slice a7 (wn + 1) c7) (by rfl) (by rfl) (by rfl) (by rfl) HP.out.blk (by simp) ?_
              intro v124 hW hB
              have HS := Lib.hid (hW.blk HS.out (blk_type_ne HS.out HP.out.blk (by decide)))
              have HP := Lib.hid (HP.out.store1 hW hB)
              have HO2 := Lib.hid (HO2.out.trans (Only.wrote (S := NFoot b (.slice wa wn wc) (.slice ea en ec) vz) hW (.inl rfl)))
              clear hW hB
              refine hK _ _ HS.out (fun _ => ?_)
              clear hK K
              try simp only [Act.put, List.setIfInBounds_toArray, List.set_cons_succ, List.set_cons_zero]
              refine wpAnyH_take (i := 21) (oi := ⟨some 42, .nilCheck (.tmp 23), _, _, _, none⟩) (v := .pointer (some ⟨b, 0, none⟩)) rfl (by kernel_rfl) (by kernel_rfl) (by kernel_rfl) (fun _ _ _ h => h) (Or.inl ⟨by rfl, fun _ _ => by go_simp⟩) HS.out ?_
              try simp only [Act.put, List.setIfInBounds_toArray, List.set_cons_succ, List.set_cons_zero]
              refine wpAnyH_take (i := 22) (oi := ⟨some 43, .fieldAddr 43 (.tmp 42) 2, _, _, _, none⟩) (v := .pointer (some ⟨b, 2, none⟩)) rfl (by kernel_rfl) (by kernel_rfl) (by kernel_rfl) (fun _ _ _ h => h) (Or.inl ⟨by rfl, fun _ _ => by go_simp⟩) HS.out ?_
              try simp only [Act.put, List.setIfInBounds_toArray, List.set_cons_succ, List.set_cons_zero]
              refine wpAnyH_ready (rs := [23]) (by kernel_rfl) (by simp) ?_
              refine AllReadyH.cons (o := ⟨none, .store 41 (.tmp 43) (.tmp 39), _, _, _, none⟩) rfl (fun K hK => ?_) AllReadyH.nil
              refine wp_store_one (.tmp 43) (.tmp 39) 41 size_sents rfl b 2 (.slice a8 (en + 1) c8) (by rfl) (by rfl) (by rfl) (by rfl) HP.out.blk (by simp) ?_
              intro v125 hW hB
              have HS := Lib.hid (hW.blk HS.out (blk_type_ne HS.out HP.out.blk (by decide)))
              have HP := Lib.hid (HP.out.store2 hW hB)
              have HO2 := Lib.hid (HO2.out.trans (Only.wrote (S := NFoot b (.slice wa wn wc) (.slice ea en ec) vz) hW (.inl rfl)))
              clear hW hB
              refine hK _ _ HS.out (fun _ => ?_)
              clear hK K
              try simp only [Act.put, List.setIfInBounds_toArray, List.set_cons_succ, List.set_cons_zero]
              refine wpAnyH_done (by kernel_rfl) ?_ _
              go_wp2
              go_roundw
              case rel => exact ⟨k + 1, .slice a7 (wn + 1) c7, .slice a8 (en + 1) c8, by have := HLT.out; omega, by go_num, by rw [HSM.out, ← List.append_assoc, ← List.append_assoc]; exact HP.out.whole, HO.out.trans' HO2.out HG.out, fun j q => by
                rcases q with e | e | e | e
                · exact HG.out j (.inl e)
                · exact (HGway.out j e).elim (fun p => HG.out j (.inr (.inl p))) (fun p => .inr (Nat.le_trans HWR.out p))
                · exact (HGever.out j e).elim (fun p => HG.out j (.inr (.inr (.inl p)))) (fun p => .inr (Nat.le_trans HWR.out p))
                · exact HG.out j (.inr (.inr (.inr e)))⟩
              case measure => have := HLT.out; simp [intOf]; omega
            · go_simp
              have BJ1 := Blk.new v46 #[.int .i64 f, .int .i64 t, .slice (some ⟨g1, 0, none⟩) n n] 47
              have hb := below_one' v46 (.cells #[.int .i64 f, .int .i64 t, .slice (some ⟨g1, 0, none⟩) n n] 47)
              generalize World.alloc v46 _ = v126 at *
              have HS := Lib.hid (HS.out.on hb)
              have HP := Lib.hid (HP.out.on hb)
              have HTX := Lib.hid (HTX.out.below hb)
              have HO2 := Lib.hid (HO2.out.trans (Only.of_below hb))
              have HX_g1 := Lib.hid (HX_g1.out.on hb)
              replace BJ1 := Lib.hid BJ1
              clear hb
              refine hK _ _ HS.out (fun _ => ?_)
              clear hK K
              try simp only [Act.put, List.setIfInBounds_toArray, List.set_cons_succ, List.set_cons_zero]
              refine wpAnyH_ready (rs := [5]) (by kernel_rfl) (by simp) ?_
              refine AllReadyH.cons (o := ⟨some 27, .load 41 (.tmp 26), 41, _, _, none⟩) rfl (fun K hK => ?_) AllReadyH.nil
              have c1 := HP.out.c1
              refine wp_of_yields' (v := .slice wa wn wc) (by unfold execOp; go_simp) ?_
              clear c1
              refine hK _ _ HS.out (fun _ => ?_)
              clear hK K
              try simp only [Act.put, List.setIfInBounds_toArray, List.set_cons_succ, List.set_cons_zero]
              refine wpAnyH_ready (rs := [9]) (by kernel_rfl) (by simp) ?_
              refine AllReadyH.cons (o := ⟨some 31, .call { callee := .builtin .append, args := #[.tmp 27, .tmp 30], argTypes := #[41, 41] }, 41, _, _, none⟩) rfl (fun K hK => ?_) AllReadyH.nil
              obtain ⟨ls, hw, hw2⟩ := HP.out.way
              rw [← HwayN.out] at hw
              have HWS := Lib.hid hw
              have HW2 := Lib.hid hw2
              clear hw hw2
              refine wp_append_row (.tmp 27) (.tmp 30) 41 47 rfl (.agg #[.int .i64 0, .int .i64 0, .slice none 0 0]) 3 40 Try.underlying41 info_sent (by rfl) (by decide) (.slice wa wn wc) wn (ncells ls) (by rfl) HWS.out _ 1 [.int .i64 f, .int .i64 t, .slice (some ⟨g1, 0, none⟩) n n] (by rfl) (by rfl) BJ1.out (by simp [Value.oneCell']) H63way.out HBYway.out ?_
              intro a7 c7 v128 hO hg hat
              have HP := Lib.hid (HP.out.app_way (s := ⟨f, t, dd⟩) HwayN.out hg hO HW2.out HX_g1.out hat)
              have HGway := Lib.hid (show ∀ j, (Value.slice a7 (wn + 1) c7).ownBlock = some j → ((.slice wa wn wc) : Value).ownBlock = some j ∨ bx ≤ j from fun j e => (hat j e).imp id (fun q => by rw [q, ← HBX.out]; exact HO2.out.size))
              have HS := Lib.hid ((Only.grown (S := fun j => ((.slice wa wn wc) : Value).ownBlock = some j) hg (fun j e => e)).blk HS.out (HNBway.out))
              have HTX := Lib.hid (HTX.out.onlyT (Only.grown (S := fun j => ((.slice wa wn wc) : Value).ownBlock = some j) hg (fun j e => e)) (fun g0 o0 e h0 q => HNX.out g0 o0 e h0 (.inr (.inl q))))
              have HO2 := Lib.hid (HO2.out.trans (Only.grown (S := NFoot b (.slice wa wn wc) (.slice ea en ec) vz) hg (fun j e => .inr (.inl e))))
              clear hO hg hat HWS HW2 HX_g1 BJ1
              refine hK _ _ HS.out (fun _ => ?_)
              clear hK K
              try simp only [Act.put, List.setIfInBounds_toArray, List.set_cons_succ, List.set_cons_zero]
              refine wpAnyH_ready (rs := [15]) (by kernel_rfl) (by simp) ?_
              refine AllReadyH.cons (o := ⟨some 37, .call { callee := .value (.func 84), args := #[.tmp 36], argTypes := #[47] }, 47, _, _, none⟩) rfl (fun K hK => ?_) AllReadyH.nil
              go_simp
              refine (own_walk f t px n cx dd HDL.out v128 HTX.out).mono ?_
              rintro e v129 ⟨g2, rfl, hB1, hge, hb⟩
              have hsz : bx ≤ v128.heap.size := (by rw [← HBX.out]; exact HO2.out.size)
              have HS := Lib.hid (HS.out.on hb)
              have HP := Lib.hid (HP.out.on hb)
              have HTX := Lib.hid (HTX.out.below hb)
              have HO2 := Lib.hid (HO2.out.trans (Only.of_below hb))
              have HX_g2 := Lib.hid (Tn.of_blkn (av := fun k => av k ∨ w0.heap.size ≤ k) hB1 HNL.out (show av g2 ∨ w0.heap.size ≤ g2 from .inr (Nat.le_trans HWR.out (Nat.le_trans hsz hge))))
              clear hb hB1 hge hsz
              refine hK _ _ HS.out (fun _ => ?_)
              clear hK K
              try simp only [Act.put, List.setIfInBounds_toArray, List.set_cons_succ, List.set_cons_zero]
              refine wpAnyH_ready (rs := [16]) (by kernel_rfl) (by simp) ?_
              refine AllReadyH.cons (o := ⟨some 38, .buildSlice 41 1 #[(0, .tmp 37)], 41, _, _, none⟩) rfl (fun K hK => ?_) AllReadyH.nil
              go_simp
              have BJ2 := Blk.new v129 #[.int .i64 f, .int .i64 t, .slice (some ⟨g2, 0, none⟩) n n] 47
              have hb := below_one' v129 (.cells #[.int .i64 f, .int .i64 t, .slice (some ⟨g2, 0, none⟩) n n] 47)
              generalize World.alloc v129 _ = v130 at *
              have HS := Lib.hid (HS.out.on hb)
              have HP := Lib.hid (HP.out.on hb)
              have HTX := Lib.hid (HTX.out.below hb)
              have HO2 := Lib.hid (HO2.out.trans (Only.of_below hb))
              have HX_g2 := Lib.hid (HX_g2.out.on hb)
              replace BJ2 := Lib.hid BJ2
              clear hb
              refine hK _ _ HS.out (fun _ => ?_)
              clear hK K
              try simp only [Act.put, List.setIfInBounds_toArray, List.set_cons_succ, List.set_cons_zero]
              refine wpAnyH_ready (rs := [17]) (by kernel_rfl) (by simp) ?_
              refine AllReadyH.cons (o := ⟨some 39, .call { callee := .builtin .append, args := #[.tmp 35, .tmp 38], argTypes := #[41, 41] }, 41, _, _, none⟩) rfl (fun K hK => ?_) AllReadyH.nil
              obtain ⟨ls, hw, hw2⟩ := HP.out.ever
              rw [← HeverN.out] at hw
              have HWS := Lib.hid hw
              have HW2 := Lib.hid hw2
              clear hw hw2
              refine wp_append_row (.tmp 35) (.tmp 38) 41 47 rfl (.agg #[.int .i64 0, .int .i64 0, .slice none 0 0]) 3 40 Try.underlying41 info_sent (by rfl) (by decide) (.slice ea en ec) en (ncells ls) (by rfl) HWS.out _ 1 [.int .i64 f, .int .i64 t, .slice (some ⟨g2, 0, none⟩) n n] (by rfl) (by rfl) BJ2.out (by simp [Value.oneCell']) H63ever.out HBYever.out ?_
              intro a8 c8 v131 hO hg hat
              have HP := Lib.hid (HP.out.app_ever (s := ⟨f, t, dd⟩) HeverN.out hg hO HW2.out HX_g2.out hat)
              have HGever := Lib.hid (show ∀ j, (Value.slice a8 (en + 1) c8).ownBlock = some j → ((.slice ea en ec) : Value).ownBlock = some j ∨ bx ≤ j from fun j e => (hat j e).imp id (fun q => by rw [q, ← HBX.out]; exact HO2.out.size))
              have HS := Lib.hid ((Only.grown (S := fun j => ((.slice ea en ec) : Value).ownBlock = some j) hg (fun j e => e)).blk HS.out (HNBever.out))
              have HTX := Lib.hid (HTX.out.onlyT (Only.grown (S := fun j => ((.slice ea en ec) : Value).ownBlock = some j) hg (fun j e => e)) (fun g0 o0 e h0 q => HNX.out g0 o0 e h0 (.inr (.inr (.inl q)))))
              have HO2 := Lib.hid (HO2.out.trans (Only.grown (S := NFoot b (.slice wa wn wc) (.slice ea en ec) vz) hg (fun j e => .inr (.inr (.inl e)))))
              clear hO hg hat HWS HW2 HX_g2 BJ2
              refine hK _ _ HS.out (fun _ => ?_)
              clear hK K
              try simp only [Act.put, List.setIfInBounds_toArray, List.set_cons_succ, List.set_cons_zero]
              refine wpAnyH_take (i := 18) (oi := ⟨some 40, .nilCheck (.tmp 22), _, _, _, none⟩) (v := .pointer (some ⟨b, 0, none⟩)) rfl (by kernel_rfl) (by kernel_rfl) (by kernel_rfl) (fun _ _ _ h => h) (Or.inl ⟨by rfl, fun _ _ => by go_simp⟩) HS.out ?_
              try simp only [Act.put, List.setIfInBounds_toArray, List.set_cons_succ, List.set_cons_zero]
              refine wpAnyH_take (i := 19) (oi := ⟨some 41, .fieldAddr 43 (.tmp 40) 1, _, _, _, none⟩) (v := .pointer (some ⟨b, 1, none⟩)) rfl (by kernel_rfl) (by kernel_rfl) (by kernel_rfl) (fun _ _ _ h => h) (Or.inl ⟨by rfl, fun _ _ => by go_simp⟩) HS.out ?_
              try simp only [Act.put, List.setIfInBounds_toArray, List.set_cons_succ, List.set_cons_zero]
              refine wpAnyH_ready (rs := [20]) (by kernel_rfl) (by simp) ?_
              refine AllReadyH.cons (o := ⟨none, .store 41 (.tmp 41) (.tmp 31), _, _, _, none⟩) rfl (fun K hK => ?_) AllReadyH.nil
              refine wp_store_one (.tmp 41) (.tmp 31) 41 size_sents rfl b 1 (.slice a7 (wn + 1) c7) (by rfl) (by rfl) (by rfl) (by rfl) HP.out.blk (by simp) ?_
              intro v132 hW hB
              have HS := Lib.hid (hW.blk HS.out (blk_type_ne HS.out HP.out.blk (by decide)))
              have HP := Lib.hid (HP.out.store1 hW hB)
              have HO2 := Lib.hid (HO2.out.trans (Only.wrote (S := NFoot b (.slice wa wn wc) (.slice ea en ec) vz) hW (.inl rfl)))
              clear hW hB
              refine hK _ _ HS.out (fun _ => ?_)
              clear hK K
              try simp only [Act.put, List.setIfInBounds_toArray, List.set_cons_succ, List.set_cons_zero]
              refine wpAnyH_take (i := 21) (oi := ⟨some 42, .nilCheck (.tmp 23), _, _, _, none⟩) (v := .pointer (some ⟨b, 0, none⟩)) rfl (by kernel_rfl) (by kernel_rfl) (by kernel_rfl) (fun _ _ _ h => h) (Or.inl ⟨by rfl, fun _ _ => by go_simp⟩) HS.out ?_
              try simp only [Act.put, List.setIfInBounds_toArray, List.set_cons_succ, List.set_cons_zero]
              refine wpAnyH_take (i := 22) (oi := ⟨some 43, .fieldAddr 43 (.tmp 42) 2, _, _, _, none⟩) (v := .pointer (some ⟨b, 2, none⟩)) rfl (by kernel_rfl) (by kernel_rfl) (by kernel_rfl) (fun _ _ _ h => h) (Or.inl ⟨by rfl, fun _ _ => by go_simp⟩) HS.out ?_
              try simp only [Act.put, List.setIfInBounds_toArray, List.set_cons_succ, List.set_cons_zero]
              refine wpAnyH_ready (rs := [23]) (by kernel_rfl) (by simp) ?_
              refine AllReadyH.cons (o := ⟨none, .store 41 (.tmp 43) (.tmp 39), _, _, _, none⟩) rfl (fun K hK => ?_) AllReadyH.nil
              refine wp_store_one (.tmp 43) (.tmp 39) 41 size_sents rfl b 2 (.slice a8 (en + 1) c8) (by rfl) (by rfl) (by rfl) (by rfl) HP.out.blk (by simp) ?_
              intro v133 hW hB
              have HS := Lib.hid (hW.blk HS.out (blk_type_ne HS.out HP.out.blk (by decide)))
              have HP := Lib.hid (HP.out.store2 hW hB)
              have HO2 := Lib.hid (HO2.out.trans (Only.wrote (S := NFoot b (.slice wa wn wc) (.slice ea en ec) vz) hW (.inl rfl)))
              clear hW hB
              refine hK _ _ HS.out (fun _ => ?_)
              clear hK K
              try simp only [Act.put, List.setIfInBounds_toArray, List.set_cons_succ, List.set_cons_zero]
              refine wpAnyH_done (by kernel_rfl) ?_ _
              go_wp2
              go_roundw
              case rel => exact ⟨k + 1, .slice a7 (wn + 1) c7, .slice a8 (en + 1) c8, by have := HLT.out; omega, by go_num, by rw [HSM.out, ← List.append_assoc, ← List.append_assoc]; exact HP.out.whole, HO.out.trans' HO2.out HG.out, fun j q => by
                rcases q with e | e | e | e
                · exact HG.out j (.inl e)
                · exact (HGway.out j e).elim (fun p => HG.out j (.inr (.inl p))) (fun p => .inr (Nat.le_trans HWR.out p))
                · exact (HGever.out j e).elim (fun p => HG.out j (.inr (.inr (.inl p)))) (fun p => .inr (Nat.le_trans HWR.out p))
                · exact HG.out j (.inr (.inr (.inr e)))⟩
              case measure => have := HLT.out; simp [intOf]; omega
        · have c1 := HP.out.c2
          refine wp_of_yields' (v := .slice ea en ec) (by unfold execOp; go_simp) ?_
          clear c1
          refine hK _ _ HS.out (fun _ => ?_)
          clear hK K
          try simp only [Act.put, List.setIfInBounds_toArray, List.set_cons_succ, List.set_cons_zero]
          refine wpAnyH_ready (rs := [5, 7]) (by kernel_rfl) (by simp) ?_
          refine AllReadyH.cons (o := ⟨some 27, .load 41 (.tmp 26), 41, _, _, none⟩) rfl (fun K hK => ?_) (AllReadyH.cons (o := ⟨some 29, .call { callee := .value (.func 84), args := #[.tmp 28], argTypes := #[47] }, 47, _, _, none⟩) rfl (fun K hK => ?_) AllReadyH.nil)
          · have c1 := HP.out.c1
            refine wp_of_yields' (v := .slice wa wn wc) (by unfold execOp; go_simp) ?_
            clear c1
            refine hK _ _ HS.out (fun _ => ?_)
            clear hK K
            try simp only [Act.put, List.setIfInBounds_toArray, List.set_cons_succ, List.set_cons_zero]
            refine wpAnyH_ready (rs := [7]) (by kernel_rfl) (by simp) ?_
            refine AllReadyH.cons (o := ⟨some 29, .call { callee := .value (.func 84), args := #[.tmp 28], argTypes := #[47] }, 47, _, _, none⟩) rfl (fun K hK => ?_) AllReadyH.nil
            go_simp
            refine (own_walk f t px n cx dd HDL.out v0 HTX.out).mono ?_
            rintro e v136 ⟨g1, rfl, hB1, hge, hb⟩
            have hsz : bx ≤ v0.heap.size := (by rw [← HBX.out]; exact HO2.out.size)
            have HS := Lib.hid (HS.out.on hb)
            have HP := Lib.hid (HP.out.on hb)
            have HTX := Lib.hid (HTX.out.below hb)
            have HO2 := Lib.hid (HO2.out.trans (Only.of_below hb))
            have HX_g1 := Lib.hid (Tn.of_blkn (av := fun k => av k ∨ w0.heap.size ≤ k) hB1 HNL.out (show av g1 ∨ w0.heap.size ≤ g1 from .inr (Nat.le_trans HWR.out (Nat.le_trans hsz hge))))
            clear hb hB1 hge hsz
            refine hK _ _ HS.out (fun _ => ?_)
            clear hK K
            try simp only [Act.put, List.setIfInBounds_toArray, List.set_cons_succ, List.set_cons_zero]
            refine wpAnyH_ready (rs := [8]) (by kernel_rfl) (by simp) ?_
            refine AllReadyH.cons (o := ⟨some 30, .buildSlice 41 1 #[(0, .tmp 29)], 41, _, _, none⟩) rfl (fun K hK => ?_) AllReadyH.nil
            go_simp
            have BJ1 := Blk.new v136 #[.int .i64 f, .int .i64 t, .slice (some ⟨g1, 0, none⟩) n n] 47
            have hb := below_one' v136 (.cells #[.int .i64 f, .int .i64 t, .slice (some ⟨g1, 0, none⟩) n n] 47)
            generalize World.alloc v136 _ = v137 at *
            have HS := Lib.hid (HS.out.on hb)
            have HP := Lib.hid (HP.out.on hb)
            have HTX := Lib.hid (HTX.out.below hb)
            have HO2 := Lib.hid (HO2.out.trans (Only.of_below hb))
            have HX_g1 := Lib.hid (HX_g1.out.on hb)
            replace BJ1 := Lib.hid BJ1
            clear hb
            refine hK _ _ HS.out (fun _ => ?_)
            clear hK K
            try simp only [Act.put, List.setIfInBounds_toArray, List.set_cons_succ, List.set_cons_zero]
            refine wpAnyH_ready (rs := [9]) (by kernel_rfl) (by simp) ?_
            refine AllReadyH.cons (o := ⟨some 31, .call { callee := .builtin .append, args := #[.tmp 27, .tmp 30], argTypes := #[41, 41] }, 41, _, _, none⟩) rfl (fun K hK => ?_) AllReadyH.nil
            obtain ⟨ls, hw, hw2⟩ := HP.out.way
            rw [← HwayN.out] at hw
            have HWS := Lib.hid hw
            have HW2 := Lib.hid hw2
            clear hw hw2
            refine wp_append_row (.tmp 27) (.tmp 30) 41 47 rfl (.agg #[.int .i64 0, .int .i64 0, .slice none 0 0]) 3 40 Try.underlying41 info_sent (by rfl) (by decide) (.slice wa wn wc) wn (ncells ls) (by rfl) HWS.out _ 1 [.int .i64 f, .int .i64 t, .slice (some ⟨g1, 0, none⟩) n n] (by rfl) (by rfl) BJ1.out (by simp [Value.oneCell']) H63way.out HBYway.out ?_
            intro a7 c7 v138 hO hg hat
            have HP := Lib.hid (HP.out.app_way (s := ⟨f, t, dd⟩) HwayN.out hg hO HW2.out HX_g1.out hat)
            have HGway := Lib.hid (show ∀ j, (Value.slice a7 (wn + 1) c7).ownBlock = some j → ((.slice wa wn wc) : Value).ownBlock = some j ∨ bx ≤ j from fun j e => (hat j e).imp id (fun q => by rw [q, ← HBX.out]; exact HO2.out.size))
            have HS := Lib.hid ((Only.grown (S := fun j => ((.slice wa wn wc) : Value).ownBlock = some j) hg (fun j e => e)).blk HS.out (HNBway.out))
            have HTX := Lib.hid (HTX.out.onlyT (Only.grown (S := fun j => ((.slice wa wn wc) : Value).ownBlock = some j) hg (fun j e => e)) (fun g0 o0 e h0 q => HNX.out g0 o0 e h0 (.inr (.inl q))))
            have HO2 := Lib.hid (HO2.out.trans (Only.grown (S := NFoot b (.slice wa wn wc) (.slice ea en ec) vz) hg (fun j e => .inr (.inl e))))
            clear hO hg hat HWS HW2 HX_g1 BJ1
            refine hK _ _ HS.out (fun _ => ?_)
            clear hK K
            try simp only [Act.put, List.setIfInBounds_toArray, List.set_cons_succ, List.set_cons_zero]
            refine wpAnyH_ready (rs := [15]) (by kernel_rfl) (by simp) ?_
            refine AllReadyH.cons (o := ⟨some 37, .call { callee := .value (.func 84), args := #[.tmp 36], argTypes := #[47] }, 47, _, _, none⟩) rfl (fun K hK => ?_) AllReadyH.nil
            go_simp
            refine (own_walk f t px n cx dd HDL.out v138 HTX.out).mono ?_
            rintro e v139 ⟨g2, rfl, hB1, hge, hb⟩
            have hsz : bx ≤ v138.heap.size := (by rw [← HBX.out]; exact HO2.out.size)
            have HS := Lib.hid (HS.out.on hb)
            have HP := Lib.hid (HP.out.on hb)
            have HTX := Lib.hid (HTX.out.below hb)
            have HO2 := Lib.hid (HO2.out.trans (Only.of_below hb))
            have HX_g2 := Lib.hid (Tn.of_blkn (av := fun k => av k ∨ w0.heap.size ≤ k) hB1 HNL.out (show av g2 ∨ w0.heap.size ≤ g2 from .inr (Nat.le_trans HWR.out (Nat.le_trans hsz hge))))
            clear hb hB1 hge hsz
            refine hK _ _ HS.out (fun _ => ?_)
            clear hK K
            try simp only [Act.put, List.setIfInBounds_toArray, List.set_cons_succ, List.set_cons_zero]
            refine wpAnyH_ready (rs := [16]) (by kernel_rfl) (by simp) ?_
            refine AllReadyH.cons (o := ⟨some 38, .buildSlice 41 1 #[(0, .tmp 37)], 41, _, _, none⟩) rfl (fun K hK => ?_) AllReadyH.nil
            go_simp
            have BJ2 := Blk.new v139 #[.int .i64 f, .int .i64 t, .slice (some ⟨g2, 0, none⟩) n n] 47
            have hb := below_one' v139 (.cells #[.int .i64 f, .int .i64 t, .slice (some ⟨g2, 0, none⟩) n n] 47)
            generalize World.alloc v139 _ = v140 at *
            have HS := Lib.hid (HS.out.on hb)
            have HP := Lib.hid (HP.out.on hb)
            have HTX := Lib.hid (HTX.out.below hb)
            have HO2 := Lib.hid (HO2.out.trans (Only.of_below hb))
            have HX_g2 := Lib.hid (HX_g2.out.on hb)
            replace BJ2 := Lib.hid BJ2
            clear hb
            refine hK _ _ HS.out (fun _ => ?_)
            clear hK K
            try simp only [Act.put, List.setIfInBounds_toArray, List.set_cons_succ, List.set_cons_zero]
            refine wpAnyH_ready (rs := [17]) (by kernel_rfl) (by simp) ?_
            refine AllReadyH.cons (o := ⟨some 39, .call { callee := .builtin .append, args := #[.tmp 35, .tmp 38], argTypes := #[41, 41] }, 41, _, _, none⟩) rfl (fun K hK => ?_) AllReadyH.nil
            obtain ⟨ls, hw, hw2⟩ := HP.out.ever
            rw [← HeverN.out] at hw
            have HWS := Lib.hid hw
            have HW2 := Lib.hid hw2
            clear hw hw2
            refine wp_append_row (.tmp 35) (.tmp 38) 41 47 rfl (.agg #[.int .i64 0, .int .i64 0, .slice none 0 0]) 3 40 Try.underlying41 info_sent (by rfl) (by decide) (.slice ea en ec) en (ncells ls) (by rfl) HWS.out _ 1 [.int .i64 f, .int .i64 t, .slice (some ⟨g2, 0, none⟩) n n] (by rfl) (by rfl) BJ2.out (by simp [Value.oneCell']) H63ever.out HBYever.out ?_
            intro a8 c8 v141 hO hg hat
            have HP := Lib.hid (HP.out.app_ever (s := ⟨f, t, dd⟩) HeverN.out hg hO HW2.out HX_g2.out hat)
            have HGever := Lib.hid (show ∀ j, (Value.slice a8 (en + 1) c8).ownBlock = some j → ((.slice ea en ec) : Value).ownBlock = some j ∨ bx ≤ j from fun j e => (hat j e).imp id (fun q => by rw [q, ← HBX.out]; exact HO2.out.size))
            have HS := Lib.hid ((Only.grown (S := fun j => ((.slice ea en ec) : Value).ownBlock = some j) hg (fun j e => e)).blk HS.out (HNBever.out))
            have HTX := Lib.hid (HTX.out.onlyT (Only.grown (S := fun j => ((.slice ea en ec) : Value).ownBlock = some j) hg (fun j e => e)) (fun g0 o0 e h0 q => HNX.out g0 o0 e h0 (.inr (.inr (.inl q)))))
            have HO2 := Lib.hid (HO2.out.trans (Only.grown (S := NFoot b (.slice wa wn wc) (.slice ea en ec) vz) hg (fun j e => .inr (.inr (.inl e)))))
            clear hO hg hat HWS HW2 HX_g2 BJ2
            refine hK _ _ HS.out (fun _ => ?_)
            clear hK K
            try simp only [Act.put, List.setIfInBounds_toArray, List.set_cons_succ, List.set_cons_zero]
            refine wpAnyH_take (i := 18) (oi := ⟨some 40, .nilCheck (.tmp 22), _, _, _, none⟩) (v := .pointer (some ⟨b, 0, none⟩)) rfl (by kernel_rfl) (by kernel_rfl) (by kernel_rfl) (fun _ _ _ h => h) (Or.inl ⟨by rfl, fun _ _ => by go_simp⟩) HS.out ?_
            try simp only [Act.put, List.setIfInBounds_toArray, List.set_cons_succ, List.set_cons_zero]
            refine wpAnyH_take (i := 19) (oi := ⟨some 41, .fieldAddr 43 (.tmp 40) 1, _, _, _, none⟩) (v := .pointer (some ⟨b, 1, none⟩)) rfl (by kernel_rfl) (by kernel_rfl) (by kernel_rfl) (fun _ _ _ h => h) (Or.inl ⟨by rfl, fun _ _ => by go_simp⟩) HS.out ?_
            try simp only [Act.put, List.setIfInBounds_toArray, List.set_cons_succ, List.set_cons_zero]
            refine wpAnyH_ready (rs := [20]) (by kernel_rfl) (by simp) ?_
            refine AllReadyH.cons (o := ⟨none, .store 41 (.tmp 41) (.tmp 31), _, _, _, none⟩) rfl (fun K hK => ?_) AllReadyH.nil
            refine wp_store_one (.tmp 41) (.tmp 31) 41 size_sents rfl b 1 (.slice a7 (wn + 1) c7) (by rfl) (by rfl) (by rfl) (by rfl) HP.out.blk (by simp) ?_
            intro v142 hW hB
            have HS := Lib.hid (hW.blk HS.out (blk_type_ne HS.out HP.out.blk (by decide)))
            have HP := Lib.hid (HP.out.store1 hW hB)
            have HO2 := Lib.hid (HO2.out.trans (Only.wrote (S := NFoot b (.slice wa wn wc) (.slice ea en ec) vz) hW (.inl rfl)))
            clear hW hB
            refine hK _ _ HS.out (fun _ => ?_)
            clear hK K
            try simp only [Act.put, List.setIfInBounds_toArray, List.set_cons_succ, List.set_cons_zero]
            refine wpAnyH_take (i := 21) (oi := ⟨some 42, .nilCheck (.tmp 23), _, _, _, none⟩) (v := .pointer (some ⟨b, 0, none⟩)) rfl (by kernel_rfl) (by kernel_rfl) (by kernel_rfl) (fun _ _ _ h => h) (Or.inl ⟨by rfl, fun _ _ => by go_simp⟩) HS.out ?_
            try simp only [Act.put, List.setIfInBounds_toArray, List.set_cons_succ, List.set_cons_zero]
            refine wpAnyH_take (i := 22) (oi := ⟨some 43, .fieldAddr 43 (.tmp 42) 2, _, _, _, none⟩) (v := .pointer (some ⟨b, 2, none⟩)) rfl (by kernel_rfl) (by kernel_rfl) (by kernel_rfl) (fun _ _ _ h => h) (Or.inl ⟨by rfl, fun _ _ => by go_simp⟩) HS.out ?_
            try simp only [Act.put, List.setIfInBounds_toArray, List.set_cons_succ, List.set_cons_zero]
            refine wpAnyH_ready (rs := [23]) (by kernel_rfl) (by simp) ?_
            refine AllReadyH.cons (o := ⟨none, .store 41 (.tmp 43) (.tmp 39), _, _, _, none⟩) rfl (fun K hK => ?_) AllReadyH.nil
            refine wp_store_one (.tmp 43) (.tmp 39) 41 size_sents rfl b 2 (.slice a8 (en + 1) c8) (by rfl) (by rfl) (by rfl) (by rfl) HP.out.blk (by simp) ?_
            intro v143 hW hB
            have HS := Lib.hid (hW.blk HS.out (blk_type_ne HS.out HP.out.blk (by decide)))
            have HP := Lib.hid (HP.out.store2 hW hB)
            have HO2 := Lib.hid (HO2.out.trans (Only.wrote (S := NFoot b (.slice wa wn wc) (.slice ea en ec) vz) hW (.inl rfl)))
            clear hW hB
            refine hK _ _ HS.out (fun _ => ?_)
            clear hK K
            try simp only [Act.put, List.setIfInBounds_toArray, List.set_cons_succ, List.set_cons_zero]
            refine wpAnyH_done (by kernel_rfl) ?_ _
            go_wp2
            go_roundw
            case rel => exact ⟨k + 1, .slice a7 (wn + 1) c7, .slice a8 (en + 1) c8, by have := HLT.out; omega, by go_num, by rw [HSM.out, ← List.append_assoc, ← List.append_assoc]; exact HP.out.whole, HO.out.trans' HO2.out HG.out, fun j q => by
              rcases q with e | e | e | e
              · exact HG.out j (.inl e)
              · exact (HGway.out j e).elim (fun p => HG.out j (.inr (.inl p))) (fun p => .inr (Nat.le_trans HWR.out p))
              · exact (HGever.out j e).elim (fun p => HG.out j (.inr (.inr (.inl p)))) (fun p => .inr (Nat.le_trans HWR.out p))
              · exact HG.out j (.inr (.inr (.inr e)))⟩
            case measure => have := HLT.out; simp [intOf]; omega
          · go_simp
            refine (own_walk f t px n cx dd HDL.out v0 HTX.out).mono ?_
            rintro e v144 ⟨g1, rfl, hB1, hge, hb⟩
            have hsz : bx ≤ v0.heap.size := (by rw [← HBX.out]; exact HO2.out.size)
            have HS := Lib.hid (HS.out.on hb)
            have HP := Lib.hid (HP.out.on hb)
            have HTX := Lib.hid (HTX.out.below hb)
            have HO2 := Lib.hid (HO2.out.trans (Only.of_below hb))
            have HX_g1 := Lib.hid (Tn.of_blkn (av := fun k => av k ∨ w0.heap.size ≤ k) hB1 HNL.out (show av g1 ∨ w0.heap.size ≤ g1 from .inr (Nat.le_trans HWR.out (Nat.le_trans hsz hge))))
            clear hb hB1 hge hsz
            refine hK _ _ HS.out (fun _ => ?_)
            clear hK K
            try simp only [Act.put, List.setIfInBounds_toArray, List.set_cons_succ, List.set_cons_zero]
            refine wpAnyH_ready (rs := [5, 8]) (by kernel_rfl) (by simp) ?_
            refine AllReadyH.cons (o := ⟨some 27, .load 41 (.tmp 26), 41, _, _, none⟩) rfl (fun K hK => ?_) (AllReadyH.cons (o := ⟨some 30, .buildSlice 41 1 #[(0, .tmp 29)], 41, _, _, none⟩) rfl (fun K hK => ?_) AllReadyH.nil)
            · have c1 := HP.out.c1
              refine wp_of_yields' (v := .slice wa wn wc) (by unfold execOp; go_simp) ?_
              clear c1
              refine hK _ _ HS.out (fun _ => ?_)
              clear hK K
              try simp only [Act.put, List.setIfInBounds_toArray, List.set_cons_succ, List.set_cons_zero]
              refine wpAnyH_ready (rs := [8]) (by kernel_rfl) (by simp) ?_
              refine AllReadyH.cons (o := ⟨some 30, .buildSlice 41 1 #[(0, .tmp 29)], 41, _, _, none⟩) rfl (fun K hK => ?_) AllReadyH.nil
              go_simp
              have BJ1 := Blk.new v144 #[.int .i64 f, .int .i64 t, .slice (some ⟨g1, 0, none⟩) n n] 47
              have hb := below_one' v144 (.cells #[.int .i64 f, .int .i64 t, .slice (some ⟨g1, 0, none⟩) n n] 47)
              generalize World.alloc v144 _ = v146 at *
              have HS := Lib.hid (HS.out.on hb)
              have HP := Lib.hid (HP.out.on hb)
              have HTX := Lib.hid (HTX.out.below hb)
              have HO2 := Lib.hid (HO2.out.trans (Only.of_below hb))
              have HX_g1 := Lib.hid (HX_g1.out.on hb)
              replace BJ1 := Lib.hid BJ1
              clear hb
              refine hK _ _ HS.out (fun _ => ?_)
              clear hK K
              try simp only [Act.put, List.setIfInBounds_toArray, List.set_cons_succ, List.set_cons_zero]
              refine wpAnyH_ready (rs := [9]) (by kernel_rfl) (by simp) ?_
              refine AllReadyH.cons (o := ⟨some 31, .call { callee := .builtin .append, args := #[.tmp 27, .tmp 30], argTypes := #[41, 41] }, 41, _, _, none⟩) rfl (fun K hK => ?_) AllReadyH.nil
              obtain ⟨ls, hw, hw2⟩ := HP.out.way
              rw [← HwayN.out] at hw
              have HWS := Lib.hid hw
              have HW2 := Lib.hid hw2
              clear hw hw2
              refine wp_append_row (.tmp 27) (.tmp 30) 41 47 rfl (.agg #[.int .i64 0, .int .i64 0, .slice none 0 0]) 3 40 Try.underlying41 info_sent (by rfl) (by decide) (.slice wa wn wc) wn (ncells ls) (by rfl) HWS.out _ 1 [.int .i64 f, .int .i64 t, .slice (some ⟨g1, 0, none⟩) n n] (by rfl) (by rfl) BJ1.out (by simp [Value.oneCell']) H63way.out HBYway.out ?_
              intro a7 c7 v147 hO hg hat
              have HP := Lib.hid (HP.out.app_way (s := ⟨f, t, dd⟩) HwayN.out hg hO HW2.out HX_g1.out hat)
              have HGway := Lib.hid (show ∀ j, (Value.slice a7 (wn + 1) c7).ownBlock = some j → ((.slice wa wn wc) : Value).ownBlock = some j ∨ bx ≤ j from fun j e => (hat j e).imp id (fun q => by rw [q, ← HBX.out]; exact HO2.out.size))
              have HS := Lib.hid ((Only.grown (S := fun j => ((.slice wa wn wc) : Value).ownBlock = some j) hg (fun j e => e)).blk HS.out (HNBway.out))
              have HTX := Lib.hid (HTX.out.onlyT (Only.grown (S := fun j => ((.slice wa wn wc) : Value).ownBlock = some j) hg (fun j e => e)) (fun g0 o0 e h0 q => HNX.out g0 o0 e h0 (.inr (.inl q))))
              have HO2 := Lib.hid (HO2.out.trans (Only.grown (S := NFoot b (.slice wa wn wc) (.slice ea en ec) vz) hg (fun j e => .inr (.inl e))))
              clear hO hg hat HWS HW2 HX_g1 BJ1
              refine hK _ _ HS.out (fun _ => ?_)
              clear hK K
              try simp only [Act.put, List.setIfInBounds_toArray, List.set_cons_succ, List.set_cons_zero]
              refine wpAnyH_ready (rs := [15]) (by kernel_rfl) (by simp) ?_
              refine AllReadyH.cons (o := ⟨some 37, .call { callee := .value (.func 84), args := #[.tmp 36], argTypes := #[47] }, 47, _, _, none⟩) rfl (fun K hK => ?_) AllReadyH.nil
              go_simp
              refine (own_walk f t px n cx dd HDL.out v147 HTX.out).mono ?_
              rintro e v148 ⟨g2, rfl, hB1, hge, hb⟩
              have hsz : bx ≤ v147.heap.size := (by rw [← HBX.out]; exact HO2.out.size)
              have HS := Lib.hid (HS.out.on hb)
              have HP := Lib.hid (HP.out.on hb)
              have HTX := Lib.hid (HTX.out.below hb)
              have HO2 := Lib.hid (HO2.out.trans (Only.of_below hb))
              have HX_g2 := Lib.hid (Tn.of_blkn (av := fun k => av k ∨ w0.heap.size ≤ k) hB1 HNL.out (show av g2 ∨ w0.heap.size ≤ g2 from .inr (Nat.le_trans HWR.out (Nat.le_trans hsz hge))))
              clear hb hB1 hge hsz
              refine hK _ _ HS.out (fun _ => ?_)
              clear hK K
              try simp only [Act.put, List.setIfInBounds_toArray, List.set_cons_succ, List.set_cons_zero]
              refine wpAnyH_ready (rs := [16]) (by kernel_rfl) (by simp) ?_
              refine AllReadyH.cons (o := ⟨some 38, .buildSlice 41 1 #[(0, .tmp 37)], 41, _, _, none⟩) rfl (fun K hK => ?_) AllReadyH.nil
              go_simp
              have BJ2 := Blk.new v148 #[.int .i64 f, .int .i64 t, .slice (some ⟨g2, 0, none⟩) n n] 47
              have hb := below_one' v148 (.cells #[.int .i64 f, .int .i64 t, .slice (some ⟨g2, 0, none⟩) n n] 47)
              generalize World.alloc v148 _ = v149 at *
              have HS := Lib.hid (HS.out.on hb)
              have HP := Lib.hid (HP.out.on hb)
              have HTX := Lib.hid (HTX.out.below hb)
              have HO2 := Lib.hid (HO2.out.trans (Only.of_below hb))
              have HX_g2 := Lib.hid (HX_g2.out.on hb)
              replace BJ2 := Lib.hid BJ2
              clear hb
              refine hK _ _ HS.out (fun _ => ?_)
              clear hK K
              try simp only [Act.put, List.setIfInBounds_toArray, List.set_cons_succ, List.set_cons_zero]
              refine wpAnyH_ready (rs := [17]) (by kernel_rfl) (by simp) ?_
              refine AllReadyH.cons (o := ⟨some 39, .call { callee := .builtin .append, args := #[.tmp 35, .tmp 38], argTypes := #[41, 41] }, 41, _, _, none⟩) rfl (fun K hK => ?_) AllReadyH.nil
              obtain ⟨ls, hw, hw2⟩ := HP.out.ever
              rw [← HeverN.out] at hw
              have HWS := Lib.hid hw
              have HW2 := Lib.hid hw2
              clear hw hw2
              refine wp_append_row (.tmp 35) (.tmp 38) 41 47 rfl (.agg #[.int .i64 0, .int .i64 0, .slice none 0 0]) 3 40 Try.underlying41 info_sent (by rfl) (by decide) (.slice ea en ec) en (ncells ls) (by rfl) HWS.out _ 1 [.int .i64 f, .int .i64 t, .slice (some ⟨g2, 0, none⟩) n n] (by rfl) (by rfl) BJ2.out (by simp [Value.oneCell']) H63ever.out HBYever.out ?_
              intro a8 c8 v150 hO hg hat
              have HP := Lib.hid (HP.out.app_ever (s := ⟨f, t, dd⟩) HeverN.out hg hO HW2.out HX_g2.out hat)
              have HGever := Lib.hid (show ∀ j, (Value.slice a8 (en + 1) c8).ownBlock = some j → ((.slice ea en ec) : Value).ownBlock = some j ∨ bx ≤ j from fun j e => (hat j e).imp id (fun q => by rw [q, ← HBX.out]; exact HO2.out.size))
              have HS := Lib.hid ((Only.grown (S := fun j => ((.slice ea en ec) : Value).ownBlock = some j) hg (fun j e => e)).blk HS.out (HNBever.out))
              have HTX := Lib.hid (HTX.out.onlyT (Only.grown (S := fun j => ((.slice ea en ec) : Value).ownBlock = some j) hg (fun j e => e)) (fun g0 o0 e h0 q => HNX.out g0 o0 e h0 (.inr (.inr (.inl q)))))
              have HO2 := Lib.hid (HO2.out.trans (Only.grown (S := NFoot b (.slice wa wn wc) (.slice ea en ec) vz) hg (fun j e => .inr (.inr (.inl e)))))
              clear hO hg hat HWS HW2 HX_g2 BJ2
              refine hK _ _ HS.out (fun _ => ?_)
              clear hK K
              try simp only [Act.put, List.setIfInBounds_toArray, List.set_cons_succ, List.set_cons_zero]
              refine wpAnyH_take (i := 18) (oi := ⟨some 40, .nilCheck (.tmp 22), _, _, _, none⟩) (v := .pointer (some ⟨b, 0, none⟩)) rfl (by kernel_rfl) (by kernel_rfl) (by kernel_rfl) (fun _ _ _ h => h) (Or.inl ⟨by rfl, fun _ _ => by go_simp⟩) HS.out ?_
              try simp only [Act.put, List.setIfInBounds_toArray, List.set_cons_succ, List.set_cons_zero]
              refine wpAnyH_take (i := 19) (oi := ⟨some 41, .fieldAddr 43 (.tmp 40) 1, _, _, _, none⟩) (v := .pointer (some ⟨b, 1, none⟩)) rfl (by kernel_rfl) (by kernel_rfl) (by kernel_rfl) (fun _ _ _ h => h) (Or.inl ⟨by rfl, fun _ _ => by go_simp⟩) HS.out ?_
              try simp only [Act.put, List.setIfInBounds_toArray, List.set_cons_succ, List.set_cons_zero]
              refine wpAnyH_ready (rs := [20]) (by kernel_rfl) (by simp) ?_
              refine AllReadyH.cons (o := ⟨none, .store 41 (.tmp 41) (.tmp 31), _, _, _, none⟩) rfl (fun K hK => ?_) AllReadyH.nil
              refine wp_store_one (.tmp 41) (.tmp 31) 41 size_sents rfl b 1 (.slice a7 (wn + 1) c7) (by rfl) (by rfl) (by rfl) (by rfl) HP.out.blk (by simp) ?_
              intro v151 hW hB
              have HS := Lib.hid (hW.blk HS.out (blk_type_ne HS.out HP.out.blk (by decide)))
              have HP := Lib.hid (HP.out.store1 hW hB)
              have HO2 := Lib.hid (HO2.out.trans (Only.wrote (S := NFoot b (.slice wa wn wc) (.slice ea en ec) vz) hW (.inl rfl)))
              clear hW hB
              refine hK _ _ HS.out (fun _ => ?_)
              clear hK K
              try simp only [Act.put, List.setIfInBounds_toArray, List.set_cons_succ, List.set_cons_zero]
              refine wpAnyH_take (i := 21) (oi := ⟨some 42, .nilCheck (.tmp 23), _, _, _, none⟩) (v := .pointer (some ⟨b, 0, none⟩)) rfl (by kernel_rfl) (by kernel_rfl) (by kernel_rfl) (fun _ _ _ h => h) (Or.inl ⟨by rfl, fun _ _ => by go_simp⟩) HS.out ?_
              try simp only [Act.put, List.setIfInBounds_toArray, List.set_cons_succ, List.set_cons_zero]
              refine wpAnyH_take (i := 22) (oi := ⟨some 43, .fieldAddr 43 (.tmp 42) 2, _, _, _, none⟩) (v := .pointer (some ⟨b, 2, none⟩)) rfl (by kernel_rfl) (by kernel_rfl) (by kernel_rfl) (fun _ _ _ h => h) (Or.inl ⟨by rfl, fun _ _ => by go_simp⟩) HS.out ?_
              try simp only [Act.put, List.setIfInBounds_toArray, List.set_cons_succ, List.set_cons_zero]
              refine wpAnyH_ready (rs := [23]) (by kernel_rfl) (by simp) ?_
              refine AllReadyH.cons (o := ⟨none, .store 41 (.tmp 43) (.tmp 39), _, _, _, none⟩) rfl (fun K hK => ?_) AllReadyH.nil
              refine wp_store_one (.tmp 43) (.tmp 39) 41 size_sents rfl b 2 (.slice a8 (en + 1) c8) (by rfl) (by rfl) (by rfl) (by rfl) HP.out.blk (by simp) ?_
              intro v152 hW hB
              have HS := Lib.hid (hW.blk HS.out (blk_type_ne HS.out HP.out.blk (by decide)))
              have HP := Lib.hid (HP.out.store2 hW hB)
              have HO2 := Lib.hid (HO2.out.trans (Only.wrote (S := NFoot b (.slice wa wn wc) (.slice ea en ec) vz) hW (.inl rfl)))
              clear hW hB
              refine hK _ _ HS.out (fun _ => ?_)
              clear hK K
              try simp only [Act.put, List.setIfInBounds_toArray, List.set_cons_succ, List.set_cons_zero]
              refine wpAnyH_done (by kernel_rfl) ?_ _
              go_wp2
              go_roundw
              case rel => exact ⟨k + 1, .slice a7 (wn + 1) c7, .slice a8 (en + 1) c8, by have := HLT.out; omega, by go_num, by rw [HSM.out, ← List.append_assoc, ← List.append_assoc]; exact HP.out.whole, HO.out.trans' HO2.out HG.out, fun j q => by
                rcases q with e | e | e | e
                · exact HG.out j (.inl e)
                · exact (HGway.out j e).elim (fun p => HG.out j (.inr (.inl p))) (fun p => .inr (Nat.le_trans HWR.out p))
                · exact (HGever.out j e).elim (fun p => HG.out j (.inr (.inr (.inl p)))) (fun p => .inr (Nat.le_trans HWR.out p))
                · exact HG.out j (.inr (.inr (.inr e)))⟩
              case measure => have := HLT.out; simp [intOf]; omega
            · go_simp
              have BJ1 := Blk.new v144 #[.int .i64 f, .int .i64 t, .slice (some ⟨g1, 0, none⟩) n n] 47
              have hb := below_one' v144 (.cells #[.int .i64 f, .int .i64 t, .slice (some ⟨g1, 0, none⟩) n n] 47)
              generalize World.alloc v144 _ = v153 at *
              have HS := Lib.hid (HS.out.on hb)
              have HP := Lib.hid (HP.out.on hb)
              have HTX := Lib.hid (HTX.out.below hb)
              have HO2 := Lib.hid (HO2.out.trans (Only.of_below hb))
              have HX_g1 := Lib.hid (HX_g1.out.on hb)
              replace BJ1 := Lib.hid BJ1
              clear hb
              refine hK _ _ HS.out (fun _ => ?_)
              clear hK K
              try simp only [Act.put, List.setIfInBounds_toArray, List.set_cons_succ, List.set_cons_zero]
              refine wpAnyH_ready (rs := [5]) (by kernel_rfl) (by simp) ?_
              refine AllReadyH.cons (o := ⟨some 27, .load 41 (.tmp 26), 41, _, _, none⟩) rfl (fun K hK => ?_) AllReadyH.nil
              have c1 := HP.out.c1
              refine wp_of_yields' (v := .slice wa wn wc) (by unfold execOp; go_simp) ?_
              clear c1
              refine hK _ _ HS.out (fun _ => ?_)
              clear hK K
              try simp only [Act.put, List.setIfInBounds_toArray, List.set_cons_succ, List.set_cons_zero]
              refine wpAnyH_ready (rs := [9]) (by kernel_rfl) (by simp) ?_
              refine AllReadyH.cons (o := ⟨some 31, .call { callee := .builtin .append, args := #[.tmp 27, .tmp 30], argTypes := #[41, 41] }, 41, _, _, none⟩) rfl (fun K hK => ?_) AllReadyH.nil
              obtain ⟨ls, hw, hw2⟩ := HP.out.way
              rw [← HwayN.out] at hw
              have HWS := Lib.hid hw
              have HW2 := Lib.hid hw2
              clear hw hw2
              refine wp_append_row (.tmp 27) (.tmp 30) 41 47 rfl (.agg #[.int .i64 0, .int .i64 0, .slice none 0 0]) 3 40 Try.underlying41 info_sent (by rfl) (by decide) (.slice wa wn wc) wn (ncells ls) (by rfl) HWS.out _ 1 [.int .i64 f, .int .i64 t, .slice (some ⟨g1, 0, none⟩) n n] (by rfl) (by rfl) BJ1.out (by simp [Value.oneCell']) H63way.out HBYway.out ?_
              intro a7 c7 v155 hO hg hat
              have HP := Lib.hid (HP.out.app_way (s := ⟨f, t, dd⟩) HwayN.out hg hO HW2.out HX_g1.out hat)
              have HGway := Lib.hid (show ∀ j, (Value.slice a7 (wn + 1) c7).ownBlock = some j → ((.slice wa wn wc) : Value).ownBlock = some j ∨ bx ≤ j from fun j e => (hat j e).imp id (fun q => by rw [q, ← HBX.out]; exact HO2.out.size))
              have HS := Lib.hid ((Only.grown (S := fun j => ((.slice wa wn wc) : Value).ownBlock = some j) hg (fun j e => e)).blk HS.out (HNBway.out))
              have HTX := Lib.hid (HTX.out.onlyT (Only.grown (S := fun j => ((.slice wa wn wc) : Value).ownBlock = some j) hg (fun j e => e)) (fun g0 o0 e h0 q => HNX.out g0 o0 e h0 (.inr (.inl q))))
              have HO2 := Lib.hid (HO2.out.trans (Only.grown (S := NFoot b (.slice wa wn wc) (.slice ea en ec) vz) hg (fun j e => .inr (.inl e))))
              clear hO hg hat HWS HW2 HX_g1 BJ1
              refine hK _ _ HS.out (fun _ => ?_)
              clear hK K
              try simp only [Act.put, List.setIfInBounds_toArray, List.set_cons_succ, List.set_cons_zero]
              refine wpAnyH_ready (rs := [15]) (by kernel_rfl) (by simp) ?_
              refine AllReadyH.cons (o := ⟨some 37, .call { callee := .value (.func 84), args := #[.tmp 36], argTypes := #[47] }, 47, _, _, none⟩) rfl (fun K hK => ?_) AllReadyH.nil
              go_simp
              refine (own_walk f t px n cx dd HDL.out v155 HTX.out).mono ?_
              rintro e v156 ⟨g2, rfl, hB1, hge, hb⟩
              have hsz : bx ≤ v155.heap.size := (by rw [← HBX.out]; exact HO2.out.size)
              have HS := Lib.hid (HS.out.on hb)
              have HP := Lib.hid (HP.out.on hb)
              have HTX := Lib.hid (HTX.out.below hb)
              have HO2 := Lib.hid (HO2.out.trans (Only.of_below hb))
              have HX_g2 := Lib.hid (Tn.of_blkn (av := fun k => av k ∨ w0.heap.size ≤ k) hB1 HNL.out (show av g2 ∨ w0.heap.size ≤ g2 from .inr (Nat.le_trans HWR.out (Nat.le_trans hsz hge))))
              clear hb hB1 hge hsz
              refine hK _ _ HS.out (fun _ => ?_)
              clear hK K
              try simp only [Act.put, List.setIfInBounds_toArray, List.set_cons_succ, List.set_cons_zero]
              refine wpAnyH_ready (rs := [16]) (by kernel_rfl) (by simp) ?_
              refine AllReadyH.cons (o := ⟨some 38, .buildSlice 41 1 #[(0, .tmp 37)], 41, _, _, none⟩) rfl (fun K hK => ?_) AllReadyH.nil
              go_simp
              have BJ2 := Blk.new v156 #[.int .i64 f, .int .i64 t, .slice (some ⟨g2, 0, none⟩) n n] 47
              have hb := below_one' v156 (.cells #[.int .i64 f, .int .i64 t, .slice (some ⟨g2, 0, none⟩) n n] 47)
              generalize World.alloc v156 _ = v157 at *
              have HS := Lib.hid (HS.out.on hb)
              have HP := Lib.hid (HP.out.on hb)
              have HTX := Lib.hid (HTX.out.below hb)
              have HO2 := Lib.hid (HO2.out.trans (Only.of_below hb))
              have HX_g2 := Lib.hid (HX_g2.out.on hb)
              replace BJ2 := Lib.hid BJ2
              clear hb
              refine hK _ _ HS.out (fun _ => ?_)
              clear hK K
              try simp only [Act.put, List.setIfInBounds_toArray, List.set_cons_succ, List.set_cons_zero]
              refine wpAnyH_ready (rs := [17]) (by kernel_rfl) (by simp) ?_
              refine AllReadyH.cons (o := ⟨some 39, .call { callee := .builtin .append, args := #[.tmp 35, .tmp 38], argTypes := #[41, 41] }, 41, _, _, none⟩) rfl (fun K hK => ?_) AllReadyH.nil
              obtain ⟨ls, hw, hw2⟩ := HP.out.ever
              rw [← HeverN.out] at hw
              have HWS := Lib.hid hw
              have HW2 := Lib.hid hw2
              clear hw hw2
              refine wp_append_row (.tmp 35) (.tmp 38) 41 47 rfl (.agg #[.int .i64 0, .int .i64 0, .slice none 0 0]) 3 40 Try.underlying41 info_sent (by rfl) (by decide) (.slice ea en ec) en (ncells ls) (by rfl) HWS.out _ 1 [.int .i64 f, .int .i64 t, .slice (some ⟨g2, 0, none⟩) n n] (by rfl) (by rfl) BJ2.out (by simp [Value.oneCell']) H63ever.out HBYever.out ?_
              intro a8 c8 v158 hO hg hat
              have HP := Lib.hid (HP.out.app_ever (s := ⟨f, t, dd⟩) HeverN.out hg hO HW2.out HX_g2.out hat)
              have HGever := Lib.hid (show ∀ j, (Value.slice a8 (en + 1) c8).ownBlock = some j → ((.slice ea en ec) : Value).ownBlock = some j ∨ bx ≤ j from fun j e => (hat j e).imp id (fun q => by rw [q, ← HBX.out]; exact HO2.out.size))
              have HS := Lib.hid ((Only.grown (S := fun j => ((.slice ea en ec) : Value).ownBlock = some j) hg (fun j e => e)).blk HS.out (HNBever.out))
              have HTX := Lib.hid (HTX.out.onlyT (Only.grown (S := fun j => ((.slice ea en ec) : Value).ownBlock = some j) hg (fun j e => e)) (fun g0 o0 e h0 q => HNX.out g0 o0 e h0 (.inr (.inr (.inl q)))))
              have HO2 := Lib.hid (HO2.out.trans (Only.grown (S := NFoot b (.slice wa wn wc) (.slice ea en ec) vz) hg (fun j e => .inr (.inr (.inl e)))))
              clear hO hg hat HWS HW2 HX_g2 BJ2
              refine hK _ _ HS.out (fun _ => ?_)
              clear hK K
              try simp only [Act.put, List.setIfInBounds_toArray, List.set_cons_succ, List.set_cons_zero]
              refine wpAnyH_take (i := 18) (oi := ⟨some 40, .nilCheck (.tmp 22), _, _, _, none⟩) (v := .pointer (some ⟨b, 0, none⟩)) rfl (by kernel_rfl) (by kernel_rfl) (by kernel_rfl) (fun _ _ _ h => h) (Or.inl ⟨by rfl, fun _ _ => by go_simp⟩) HS.out ?_
              try simp only [Act.put, List.setIfInBounds_toArray, List.set_cons_succ, List.set_cons_zero]
              refine wpAnyH_take (i := 19) (oi := ⟨some 41, .fieldAddr 43 (.tmp 40) 1, _, _, _, none⟩) (v := .pointer (some ⟨b, 1, none⟩)) rfl (by kernel_rfl) (by kernel_rfl) (by kernel_rfl) (fun _ _ _ h => h) (Or.inl ⟨by rfl, fun _ _ => by go_simp⟩) HS.out ?_
              try simp only [Act.put, List.setIfInBounds_toArray, List.set_cons_succ, List.set_cons_zero]
              refine wpAnyH_ready (rs := [20]) (by kernel_rfl) (by simp) ?_
              refine AllReadyH.cons (o := ⟨none, .store 41 (.tmp 41) (.tmp 31), _, _, _, none⟩) rfl (fun K hK => ?_) AllReadyH.nil
              refine wp_store_one (.tmp 41) (.tmp 31) 41 size_sents rfl b 1 (.slice a7 (wn + 1) c7) (by rfl) (by rfl) (by rfl) (by rfl) HP.out.blk (by simp) ?_
              intro v159 hW hB
              have HS := Lib.hid (hW.blk HS.out (blk_type_ne HS.out HP.out.blk (by decide)))
              have HP := Lib.hid (HP.out.store1 hW hB)
              have HO2 := Lib.hid (HO2.out.trans (Only.wrote (S := NFoot b (.slice wa wn wc) (.slice ea en ec) vz) hW (.inl rfl)))
              clear hW hB
              refine hK _ _ HS.out (fun _ => ?_)
              clear hK K
              try simp only [Act.put, List.setIfInBounds_toArray, List.set_cons_succ, List.set_cons_zero]
              refine wpAnyH_take (i := 21) (oi := ⟨some 42, .nilCheck (.tmp 23), _, _, _, none⟩) (v := .pointer (some ⟨b, 0, none⟩)) rfl (by kernel_rfl) (by kernel_rfl) (by kernel_rfl) (fun _ _ _ h => h) (Or.inl ⟨by rfl, fun _ _ => by go_simp⟩) HS.out ?_
              try simp only [Act.put, List.setIfInBounds_toArray, List.set_cons_succ, List.set_cons_zero]
              refine wpAnyH_take (i := 22) (oi := ⟨some 43, .fieldAddr 43 (.tmp 42) 2, _, _, _, none⟩) (v := .pointer (some ⟨b, 2, none⟩)) rfl (by kernel_rfl) (by kernel_rfl) (by kernel_rfl) (fun _ _ _ h => h) (Or.inl ⟨by rfl, fun _ _ => by go_simp⟩) HS.out ?_
              try simp only [Act.put, List.setIfInBounds_toArray, List.set_cons_succ, List.set_cons_zero]
              refine wpAnyH_ready (rs := [23]) (by kernel_rfl) (by simp) ?_
              refine AllReadyH.cons (o := ⟨none, .store 41 (.tmp 43) (.tmp 39), _, _, _, none⟩) rfl (fun K hK => ?_) AllReadyH.nil
              refine wp_store_one (.tmp 43) (.tmp 39) 41 size_sents rfl b 2 (.slice a8 (en + 1) c8) (by rfl) (by rfl) (by rfl) (by rfl) HP.out.blk (by simp) ?_
              intro v160 hW hB
              have HS := Lib.hid (hW.blk HS.out (blk_type_ne HS.out HP.out.blk (by decide)))
              have HP := Lib.hid (HP.out.store2 hW hB)
              have HO2 := Lib.hid (HO2.out.trans (Only.wrote (S := NFoot b (.slice wa wn wc) (.slice ea en ec) vz) hW (.inl rfl)))
              clear hW hB
              refine hK _ _ HS.out (fun _ => ?_)
              clear hK K
              try simp only [Act.put, List.setIfInBounds_toArray, List.set_cons_succ, List.set_cons_zero]
              refine wpAnyH_done (by kernel_rfl) ?_ _
              go_wp2
              go_roundw
              case rel => exact ⟨k + 1, .slice a7 (wn + 1) c7, .slice a8 (en + 1) c8, by have := HLT.out; omega, by go_num, by rw [HSM.out, ← List.append_assoc, ← List.append_assoc]; exact HP.out.whole, HO.out.trans' HO2.out HG.out, fun j q => by
                rcases q with e | e | e | e
                · exact HG.out j (.inl e)
                · exact (HGway.out j e).elim (fun p => HG.out j (.inr (.inl p))) (fun p => .inr (Nat.le_trans HWR.out p))
                · exact (HGever.out j e).elim (fun p => HG.out j (.inr (.inr (.inl p)))) (fun p => .inr (Nat.le_trans HWR.out p))
                · exact HG.out j (.inr (.inr (.inr e)))⟩
              case measure => have := HLT.out; simp [intOf]; omega
      · go_wp2
        go_ret
        have e : L.take k = L := List.take_of_length_le (by have := HM.out; omega)
        have hq := HP.out
        rw [e] at hq
        exact ⟨by rw [HE.out]; rfl, x1, x2, by rw [HE.out]; exact hq, HO.out, HG.out⟩
end Go.Proofs.Ytajjbffppkpjpaa
