import Derived.Test.YtajjbffppkpjpaaNetF
import Derived.Shelf.RegionOpenPlain
import Derived.Shelf.Abstract
/-
  slices.Delete of one letter; net.gone.
-/
namespace Go.Proofs.Ytajjbffppkpjpaa
set_option linter.unusedSimpArgs false
set_option linter.unusedVariables false
open Go.RowKit Go.Shelf
section
variable {P : Program} {ops : Array Oper} {o : Oper} {a : Act} {w : World} {Q : Exit → Act → World → Prop}
theorem run_append_blk (t ty e : TypeId) (size : Nat) (ht : P.underlying t = some (.slice e)) (hi : (P.info? e).map (·.size) = some size) (g n cap : Nat) (ad : Addr) (m c : Nat) (news : List Value) (hl : news.length = m * size) (hnews : ∀ j u, news[j]? = some u → w.cell? (ad.add j) = some u) (h1 : ∀ u ∈ news, u.oneCell' = true)
    (hroom : n + m ≤ cap) {cur : Array Value} {tt : TypeId} (hg : Blk w g cur tt) (hfit : n * size + news.length ≤ cur.size) :
    ∃ W, (Builtin.append_ #[t, t] ty #[.slice (some ⟨g, 0, none⟩) n cap, .slice (some ad) m c]).run P w = .ok (.slice (some ⟨g, 0, none⟩) (n + m) cap) W ∧ Wrote w W g ∧ Blk W g (splice cur.toList (n * size) news).toArray tt := by
  cases hq : P.info? e with
  | none => simp [hq] at hi
  | some i =>
    have hs : i.size = size := by simpa [hq] using hi
    subst hs
    have hc : ∀ j, j < news.length → (w.cell? ⟨g, 0 + n * i.size + j, none⟩) = cur[n * i.size + j]? ∧ w.frozen? ⟨g, 0 + n * i.size + j, none⟩ = false := fun j hj => by
      have hlt : n * i.size + j < cur.size := by omega
      rw [Nat.zero_add]
      refine ⟨?_, ?_⟩
      · rw [hg.cell (n * i.size + j) (Array.getElem?_eq_getElem hlt), Array.getElem?_eq_getElem hlt]
      · unfold Blk at hg; simp [World.frozen?, hg]
    have hr := run_append_room_cells (P := P) (w := w) t ty e i ht hq g 0 n cap ad m c news hl hnews h1 hroom (fun j hj => by rw [(hc j hj).1, Array.getElem?_eq_getElem (by omega)]; rfl) (fun j hj => (hc j hj).2)
    have e1 := run_storeCells_at P g (n * i.size) tt news 0 cur w hg (by simpa using hfit) h1
    have e2 := run_storeCells_cells (P := P) g (n * i.size) news 0 w (fun j hj => by have := (hc j hj).1; rw [Nat.zero_add] at this; rw [Nat.add_zero, this, Array.getElem?_eq_getElem (by omega)]; rfl) (fun j hj => by have := (hc j hj).2; rw [Nat.zero_add] at this; rw [Nat.add_zero]; exact this) h1
    rw [e1] at e2
    simp only [Nat.add_zero, Result.ok.injEq, true_and] at e2
    rw [Nat.zero_add, ← e2] at hr
    refine ⟨_, hr, Wrote.row w g _, ?_⟩
    have := hg.setRow (cur.toList.take (n * i.size) ++ news ++ cur.toList.drop (n * i.size + news.length)).toArray
    simpa [splice, List.append_assoc] using this
theorem step_append_blk {K : Act → World → Prop} {E : Prop} (hgd : o.guard = none) (s x : Operand) (t : TypeId) (hop : o.op = Op.call { callee := Callee.builtin Builtin.append, args := #[s, x], argTypes := #[t, t] })
    (e : TypeId) (size : Nat) (ht : P.underlying t = some (.slice e)) (hi : (P.info? e).map (·.size) = some size) (g n cap : Nat) (hs : a.eval s = .slice (some ⟨g, 0, none⟩) n cap)
    (ad : Addr) (m c : Nat) (hx : a.eval x = .slice (some ad) m c) (news : List Value) (hl : news.length = m * size) (hnews : ∀ j u, news[j]? = some u → w.cell? (ad.add j) = some u) (h1 : ∀ u ∈ news, u.oneCell' = true)
    (hroom : n + m ≤ cap) {cur : Array Value} {tt : TypeId} (hg : Blk w g cur tt) (hfit : n * size + news.length ≤ cur.size)
    (h : ∀ W, Wrote w W g → Blk W g (splice cur.toList (n * size) news).toArray tt → K (a.put o.dst (.slice (some ⟨g, 0, none⟩) (n + m) cap)) W) :
    if Region.wanted o (yielded ops a.tmps) = true then Oper.wp P o a w K Q else E := by
  rw [if_pos (by simp [Region.wanted, hgd])]
  obtain ⟨W, r1, r2, r3⟩ := run_append_blk (P := P) (w := w) t o.type e size ht hi g n cap ad m c news hl hnews h1 hroom hg hfit
  unfold Oper.wp execOp
  simp only [hop, resolve, invoke, builtin, Sem.run_bind, Sem.run_pure, Result.andThen_ok, List.map_toArray, List.map_cons, List.map_nil, hs, hx, r1]
  exact h W r2 r3
/-- clear(s): what stands there is not told; what stands before is as it was. -/
theorem run_clear_at (t e : TypeId) (z : Value) (ht : P.underlying t = some (.slice e)) (hv : ∀ w, (zeroValue e).run P w = .ok z w) (h1 : ∀ v ∈ z.cells, v.oneCell' = true) (b off n c : Nat)
    {cur : Array Value} {u : TypeId} (hg : Blk w b cur u) (hfit : off + n * z.cells.size ≤ cur.size) :
    ∃ W cur', (∀ ty, (Builtin.clear_ #[t] ty #[.slice (some ⟨b, off, none⟩) n c]).run P w = .ok (.tuple #[]) W) ∧ Wrote w W b ∧ Blk W b cur' u ∧ cur'.size = cur.size ∧ cur'.toList.take off = cur.toList.take off := by
  rcases Nat.eq_zero_or_pos n with rfl | hn
  · refine ⟨w, cur, fun ty => ?_, Wrote.refl w b, hg, rfl, rfl⟩
    simp [Builtin.clear_, run_underlying ht]
  · have hlen : (Builtin.zeroCells z.cells n).toList.length = n * z.cells.size := by simp [Builtin.zeroCells]
    have hone : ∀ v ∈ (Builtin.zeroCells z.cells n).toList, v.oneCell' = true := by
      intro v hv'
      simp only [Builtin.zeroCells, Array.toList_map, List.mem_map] at hv'
      obtain ⟨i, hi, rfl⟩ := hv'
      have hzs : 0 < z.cells.size := by
        rcases Nat.eq_zero_or_pos z.cells.size with h | h
        · rw [h, Nat.mul_zero] at hi; simp at hi
        · exact h
      have hlt : i % z.cells.size < z.cells.size := Nat.mod_lt _ hzs
      rw [getElem!_pos z.cells (i % z.cells.size) hlt]
      exact h1 _ (Array.getElem_mem hlt)
    have hst := run_storeCells_at P b off u (Builtin.zeroCells z.cells n).toList 0 cur w hg (by rw [hlen]; simpa using hfit) hone
    obtain ⟨m, rfl⟩ : ∃ m, n = m + 1 := ⟨n - 1, by omega⟩
    obtain ⟨R, hR⟩ : ∃ R, R = (cur.toList.take (off + 0) ++ (Builtin.zeroCells z.cells (m + 1)).toList ++ cur.toList.drop (off + 0 + (Builtin.zeroCells z.cells (m + 1)).toList.length)).toArray := ⟨_, rfl⟩
    rw [← hR] at hst
    refine ⟨w.setRow b R, R, fun ty => ?_, Wrote.row w b _, hg.setRow _, ?_, ?_⟩
    · simp [Builtin.clear_, run_underlying ht, hv, hst]
    · rw [hR]
      simp only [List.size_toArray, List.length_append, List.length_take, List.length_drop, hlen, Array.length_toList]
      omega
    · rw [hR]
      simp only [Nat.add_zero, List.toList_toArray]
      rw [List.append_assoc, List.take_append_of_le_length (by simp; omega), List.take_take, Nat.min_self]
end
theorem ncells_append (l k : List (Snt × Value)) : ncells (l ++ k) = ncells l ++ ncells k := by simp [ncells]
theorem ncells_take (ls : List (Snt × Value)) (i : Nat) : ncells (ls.take i) = (ncells ls).take (i * 3) := by
  rcases Nat.lt_or_ge ls.length i with h | h
  · rw [List.take_of_length_le (by omega), List.take_of_length_le (by rw [ncells_len]; omega)]
  · have e : ncells ls = ncells (ls.take i) ++ ncells (ls.drop i) := by rw [← ncells_append, List.take_append_drop]
    have e2 : (ncells (ls.take i)).length = i * 3 := by rw [ncells_len, List.length_take]; omega
    rw [e, ← e2, List.take_left]
theorem ncells_drop (ls : List (Snt × Value)) (i : Nat) (h : i ≤ ls.length) : ncells (ls.drop i) = (ncells ls).drop (i * 3) := by
  have e : ncells ls = ncells (ls.take i) ++ ncells (ls.drop i) := by rw [← ncells_append, List.take_append_drop]
  have e2 : (ncells (ls.take i)).length = i * 3 := by rw [ncells_len, List.length_take]; omega
  rw [e, ← e2, List.drop_left]
theorem ncells_erase (ls : List (Snt × Value)) (i : Nat) (h : i < ls.length) : ncells (ls.eraseIdx i) = (ncells ls).take (i * 3) ++ (ncells ls).drop ((i + 1) * 3) := by
  rw [List.eraseIdx_eq_take_drop_succ, ncells_append, ncells_take, ncells_drop _ _ (by omega)]
theorem zero_sent : ∀ w, (zeroValue 47).run Try.prog w = .ok (.agg #[.int .i64 0, .int .i64 0, .slice none 0 0]) w := by
  obtain ⟨i, i1, i2, i3, i4⟩ := info_parts info_sent
  intro w
  simp [zeroValue, typeInfo, i1, i2]
set_option maxRecDepth 100000 in
set_option maxHeartbeats 4000000 in
theorem ndelete_walk (g n cap i : Nat) (ls : List (Snt × Value)) (hone : ∀ v, v ∈ ncells ls → v.oneCell' = true) (w : World) (cur : Array Value) (hB : Blk w g cur 47) (hn : n = ls.length) (hcap : n ≤ cap) (hmax : cap ≤ maxLen) (hsz : cur.size = cap * 3) (hcs : cur.toList.take (n * 3) = ncells ls) (hi : i < n) :
    Calls Try.prog 114 #[.slice (some ⟨g, 0, none⟩) n cap, .int .i64 i, .int .i64 ((i + 1 : Nat) : Int)] w fun e w' => e = .returned (.slice (some ⟨g, 0, none⟩) (n - 1) cap) ∧ Only (fun k => k = g) w w' ∧ w'.ownsRow 0 47 3 (.slice (some ⟨g, 0, none⟩) (n - 1) cap) (n - 1) (ncells (ls.eraseIdx i)) := by
  obtain ⟨j, hj⟩ : ∃ j, j = i + 1 := ⟨_, rfl⟩
  rw [← hj]
  have hjn : j ≤ n := by omega
  have hij : i ≤ j := by omega
  have HJ := Lib.hid hj
  have hmo : Try.prog.follows .mixedOrders = true := by kernel_rfl
  obtain ⟨m, hm⟩ : ∃ m, m = n - j := ⟨_, rfl⟩
  obtain ⟨news, hnews⟩ : ∃ news, news = (ncells ls).drop (j * 3) := ⟨_, rfl⟩
  have hnl : news.length = m * 3 := by rw [hnews, List.length_drop, ncells_len]; omega
  have hB1 : Blk w.drew g cur 47 := hB
  have hget : ∀ t u, news[t]? = some u → w.drew.cell? ⟨g, j * 3 + t, none⟩ = some u := fun t u hu => by
    have ht : t < news.length := (List.getElem?_eq_some_iff.1 hu).1
    refine hB1.cell _ ?_
    rw [hnews, List.getElem?_drop, ← hcs, List.getElem?_take_of_lt (by omega)] at hu
    rw [← hu, Array.getElem?_toList]
  obtain ⟨A, hA, hsrc⟩ : ∃ A : Addr, (if cap = j then some (⟨g, 0, none⟩ : Addr) else some ⟨g, j * 3, none⟩) = some A ∧ Hid (∀ t u, news[t]? = some u → w.drew.cell? (A.add t) = some u) := by
    by_cases h : cap = j
    · refine ⟨⟨g, 0, none⟩, by simp [h], fun t u hu => ?_⟩
      have h0 : news.length = 0 := by rw [hnl]; omega
      rw [List.length_eq_zero_iff.1 h0] at hu
      simp at hu
    · refine ⟨⟨g, j * 3, none⟩, by simp [h], fun t u hu => ?_⟩
      rw [Addr.add_lit]
      exact hget t u hu
  have s2 := Lib.hid (show ∀ u ∈ news, u.oneCell' = true from fun u hu => hone u (by rw [hnews] at hu; exact List.mem_of_mem_drop hu))
  have HNL := Lib.hid hnl
  have HNW := Lib.hid hnews
  have HB1 := Lib.hid hB1
  have HCS := Lib.hid hcs
  have HSZ := Lib.hid hsz
  have HN := Lib.hid hn
  have HFT := Lib.hid (show i * 3 + news.length ≤ cur.size by rw [hnl, hsz]; omega)
  have hic : i ≤ cap := by omega
  have hjc : j ≤ cap := by omega
  have hcap63 : cap ≤ 9223372036854775807 := by unfold maxLen at hmax; exact hmax
  have HMX := Lib.hid hmax
  have hne : ((i : Int) == (j : Int)) = false := by simp; omega
  clear hj hB hB1 hget hnews hnl hcs hsz hone hn hmax
  go_enter Try.func114, Try.ntmps114
  go_wp2_with fail
  go_region_law_o (refine step_append_blk rfl (.tmp 22) (.tmp 25) 41 rfl 47 3 Try.underlying41 size_sent g i cap (by simp [Act.eval, Act.put]) A m (cap - j) (by simp [Act.eval, Act.put, hm]) news HNL.out hsrc.out s2.out (by omega) HB1.out HFT.out ?_; intro W hW hp)
  have HW1 := Lib.hid hW
  obtain ⟨W2, cur2, k1, k2, k3, k4, k5⟩ := run_clear_at (P := Try.prog) (w := W) 41 47 _ Try.underlying41 zero_sent (by simp [Value.cells, Value.oneCell']) g ((i + m) * 3) (n - (i + m)) (cap - (i + m)) hp (by
    have h1 := HSZ.out; have h2 := HNL.out; have h3 := HFT.out
    have e : (Value.agg #[.int .i64 0, .int .i64 0, .slice none 0 0]).cells.size = 3 := rfl
    rw [e]; simp only [splice, List.size_toArray, List.length_append, List.length_take, List.length_drop, Array.length_toList]; omega)
  have K2 := Lib.hid k2
  have K3 := Lib.hid k3
  have K4 := Lib.hid k4
  have K5 := Lib.hid k5
  clear hW hp k2 k3 k4 k5
  subst hm
  have hcn : ¬ cap = i + (n - j) := by have := HJ.out; omega
  have hni : i + (n - j) ≤ n := by have := HJ.out; omega
  go_wp2
  go_ret
  have e1 : i + (n - j) = n - 1 := by have := HJ.out; omega
  have hO : Only (fun k => k = g) w W2 := (show Only (fun k => k = g) w w.drew from Only.of_below (Below.refl _ _).drew).trans ((show Only (fun k => k = g) w.drew W from Only.wrote HW1.out rfl).trans (Only.wrote K2.out rfl))
  refine ⟨by rw [e1]; rfl, hO, ?_, .inr ⟨g, cap, cur2, rfl, Nat.zero_le _, K3.out, by omega, HMX.out, ?_, ?_⟩⟩
  · rw [ncells_len, List.length_eraseIdx, if_pos (by rw [← HN.out]; exact hi), ← HN.out]
  · rw [K4.out]
    have h1 := HSZ.out; have h2 := HNL.out; have h3 := HFT.out
    simp only [splice, List.size_toArray, List.length_append, List.length_take, List.length_drop, Array.length_toList]; omega
  · have h5 := K5.out
    rw [e1] at h5
    rw [h5, ncells_erase ls i (by rw [← HN.out]; exact hi)]
    have h1 := HSZ.out; have h2 := HNL.out
    have hA : cur.toList.take (i * 3) = (ncells ls).take (i * 3) := by rw [← HCS.out, List.take_take, Nat.min_eq_left (by omega)]
    have hl : (cur.toList.take (i * 3)).length = i * 3 := by rw [List.length_take, Array.length_toList]; omega
    have hj3 : j * 3 = (i + 1) * 3 := by rw [HJ.out]
    unfold splice
    rw [← List.append_assoc, List.take_append_of_le_length (by rw [List.length_append, hl, h2]; have := HJ.out; omega), List.take_of_length_le (by rw [List.length_append, hl, h2]; have := HJ.out; omega), hA, HNW.out, hj3]
theorem SRow.at_i {w : World} {av : Nat → Prop} {v : Value} {L : List Snt} (h : SRow w av v L) {i : Nat} (hi : i < L.length) : ∃ g c cur px nx cx, v = .slice (some ⟨g, 0, none⟩) L.length c ∧ L.length ≤ c ∧ c ≤ maxLen ∧ Blk w g cur 47 ∧ cur.size = c * 3 ∧ w.rangeAt g (0 + i * 3) [.int .i64 (L.getD i snt0).f, .int .i64 (L.getD i snt0).t, .slice px nx cx] ∧ Tn w av (.slice px nx cx) (L.getD i snt0).d := by
  obtain ⟨ls, h1, h2⟩ := h
  have hl : ls.length = L.length := h2.len
  rcases h1.2 with ⟨rfl, h0⟩ | ⟨g, cap, cur, rfl, _, hc, hn, hm, hsz, htk⟩
  · omega
  · have hi2 : i < ls.length := by omega
    have e3 : L.getD i snt0 = ls[i].1 := by
      rw [← h2.1, List.getD_eq_getElem?_getD, List.getElem?_map, List.getElem?_eq_getElem hi2]; rfl
    have ht := h2.2 ls[i] (List.getElem_mem hi2)
    obtain ⟨px, nx, cx, e1, _⟩ := ht
    have ht := h2.2 ls[i] (List.getElem_mem hi2)
    rw [e1] at ht
    have hbk : Blk w g cur 47 := hc
    refine ⟨g, cap, cur, px, nx, cx, rfl, hn, hm, hbk, hsz, ?_, by rw [e3]; exact ht⟩
    rw [e3]
    obtain ⟨q1, q2, q3⟩ := ncells_at (List.getElem?_eq_getElem hi2)
    rw [← htk] at q1 q2 q3
    rw [List.getElem?_take_of_lt (by omega)] at q1 q2 q3
    refine range_blk hbk (0 + i * 3) _ fun j hj => ?_
    have : j = 0 ∨ j = 1 ∨ j = 2 := by simp at hj; omega
    rcases this with rfl | rfl | rfl
    · simpa using q1
    · simpa using q2
    · rw [e1] at q3; simpa using q3
theorem ncells_one {w : World} {av : Nat → Prop} {ls : List (Snt × Value)} {L : List Snt} (h : SnL w av ls L) : ∀ v, v ∈ ncells ls → v.oneCell' = true := fun v hv => by
  obtain ⟨p, hp, hq⟩ := List.mem_flatMap.1 hv
  obtain ⟨a, n, c, e, _⟩ := h.2 p hp
  simp only [List.mem_cons, List.not_mem_nil, or_false] at hq
  rcases hq with rfl | rfl | rfl
  · rfl
  · rfl
  · rw [e]; rfl
theorem SnL.erase {w : World} {av : Nat → Prop} {ls : List (Snt × Value)} {L : List Snt} (h : SnL w av ls L) (i : Nat) : SnL w av (ls.eraseIdx i) (L.eraseIdx i) :=
  ⟨by rw [← h.1, List.eraseIdx_eq_take_drop_succ, List.eraseIdx_eq_take_drop_succ, List.map_append, List.map_take, List.map_drop], fun p hp => h.2 p (List.mem_of_mem_eraseIdx hp)⟩
/-- Delete of one letter of a row: the same block, one letter less. -/
theorem sdelete_walk {av : Nat → Prop} {L : List Snt} (g n cap i : Nat) (w : World) (h : SRow w av (.slice (some ⟨g, 0, none⟩) n cap) L) (hn : n = L.length) (hi : i < n) :
    Calls Try.prog 114 #[.slice (some ⟨g, 0, none⟩) n cap, .int .i64 i, .int .i64 ((i + 1 : Nat) : Int)] w fun e w' => e = .returned (.slice (some ⟨g, 0, none⟩) (n - 1) cap) ∧ Only (fun k => k = g) w w' ∧ SRow w' av (.slice (some ⟨g, 0, none⟩) (n - 1) cap) (L.eraseIdx i) := by
  obtain ⟨ls, h1, h2⟩ := h
  have hl : ls.length = L.length := h2.len
  have hone := ncells_one h2
  rcases h1.2 with ⟨e, h0⟩ | ⟨g', cap', cur, e, _, hc, hn', hm, hsz, htk⟩
  · cases e
  · injection e with e1 e2 e3
    injection e1 with e1
    injection e1 with e1 e4 e5
    subst e1; subst e3
    have htk' : cur.toList.take (n * 3) = ncells ls := by rw [hn]; exact htk
    have hB : Blk w g cur 47 := hc
    refine (ndelete_walk g n cap i ls hone w cur hB (by omega) (by omega) hm hsz htk' hi).mono ?_
    rintro e w' ⟨rfl, hO, hr⟩
    refine ⟨rfl, hO, ls.eraseIdx i, ?_, (h2.erase i).keep hO fun k cur' _ hk e => blk_type_ne hk hB (by decide) e⟩
    have hle : (L.eraseIdx i).length = n - 1 := by rw [List.length_eraseIdx, if_pos (by omega), hn]
    rw [hle]; exact hr
end Go.Proofs.Ytajjbffppkpjpaa
