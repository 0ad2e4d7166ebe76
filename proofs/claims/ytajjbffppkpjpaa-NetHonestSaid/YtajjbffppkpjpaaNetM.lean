import Derived.Test.YtajjbffppkpjpaaNetL
import Derived.Test.YtajjbffppkpjpaaRng
/-
  The closures of told and All, for every loop body.
-/
namespace Go.Proofs.Ytajjbffppkpjpaa
set_option linter.unusedSimpArgs false
set_option linter.unusedVariables false
open Go.RowKit Go.Shelf
attribute [local go_sem] Oper.semAt_some
theorem SRow.far {w w' : World} {av : Nat → Prop} {v : Value} {L : List Snt} {n₀ : Nat} (h : SRow w av v L) (hb : Below n₀ w w') (hv : ∀ k, v.ownBlock = some k → k < n₀) (ha : ∀ k, av k → k < n₀) : SRow w' av v L :=
  h.keep (only_below hb) (fun k e q => by have := hv k e; omega) (fun k cur a _ q => by have := ha k a; omega)
set_option maxRecDepth 100000 in
set_option maxHeartbeats 4000000 in
theorem told1_in {av : Nat → Prop} (m L n₀ B : Nat) (l : List Snt) (v : Value) (J Jx : List Snt → World → Prop)
    (hJ : ∀ s W W', J s W → Below W.heap.size W W' → J s W')
    (hvo : ∀ k, v.ownBlock = some k → k < n₀) (hav : ∀ k, av k → k < n₀) (hll : l.length ≤ 1000000) (hd : ∀ s ∈ l, s.d.length ≤ 1000000)
    (hY : ∀ pre x W g n, pre ++ [x] <+: l → J pre W → Blk W g (barr x.d) 5 → n = x.d.length → n₀ ≤ g → YieldAt Fence.wide (m - 1) Try.prog L #[sag x.f x.t (some ⟨g, 0, none⟩) n n] W fun e W' =>
      (e = .returned (.bool true) ∧ J (pre ++ [x]) W' ∧ Below n₀ W W') ∨ (e = .returned (.bool false) ∧ Jx (pre ++ [x]) W'))
    (W : World) (hn₀ : n₀ ≤ W.heap.size) (hB : W.cell? ⟨B, 0, none⟩ = some v) (hR : SRow W av v l) (h0 : J [] W) :
    CallsIn Fence.wide m Try.prog 117 #[.func (.yield L) #[] #[], .pointer (some ⟨B, 0, none⟩)] W fun e W' => (∃ v, e = .returned v) ∧ (J l W' ∨ ∃ k, k <+: l ∧ Jx k W') := by
  obtain ⟨a, c, rfl, _, hc⟩ := hR.form
  obtain ⟨n, hn⟩ : ∃ n, n = l.length := ⟨_, rfl⟩
  rw [← hn] at hll hB
  have hn63 : n ≤ 9223372036854775807 := by omega
  have HN := Lib.hid hn
  have HR := Lib.hid hR
  have HB := Lib.hid hB
  have HVO := Lib.hid (show ∀ k, (Value.slice a n c).ownBlock = some k → k < n₀ from fun k e => hvo k (by rw [← hn]; exact e))
  have HAV := Lib.hid hav
  have HD := Lib.hid hd
  have HN0 := Lib.hid hn₀
  have H0 := Lib.hid h0
  clear hR hn hvo hav hc hd hn₀ h0
  refine callsIn_of_wp Try.func117 rfl trivial ?_ rfl
  simp only [Try.ntmps117, List.size_toArray, List.length_cons, List.length_nil, Nat.reduceAdd, Nat.reduceSub, Array.replicate_succ, Array.replicate_zero, List.push_toArray, List.append_toArray, List.nil_append, List.cons_append]
  gi_wp2
  gi_loopw [7] (fun x wr => ∃ i : Nat, i ≤ n ∧ x = .int .i64 (i : Nat) ∧ Hid (J (l.take i) wr) ∧ Hid (SRow wr av (.slice a n c) l) ∧ Hid (n₀ ≤ wr.heap.size)) (fun x _ => n - (intOf x).toNat)
  case atStart => exact ⟨0, Nat.zero_le _, rfl, by rw [List.take_zero]; exact H0.out, by rw [HN.out]; exact HR.out, HN0.out⟩
  case round =>
    obtain ⟨i, hi, rfl, HJi, HLr, HNr⟩ := hrel
    by_cases hlt : i < n
    · obtain ⟨g, c', cur, px, nx, cx, ha, _, _, hbk, _, hr, ht⟩ := (show SRow wr av (.slice a l.length c) l by rw [← HN.out]; exact HLr.out).at_i (i := i) (by have := HN.out; omega)
      cases ha
      obtain ⟨x, hx⟩ : ∃ x, x = l.getD i snt0 := ⟨_, rfl⟩
      rw [← hx] at hr ht
      rw [Nat.zero_add] at hr
      have HTS := Lib.hid (show l.take (i + 1) = l.take i ++ [x] by rw [List.take_add_one, hx]; simp [List.getD, show i < l.length by have := HN.out; omega])
      have HXL := Lib.hid (show x.d.length ≤ 1000000 from HD.out x (by rw [hx, List.getD, List.getElem?_eq_getElem (show i < l.length by have := HN.out; omega)]; exact List.getElem_mem _))
      have HLEN := Lib.hid (show (l.take i).length = i by rw [List.length_take]; have := HN.out; omega)
      obtain ⟨qa, qn, qc, qe, ht, _⟩ := ht
      cases qe
      have hal := below_one' wr (.cells #[.int .i64 x.f, .int .i64 x.t, .slice px nx cx] 47)
      have HT := Lib.hid (ht.below hal)
      have HNX := Lib.hid ht.len
      have HLa := Lib.hid (HLr.out.on hal)
      have HJa := Lib.hid (hJ _ _ _ HJi.out hal)
      have HNa := Lib.hid (Nat.le_trans HNr.out hal.size)
      have HI := Lib.hid hlt
      have c0 := hr 0 _ rfl
      have c1 := hr 1 _ rfl
      have c2 := hr 2 _ rfl
      simp only [Nat.add_zero] at c0
      clear hr hx ht hal hbk hlt
      gi_wp2
      refine ⟨trivial, fun h => (by cases h), (callsIn_wide.2 (own_walk x.f x.t px nx cx x.d HXL.out _ HT.out)).mono ?_⟩
      rintro e w3 ⟨gg, rfl, hBk, hge, hb⟩
      have HL3 := Lib.hid (HLa.out.on hb)
      have HN3 := Lib.hid (Nat.le_trans HNa.out hb.size)
      obtain ⟨fn, tmps, assign, body, hy, hRn⟩ := hY (l.take i) x w3 gg nx (by rw [← HTS.out]; exact List.take_prefix _ _) (hJ _ _ _ HJa.out hb) hBk HNX.out (Nat.le_trans HNa.out hge)
      clear hb hBk hge c0 c1 c2
      gi_wp2
      refine ⟨fun h => (by cases h), hRn.mono ?_⟩
      rintro e W3 (⟨rfl, hJ3, hk3⟩ | ⟨rfl, hJx3⟩)
      · rw [← HTS.out] at hJ3
        have HL4 := Lib.hid (HL3.out.far hk3 HVO.out HAV.out)
        have HN4 := Lib.hid (Nat.le_trans HN3.out hk3.size)
        have HJ4 := Lib.hid hJ3
        clear hk3 hRn hy hJ3
        gi_wp2
        go_roundw
        case rel => exact ⟨i + 1, by have := HI.out; omega, by go_num, HJ4.out, HL4.out, HN4.out⟩
        case measure => have := HI.out; simp [intOf]; omega
      · clear hRn hy
        gi_wp2
        refine bodyPost_ret (results_none rfl _ _ _) rfl ?_
        exact ⟨⟨_, rfl⟩, .inr ⟨_, by rw [← HTS.out]; exact List.take_prefix _ _, hJx3⟩⟩
    · have e : l.take i = l := List.take_of_length_le (by have := HN.out; omega)
      rw [e] at HJi
      gi_wp2
      go_end0
      exact ⟨⟨_, rfl⟩, .inl HJi.out⟩
set_option maxRecDepth 100000 in
set_option maxHeartbeats 4000000 in
theorem all1_in {av : Nat → Prop} (m L n₀ B : Nat) (l : List Snt) (v : Value) (b : Nat) (vy vz : Value) (S : NS) (J Jx : List Snt → World → Prop)
    (hJ : ∀ s W W', J s W → Below W.heap.size W W' → J s W')
    (hvo : ∀ k, v.ownBlock = some k → k < n₀) (hav : ∀ k, av k → k < n₀) (hll : l.length ≤ 1000000) (hd : ∀ s ∈ l, s.d.length ≤ 1000000)
    (hY : ∀ pre x W g n, pre ++ [x] <+: l → J pre W → Blk W g (barr x.d) 5 → n = x.d.length → n₀ ≤ g → YieldAt Fence.wide (m - 1) Try.prog L #[.int .i64 pre.length, sag x.f x.t (some ⟨g, 0, none⟩) n n] W fun e W' =>
      (e = .returned (.bool true) ∧ J (pre ++ [x]) W' ∧ Below n₀ W W') ∨ (e = .returned (.bool false) ∧ Jx (pre ++ [x]) W'))
    (W : World) (hn₀ : n₀ ≤ W.heap.size) (hB : W.cell? ⟨B, 0, none⟩ = some (.pointer (some ⟨b, 0, none⟩))) (hR : SRow W av v l) (hNA : NetAt W av b v vy vz S) (hSl : S.way = l) (h0 : J [] W) :
    CallsIn Fence.wide m Try.prog 115 #[.func (.yield L) #[] #[], .pointer (some ⟨B, 0, none⟩)] W fun e W' => (∃ v, e = .returned v) ∧ (J l W' ∨ ∃ k, k <+: l ∧ Jx k W') := by
  obtain ⟨a, c, rfl, _, hc⟩ := hR.form
  obtain ⟨n, hn⟩ : ∃ n, n = l.length := ⟨_, rfl⟩
  rw [← hn] at hll hNA
  have hn63 : n ≤ 9223372036854775807 := by omega
  have HN := Lib.hid hn
  have HR := Lib.hid hR
  have HB := Lib.hid hB
  have HVO := Lib.hid (show ∀ k, (Value.slice a n c).ownBlock = some k → k < n₀ from fun k e => hvo k (by rw [← hn]; exact e))
  have HAV := Lib.hid hav
  have HD := Lib.hid hd
  have HN0 := Lib.hid hn₀
  have H0 := Lib.hid h0
  clear hR hn hvo hav hc hd hn₀ h0 hSl
  refine callsIn_of_wp Try.func115 rfl trivial ?_ rfl
  simp only [Try.ntmps115, List.size_toArray, List.length_cons, List.length_nil, Nat.reduceAdd, Nat.reduceSub, Array.replicate_succ, Array.replicate_zero, List.push_toArray, List.append_toArray, List.nil_append, List.cons_append]
  gi_wp2
  refine ⟨trivial, fun h => (by cases h), (callsIn_wide.2 (nnone_at _ hNA)).mono ?_⟩
  rintro e w2 ⟨rfl, rfl⟩
  have c1 := hNA.c1
  clear hNA
  gi_wp2
  clear c1
  gi_loopw [12] (fun x wr => ∃ i : Nat, i ≤ n ∧ x = .int .i64 (i : Nat) ∧ Hid (J (l.take i) wr) ∧ Hid (SRow wr av (.slice a n c) l) ∧ Hid (n₀ ≤ wr.heap.size)) (fun x _ => n - (intOf x).toNat)
  case atStart => exact ⟨0, Nat.zero_le _, rfl, by rw [List.take_zero]; exact H0.out, by rw [HN.out]; exact HR.out, HN0.out⟩
  case round =>
    obtain ⟨i, hi, rfl, HJi, HLr, HNr⟩ := hrel
    by_cases hlt : i < n
    · obtain ⟨g, c', cur, px, nx, cx, ha, _, _, hbk, _, hr, ht⟩ := (show SRow wr av (.slice a l.length c) l by rw [← HN.out]; exact HLr.out).at_i (i := i) (by have := HN.out; omega)
      cases ha
      obtain ⟨x, hx⟩ : ∃ x, x = l.getD i snt0 := ⟨_, rfl⟩
      rw [← hx] at hr ht
      rw [Nat.zero_add] at hr
      have HTS := Lib.hid (show l.take (i + 1) = l.take i ++ [x] by rw [List.take_add_one, hx]; simp [List.getD, show i < l.length by have := HN.out; omega])
      have HXL := Lib.hid (show x.d.length ≤ 1000000 from HD.out x (by rw [hx, List.getD, List.getElem?_eq_getElem (show i < l.length by have := HN.out; omega)]; exact List.getElem_mem _))
      have HLEN := Lib.hid (show (l.take i).length = i by rw [List.length_take]; have := HN.out; omega)
      obtain ⟨qa, qn, qc, qe, ht, _⟩ := ht
      cases qe
      have hal := below_one' wr (.cells #[.int .i64 x.f, .int .i64 x.t, .slice px nx cx] 47)
      have HT := Lib.hid (ht.below hal)
      have HNX := Lib.hid ht.len
      have HLa := Lib.hid (HLr.out.on hal)
      have HJa := Lib.hid (hJ _ _ _ HJi.out hal)
      have HNa := Lib.hid (Nat.le_trans HNr.out hal.size)
      have HI := Lib.hid hlt
      have c0 := hr 0 _ rfl
      have c1 := hr 1 _ rfl
      have c2 := hr 2 _ rfl
      simp only [Nat.add_zero] at c0
      clear hr hx ht hal hbk hlt
      gi_wp2
      refine ⟨trivial, fun h => (by cases h), (callsIn_wide.2 (own_walk x.f x.t px nx cx x.d HXL.out _ HT.out)).mono ?_⟩
      rintro e w3 ⟨gg, rfl, hBk, hge, hb⟩
      have HL3 := Lib.hid (HLa.out.on hb)
      have HN3 := Lib.hid (Nat.le_trans HNa.out hb.size)
      obtain ⟨fn, tmps, assign, body, hy, hRn⟩ := hY (l.take i) x w3 gg nx (by rw [← HTS.out]; exact List.take_prefix _ _) (hJ _ _ _ HJa.out hb) hBk HNX.out (Nat.le_trans HNa.out hge)
      rw [HLEN.out] at hy
      clear hb hBk hge c0 c1 c2
      gi_wp2
      refine ⟨fun h => (by cases h), hRn.mono ?_⟩
      rintro e W3 (⟨rfl, hJ3, hk3⟩ | ⟨rfl, hJx3⟩)
      · rw [← HTS.out] at hJ3
        have HL4 := Lib.hid (HL3.out.far hk3 HVO.out HAV.out)
        have HN4 := Lib.hid (Nat.le_trans HN3.out hk3.size)
        have HJ4 := Lib.hid hJ3
        clear hk3 hRn hy hJ3
        gi_wp2
        go_roundw
        case rel => exact ⟨i + 1, by have := HI.out; omega, by go_num, HJ4.out, HL4.out, HN4.out⟩
        case measure => have := HI.out; simp [intOf]; omega
      · clear hRn hy
        gi_wp2
        refine bodyPost_ret (results_none rfl _ _ _) rfl ?_
        exact ⟨⟨_, rfl⟩, .inr ⟨_, by rw [← HTS.out]; exact List.take_prefix _ _, hJx3⟩⟩
    · have e : l.take i = l := List.take_of_length_le (by have := HN.out; omega)
      rw [e] at HJi
      gi_wp2
      go_end0
      exact ⟨⟨_, rfl⟩, .inl HJi.out⟩
set_option maxRecDepth 100000 in
theorem all1_no (m L B : Nat) (p : Option Addr) (J : World → Prop) (W : World) (hB : W.cell? ⟨B, 0, none⟩ = some (.pointer p)) (hN : NoNet W p) (h0 : J W) :
    CallsIn Fence.wide m Try.prog 115 #[.func (.yield L) #[] #[], .pointer (some ⟨B, 0, none⟩)] W fun e W' => (∃ v, e = .returned v) ∧ J W' := by
  have HN := Lib.hid hN
  have H0 := Lib.hid h0
  clear hN h0
  refine callsIn_of_wp Try.func115 rfl trivial ?_ rfl
  simp only [Try.ntmps115, List.size_toArray, List.length_cons, List.length_nil, Nat.reduceAdd, Nat.reduceSub, Array.replicate_succ, Array.replicate_zero, List.push_toArray, List.append_toArray, List.nil_append, List.cons_append]
  gi_wp2
  refine ⟨trivial, fun h => (by cases h), (callsIn_wide.2 (nnone_no _ HN.out)).mono ?_⟩
  rintro e w2 ⟨rfl, rfl⟩
  gi_wp2
  refine bodyPost_ret (results_none rfl _ _ _) rfl ?_
  exact ⟨⟨_, rfl⟩, H0.out⟩
set_option maxRecDepth 100000 in
theorem told_make (a : Option Addr) (n c : Nat) (w : World) :
    Calls Try.prog 92 #[.slice a n c] w fun e w' => e = .returned (.func (.func 117) #[] #[.pointer (some ⟨w.heap.size, 0, none⟩)]) ∧ w' = w.alloc (.cells #[.slice a n c] 41) := by
  go_enter Try.func92, Try.ntmps92
  go_wp2
  go_ret
  exact ⟨rfl, rfl⟩
set_option maxRecDepth 100000 in
theorem all_make (p : Option Addr) (w : World) :
    Calls Try.prog 85 #[.pointer p] w fun e w' => e = .returned (.func (.func 115) #[] #[.pointer (some ⟨w.heap.size, 0, none⟩)]) ∧ w' = w.alloc (.cells #[.pointer p] 40) := by
  go_enter Try.func85, Try.ntmps85
  go_wp2
  go_ret
  exact ⟨rfl, rfl⟩
set_option maxRecDepth 100000 in
theorem never_at {av : Nat → Prop} {b : Nat} {vx vy vz : Value} {S : NS} (w : World) (h : NetAt w av b vx vy vz S) :
    Calls Try.prog 34 #[.pointer (some ⟨b, 0, none⟩)] w fun e w' => e = .returned (.func (.func 117) #[] #[.pointer (some ⟨w.heap.size, 0, none⟩)]) ∧ w' = w.alloc (.cells #[vy] 41) := by
  obtain ⟨a, c, rfl, _⟩ := h.ever.form
  have H := Lib.hid h
  have c1 := h.c2
  clear h
  go_enter Try.func34, Try.ntmps34
  go_wp2_with fail
  refine (nnone_at _ H.out).mono ?_
  rintro e w2 ⟨rfl, rfl⟩
  go_wp2_with fail
  refine (told_make a _ c _).mono ?_
  rintro e w3 ⟨rfl, rfl⟩
  go_wp2
  go_ret
  exact ⟨rfl, rfl⟩
set_option maxRecDepth 100000 in
theorem never_no {p : Option Addr} (w : World) (h : NoNet w p) :
    Calls Try.prog 34 #[.pointer p] w fun e w' => e = .returned (.func (.func 117) #[] #[.pointer (some ⟨w.heap.size, 0, none⟩)]) ∧ w' = w.alloc (.cells #[.slice none 0 0] 41) := by
  have H := Lib.hid h
  clear h
  go_enter Try.func34, Try.ntmps34
  go_wp2_with fail
  refine (nnone_no _ H.out).mono ?_
  rintro e w2 ⟨rfl, rfl⟩
  go_wp2_with fail
  refine (told_make _ _ _ _).mono ?_
  rintro e w3 ⟨rfl, rfl⟩
  go_wp2
  go_ret
  exact ⟨rfl, rfl⟩
set_option maxRecDepth 100000 in
theorem ncame_at {av : Nat → Prop} {b : Nat} {vx vy vz : Value} {S : NS} (w : World) (h : NetAt w av b vx vy vz S) :
    Calls Try.prog 35 #[.pointer (some ⟨b, 0, none⟩)] w fun e w' => e = .returned (.func (.func 117) #[] #[.pointer (some ⟨w.heap.size, 0, none⟩)]) ∧ w' = w.alloc (.cells #[vz] 41) := by
  obtain ⟨a, c, rfl, _⟩ := h.came.form
  have H := Lib.hid h
  have c1 := h.c3
  clear h
  go_enter Try.func35, Try.ntmps35
  go_wp2_with fail
  refine (nnone_at _ H.out).mono ?_
  rintro e w2 ⟨rfl, rfl⟩
  go_wp2_with fail
  refine (told_make a _ c _).mono ?_
  rintro e w3 ⟨rfl, rfl⟩
  go_wp2
  go_ret
  exact ⟨rfl, rfl⟩
set_option maxRecDepth 100000 in
theorem ncame_no {p : Option Addr} (w : World) (h : NoNet w p) :
    Calls Try.prog 35 #[.pointer p] w fun e w' => e = .returned (.func (.func 117) #[] #[.pointer (some ⟨w.heap.size, 0, none⟩)]) ∧ w' = w.alloc (.cells #[.slice none 0 0] 41) := by
  have H := Lib.hid h
  clear h
  go_enter Try.func35, Try.ntmps35
  go_wp2_with fail
  refine (nnone_no _ H.out).mono ?_
  rintro e w2 ⟨rfl, rfl⟩
  go_wp2_with fail
  refine (told_make _ _ _ _).mono ?_
  rintro e w3 ⟨rfl, rfl⟩
  go_wp2
  go_ret
  exact ⟨rfl, rfl⟩
end Go.Proofs.Ytajjbffppkpjpaa
