import Derived.Test.YtajjbffppkpjpaaWalkC
import Derived.Test.YtajjbffppkpjpaaSpanY
/-
  The walk of liverylaw19.SpanWalks.
-/
namespace Go.Proofs.Ytajjbffppkpjpaa
open Go.RowKit
theorem idxs_at {l : List Rg} {j k : Nat} (hj : j < l.length) (hk : k < (l.getD j r0).hi - (l.getD j r0).lo) : (idxs l)[(idxs (l.take j)).length + k]? = some ((l.getD j r0).lo + k) := by
  obtain ⟨r, hr⟩ : ∃ r, r = l.getD j r0 := ⟨_, rfl⟩
  rw [← hr] at hk ⊢
  have e : l = l.take j ++ r :: l.drop (j + 1) := by
    conv => lhs; rw [← List.take_append_drop j l]
    rw [List.drop_eq_getElem_cons hj, hr]; simp [List.getD, hj]
  have e2 : idxs l = idxs (l.take j) ++ (List.range' r.lo (r.hi - r.lo) ++ idxs (l.drop (j + 1))) := by
    conv => lhs; rw [e]
    simp [idxs]
  rw [e2, List.getElem?_append_right (by omega), List.getElem?_append_left (by rw [List.length_range']; omega), Nat.add_sub_cancel_left, List.getElem?_range' (by omega)]
  simp
theorem idxs_take {l : List Rg} {j : Nat} (hj : j < l.length) : (idxs (l.take (j + 1))).length = (idxs (l.take j)).length + ((l.getD j r0).hi - (l.getD j r0).lo) := by
  rw [List.take_add_one]
  have : l[j]?.toList = [l.getD j r0] := by simp [List.getD, hj]
  rw [this, idxs_snoc, List.length_append, List.length_range']
theorem idxs_le (l : List Rg) (j : Nat) : (idxs (l.take j)).length ≤ (idxs l).length := by
  have : idxs l = idxs (l.take j) ++ idxs (l.drop j) := by
    conv => lhs; rw [← List.take_append_drop j l]
    simp only [idxs, List.flatMap_append]
  rw [this, List.length_append]
  omega
theorem OwnU.at {w : World} {lo n c : Nat} {a : Option Addr} {s : List Nat} (h : OwnU w lo (.slice a n c) s) (i : Nat) (x : Nat) (hx : s[i]? = some x) : ∃ g, a = some ⟨g, 0, none⟩ ∧ w.cell? ⟨g, i, none⟩ = some (.int .u64 (x : Nat)) := by
  have hi : i < s.length := (List.getElem?_eq_some_iff.1 hx).1
  rcases h.2 with ⟨e, h0⟩ | ⟨g, cap, cur, e, _, h3, _, _, h5, h6⟩
  · omega
  · simp only [Value.slice.injEq] at e
    refine ⟨g, e.1, ?_⟩
    have h7 : (cur.toList.take (s.length * 1))[i]? = some (.int .u64 (x : Nat)) := by rw [h6]; simp [hx]
    rw [List.getElem?_take, if_pos (by omega)] at h7
    have h3' : Blk w g cur 23 := h3
    exact h3'.cell i (by simpa using h7)
theorem OwnU.on {w w' : World} {lo : Nat} {v : Value} {s : List Nat} (h : OwnU w lo v s) (hb : Below w.heap.size w w') : OwnU w' lo v s := h.same fun k e => hb.block k (h.lt k e).2
set_option maxRecDepth 100000 in
set_option maxHeartbeats 4000000 in
theorem spanwalks_walk (l : List Rg) (z : Int) (a : Option Addr) (n c : Nat) (w : World) (hL : RgsIn w a n c l) :
    Calls Try.prog 7 #[.slice a n c, .int .i64 z] w fun e w' => e = .returned (.bool true) ∧ Below w.heap.size w w' := by
  have HL := Lib.hid hL
  clear hL
  go_enter Try.func7, Try.ntmps7
  go_wp2_with fail
  refine (live19_walk _).mono ?_
  rintro e w1 ⟨rfl, hb2⟩
  have HB2 := Lib.hid hb2
  have HL2 := Lib.hid (HL.out.on hb2)
  clear hb2 HL
  go_wp2_with fail
  refine (few19_walk a n c _).mono ?_
  rintro e w2 ⟨he, rfl⟩
  by_cases hf : n ≤ 300
  · rw [decide_eq_true hf] at he
    subst he
    by_cases hz0 : z < 0
    · go_wp2_with fail
      refine (live19_walk _).mono ?_
      rintro e w9 ⟨rfl, hb9⟩
      have HB9 := Lib.hid (HB2.out.trans (hb9.mono HB2.out.size))
      clear hb9
      go_wp2
      go_ret
      exact ⟨rfl, HB9.out⟩
    by_cases hz1 : z > 500
    · go_wp2_with fail
      refine (live19_walk _).mono ?_
      rintro e w9 ⟨rfl, hb9⟩
      have HB9 := Lib.hid (HB2.out.trans (hb9.mono HB2.out.size))
      clear hb9
      go_wp2
      go_ret
      exact ⟨rfl, HB9.out⟩
    obtain ⟨m, rfl⟩ : ∃ m : Nat, z = m := ⟨z.toNat, by omega⟩
    have hm : m ≤ 500 := by omega
    go_wp2_with fail
    refine (all_walk a n c _).mono ?_
    rintro e w3 ⟨rfl, rfl⟩
    have hb := below_one1 w2 (.cells #[.slice a n c] 22)
    have HB3 := Lib.hid (HB2.out.trans (hb.mono HB2.out.size))
    have HL3 := Lib.hid (HL2.out.on hb)
    have hc3 := (Blk.new w2 #[.slice a n c] 22).cell 0 rfl
    generalize w2.alloc _ = w4 at *
    generalize w2.heap.size = b1 at *
    have HC3 := Lib.hid hc3
    clear hb hc3 HL2 HB2
    go_wp2_with fail
    refine (walk_walk b1 m hm l a n c _ HC3.out HL3.out).mono ?_
    rintro e w5 ⟨v, s, rfl, hO, hs1, hs2, hb5⟩
    obtain ⟨sa, sc, rfl⟩ := hO.form
    have HB5 := Lib.hid (HB3.out.trans (hb5.mono HB3.out.size))
    have HL5 := Lib.hid (HL3.out.on hb5)
    have HO5 := Lib.hid hO
    obtain ⟨M, hM⟩ := bool_of (MayP l)
    have HM := Lib.hid hM
    clear hb5 hO HC3 HL3 HB3 hM hz0 hz1
    go_wp2_with fail
    refine (may_walkR l a n c _ HL5.out M HM.out).mono ?_
    rintro e w6 ⟨rfl, hb6⟩
    have HB6 := Lib.hid (HB5.out.trans (hb6.mono HB5.out.size))
    have HL6 := Lib.hid (HL5.out.on hb6)
    have HO6 := Lib.hid (HO5.out.on hb6)
    clear hb6 HB5 HL5 HO5
    cases M with
    | false =>
      have hs : s = [] := hs2 (fun h => by have := HM.out.2 h; simp at this)
      subst hs
      clear hs1 hs2
      go_wp2
      go_ret
      exact ⟨rfl, HB6.out⟩
    | true =>
      have hs := hs1 (HM.out.1 rfl)
      have HSL := Lib.hid (show s.length = min m (idxs l).length by rw [hs, List.length_take])
      have HS := Lib.hid hs
      have HN := Lib.hid (show n = l.length from HL6.out.len)
      have hn63 : n ≤ 9223372036854775807 := by omega
      clear hs hs1 hs2 HM
      go_wp2
      go_loopw [38, 7] (fun x y wr => ∃ k q : Nat, k ≤ n ∧ x = .int .i64 (k : Nat) ∧ y = .int .i64 (q : Nat) ∧ q = min m (idxs (l.take k)).length ∧ Below w.heap.size w wr ∧ Hid (RgsIn wr a n c l) ∧ Hid (OwnU wr w4.heap.size (.slice sa s.length sc) s)) (fun x _ _ => n - (intOf x).toNat)
      case atStart => exact ⟨0, 0, Nat.zero_le _, rfl, rfl, by simp [idxs], HB6.out, HL6.out, HO6.out⟩
      case round =>
        obtain ⟨k, q, hk, rfl, rfl, hq, hb, HLr, HOr⟩ := hrel
        have HBr := Lib.hid hb
        have HQ := Lib.hid hq
        have hqm : q ≤ m := by omega
        clear hb hq
        by_cases hlt : k < n
        · obtain ⟨g, o, rfl, hg, hr⟩ := HLr.out.rd k (by have := HN.out; omega)
          obtain ⟨r, hre⟩ : ∃ r, r = l.getD k r0 := ⟨_, rfl⟩
          rw [← hre] at hr
          have HRE := Lib.hid hre
          have HR := Lib.hid hr
          have HG := Lib.hid hg
          have HB64 := Lib.hid (show r.lo < 18446744073709551616 ∧ r.hi < 18446744073709551616 by rw [hre]; exact HLr.out.b64 _ (by simp [List.getD, show k < l.length by rw [← HN.out]; exact hlt]))
          have HKL := Lib.hid (show k < l.length by rw [← HN.out]; exact hlt)
          clear hr hre hg
          go_wp2_with (first | (refine wpList_load_mid rfl 25 (.tmp 40) rfl g (o + k * 2) rfl (rcl r) _ HR.out Try.underlying25 rfl size_rg ?_) | (refine wpList_store_abs rfl 25 (.tmp 9) (.tmp 41) (by rfl) wr.heap.size #[.int .u64 (r.lo : Nat), .int .u64 (r.hi : Nat)] (by rfl) (by rfl) 25 _ (Blk.new wr _ _) size_rg (by rfl) (by simp [Value.oneCell']) ?_; intro W hW hp5; have hbW := hW.below ((Below.refl _ wr).alloc (Nat.le_refl _) _) (Nat.le_refl _); have HBW := Lib.hid (HBr.out.trans (hbW.mono HBr.out.size)); have BX := Lib.hid hp5; have HLW := Lib.hid (HLr.out.on hbW); have HOW := Lib.hid (HOr.out.on hbW); clear hW hbW; have d0 := hp5.cell 0 rfl))
          have c0 : W.cell? ⟨wr.heap.size, 0, none⟩ = some (.int .u64 (r.lo : Nat)) := d0
          have c1 : W.cell? ⟨wr.heap.size, 1, none⟩ = some (.int .u64 (r.hi : Nat)) := hp5.cell 1 rfl
          clear hp5 d0 HR HG HLr HOr HL6 HO6 BX
          generalize wr.heap.size = gx at *
          have hnext := idxs_take HKL.out
          have hat := fun e => idxs_at (k := e) HKL.out
          rw [← HRE.out] at hnext hat
          have hle := idxs_le l (k + 1)
          obtain ⟨P, hP⟩ : ∃ P, P = (idxs (l.take k)).length := ⟨_, rfl⟩
          rw [← hP] at hnext hat HQ
          rw [hnext] at hle
          have HNX := Lib.hid hnext
          have HAT := Lib.hid hat
          have HLE := Lib.hid hle
          clear hnext hat hle hP HRE HBr
          go_loopw [10, 7] (fun x y wx => ∃ i p : Nat, x = .int .u64 (i : Nat) ∧ y = .int .i64 (p : Nat) ∧ wx = W ∧ r.lo ≤ i ∧ i ≤ max r.lo r.hi ∧ p = min m (P + (i - r.lo))) (fun x _ _ => r.hi - (intOf x).toNat)
          case atStart => exact ⟨r.lo, q, rfl, rfl, rfl, Nat.le_refl _, by omega, by rw [Nat.sub_self]; exact HQ.out⟩
          case round =>
            obtain ⟨i, p, rfl, rfl, rfl, hi1, hi2, hp⟩ := hrel
            have HP := Lib.hid hp
            have hb64 := HB64.out
            by_cases hlt1 : i < r.hi
            · by_cases hlt2 : p < m
              · have hp2 : p = P + (i - r.lo) := by omega
                have hk2 : i - r.lo < r.hi - r.lo := by omega
                have hsl := HSL.out
                have hle := HLE.out
                have hps : p < s.length := by omega
                have hx : s[p]? = some i := by
                  rw [HS.out, List.getElem?_take, if_pos hlt2, hp2, HAT.out _ hk2, show r.lo + (i - r.lo) = i by omega]
                obtain ⟨g2, rfl, hc⟩ := HOW.out.at p i hx
                have HPE := Lib.hid hp2
                have HLT := Lib.hid hlt1
                have HLT2 := Lib.hid hlt2
                have g1 : (i : Int) < (r.hi : Int) := by omega
                have g2 : (p : Int) < (m : Int) := by omega
                have g3 : ¬ (s.length : Int) ≤ (p : Int) := by omega
                have g4 : (p : Int) < (s.length : Int) := by omega
                have gw : IntKind.u64.wrap ((i : Int) + 1) = ((i + 1 : Nat) : Int) := by rw [IntKind.wrap_u64]; omega
                clear hp2 hk2 hsl hle hp hx
                go_wp2
                go_roundw
                case rel =>
                  exact ⟨i + 1, p + 1, by go_num, by go_num, trivial, by omega, by omega, by have := HPE.out; have := HLT2.out; omega⟩
                case measure => have := HLT.out; simp [intOf]; omega
              · have g1 : (i : Int) < (r.hi : Int) := by omega
                have g2 : ¬ (p : Int) < (m : Int) := by omega
                have HE := Lib.hid (show p = min m (P + (r.hi - r.lo)) by omega)
                clear hp
                go_wp2
                go_roundw
                case rel => exact ⟨k + 1, p, by omega, by go_num, rfl, by rw [HNX.out]; exact HE.out, HBW.out, HLW.out, HOW.out⟩
                case measure => simp [intOf]; omega
            · have g1 : ¬ (i : Int) < (r.hi : Int) := by omega
              have HE := Lib.hid (show p = min m (P + (r.hi - r.lo)) by omega)
              clear hp
              go_wp2
              go_roundw
              case rel => exact ⟨k + 1, p, by omega, by go_num, rfl, by rw [HNX.out]; exact HE.out, HBW.out, HLW.out, HOW.out⟩
              case measure => simp [intOf]; omega
        · obtain rfl : k = n := by omega
          have hsl := HSL.out
          have hq := HQ.out
          rw [HN.out, List.take_length] at hq
          obtain rfl : q = s.length := by omega
          clear hsl hq
          go_wp2
          go_ret
          exact ⟨rfl, HBr.out⟩
  · rw [decide_eq_false hf] at he
    subst he
    go_wp2_with fail
    refine (live19_walk _).mono ?_
    rintro e w9 ⟨rfl, hb9⟩
    have HB9 := Lib.hid (HB2.out.trans (hb9.mono HB2.out.size))
    clear hb9
    go_wp2
    go_ret
    exact ⟨rfl, HB9.out⟩
end Go.Proofs.Ytajjbffppkpjpaa
