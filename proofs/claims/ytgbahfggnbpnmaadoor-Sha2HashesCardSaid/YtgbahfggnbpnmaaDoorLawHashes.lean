import Derived.Test.YtgbahfggnbpnmaaDoorPieces
/-
  The walk of liverylaw02.Sha2Hashes.
-/
namespace Go.Proofs.YtgbahfggnbpnmaaDoor
open Go.RowKit
theorem OwnB.set {w : World} {lo g n c : Nat} {l : List UInt8} (h : OwnB w lo (.slice (some ⟨g, 0, none⟩) n c) l) (k : Nat) (hk : k < l.length) (y : UInt8) : OwnB (w.setCell ⟨g, k, none⟩ (bv y)) lo (.slice (some ⟨g, 0, none⟩) n c) (l.set k y) := by
  rcases h.2 with ⟨e, _⟩ | ⟨g', cap, cur, e, h2, h3, h4, h5, h6, h7⟩
  · cases e
  · simp only [Value.slice.injEq, Option.some.injEq, Addr.mk.injEq] at e
    obtain ⟨⟨rfl, _⟩, rfl, rfl⟩ := e
    refine ⟨by simp, .inr ⟨g, c, cur.setIfInBounds k (bv y), by simp, h2, (show Blk w g cur 5 from h3).set k (bv y), by simpa using h4, h5, by simpa using h6, ?_⟩⟩
    rw [Nat.mul_one] at h7 ⊢
    rw [List.length_set, Array.toList_setIfInBounds, List.take_set, h7, List.map_set]
theorem OwnB.blk_at {w : World} {lo n c g o : Nat} {l : List UInt8} (h : OwnB w lo (.slice (some ⟨g, o, none⟩) n c) l) : o = 0 ∧ lo ≤ g ∧ g < w.heap.size ∧ (∀ i, w.frozen? ⟨g, i, none⟩ = false) := by
  obtain ⟨a', c', e, _, _, _, h4, h5⟩ := h.form
  simp only [Value.slice.injEq] at e
  obtain ⟨rfl, _, _⟩ := e
  obtain ⟨h6, cur, h7, _⟩ := h5 g o rfl
  exact ⟨h6, (h4 g o rfl).1, (h4 g o rfl).2, fun i => h7.free i⟩
theorem OwnB.far {w w' : World} {lo B : Nat} {v : Value} {l : List UInt8} (h : OwnB w lo v l) (hb : Below B w w') (hB : ∀ k, v.ownBlock = some k → lo ≤ k ∧ k < B) : OwnB w' lo v l := by
  refine ⟨h.1, ?_⟩
  rcases h.2 with h0 | ⟨g, cap, cur, h1, h2, h3, h4⟩
  · exact .inl h0
  · subst h1
    exact .inr ⟨g, cap, cur, rfl, h2, (hb.block g (hB g rfl).2).trans h3, h4⟩
theorem own_hash {w : World} {lo g : Nat} {v : Value} {l m : List UInt8} (h : OwnB w lo v l) (hH : HashAt w g m) : v.ownBlock = none ∨ v.ownBlock ≠ some g := by
  obtain ⟨st, rest, held, _, h2⟩ := hH
  exact own_at h h2 (by decide)
theorem write_const (X : World) (t : TypeId) (G : Nat) {m : List UInt8} (hH : HashAt X G m) (l : List UInt8) (fr : Nat × Nat) (n : Nat) (hn : n = l.length) (hT : Tab X) (hG : G ≠ 0) (hlen : m.length + l.length ≤ 4611686018427387904) :
    Calls Tryd.prog 32 #[.pointer (some ⟨G, 0, none⟩), .slice (some ⟨X.heap.size + 1, 0, none⟩) 1 1] ((X.alloc (.cells (barr l) 5 fr)).alloc (.cells #[.slice (some ⟨X.heap.size, 0, none⟩) n n] t)) fun e w' => e = .returned (.int .i64 0) ∧ X.grownBy w' (some G) ∧ HashAt w' G (m ++ l) := by
  have hlt := hH.lt
  have hb := below_one' X (.cells (barr l) 5 fr)
  refine (write_one (X.alloc (.cells (barr l) 5 fr)) t (X.heap.size + 1) G (by simp) (hH.on hb) (Txt.new X l 5 fr hn rfl) (fun b o e _ => by simp only [Option.some.injEq, Addr.mk.injEq] at e; omega) (hT.below hb hT.lt) hG hlen).mono ?_
  rintro e w' ⟨he, h1, h2⟩
  exact ⟨he, grownBy_trans (grownBy_of_below hb) h1, h2⟩
def BoolsIn (w : World) (a : Option Addr) (n c : Nat) (bs : List Bool) : Prop := n = bs.length ∧ n ≤ c ∧ c ≤ maxLen ∧ (∀ i, i < bs.length → ∃ g o, a = some ⟨g, o, none⟩ ∧ w.cell? ⟨g, o + i, none⟩ = some (.bool (bs.getD i false)) ∧ g < w.heap.size)
theorem BoolsIn.on {w w' : World} {a : Option Addr} {n c : Nat} {bs : List Bool} (h : BoolsIn w a n c bs) (hb : Below w.heap.size w w') : BoolsIn w' a n c bs :=
  ⟨h.1, h.2.1, h.2.2.1, fun i hi => by
    obtain ⟨g, o, e, hc, hg⟩ := h.2.2.2 i hi
    exact ⟨g, o, e, (hb.cell (p := ⟨g, o + i, none⟩) hg).trans hc, Nat.lt_of_lt_of_le hg hb.size⟩⟩
set_option maxRecDepth 100000 in
set_option maxHeartbeats 3000000 in
theorem sha2hashes_walk (ls : List (List UInt8)) (n cap : Nat) (hn : n = ls.length) (pa : Option Addr) (bs : List Bool) (ba : Option Addr) (m d : Nat) (w : World) (hP : Parts w (· < w.heap.size) pa ls) (hBs : BoolsIn w ba m d bs) (hT : Two w) (hls : ls.length ≤ 9223372036854775807) :
    Calls Tryd.prog 6 #[.slice pa n cap, .slice ba m d] w fun e w' => e = .returned (.bool true) ∧ Below w.heap.size w w' := by
  subst hn
  have HP := Lib.hid hP
  have HBS := Lib.hid hBs
  have HT := Lib.hid hT
  have HTL := Lib.hid hT.tab.lt
  have hmd : m ≤ 9223372036854775807 := by have h := hBs.2.1; have h2 := hBs.2.2.1; unfold maxLen at h2; omega
  clear hP hBs hT
  by_cases hfew : fewB 3000 40 ls = true
  · have HF := Lib.hid hfew
    have HLL := Lib.hid (flat_le 3000 40 ls hfew)
    have HL2 := Lib.hid (fewB_true hfew).2
    clear hfew
    go_enter Tryd.func6, Tryd.ntmps6
    go_wp2_with fail
    refine (live_walk _ HT.out).mono ?_
    rintro e w1 ⟨rfl, hb1⟩
    have HB1 := Lib.hid hb1
    clear hb1
    go_wp2_with fail
    refine (few_walk ls _ _ rfl _ _ _ (HP.out.all HB1.out) hls).mono ?_
    rintro e w' ⟨he, rfl⟩
    rw [HF.out] at he
    subst he
    go_wp2_with fail
    refine (new_walk w1 (HT.out.on HB1.out).sta).mono ?_
    rintro e w2 ⟨rfl, hH2, hb2⟩
    have HH2 := Lib.hid hH2
    have HB2 := Lib.hid (HB1.out.trans (hb2.mono HB1.out.size))
    clear hH2 hb2
    go_wp2
    go_loopw [5, 6, 27] (fun x y z wr => ∃ (i GG : Nat) (aa : Option Addr) (na ca : Nat), i ≤ ls.length ∧ x = .pointer (some ⟨GG, 0, none⟩) ∧ y = .slice aa na ca ∧ z = .int .i64 (i : Nat) ∧ OwnB wr w.heap.size (.slice aa na ca) (ls.take i).flatten ∧ HashAt wr GG (ls.take i).flatten ∧ Hid (w.heap.size ≤ GG) ∧ Below w.heap.size w wr) (fun _ _ z _ => ls.length - (intOf z).toNat)
    case atStart => exact ⟨0, _, _, _, _, Nat.zero_le _, rfl, rfl, rfl, OwnB.made w2 [] HB2.out.size (by simp [maxLen]), HH2.out.on (below_one' _ _), HB1.out.size, HB2.out.trans ((below_one' _ _).mono HB2.out.size)⟩
    case round =>
      clear HH2 HB2
      obtain ⟨i, GG, aa, na, ca, hi, rfl, rfl, rfl, hO, hH, HGw, hb⟩ := hrel
      obtain ⟨wo, rfl⟩ : ∃ wo : World, wo = wr := ⟨_, rfl⟩
      by_cases hlt : i < ls.length
      · obtain ⟨pb, po, a2, n2, c2, rfl, _, h3, h4, h5, h6, h7⟩ := HP.out i hlt
        obtain ⟨l, hl⟩ : ∃ l, l = ls.getD i [] := ⟨_, rfl⟩
        rw [← hl] at h4 h6 h7
        have TB := Lib.hid (⟨h4, h5, h6, h7⟩ : Txt w a2 n2 c2 l)
        have hcw := (hb.cell (p := ⟨pb, po + i, none⟩) (block_lt_of_cell h3)).trans h3
        obtain ⟨M0, hM0⟩ : ∃ M, M = (ls.take i).flatten := ⟨_, rfl⟩
        rw [← hM0] at hO hH
        obtain ⟨M, hM⟩ : ∃ M, M = M0 ++ l := ⟨_, rfl⟩
        have HMe := Lib.hid (show M = (ls.take (i + 1)).flatten by rw [hM, hM0, hl, flat_take ls i hlt])
        have HML := Lib.hid (show M.length ≤ 120000 by rw [HMe.out]; exact Nat.le_trans (flat_len ls (i + 1)) HLL.out)
        have HM0 := Lib.hid hM
        have HLl := Lib.hid (show l.length ≤ 120000 ∧ M0.length ≤ 120000 by have h1 := HML.out; rw [hM, List.length_append] at h1; omega)
        have HH := Lib.hid hH
        have HO := Lib.hid hO
        have HB := Lib.hid hb
        clear h3 h4 h5 h6 h7 hl hM0 hM hO hH hb
        go_wp2_with fail
        refine (join1 wo 28 _ rfl (TB.out.on HB.out) (by have := HLl.out; omega)).mono ?_
        rintro e w3 ⟨ao, no, co, rfl, hO3, hb3⟩
        have HO3 := Lib.hid hO3
        have hno : no ≤ 120000 := by have h1 := hO3.len; have h2 := HLl.out; omega
        have HH3 := Lib.hid (HH.out.on hb3)
        have HA3 := Lib.hid (HO.out.on hb3)
        have HB3 := Lib.hid (HB.out.trans (hb3.mono HB.out.size))
        have HGr := Lib.hid HH.out.lt
        have HAr := Lib.hid HO.out.lt
        have HR3 := Lib.hid hb3.size
        clear hO3 hb3
        go_wp2_with fail
        refine (write_one w3 28 _ GG rfl HH3.out HO3.out.txt (fun b o e _ => by have h1 := HO3.out.form; have h2 := HGr.out; obtain ⟨a', c', e', _, _, _, h4, _⟩ := h1; simp only [Value.slice.injEq] at e'; have := (h4 b o (e'.1.symm.trans e)).1; omega) (HT.out.on HB3.out).tab (by have := HGw.out; have := HTL.out; omega) (by have := HLl.out; omega)).mono ?_
        rintro e w4 ⟨rfl, hg4, hH4⟩
        have HO4 := Lib.hid (HO3.out.grown hg4 (own_hash HO3.out HH3.out))
        have HA4 := Lib.hid (HA3.out.grown hg4 (own_hash HA3.out HH3.out))
        have HB4 := Lib.hid (below_grown HB3.out hg4 HGw.out HB3.out.size)
        have HR4 := Lib.hid (Nat.le_trans HR3.out hg4.size)
        have HH4 := Lib.hid (by rw [← HM0.out] at hH4; exact hH4)
        clear hg4 hH4 HO3 HA3 HH3 HB3 HR3
        go_wp2_with fail
        refine (equal_same _ _ _ _ _ _ _ w4 HO4.out.txt (TB.out.on HB4.out)).mono ?_
        rintro e w' ⟨rfl, rfl⟩
        go_wp2
        go_loopw [48] (fun z wi => ∃ (k : Nat) (l' : List UInt8), k ≤ no ∧ z = .int .i64 (k : Nat) ∧ Hid (l'.length = no) ∧ OwnB wi wo.heap.size (.slice ao no co) l' ∧ Below wo.heap.size w4 wi) (fun z _ => no - (intOf z).toNat)
        case atStart => exact ⟨0, l, Nat.zero_le _, rfl, HO4.out.len.symm, HO4.out, Below.refl _ _⟩
        case round =>
          obtain ⟨k, l', hk, rfl, HLk, hOi, hbi⟩ := hrel
          by_cases hkl : k < no
          · obtain ⟨g, o, rfl, hc⟩ := hOi.txt.rd.at (i := k) (by rw [HLk.out]; exact hkl)
            obtain ⟨rfl, hlo, hg, hfr⟩ := hOi.blk_at
            rw [Nat.zero_add] at hc
            obtain ⟨x, hx⟩ : ∃ x, x = l'.getD k 0 := ⟨_, rfl⟩
            rw [← hx] at hc
            have hfk := hfr k
            have hxor := u8_xor x 255
            have hx255 : Value.int .u8 (bits .xor .u8 (x.toNat : Int) 255) = bv (x ^^^ 255) := congrArg (Value.int .u8) hxor
            have HX255 := Lib.hid hx255
            have HOi := Lib.hid hOi
            have HBi := Lib.hid hbi
            have HLO := Lib.hid hlo
            clear hx hfr hOi hbi hxor hx255 hlo hg
            go_wp2
            go_roundw
            case rel =>
              refine ⟨k + 1, l'.set k (x ^^^ 255), by omega, by go_num, ?_, ?_, below_setCell HBi.out HLO.out _⟩
              · show (l'.set k (x ^^^ 255)).length = _
                rw [List.length_set]; exact HLk.out
              · rw [HX255.out]; exact HOi.out.set k (by rw [HLk.out]; exact hkl) _
            case measure => simp [intOf]; omega
          · have HHe := Lib.hid (HH4.out.below hbi HGr.out)
            have HAe := Lib.hid (HA4.out.far hbi HAr.out)
            have HBe := Lib.hid (HB4.out.trans (hbi.mono HB.out.size))
            clear hOi hbi HLk
            go_wp2_with fail
            refine (join2 wr 28 _ rfl HAe.out.txt (TB.out.on HBe.out) (by have := HLl.out; omega)).mono ?_
            rintro e w6 ⟨ab, nb, cb, rfl, hO6, hb6⟩
            have HO6 := Lib.hid (by have h := hO6.mono (lo' := w.heap.size) HBe.out.size; rw [← HM0.out] at h; exact h)
            have HH6 := Lib.hid (HHe.out.on hb6)
            have HB6 := Lib.hid (HBe.out.trans (hb6.mono HBe.out.size))
            clear hO6 hb6
            obtain ⟨aa, haa⟩ : ∃ x, x = ab := ⟨_, rfl⟩
            obtain ⟨na, hna⟩ : ∃ x, x = nb := ⟨_, rfl⟩
            obtain ⟨ca, hca⟩ : ∃ x, x = cb := ⟨_, rfl⟩
            subst haa hna hca
            by_cases him : i < m
            · obtain ⟨g0, o0, rfl, hq0, _⟩ := (HBS.out.on HB6.out).2.2.2 i (by have := HBS.out.1; omega)
              obtain ⟨q, hq⟩ : ∃ q, q = bs.getD i false := ⟨_, rfl⟩
              rw [← hq] at hq0
              clear hq
              cases q
              · have HG := HH6
                have HOall := HO6
                have HBw := HB6
                go_wp2_with fail
                refine (sum_walk M (by have := HML.out; omega) GG _ HG.out (HT.out.on HBw.out).tab (by have := HTL.out; have := HBw.out.size; omega)).mono ?_
                rintro e w5 ⟨rfl, hb5⟩
                have HG5 := Lib.hid (HG.out.on hb5)
                have HO5 := Lib.hid (HOall.out.on hb5)
                have HB5 := Lib.hid (HBw.out.trans (hb5.mono HBw.out.size))
                clear hb5 HG HOall HBw
                go_wp2_with (refine wpList_store_abs rfl 31 (.tmp 12) (.tmp 83) rfl w5.heap.size (barr (sha M)) (by rfl) (by rfl) 31 _ (Blk.new w5 _ _) (by rw [barr_size, sha_len]; exact size_u8x32) (by rw [barr_size, sha_len]; rfl) (barr_one_all _) ?_; intro W9 hW9 p9; have qb := hW9.below (below_one' w5 _) (Nat.le_refl _); have HG := Lib.hid (HG5.out.on qb); have HOall := Lib.hid (HO5.out.on qb); have HBw := Lib.hid (HB5.out.trans (qb.mono HB5.out.size)); have TS := Lib.hid (out32 p9 (sha_len M) (Below.refl _ _)); clear hW9 p9 qb HG5 HO5 HB5)
                have TA := Lib.hid HOall.out.txt
                have HBr := Lib.hid (Below.refl W9.heap.size W9)
                obtain ⟨g12, hg12⟩ : ∃ g, g = w5.heap.size := ⟨_, rfl⟩
                rw [← hg12] at TS
                simp only [← hg12]
                clear hg12
                refine wp_region_held_drew (S := fun w' => Below W9.heap.size W9 w') (by kernel_rfl) (Below.refl _ _).drew (fun _ => ?_)
                have hb : Below W9.heap.size W9 (World.drew W9) := (Below.refl _ _).drew
                have HBr := Lib.hid (HBr.out.trans (hb.mono HBr.out.size))
                have TS := Lib.hid (TS.out.on hb)
                have TA := Lib.hid (TA.out.on hb)
                have HG := Lib.hid (HG.out.on hb)
                have HBw := Lib.hid (HBw.out.trans (hb.mono HBw.out.size))
                have HOall := Lib.hid (HOall.out.on hb)
                clear hb
                generalize World.drew W9 = v0 at *
                refine wpAnyH_take (i := 0) (oi := ⟨some 84, .slice 31 (.tmp 12) none none none, 28, _, _, none⟩) (v := .slice (some ⟨g12, 0, none⟩) 32 32) rfl (by kernel_rfl) (by kernel_rfl) (by kernel_rfl) (fun _ _ _ h => h) (Or.inl ⟨by rfl, fun _ _ => by go_simp⟩) HBr.out ?_
                refine wpAnyH_take (i := 1) (oi := ⟨some 85, .move (.tmp 6), 28, _, _, none⟩) (v := .slice aa na ca) rfl (by kernel_rfl) (by kernel_rfl) (by kernel_rfl) (fun _ _ _ h => h) (Or.inl ⟨by rfl, fun _ _ => by go_simp⟩) HBr.out ?_
                try simp only [Act.put, List.setIfInBounds_toArray, List.set_cons_succ, List.set_cons_zero]
                refine wpAnyH_ready (rs := [2]) (by kernel_rfl) (by simp) ?_
                refine AllReadyH.cons (o := ⟨some 86, .call { callee := .value (.func 35), args := #[.tmp 85], argTypes := #[28] }, 28, _, _, none⟩) rfl (fun K hK => ?_) AllReadyH.nil
                go_simp
                refine (rsum_walk M _ _ _ v0 TA.out (by have := HML.out; omega)).mono ?_
                rintro e v1 ⟨ar, cr, rfl, hO, hb⟩
                have HBr := Lib.hid (HBr.out.trans (hb.mono HBr.out.size))
                have TS := Lib.hid (TS.out.on hb)
                have TA := Lib.hid (TA.out.on hb)
                have HG := Lib.hid (HG.out.on hb)
                have HBw := Lib.hid (HBw.out.trans (hb.mono HBw.out.size))
                have HOall := Lib.hid (HOall.out.on hb)
                have TR := Lib.hid (hO.txt)
                clear hb hO
                refine hK _ _ HBr.out (fun _ => ?_)
                clear hK K
                try simp only [Act.put, List.setIfInBounds_toArray, List.set_cons_succ, List.set_cons_zero]
                refine wpAnyH_ready (rs := [3]) (by kernel_rfl) (by simp) ?_
                refine AllReadyH.cons (o := ⟨some 87, .call { callee := .value (.func 38), args := #[.tmp 84, .tmp 86], argTypes := #[28, 28] }, 4, _, _, none⟩) rfl (fun K hK => ?_) AllReadyH.nil
                go_simp
                refine (equal_same _ _ _ _ _ _ _ v1 TS.out TR.out).mono ?_
                rintro e w' ⟨rfl, rfl⟩
                refine hK _ _ HBr.out (fun _ => ?_)
                clear hK K
                refine wpAnyH_take (i := 4) (oi := ⟨some 88, .unOp .not 4 (.tmp 87), 4, _, _, none⟩) (v := .bool false) rfl (by kernel_rfl) (by kernel_rfl) (by kernel_rfl) (fun _ _ _ h => h) (Or.inl ⟨by rfl, fun _ _ => by go_simp⟩) HBr.out ?_
                refine wpAnyH_take (i := 5) (oi := ⟨some 89, .move (.tmp 88), 4, _, _, none⟩) (v := .bool false) rfl (by kernel_rfl) (by kernel_rfl) (by kernel_rfl) (fun _ _ _ h => h) (Or.inl ⟨by rfl, fun _ _ => by go_simp⟩) HBr.out ?_
                refine wpAnyH_take (i := 6) (oi := ⟨some 90, .move (.tmp 5), 33, _, _, some (5, false)⟩) (v := .pointer (some ⟨GG, 0, none⟩)) rfl (by kernel_rfl) (by kernel_rfl) (by kernel_rfl) (fun _ _ _ h => h) (Or.inl ⟨by rfl, fun _ _ => by go_simp⟩) HBr.out ?_
                refine wpAnyH_take (i := 8) (oi := ⟨some 92, .move (.tmp 6), 28, _, _, some (5, false)⟩) (v := .slice aa na ca) rfl (by kernel_rfl) (by kernel_rfl) (by kernel_rfl) (fun _ _ _ h => h) (Or.inl ⟨by rfl, fun _ _ => by go_simp⟩) HBr.out ?_
                refine wpAnyH_take (i := 9) (oi := ⟨some 93, .call { callee := .builtin .len, args := #[.tmp 92], argTypes := #[28] }, 3, _, _, some (5, false)⟩) (v := .int .i64 (na : Nat)) rfl (by kernel_rfl) (by kernel_rfl) (by kernel_rfl) (fun _ _ _ h => h) (Or.inl ⟨by rfl, fun _ _ => by go_simp⟩) HBr.out ?_
                try simp only [Act.put, List.setIfInBounds_toArray, List.set_cons_succ, List.set_cons_zero]
                refine wpAnyH_ready (rs := [7]) (by kernel_rfl) (by simp) ?_
                refine AllReadyH.cons (o := ⟨some 91, .call { callee := .value (.func 34), args := #[.tmp 90], argTypes := #[33] }, 3, _, _, some (5, false)⟩) rfl (fun K hK => ?_) AllReadyH.nil
                go_simp
                refine (len_walk M GG v1 HG.out).mono ?_
                rintro e w' ⟨he, rfl⟩
                rw [← TA.out.len] at he
                subst he
                refine hK _ _ HBr.out (fun _ => ?_)
                clear hK K
                refine wpAnyH_take (i := 10) (oi := ⟨some 94, .binOp .neq 3 (.tmp 91) (.tmp 93) 3, 4, _, _, some (5, false)⟩) (v := .bool false) rfl (by kernel_rfl) (by kernel_rfl) (by kernel_rfl) (fun _ _ _ h => h) (Or.inl ⟨by rfl, fun _ _ => by go_simp⟩) HBr.out ?_
                refine wpAnyH_take (i := 11) (oi := ⟨some 95, .pick (.tmp 89) (.const (.bool true)) (.tmp 94), 4, _, _, none⟩) (v := .bool false) rfl (by kernel_rfl) (by kernel_rfl) (by kernel_rfl) (fun _ _ _ h => h) (Or.inl ⟨by rfl, fun _ _ => by go_simp⟩) HBr.out ?_
                try simp only [Act.put, List.setIfInBounds_toArray, List.set_cons_succ, List.set_cons_zero]
                refine wpAnyH_done (by kernel_rfl) ?_ _
                go_wp2
                go_roundw
                case rel => exact ⟨i + 1, GG, aa, na, ca, by omega, rfl, rfl, by go_num, by rw [← HMe.out]; exact HOall.out, by rw [← HMe.out]; exact HG.out, HGw.out, HBw.out⟩
                case measure => simp [intOf]; omega
              · go_wp2_with fail
                refine (clone_walk M GG w6 HH6.out).mono ?_
                rintro e w7 ⟨rfl, hH7, hb7⟩
                have HG7 := Lib.hid hH7
                have HH7 := Lib.hid (HH6.out.on hb7)
                have HO7 := Lib.hid (HO6.out.on hb7)
                have HB7 := Lib.hid (HB6.out.trans (hb7.mono HB6.out.size))
                have HNE := Lib.hid (show w6.heap.size ≠ GG by have := HH6.out.lt; omega)
                have HGw2 := Lib.hid (show w.heap.size ≤ w6.heap.size from HB6.out.size)
                have hcA := conv_const (P := Tryd.prog) w7 28 5 #[.int .u8 111, .int .u8 116, .int .u8 104, .int .u8 101, .int .u8 114] 5 5 w7.heap.size rfl Tryd.underlying28 Tryd.underlying5
                clear hH7 hb7
                go_wp2_with fail
                refine (write_const w7 28 GG HH7.out [111, 116, 104, 101, 114] (5, 6) 5 rfl (HT.out.on HB7.out).tab (by have := HGw.out; have := HTL.out; omega) (by have := HML.out; simp; omega)).mono ?_
                rintro e w8 ⟨rfl, hg8, _⟩
                obtain ⟨G2, hG2⟩ : ∃ g, g = w6.heap.size := ⟨_, rfl⟩
                rw [← hG2] at HG7 HNE HGw2
                have HG := Lib.hid (HG7.out.grown hg8 (by simpa using HNE.out))
                have HOall := Lib.hid (HO7.out.grown hg8 (own_hash HO7.out HH7.out))
                have HBw := Lib.hid (below_grown HB7.out hg8 HGw.out HB7.out.size)
                clear hg8 hcA
                simp only [← hG2]
                clear hG2
                go_wp2_with fail
                refine (sum_walk M (by have := HML.out; omega) G2 _ HG.out (HT.out.on HBw.out).tab (by have := HTL.out; have := HBw.out.size; omega)).mono ?_
                rintro e w5 ⟨rfl, hb5⟩
                have HG5 := Lib.hid (HG.out.on hb5)
                have HO5 := Lib.hid (HOall.out.on hb5)
                have HB5 := Lib.hid (HBw.out.trans (hb5.mono HBw.out.size))
                clear hb5 HG HOall HBw
                go_wp2_with (refine wpList_store_abs rfl 31 (.tmp 12) (.tmp 83) rfl w5.heap.size (barr (sha M)) (by rfl) (by rfl) 31 _ (Blk.new w5 _ _) (by rw [barr_size, sha_len]; exact size_u8x32) (by rw [barr_size, sha_len]; rfl) (barr_one_all _) ?_; intro W9 hW9 p9; have qb := hW9.below (below_one' w5 _) (Nat.le_refl _); have HG := Lib.hid (HG5.out.on qb); have HOall := Lib.hid (HO5.out.on qb); have HBw := Lib.hid (HB5.out.trans (qb.mono HB5.out.size)); have TS := Lib.hid (out32 p9 (sha_len M) (Below.refl _ _)); clear hW9 p9 qb HG5 HO5 HB5)
                have TA := Lib.hid HOall.out.txt
                have HBr := Lib.hid (Below.refl W9.heap.size W9)
                obtain ⟨g12, hg12⟩ : ∃ g, g = w5.heap.size := ⟨_, rfl⟩
                rw [← hg12] at TS
                simp only [← hg12]
                clear hg12
                refine wp_region_held_drew (S := fun w' => Below W9.heap.size W9 w') (by kernel_rfl) (Below.refl _ _).drew (fun _ => ?_)
                have hb : Below W9.heap.size W9 (World.drew W9) := (Below.refl _ _).drew
                have HBr := Lib.hid (HBr.out.trans (hb.mono HBr.out.size))
                have TS := Lib.hid (TS.out.on hb)
                have TA := Lib.hid (TA.out.on hb)
                have HG := Lib.hid (HG.out.on hb)
                have HBw := Lib.hid (HBw.out.trans (hb.mono HBw.out.size))
                have HOall := Lib.hid (HOall.out.on hb)
                clear hb
                generalize World.drew W9 = v0 at *
                refine wpAnyH_take (i := 0) (oi := ⟨some 84, .slice 31 (.tmp 12) none none none, 28, _, _, none⟩) (v := .slice (some ⟨g12, 0, none⟩) 32 32) rfl (by kernel_rfl) (by kernel_rfl) (by kernel_rfl) (fun _ _ _ h => h) (Or.inl ⟨by rfl, fun _ _ => by go_simp⟩) HBr.out ?_
                refine wpAnyH_take (i := 1) (oi := ⟨some 85, .move (.tmp 6), 28, _, _, none⟩) (v := .slice aa na ca) rfl (by kernel_rfl) (by kernel_rfl) (by kernel_rfl) (fun _ _ _ h => h) (Or.inl ⟨by rfl, fun _ _ => by go_simp⟩) HBr.out ?_
                try simp only [Act.put, List.setIfInBounds_toArray, List.set_cons_succ, List.set_cons_zero]
                refine wpAnyH_ready (rs := [2]) (by kernel_rfl) (by simp) ?_
                refine AllReadyH.cons (o := ⟨some 86, .call { callee := .value (.func 35), args := #[.tmp 85], argTypes := #[28] }, 28, _, _, none⟩) rfl (fun K hK => ?_) AllReadyH.nil
                go_simp
                refine (rsum_walk M _ _ _ v0 TA.out (by have := HML.out; omega)).mono ?_
                rintro e v1 ⟨ar, cr, rfl, hO, hb⟩
                have HBr := Lib.hid (HBr.out.trans (hb.mono HBr.out.size))
                have TS := Lib.hid (TS.out.on hb)
                have TA := Lib.hid (TA.out.on hb)
                have HG := Lib.hid (HG.out.on hb)
                have HBw := Lib.hid (HBw.out.trans (hb.mono HBw.out.size))
                have HOall := Lib.hid (HOall.out.on hb)
                have TR := Lib.hid (hO.txt)
                clear hb hO
                refine hK _ _ HBr.out (fun _ => ?_)
                clear hK K
                try simp only [Act.put, List.setIfInBounds_toArray, List.set_cons_succ, List.set_cons_zero]
                refine wpAnyH_ready (rs := [3]) (by kernel_rfl) (by simp) ?_
                refine AllReadyH.cons (o := ⟨some 87, .call { callee := .value (.func 38), args := #[.tmp 84, .tmp 86], argTypes := #[28, 28] }, 4, _, _, none⟩) rfl (fun K hK => ?_) AllReadyH.nil
                go_simp
                refine (equal_same _ _ _ _ _ _ _ v1 TS.out TR.out).mono ?_
                rintro e w' ⟨rfl, rfl⟩
                refine hK _ _ HBr.out (fun _ => ?_)
                clear hK K
                refine wpAnyH_take (i := 4) (oi := ⟨some 88, .unOp .not 4 (.tmp 87), 4, _, _, none⟩) (v := .bool false) rfl (by kernel_rfl) (by kernel_rfl) (by kernel_rfl) (fun _ _ _ h => h) (Or.inl ⟨by rfl, fun _ _ => by go_simp⟩) HBr.out ?_
                refine wpAnyH_take (i := 5) (oi := ⟨some 89, .move (.tmp 88), 4, _, _, none⟩) (v := .bool false) rfl (by kernel_rfl) (by kernel_rfl) (by kernel_rfl) (fun _ _ _ h => h) (Or.inl ⟨by rfl, fun _ _ => by go_simp⟩) HBr.out ?_
                refine wpAnyH_take (i := 6) (oi := ⟨some 90, .move (.tmp 5), 33, _, _, some (5, false)⟩) (v := .pointer (some ⟨G2, 0, none⟩)) rfl (by kernel_rfl) (by kernel_rfl) (by kernel_rfl) (fun _ _ _ h => h) (Or.inl ⟨by rfl, fun _ _ => by go_simp⟩) HBr.out ?_
                refine wpAnyH_take (i := 8) (oi := ⟨some 92, .move (.tmp 6), 28, _, _, some (5, false)⟩) (v := .slice aa na ca) rfl (by kernel_rfl) (by kernel_rfl) (by kernel_rfl) (fun _ _ _ h => h) (Or.inl ⟨by rfl, fun _ _ => by go_simp⟩) HBr.out ?_
                refine wpAnyH_take (i := 9) (oi := ⟨some 93, .call { callee := .builtin .len, args := #[.tmp 92], argTypes := #[28] }, 3, _, _, some (5, false)⟩) (v := .int .i64 (na : Nat)) rfl (by kernel_rfl) (by kernel_rfl) (by kernel_rfl) (fun _ _ _ h => h) (Or.inl ⟨by rfl, fun _ _ => by go_simp⟩) HBr.out ?_
                try simp only [Act.put, List.setIfInBounds_toArray, List.set_cons_succ, List.set_cons_zero]
                refine wpAnyH_ready (rs := [7]) (by kernel_rfl) (by simp) ?_
                refine AllReadyH.cons (o := ⟨some 91, .call { callee := .value (.func 34), args := #[.tmp 90], argTypes := #[33] }, 3, _, _, some (5, false)⟩) rfl (fun K hK => ?_) AllReadyH.nil
                go_simp
                refine (len_walk M G2 v1 HG.out).mono ?_
                rintro e w' ⟨he, rfl⟩
                rw [← TA.out.len] at he
                subst he
                refine hK _ _ HBr.out (fun _ => ?_)
                clear hK K
                refine wpAnyH_take (i := 10) (oi := ⟨some 94, .binOp .neq 3 (.tmp 91) (.tmp 93) 3, 4, _, _, some (5, false)⟩) (v := .bool false) rfl (by kernel_rfl) (by kernel_rfl) (by kernel_rfl) (fun _ _ _ h => h) (Or.inl ⟨by rfl, fun _ _ => by go_simp⟩) HBr.out ?_
                refine wpAnyH_take (i := 11) (oi := ⟨some 95, .pick (.tmp 89) (.const (.bool true)) (.tmp 94), 4, _, _, none⟩) (v := .bool false) rfl (by kernel_rfl) (by kernel_rfl) (by kernel_rfl) (fun _ _ _ h => h) (Or.inl ⟨by rfl, fun _ _ => by go_simp⟩) HBr.out ?_
                try simp only [Act.put, List.setIfInBounds_toArray, List.set_cons_succ, List.set_cons_zero]
                refine wpAnyH_done (by kernel_rfl) ?_ _
                go_wp2
                go_roundw
                case rel => exact ⟨i + 1, G2, aa, na, ca, by omega, rfl, rfl, by go_num, by rw [← HMe.out]; exact HOall.out, by rw [← HMe.out]; exact HG.out, HGw2.out, HBw.out⟩
                case measure => simp [intOf]; omega
            · have him2 : ¬ (i : Int) < (m : Int) := by omega
              have HG := HH6
              have HOall := HO6
              have HBw := HB6
              go_wp2_with fail
              refine (sum_walk M (by have := HML.out; omega) GG _ HG.out (HT.out.on HBw.out).tab (by have := HTL.out; have := HBw.out.size; omega)).mono ?_
              rintro e w5 ⟨rfl, hb5⟩
              have HG5 := Lib.hid (HG.out.on hb5)
              have HO5 := Lib.hid (HOall.out.on hb5)
              have HB5 := Lib.hid (HBw.out.trans (hb5.mono HBw.out.size))
              clear hb5 HG HOall HBw
              go_wp2_with (refine wpList_store_abs rfl 31 (.tmp 12) (.tmp 83) rfl w5.heap.size (barr (sha M)) (by rfl) (by rfl) 31 _ (Blk.new w5 _ _) (by rw [barr_size, sha_len]; exact size_u8x32) (by rw [barr_size, sha_len]; rfl) (barr_one_all _) ?_; intro W9 hW9 p9; have qb := hW9.below (below_one' w5 _) (Nat.le_refl _); have HG := Lib.hid (HG5.out.on qb); have HOall := Lib.hid (HO5.out.on qb); have HBw := Lib.hid (HB5.out.trans (qb.mono HB5.out.size)); have TS := Lib.hid (out32 p9 (sha_len M) (Below.refl _ _)); clear hW9 p9 qb HG5 HO5 HB5)
              have TA := Lib.hid HOall.out.txt
              have HBr := Lib.hid (Below.refl W9.heap.size W9)
              obtain ⟨g12, hg12⟩ : ∃ g, g = w5.heap.size := ⟨_, rfl⟩
              rw [← hg12] at TS
              simp only [← hg12]
              clear hg12
              refine wp_region_held_drew (S := fun w' => Below W9.heap.size W9 w') (by kernel_rfl) (Below.refl _ _).drew (fun _ => ?_)
              have hb : Below W9.heap.size W9 (World.drew W9) := (Below.refl _ _).drew
              have HBr := Lib.hid (HBr.out.trans (hb.mono HBr.out.size))
              have TS := Lib.hid (TS.out.on hb)
              have TA := Lib.hid (TA.out.on hb)
              have HG := Lib.hid (HG.out.on hb)
              have HBw := Lib.hid (HBw.out.trans (hb.mono HBw.out.size))
              have HOall := Lib.hid (HOall.out.on hb)
              clear hb
              generalize World.drew W9 = v0 at *
              refine wpAnyH_take (i := 0) (oi := ⟨some 84, .slice 31 (.tmp 12) none none none, 28, _, _, none⟩) (v := .slice (some ⟨g12, 0, none⟩) 32 32) rfl (by kernel_rfl) (by kernel_rfl) (by kernel_rfl) (fun _ _ _ h => h) (Or.inl ⟨by rfl, fun _ _ => by go_simp⟩) HBr.out ?_
              refine wpAnyH_take (i := 1) (oi := ⟨some 85, .move (.tmp 6), 28, _, _, none⟩) (v := .slice aa na ca) rfl (by kernel_rfl) (by kernel_rfl) (by kernel_rfl) (fun _ _ _ h => h) (Or.inl ⟨by rfl, fun _ _ => by go_simp⟩) HBr.out ?_
              try simp only [Act.put, List.setIfInBounds_toArray, List.set_cons_succ, List.set_cons_zero]
              refine wpAnyH_ready (rs := [2]) (by kernel_rfl) (by simp) ?_
              refine AllReadyH.cons (o := ⟨some 86, .call { callee := .value (.func 35), args := #[.tmp 85], argTypes := #[28] }, 28, _, _, none⟩) rfl (fun K hK => ?_) AllReadyH.nil
              go_simp
              refine (rsum_walk M _ _ _ v0 TA.out (by have := HML.out; omega)).mono ?_
              rintro e v1 ⟨ar, cr, rfl, hO, hb⟩
              have HBr := Lib.hid (HBr.out.trans (hb.mono HBr.out.size))
              have TS := Lib.hid (TS.out.on hb)
              have TA := Lib.hid (TA.out.on hb)
              have HG := Lib.hid (HG.out.on hb)
              have HBw := Lib.hid (HBw.out.trans (hb.mono HBw.out.size))
              have HOall := Lib.hid (HOall.out.on hb)
              have TR := Lib.hid (hO.txt)
              clear hb hO
              refine hK _ _ HBr.out (fun _ => ?_)
              clear hK K
              try simp only [Act.put, List.setIfInBounds_toArray, List.set_cons_succ, List.set_cons_zero]
              refine wpAnyH_ready (rs := [3]) (by kernel_rfl) (by simp) ?_
              refine AllReadyH.cons (o := ⟨some 87, .call { callee := .value (.func 38), args := #[.tmp 84, .tmp 86], argTypes := #[28, 28] }, 4, _, _, none⟩) rfl (fun K hK => ?_) AllReadyH.nil
              go_simp
              refine (equal_same _ _ _ _ _ _ _ v1 TS.out TR.out).mono ?_
              rintro e w' ⟨rfl, rfl⟩
              refine hK _ _ HBr.out (fun _ => ?_)
              clear hK K
              refine wpAnyH_take (i := 4) (oi := ⟨some 88, .unOp .not 4 (.tmp 87), 4, _, _, none⟩) (v := .bool false) rfl (by kernel_rfl) (by kernel_rfl) (by kernel_rfl) (fun _ _ _ h => h) (Or.inl ⟨by rfl, fun _ _ => by go_simp⟩) HBr.out ?_
              refine wpAnyH_take (i := 5) (oi := ⟨some 89, .move (.tmp 88), 4, _, _, none⟩) (v := .bool false) rfl (by kernel_rfl) (by kernel_rfl) (by kernel_rfl) (fun _ _ _ h => h) (Or.inl ⟨by rfl, fun _ _ => by go_simp⟩) HBr.out ?_
              refine wpAnyH_take (i := 6) (oi := ⟨some 90, .move (.tmp 5), 33, _, _, some (5, false)⟩) (v := .pointer (some ⟨GG, 0, none⟩)) rfl (by kernel_rfl) (by kernel_rfl) (by kernel_rfl) (fun _ _ _ h => h) (Or.inl ⟨by rfl, fun _ _ => by go_simp⟩) HBr.out ?_
              refine wpAnyH_take (i := 8) (oi := ⟨some 92, .move (.tmp 6), 28, _, _, some (5, false)⟩) (v := .slice aa na ca) rfl (by kernel_rfl) (by kernel_rfl) (by kernel_rfl) (fun _ _ _ h => h) (Or.inl ⟨by rfl, fun _ _ => by go_simp⟩) HBr.out ?_
              refine wpAnyH_take (i := 9) (oi := ⟨some 93, .call { callee := .builtin .len, args := #[.tmp 92], argTypes := #[28] }, 3, _, _, some (5, false)⟩) (v := .int .i64 (na : Nat)) rfl (by kernel_rfl) (by kernel_rfl) (by kernel_rfl) (fun _ _ _ h => h) (Or.inl ⟨by rfl, fun _ _ => by go_simp⟩) HBr.out ?_
              try simp only [Act.put, List.setIfInBounds_toArray, List.set_cons_succ, List.set_cons_zero]
              refine wpAnyH_ready (rs := [7]) (by kernel_rfl) (by simp) ?_
              refine AllReadyH.cons (o := ⟨some 91, .call { callee := .value (.func 34), args := #[.tmp 90], argTypes := #[33] }, 3, _, _, some (5, false)⟩) rfl (fun K hK => ?_) AllReadyH.nil
              go_simp
              refine (len_walk M GG v1 HG.out).mono ?_
              rintro e w' ⟨he, rfl⟩
              rw [← TA.out.len] at he
              subst he
              refine hK _ _ HBr.out (fun _ => ?_)
              clear hK K
              refine wpAnyH_take (i := 10) (oi := ⟨some 94, .binOp .neq 3 (.tmp 91) (.tmp 93) 3, 4, _, _, some (5, false)⟩) (v := .bool false) rfl (by kernel_rfl) (by kernel_rfl) (by kernel_rfl) (fun _ _ _ h => h) (Or.inl ⟨by rfl, fun _ _ => by go_simp⟩) HBr.out ?_
              refine wpAnyH_take (i := 11) (oi := ⟨some 95, .pick (.tmp 89) (.const (.bool true)) (.tmp 94), 4, _, _, none⟩) (v := .bool false) rfl (by kernel_rfl) (by kernel_rfl) (by kernel_rfl) (fun _ _ _ h => h) (Or.inl ⟨by rfl, fun _ _ => by go_simp⟩) HBr.out ?_
              try simp only [Act.put, List.setIfInBounds_toArray, List.set_cons_succ, List.set_cons_zero]
              refine wpAnyH_done (by kernel_rfl) ?_ _
              go_wp2
              go_roundw
              case rel => exact ⟨i + 1, GG, aa, na, ca, by omega, rfl, rfl, by go_num, by rw [← HMe.out]; exact HOall.out, by rw [← HMe.out]; exact HG.out, HGw.out, HBw.out⟩
              case measure => simp [intOf]; omega
      · have HB := Lib.hid hb
        clear hO hH hb
        go_wp2
        go_ret
        exact ⟨rfl, HB.out⟩
  · have HF := Lib.hid (show fewB 3000 40 ls = false by simpa using hfew)
    clear hfew
    go_enter Tryd.func6, Tryd.ntmps6
    go_wp2_with fail
    refine (live_walk _ HT.out).mono ?_
    rintro e w1 ⟨rfl, hb1⟩
    have HB1 := Lib.hid hb1
    clear hb1
    go_wp2_with fail
    refine (few_walk ls _ _ rfl _ _ _ (HP.out.all HB1.out) hls).mono ?_
    rintro e w' ⟨he, rfl⟩
    rw [HF.out] at he
    subst he
    go_wp2_with fail
    refine (live_again HT.out HB1.out).mono ?_
    rintro e w2 ⟨rfl, hb2⟩
    go_wp2
    go_ret
    exact ⟨rfl, hb2⟩
end Go.Proofs.YtgbahfggnbpnmaaDoor
