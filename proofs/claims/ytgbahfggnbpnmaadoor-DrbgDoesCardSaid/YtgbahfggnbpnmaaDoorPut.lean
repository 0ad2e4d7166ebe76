import Derived.Test.YtgbahfggnbpnmaaDoorHashP
import Derived.Test.YtgbahfggnbpnmaaDoorCompr
/-
  The walk of (*sha2.Hash).put.
-/
namespace Go.Proofs.YtgbahfggnbpnmaaDoor
open Go.RowKit

/-- The block g is a Hash that has taken these bytes in. -/
def HashAt (w : World) (g : Nat) (m : List UInt8) : Prop := ∃ st rest held, HashIs m st rest held ∧ Blk w g (hcells st rest held m.length) 51
def slen : Value → Nat
  | .slice _ n _ => n
  | _ => 0
theorem size_u8 : (Tryd.prog.info? 5).map (·.size) = some 1 := by kernel_rfl
theorem bv_one (l : List UInt8) : ∀ v ∈ l.map bv, v.oneCell' = true := by
  intro v hv; obtain ⟨x, _, rfl⟩ := List.mem_map.1 hv; rfl

theorem Rd.grown' {w w' : World} {r : Option Nat} {a : Option Addr} {xs : List Value} (h : Rd w a xs) (hb : w.grownBy w' r) (hr : 0 < xs.length → ∀ g o, a = some ⟨g, o, none⟩ → some g ≠ r) : Rd w' a xs := by
  rcases Nat.eq_zero_or_pos xs.length with h0 | h0
  · intro i hi; omega
  · exact h.grown hb (hr h0)
theorem RdB.cut {w : World} {a : Option Addr} {l : List UInt8} {k : Nat} (h : RdB w a (l.drop k)) (hk : k < l.length) (c : Nat) : RdB w (a.map fun x => x.add c) (l.drop (k + c)) := by
  obtain ⟨b, o, rfl, _⟩ := h.at (i := 0) (by simp; omega)
  simp only [Option.map_some, Addr.add_mid]
  have := Rd.drop h c
  rw [← List.map_drop, List.drop_drop] at this
  exact this
theorem RdB.cut_ne {w : World} {a : Option Addr} {l : List UInt8} {k g : Nat} (h : RdB w a (l.drop k)) (hk : k < l.length) (c : Nat) (hn : ∀ b o, a = some ⟨b, o, none⟩ → b ≠ g) : ∀ b o, (a.map fun x => x.add c) = some ⟨b, o, none⟩ → b ≠ g := by
  obtain ⟨b, o, rfl, _⟩ := h.at (i := 0) (by simp; omega)
  intro b' o' e
  simp only [Option.map_some, Addr.add_mid, Option.some.injEq, Addr.mk.injEq] at e
  rw [← e.1]; exact hn b o rfl
theorem take_add8 (l : List UInt8) (k c : Nat) : l.take (k + c) = l.take k ++ (l.drop k).take c := List.take_add

set_option maxRecDepth 100000 in
set_option maxHeartbeats 2000000 in
theorem put_walk (m : List UInt8) (st : List UInt32) (rest : List UInt8) (held : Nat) (hH : HashIs m st rest held) (l : List UInt8) (n cap : Nat) (hn : n = l.length) (hcap : n ≤ cap) (a : Option Addr) (g : Nat) (w : World)
    (hB : Blk w g (hcells st rest held m.length) 51) (hR : RdB w a l) (hne : ∀ b o, a = some ⟨b, o, none⟩ → 0 < l.length → b ≠ g) (hT : Tab w) (hgt : g ≠ 0) (hlen : m.length + l.length ≤ 4611686018427387904) :
    Calls Tryd.prog 99 #[.pointer (some ⟨g, 0, none⟩), .slice a n cap] w fun e w' => e = .returned (.tuple #[]) ∧ w.grownBy w' (some g) ∧ HashAt w' g (m ++ l) := by
  subst hn
  have c4 := hB.cell 74 (hcells_total hH.stl hH.restl)
  have f4 := hB.free 74
  have HH := Lib.hid hH
  have HT := Lib.hid hT
  have HR := Lib.hid hR
  have HN := Lib.hid hne
  clear hH hT hR hne
  go_enter Tryd.func99, Tryd.ntmps99
  go_wp2
  go_loopw [1] (fun v wr => ∃ k a' cp, k ≤ l.length ∧ v = .slice a' (l.length - k) cp ∧ l.length - k ≤ cp ∧ RdB wr a' (l.drop k) ∧ (∀ b o, a' = some ⟨b, o, none⟩ → k < l.length → b ≠ g) ∧
      (∃ st rest held, HashIs (m ++ l.take k) st rest held ∧ Blk wr g (hcells st rest held (m.length + l.length)) 51) ∧ w.grownBy wr (some g)) (fun v _ => slen v)
  case atStart =>
    have e := hB.set 74 (.int .i64 ((m.length : Int) + l.length))
    rw [hcells_set_total HH.out.stl HH.out.restl] at e
    have hg0 : w.grownBy w (some g) := ⟨rfl, rfl, rfl, Nat.le_refl _, fun _ _ _ => rfl⟩
    exact ⟨0, a, cap, Nat.zero_le _, rfl, hcap, Rd.grown' HR.out (grownBy_set hg0 _ _) (fun hl b o h => by have := HN.out b o h (by simpa using hl); simpa using this), HN.out, ⟨st, rest, held, by simpa using HH.out, e⟩, grownBy_set hg0 _ _⟩
  case round =>
    obtain ⟨k, a', cp, hk, rfl, hcp, hr, hn', ⟨st', rest', held', hh, hb⟩, hgr⟩ := hrel
    clear c4 f4
    have HR' := Lib.hid hr
    have HN' := Lib.hid hn'
    have HH' := Lib.hid hh
    clear hr hn'
    have h64 := hh.lt
    by_cases hlt : k < l.length
    · have c3 := hb.cell 73 (hcells_held hh.stl hh.restl)
      clear hh
      have i1 : (0 : Int) ≤ (held' : Int) ∧ (held' : Int) ≤ 64 := by omega
      have i2 : ¬ (64 : Nat) = held' := by omega
      go_wp2
      refine wp_region_still_tail 9 (by kernel_rfl) (by kernel_rfl) ?_
      simp only [List.take_succ_cons, List.take_zero, List.drop_succ_cons, List.drop_zero]
      repeat (refine wpStill_step (fun K hK => ?_); go_simp; refine hK _ ?_; clear hK K)
      refine wpStill_nil ?_
      change wpList _ _ _ _ _ wr.drew
      obtain ⟨c, hc⟩ : ∃ c, c = min (64 - held') (l.length - k) := ⟨_, rfl⟩
      have hcl : ((l.drop k).take c).length = c := by simp; omega
      have hc1 : 1 ≤ c ∧ held' + c ≤ 64 ∧ k + c ≤ l.length := by omega
      have HC := Lib.hid hc
      have hbd : Blk wr.drew g (hcells st' rest' (↑held') (↑m.length + ↑l.length)) 51 := hb
      have HCL := Lib.hid hcl
      clear hc hcl
      refine wpList_copy_abs rfl (.tmp 24) (.tmp 25) 28 28 rfl 5 Tryd.underlying28 size_u8 (some ⟨g, 9 + held', none⟩) a' (64 - held') (64 - held') (l.length - k) cp (by rfl) (by rfl) g (9 + held') hbd (((l.drop k).take c).map bv)
        (by rw [List.length_map, HCL.out, HC.out]; omega) (fun _ => rfl) ?_ (by rw [List.length_map, HCL.out, hcells_size HH'.out.stl HH'.out.restl]; omega) (bv_one _) c (by rw [List.length_map, HCL.out]) ?_
      · have := Rd.take HR'.out c
        rw [← List.map_take] at this
        exact this
      intro W hW hb2
      rw [hcells_splice_rest HH'.out.stl HH'.out.restl held' _ (by rw [HCL.out]; omega)] at hb2
      have hgr2 := hW.grown (grownBy_drew hgr)
      have hR2 : RdB W a' (l.drop k) := Rd.grown HR'.out (hW.grown ⟨rfl, rfl, rfl, Nat.le_refl _, fun _ _ _ => rfl⟩) (fun b o h => by have := HN'.out b o h hlt; simpa using this)
      replace hR2 := Lib.hid hR2
      clear hW hb hbd hgr c3
      obtain ⟨rest2, HR2⟩ : ∃ r, Hid (r = splice rest' held' ((l.drop k).take c)) := ⟨_, rfl⟩
      rw [← HR2.out] at hb2
      by_cases hfull : held' + c = 64
      · have hH2 := HH'.out.step_eq ((l.drop k).take c) (by rw [HCL.out]; exact hfull)
        rw [← HR2.out] at hH2
        have l64 : rest2.length = 64 := hH2.restl
        have c3 := hb2.cell 73 (hcells_held HH'.out.stl l64)
        have f3 := hb2.free 73
        replace l64 := Lib.hid l64
        replace hH2 := Lib.hid hH2
        have t1 : ((held' : Int) + (c : Int) == 64) = true := by simp; omega
        have hb3 := hb2.set 73 (.int .i64 ((held' : Int) + (c : Int)))
        rw [hcells_set_held HH'.out.stl l64.out] at hb3
        have hgr3 := grownBy_set hgr2 73 (.int .i64 ((held' : Int) + (c : Int)))
        have hR3 : RdB (W.setCell ⟨g, 73, none⟩ (.int .i64 ((held' : Int) + (c : Int)))) a' (l.drop k) := Rd.grown hR2.out (grownBy_set (grownBy_refl W _) 73 _) (fun b o h => by have := HN'.out b o h hlt; simpa using this)
        replace hR3 := Lib.hid hR3
        have hT3 : Tab (W.setCell ⟨g, 73, none⟩ (.int .i64 ((held' : Int) + (c : Int)))) := HT.out.grown (grownBy_set hgr2 73 _) (by simpa using fun h => hgt h.symm)
        replace hT3 := Lib.hid hT3
        go_wp2_with fail
        · generalize World.setCell W _ _ = W3 at *
          refine wp_region_any (by kernel_rfl) ?_
          change wpAny _ _ _ _ _ _ _ (World.drew W3)
          refine wpAny_take (i := 0) (oi := ⟨some 43, .move (.tmp 0), 33, _, _, none⟩) (v := (.pointer (some ⟨g, 0, none⟩))) rfl (by kernel_rfl) (by kernel_rfl) (by kernel_rfl) (fun _ _ _ h => h) (Or.inl ⟨by rfl, fun _ => by go_simp⟩) ?_
          refine wpAny_take (i := 1) (oi := ⟨some 44, .move (.tmp 0), 33, _, _, none⟩) (v := (.pointer (some ⟨g, 0, none⟩))) rfl (by kernel_rfl) (by kernel_rfl) (by kernel_rfl) (fun _ _ _ h => h) (Or.inl ⟨by rfl, fun _ => by go_simp⟩) ?_
          refine wpAny_take (i := 2) (oi := ⟨some 45, .nilCheck (.tmp 44), 0, _, _, none⟩) (v := (.pointer (some ⟨g, 0, none⟩))) rfl (by kernel_rfl) (by kernel_rfl) (by kernel_rfl) (fun _ _ _ h => h) (Or.inl ⟨by rfl, fun _ => by go_simp⟩) ?_
          refine wpAny_take (i := 3) (oi := ⟨some 46, .fieldAddr 51 (.tmp 45) 1, 0, _, _, none⟩) (v := (.pointer (some ⟨g, 1, none⟩))) rfl (by kernel_rfl) (by kernel_rfl) (by kernel_rfl) (fun _ _ _ h => h) (Or.inl ⟨by rfl, fun _ => by go_simp⟩) ?_
          refine wpAny_take (i := 5) (oi := ⟨some 48, .move (.tmp 0), 33, _, _, none⟩) (v := (.pointer (some ⟨g, 0, none⟩))) rfl (by kernel_rfl) (by kernel_rfl) (by kernel_rfl) (fun _ _ _ h => h) (Or.inl ⟨by rfl, fun _ => by go_simp⟩) ?_
          refine wpAny_take (i := 6) (oi := ⟨some 49, .nilCheck (.tmp 48), 0, _, _, none⟩) (v := (.pointer (some ⟨g, 0, none⟩))) rfl (by kernel_rfl) (by kernel_rfl) (by kernel_rfl) (fun _ _ _ h => h) (Or.inl ⟨by rfl, fun _ => by go_simp⟩) ?_
          refine wpAny_take (i := 7) (oi := ⟨some 50, .fieldAddr 51 (.tmp 49) 2, 0, _, _, none⟩) (v := (.pointer (some ⟨g, 9, none⟩))) rfl (by kernel_rfl) (by kernel_rfl) (by kernel_rfl) (fun _ _ _ h => h) (Or.inl ⟨by rfl, fun _ => by go_simp⟩) ?_
          simp only [Act.put, List.setIfInBounds_toArray, List.set_cons_succ, List.set_cons_zero]
          refine wpAny_ready (rs := [4, 8]) (by kernel_rfl) (by simp) ?_
          refine AllReady.cons (o := ⟨some 47, .load 23 (.tmp 46), 23, _, _, none⟩) rfl (fun K hK => ?_) (AllReady.cons (o := ⟨some 51, .load 24 (.tmp 50), 24, _, _, none⟩) rfl (fun K hK => ?_) AllReady.nil)
          · rw [if_pos (by rfl)]; refine wp_load_sub 23 (.tmp 46) (by rfl) g 1 (by rfl) (Blk.drew hb3) (st'.map wv) (fun i hi => hcells_st HH'.out.stl i (by simpa [HH'.out.stl] using hi)) _ Tryd.underlying23 rfl (by rw [List.length_map, HH'.out.stl]; exact size_u32x8) ?_; refine hK _ _ ?_; clear hK K
            refine wpAny_ready (rs := [8]) (by kernel_rfl) (by simp) ?_
            refine AllReady.cons (o := ⟨some 51, .load 24 (.tmp 50), 24, _, _, none⟩) rfl (fun K hK => ?_) AllReady.nil
            rw [if_pos (by rfl)]; refine wp_load_sub 24 (.tmp 50) (by rfl) g 9 (by rfl) (Blk.drew hb3) (rest2.map bv) (fun i hi => hcells_rest HH'.out.stl l64.out i (by simpa [l64.out] using hi)) _ Tryd.underlying24 rfl (by rw [List.length_map, l64.out]; exact size_u8x64) ?_; refine hK _ _ ?_; clear hK K
            refine wpAny_ready (rs := [9]) (by kernel_rfl) (by simp) ?_
            refine AllReady.cons (o := ⟨some 52, .call { callee := .value (.func 27), args := #[.tmp 47, .tmp 51], argTypes := #[23, 24] }, 23, _, _, none⟩) rfl (fun K hK => ?_) AllReady.nil
            go_simp
            refine (compress_walk st' rest2 HH'.out.stl l64.out _ (Tab.drew hT3.out)).mono ?_
            rintro e w4 ⟨rfl, hb4⟩
            refine hK _ _ ?_
            clear hK K
            refine wpAny_take (i := 10) (oi := ⟨some 53, .nilCheck (.tmp 43), 0, _, _, none⟩) (v := (.pointer (some ⟨g, 0, none⟩))) rfl (by kernel_rfl) (by kernel_rfl) (by kernel_rfl) (fun _ _ _ h => h) (Or.inl ⟨by rfl, fun _ => by go_simp⟩) ?_
            refine wpAny_take (i := 11) (oi := ⟨some 54, .fieldAddr 51 (.tmp 53) 1, 0, _, _, none⟩) (v := (.pointer (some ⟨g, 1, none⟩))) rfl (by kernel_rfl) (by kernel_rfl) (by kernel_rfl) (fun _ _ _ h => h) (Or.inl ⟨by rfl, fun _ => by go_simp⟩) ?_
            simp only [Act.put, List.setIfInBounds_toArray, List.set_cons_succ, List.set_cons_zero]
            refine wpAny_ready (rs := [12]) (by kernel_rfl) (by simp) ?_
            refine AllReady.cons (o := ⟨none, .store 23 (.tmp 54) (.tmp 52), 0, _, _, none⟩) rfl (fun K hK => ?_) AllReady.nil
            rw [if_pos (by rfl)]
            refine wp_store_sub 23 (.tmp 54) (.tmp 52) (by rfl) g 1 (warr (compress st' rest2)) (by rfl) (by rfl) (hb3.drew.below hb4 hb3.lt) (by rw [warr_size, hcells_size HH'.out.stl l64.out, compress_len]; omega) (by rw [warr_size, compress_len]; exact size_u32x8) (warr_one_all _) ?_
            intro W5 hW5 hb5
            refine hK _ _ ?_
            clear hK K
            refine wpAny_done (by kernel_rfl) ?_ _
            have hb6 : Blk W5 g (hcells (compress st' rest2) rest2 (↑held' + ↑c) (↑m.length + ↑l.length)) 51 := by
              have := hcells_splice_st (rest := rest2) (held := (held' : Int) + (c : Int)) (total := (m.length : Int) + (l.length : Int)) HH'.out.stl (compress st' rest2) (compress_len _ _)
              rw [← this]
              exact hb5
            have hgr6 := hW5.grown (grownBy_trans (grownBy_drew hgr3) (grownBy_of_below hb4))
            have hR6 : RdB W5 a' (l.drop k) := Rd.grown hR3.out (hW5.grown (grownBy_trans (grownBy_drew (grownBy_refl W3 _)) (grownBy_of_below hb4))) (fun b o h => by have := HN'.out b o h hlt; simpa using this)
            replace hR6 := Lib.hid hR6
            have c3 := hb6.cell 73 (hcells_held (compress_len _ _) l64.out)
            have f3 := hb6.free 73
            clear hb5 hW5 hb4 hb3 hgr3
            go_wp2
            go_roundw
            case rel =>
              have hz : l.drop (k + c) = [] := List.drop_eq_nil_of_le (by omega)
              refine ⟨k + c, a', 0, hc1.2.2, by rw [Nat.sub_sub], by omega, by rw [hz]; exact RdB.nil _ _, fun b o h _ => HN'.out b o h hlt, ⟨_, _, _, by rw [take_add8, ← List.append_assoc]; exact hH2.out, by have := hb6.set 73 (.int .i64 0); rw [hcells_set_held (compress_len _ _) l64.out] at this; exact this⟩, grownBy_set hgr6 73 _⟩
            case measure => simp [slen]; omega
          · rw [if_pos (by rfl)]; refine wp_load_sub 24 (.tmp 50) (by rfl) g 9 (by rfl) (Blk.drew hb3) (rest2.map bv) (fun i hi => hcells_rest HH'.out.stl l64.out i (by simpa [l64.out] using hi)) _ Tryd.underlying24 rfl (by rw [List.length_map, l64.out]; exact size_u8x64) ?_; refine hK _ _ ?_; clear hK K
            refine wpAny_ready (rs := [4]) (by kernel_rfl) (by simp) ?_
            refine AllReady.cons (o := ⟨some 47, .load 23 (.tmp 46), 23, _, _, none⟩) rfl (fun K hK => ?_) AllReady.nil
            rw [if_pos (by rfl)]; refine wp_load_sub 23 (.tmp 46) (by rfl) g 1 (by rfl) (Blk.drew hb3) (st'.map wv) (fun i hi => hcells_st HH'.out.stl i (by simpa [HH'.out.stl] using hi)) _ Tryd.underlying23 rfl (by rw [List.length_map, HH'.out.stl]; exact size_u32x8) ?_; refine hK _ _ ?_; clear hK K
            refine wpAny_ready (rs := [9]) (by kernel_rfl) (by simp) ?_
            refine AllReady.cons (o := ⟨some 52, .call { callee := .value (.func 27), args := #[.tmp 47, .tmp 51], argTypes := #[23, 24] }, 23, _, _, none⟩) rfl (fun K hK => ?_) AllReady.nil
            go_simp
            refine (compress_walk st' rest2 HH'.out.stl l64.out _ (Tab.drew hT3.out)).mono ?_
            rintro e w4 ⟨rfl, hb4⟩
            refine hK _ _ ?_
            clear hK K
            refine wpAny_take (i := 10) (oi := ⟨some 53, .nilCheck (.tmp 43), 0, _, _, none⟩) (v := (.pointer (some ⟨g, 0, none⟩))) rfl (by kernel_rfl) (by kernel_rfl) (by kernel_rfl) (fun _ _ _ h => h) (Or.inl ⟨by rfl, fun _ => by go_simp⟩) ?_
            refine wpAny_take (i := 11) (oi := ⟨some 54, .fieldAddr 51 (.tmp 53) 1, 0, _, _, none⟩) (v := (.pointer (some ⟨g, 1, none⟩))) rfl (by kernel_rfl) (by kernel_rfl) (by kernel_rfl) (fun _ _ _ h => h) (Or.inl ⟨by rfl, fun _ => by go_simp⟩) ?_
            simp only [Act.put, List.setIfInBounds_toArray, List.set_cons_succ, List.set_cons_zero]
            refine wpAny_ready (rs := [12]) (by kernel_rfl) (by simp) ?_
            refine AllReady.cons (o := ⟨none, .store 23 (.tmp 54) (.tmp 52), 0, _, _, none⟩) rfl (fun K hK => ?_) AllReady.nil
            rw [if_pos (by rfl)]
            refine wp_store_sub 23 (.tmp 54) (.tmp 52) (by rfl) g 1 (warr (compress st' rest2)) (by rfl) (by rfl) (hb3.drew.below hb4 hb3.lt) (by rw [warr_size, hcells_size HH'.out.stl l64.out, compress_len]; omega) (by rw [warr_size, compress_len]; exact size_u32x8) (warr_one_all _) ?_
            intro W5 hW5 hb5
            refine hK _ _ ?_
            clear hK K
            refine wpAny_done (by kernel_rfl) ?_ _
            have hb6 : Blk W5 g (hcells (compress st' rest2) rest2 (↑held' + ↑c) (↑m.length + ↑l.length)) 51 := by
              have := hcells_splice_st (rest := rest2) (held := (held' : Int) + (c : Int)) (total := (m.length : Int) + (l.length : Int)) HH'.out.stl (compress st' rest2) (compress_len _ _)
              rw [← this]
              exact hb5
            have hgr6 := hW5.grown (grownBy_trans (grownBy_drew hgr3) (grownBy_of_below hb4))
            have hR6 : RdB W5 a' (l.drop k) := Rd.grown hR3.out (hW5.grown (grownBy_trans (grownBy_drew (grownBy_refl W3 _)) (grownBy_of_below hb4))) (fun b o h => by have := HN'.out b o h hlt; simpa using this)
            replace hR6 := Lib.hid hR6
            have c3 := hb6.cell 73 (hcells_held (compress_len _ _) l64.out)
            have f3 := hb6.free 73
            clear hb5 hW5 hb4 hb3 hgr3
            go_wp2
            go_roundw
            case rel =>
              have hz : l.drop (k + c) = [] := List.drop_eq_nil_of_le (by omega)
              refine ⟨k + c, a', 0, hc1.2.2, by rw [Nat.sub_sub], by omega, by rw [hz]; exact RdB.nil _ _, fun b o h _ => HN'.out b o h hlt, ⟨_, _, _, by rw [take_add8, ← List.append_assoc]; exact hH2.out, by have := hb6.set 73 (.int .i64 0); rw [hcells_set_held (compress_len _ _) l64.out] at this; exact this⟩, grownBy_set hgr6 73 _⟩
            case measure => simp [slen]; omega
        · generalize World.setCell W _ _ = W3 at *
          refine wp_region_any (by kernel_rfl) ?_
          change wpAny _ _ _ _ _ _ _ (World.drew W3)
          refine wpAny_take (i := 0) (oi := ⟨some 43, .move (.tmp 0), 33, _, _, none⟩) (v := (.pointer (some ⟨g, 0, none⟩))) rfl (by kernel_rfl) (by kernel_rfl) (by kernel_rfl) (fun _ _ _ h => h) (Or.inl ⟨by rfl, fun _ => by go_simp⟩) ?_
          refine wpAny_take (i := 1) (oi := ⟨some 44, .move (.tmp 0), 33, _, _, none⟩) (v := (.pointer (some ⟨g, 0, none⟩))) rfl (by kernel_rfl) (by kernel_rfl) (by kernel_rfl) (fun _ _ _ h => h) (Or.inl ⟨by rfl, fun _ => by go_simp⟩) ?_
          refine wpAny_take (i := 2) (oi := ⟨some 45, .nilCheck (.tmp 44), 0, _, _, none⟩) (v := (.pointer (some ⟨g, 0, none⟩))) rfl (by kernel_rfl) (by kernel_rfl) (by kernel_rfl) (fun _ _ _ h => h) (Or.inl ⟨by rfl, fun _ => by go_simp⟩) ?_
          refine wpAny_take (i := 3) (oi := ⟨some 46, .fieldAddr 51 (.tmp 45) 1, 0, _, _, none⟩) (v := (.pointer (some ⟨g, 1, none⟩))) rfl (by kernel_rfl) (by kernel_rfl) (by kernel_rfl) (fun _ _ _ h => h) (Or.inl ⟨by rfl, fun _ => by go_simp⟩) ?_
          refine wpAny_take (i := 5) (oi := ⟨some 48, .move (.tmp 0), 33, _, _, none⟩) (v := (.pointer (some ⟨g, 0, none⟩))) rfl (by kernel_rfl) (by kernel_rfl) (by kernel_rfl) (fun _ _ _ h => h) (Or.inl ⟨by rfl, fun _ => by go_simp⟩) ?_
          refine wpAny_take (i := 6) (oi := ⟨some 49, .nilCheck (.tmp 48), 0, _, _, none⟩) (v := (.pointer (some ⟨g, 0, none⟩))) rfl (by kernel_rfl) (by kernel_rfl) (by kernel_rfl) (fun _ _ _ h => h) (Or.inl ⟨by rfl, fun _ => by go_simp⟩) ?_
          refine wpAny_take (i := 7) (oi := ⟨some 50, .fieldAddr 51 (.tmp 49) 2, 0, _, _, none⟩) (v := (.pointer (some ⟨g, 9, none⟩))) rfl (by kernel_rfl) (by kernel_rfl) (by kernel_rfl) (fun _ _ _ h => h) (Or.inl ⟨by rfl, fun _ => by go_simp⟩) ?_
          simp only [Act.put, List.setIfInBounds_toArray, List.set_cons_succ, List.set_cons_zero]
          refine wpAny_ready (rs := [4, 8]) (by kernel_rfl) (by simp) ?_
          refine AllReady.cons (o := ⟨some 47, .load 23 (.tmp 46), 23, _, _, none⟩) rfl (fun K hK => ?_) (AllReady.cons (o := ⟨some 51, .load 24 (.tmp 50), 24, _, _, none⟩) rfl (fun K hK => ?_) AllReady.nil)
          · rw [if_pos (by rfl)]; refine wp_load_sub 23 (.tmp 46) (by rfl) g 1 (by rfl) (Blk.drew hb3) (st'.map wv) (fun i hi => hcells_st HH'.out.stl i (by simpa [HH'.out.stl] using hi)) _ Tryd.underlying23 rfl (by rw [List.length_map, HH'.out.stl]; exact size_u32x8) ?_; refine hK _ _ ?_; clear hK K
            refine wpAny_ready (rs := [8]) (by kernel_rfl) (by simp) ?_
            refine AllReady.cons (o := ⟨some 51, .load 24 (.tmp 50), 24, _, _, none⟩) rfl (fun K hK => ?_) AllReady.nil
            rw [if_pos (by rfl)]; refine wp_load_sub 24 (.tmp 50) (by rfl) g 9 (by rfl) (Blk.drew hb3) (rest2.map bv) (fun i hi => hcells_rest HH'.out.stl l64.out i (by simpa [l64.out] using hi)) _ Tryd.underlying24 rfl (by rw [List.length_map, l64.out]; exact size_u8x64) ?_; refine hK _ _ ?_; clear hK K
            refine wpAny_ready (rs := [9]) (by kernel_rfl) (by simp) ?_
            refine AllReady.cons (o := ⟨some 52, .call { callee := .value (.func 27), args := #[.tmp 47, .tmp 51], argTypes := #[23, 24] }, 23, _, _, none⟩) rfl (fun K hK => ?_) AllReady.nil
            go_simp
            refine (compress_walk st' rest2 HH'.out.stl l64.out _ (Tab.drew hT3.out)).mono ?_
            rintro e w4 ⟨rfl, hb4⟩
            refine hK _ _ ?_
            clear hK K
            refine wpAny_take (i := 10) (oi := ⟨some 53, .nilCheck (.tmp 43), 0, _, _, none⟩) (v := (.pointer (some ⟨g, 0, none⟩))) rfl (by kernel_rfl) (by kernel_rfl) (by kernel_rfl) (fun _ _ _ h => h) (Or.inl ⟨by rfl, fun _ => by go_simp⟩) ?_
            refine wpAny_take (i := 11) (oi := ⟨some 54, .fieldAddr 51 (.tmp 53) 1, 0, _, _, none⟩) (v := (.pointer (some ⟨g, 1, none⟩))) rfl (by kernel_rfl) (by kernel_rfl) (by kernel_rfl) (fun _ _ _ h => h) (Or.inl ⟨by rfl, fun _ => by go_simp⟩) ?_
            simp only [Act.put, List.setIfInBounds_toArray, List.set_cons_succ, List.set_cons_zero]
            refine wpAny_ready (rs := [12]) (by kernel_rfl) (by simp) ?_
            refine AllReady.cons (o := ⟨none, .store 23 (.tmp 54) (.tmp 52), 0, _, _, none⟩) rfl (fun K hK => ?_) AllReady.nil
            rw [if_pos (by rfl)]
            refine wp_store_sub 23 (.tmp 54) (.tmp 52) (by rfl) g 1 (warr (compress st' rest2)) (by rfl) (by rfl) (hb3.drew.below hb4 hb3.lt) (by rw [warr_size, hcells_size HH'.out.stl l64.out, compress_len]; omega) (by rw [warr_size, compress_len]; exact size_u32x8) (warr_one_all _) ?_
            intro W5 hW5 hb5
            refine hK _ _ ?_
            clear hK K
            refine wpAny_done (by kernel_rfl) ?_ _
            have hb6 : Blk W5 g (hcells (compress st' rest2) rest2 (↑held' + ↑c) (↑m.length + ↑l.length)) 51 := by
              have := hcells_splice_st (rest := rest2) (held := (held' : Int) + (c : Int)) (total := (m.length : Int) + (l.length : Int)) HH'.out.stl (compress st' rest2) (compress_len _ _)
              rw [← this]
              exact hb5
            have hgr6 := hW5.grown (grownBy_trans (grownBy_drew hgr3) (grownBy_of_below hb4))
            have hR6 : RdB W5 a' (l.drop k) := Rd.grown hR3.out (hW5.grown (grownBy_trans (grownBy_drew (grownBy_refl W3 _)) (grownBy_of_below hb4))) (fun b o h => by have := HN'.out b o h hlt; simpa using this)
            replace hR6 := Lib.hid hR6
            have c3 := hb6.cell 73 (hcells_held (compress_len _ _) l64.out)
            have f3 := hb6.free 73
            clear hb5 hW5 hb4 hb3 hgr3
            go_wp2
            go_roundw
            case rel =>
              refine ⟨k + c, a'.map fun x => x.add c, cp - c, hc1.2.2, by rw [Nat.sub_sub], by omega, Rd.grown (RdB.cut hR6.out hlt c) (grownBy_set (grownBy_refl W5 _) 73 _) (fun b o h => by have := RdB.cut_ne HR'.out hlt c (fun b o h => HN'.out b o h hlt) b o h; simpa using this), fun b o h _ => RdB.cut_ne HR'.out hlt c (fun b o h => HN'.out b o h hlt) b o h, ⟨_, _, _, by rw [take_add8, ← List.append_assoc]; exact hH2.out, by have := hb6.set 73 (.int .i64 0); rw [hcells_set_held (compress_len _ _) l64.out] at this; exact this⟩, grownBy_set hgr6 73 _⟩
            case measure => simp [slen]; omega
          · rw [if_pos (by rfl)]; refine wp_load_sub 24 (.tmp 50) (by rfl) g 9 (by rfl) (Blk.drew hb3) (rest2.map bv) (fun i hi => hcells_rest HH'.out.stl l64.out i (by simpa [l64.out] using hi)) _ Tryd.underlying24 rfl (by rw [List.length_map, l64.out]; exact size_u8x64) ?_; refine hK _ _ ?_; clear hK K
            refine wpAny_ready (rs := [4]) (by kernel_rfl) (by simp) ?_
            refine AllReady.cons (o := ⟨some 47, .load 23 (.tmp 46), 23, _, _, none⟩) rfl (fun K hK => ?_) AllReady.nil
            rw [if_pos (by rfl)]; refine wp_load_sub 23 (.tmp 46) (by rfl) g 1 (by rfl) (Blk.drew hb3) (st'.map wv) (fun i hi => hcells_st HH'.out.stl i (by simpa [HH'.out.stl] using hi)) _ Tryd.underlying23 rfl (by rw [List.length_map, HH'.out.stl]; exact size_u32x8) ?_; refine hK _ _ ?_; clear hK K
            refine wpAny_ready (rs := [9]) (by kernel_rfl) (by simp) ?_
            refine AllReady.cons (o := ⟨some 52, .call { callee := .value (.func 27), args := #[.tmp 47, .tmp 51], argTypes := #[23, 24] }, 23, _, _, none⟩) rfl (fun K hK => ?_) AllReady.nil
            go_simp
            refine (compress_walk st' rest2 HH'.out.stl l64.out _ (Tab.drew hT3.out)).mono ?_
            rintro e w4 ⟨rfl, hb4⟩
            refine hK _ _ ?_
            clear hK K
            refine wpAny_take (i := 10) (oi := ⟨some 53, .nilCheck (.tmp 43), 0, _, _, none⟩) (v := (.pointer (some ⟨g, 0, none⟩))) rfl (by kernel_rfl) (by kernel_rfl) (by kernel_rfl) (fun _ _ _ h => h) (Or.inl ⟨by rfl, fun _ => by go_simp⟩) ?_
            refine wpAny_take (i := 11) (oi := ⟨some 54, .fieldAddr 51 (.tmp 53) 1, 0, _, _, none⟩) (v := (.pointer (some ⟨g, 1, none⟩))) rfl (by kernel_rfl) (by kernel_rfl) (by kernel_rfl) (fun _ _ _ h => h) (Or.inl ⟨by rfl, fun _ => by go_simp⟩) ?_
            simp only [Act.put, List.setIfInBounds_toArray, List.set_cons_succ, List.set_cons_zero]
            refine wpAny_ready (rs := [12]) (by kernel_rfl) (by simp) ?_
            refine AllReady.cons (o := ⟨none, .store 23 (.tmp 54) (.tmp 52), 0, _, _, none⟩) rfl (fun K hK => ?_) AllReady.nil
            rw [if_pos (by rfl)]
            refine wp_store_sub 23 (.tmp 54) (.tmp 52) (by rfl) g 1 (warr (compress st' rest2)) (by rfl) (by rfl) (hb3.drew.below hb4 hb3.lt) (by rw [warr_size, hcells_size HH'.out.stl l64.out, compress_len]; omega) (by rw [warr_size, compress_len]; exact size_u32x8) (warr_one_all _) ?_
            intro W5 hW5 hb5
            refine hK _ _ ?_
            clear hK K
            refine wpAny_done (by kernel_rfl) ?_ _
            have hb6 : Blk W5 g (hcells (compress st' rest2) rest2 (↑held' + ↑c) (↑m.length + ↑l.length)) 51 := by
              have := hcells_splice_st (rest := rest2) (held := (held' : Int) + (c : Int)) (total := (m.length : Int) + (l.length : Int)) HH'.out.stl (compress st' rest2) (compress_len _ _)
              rw [← this]
              exact hb5
            have hgr6 := hW5.grown (grownBy_trans (grownBy_drew hgr3) (grownBy_of_below hb4))
            have hR6 : RdB W5 a' (l.drop k) := Rd.grown hR3.out (hW5.grown (grownBy_trans (grownBy_drew (grownBy_refl W3 _)) (grownBy_of_below hb4))) (fun b o h => by have := HN'.out b o h hlt; simpa using this)
            replace hR6 := Lib.hid hR6
            have c3 := hb6.cell 73 (hcells_held (compress_len _ _) l64.out)
            have f3 := hb6.free 73
            clear hb5 hW5 hb4 hb3 hgr3
            go_wp2
            go_roundw
            case rel =>
              refine ⟨k + c, a'.map fun x => x.add c, cp - c, hc1.2.2, by rw [Nat.sub_sub], by omega, Rd.grown (RdB.cut hR6.out hlt c) (grownBy_set (grownBy_refl W5 _) 73 _) (fun b o h => by have := RdB.cut_ne HR'.out hlt c (fun b o h => HN'.out b o h hlt) b o h; simpa using this), fun b o h _ => RdB.cut_ne HR'.out hlt c (fun b o h => HN'.out b o h hlt) b o h, ⟨_, _, _, by rw [take_add8, ← List.append_assoc]; exact hH2.out, by have := hb6.set 73 (.int .i64 0); rw [hcells_set_held (compress_len _ _) l64.out] at this; exact this⟩, grownBy_set hgr6 73 _⟩
            case measure => simp [slen]; omega
      · have hH2 := HH'.out.step_lt ((l.drop k).take c) (by rw [HCL.out]; omega)
        rw [← HR2.out, HCL.out] at hH2
        have l64 : rest2.length = 64 := hH2.restl
        have c3 := hb2.cell 73 (hcells_held HH'.out.stl l64)
        have f3 := hb2.free 73
        have hb3 := hb2.set 73 (.int .i64 ((held' : Int) + (c : Int)))
        rw [hcells_set_held HH'.out.stl l64] at hb3
        have hgr3 := grownBy_set hgr2 73 (.int .i64 ((held' : Int) + (c : Int)))
        replace l64 := Lib.hid l64
        replace hH2 := Lib.hid hH2
        have t1 : ((held' : Int) + (c : Int) == 64) = false := by simp; omega
        go_wp2_with fail
        go_roundw
        case rel =>
          refine ⟨k + c, (if cp = c then a' else a'.map fun x => x.add c), cp - c, hc1.2.2, by rw [Nat.sub_sub], by omega, ?_, ?_, ⟨_, _, _, by rw [take_add8, ← List.append_assoc]; exact hH2.out, hb3⟩, hgr3⟩
          · split
            · have hz : l.drop (k + c) = [] := List.drop_eq_nil_of_le (by omega)
              rw [hz]; exact RdB.nil _ _
            · exact Rd.grown (RdB.cut hR2.out hlt c) (grownBy_set (grownBy_refl W _) 73 _) (fun b o h => by have := RdB.cut_ne HR'.out hlt c (fun b o h => HN'.out b o h hlt) b o h; simpa using this)
          · split
            · exact fun b o h _ => HN'.out b o h hlt
            · exact fun b o h _ => RdB.cut_ne HR'.out hlt c (fun b o h => HN'.out b o h hlt) b o h
        case measure => simp [slen]; omega
    · go_wp2
      go_end0
      have e : k = l.length := by omega
      refine ⟨rfl, hgr, st', rest', held', ?_, ?_⟩
      · have := HH'.out
        rwa [e, List.take_length] at this
      · simpa using hb
end Go.Proofs.YtgbahfggnbpnmaaDoor
