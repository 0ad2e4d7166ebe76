import Derived.Test.YtgbahfggnbpnmaaDoorBig
/-
  A Hash: none, New, Write, Len, Clone.
-/
namespace Go.Proofs.YtgbahfggnbpnmaaDoor
open Go.RowKit

/-- The start's cells. -/
def Sta (w : World) : Prop := ∀ i, i < 8 → w.cell? ⟨1, i, none⟩ = some (wv (start8.getD i 0))
theorem Sta.lt {w : World} (h : Sta w) : 1 < w.heap.size := block_lt_of_cell (h 0 (by omega))
theorem Sta.below {w w' : World} {B : Nat} (h : Sta w) (hb : Below B w w') (hB : 1 < B) : Sta w' := fun i hi => (hb.cell (p := ⟨_, i, none⟩) hB).trans (h i hi)
theorem Sta.drew {w : World} (h : Sta w) : Sta w.drew := h
theorem Sta.drewN {w : World} (h : Sta w) (n : Nat) : Sta (w.drewN n) := h
theorem Sta.grown {w w' : World} {r : Option Nat} (h : Sta w) (hb : w.grownBy w' r) (hr : some 1 ≠ r) : Sta w' := fun i hi => (World.cell?_of_block (a := ⟨_, i, none⟩) (hb.block _ h.lt hr)).trans (h i hi)
/-- Both tables. -/
structure Two (w : World) : Prop where
  tab : Tab w
  sta : Sta w
theorem Two.below {w w' : World} {B : Nat} (h : Two w) (hb : Below B w w') (h1 : 0 < B) (h2 : 1 < B) : Two w' := ⟨h.tab.below hb h1, h.sta.below hb h2⟩
theorem Two.below' {w w' : World} (h : Two w) (hb : Below w.heap.size w w') : Two w' := h.below hb h.tab.lt h.sta.lt
theorem Two.drew {w : World} (h : Two w) : Two w.drew := ⟨h.tab, h.sta⟩
theorem Two.drewN {w : World} (h : Two w) (n : Nat) : Two (w.drewN n) := ⟨h.tab, h.sta⟩
theorem Two.grown {w w' : World} {r : Option Nat} (h : Two w) (hb : w.grownBy w' r) (h1 : some 0 ≠ r) (h2 : some 1 ≠ r) : Two w' := ⟨h.tab.grown hb h1, h.sta.grown hb h2⟩

theorem none_nil (w : World) : Calls Tryd.prog 98 #[.pointer none] w fun e w' => e = .returned (.bool true) ∧ w = w' := by
  go_enter Tryd.func98, Tryd.ntmps98
  go_wp2
  go_ret
  exact ⟨rfl, rfl⟩
theorem none_made (w : World) (g : Nat) (b : Bool) (hc : w.cell? ⟨g, 0, none⟩ = some (.bool b)) : Calls Tryd.prog 98 #[.pointer (some ⟨g, 0, none⟩)] w fun e w' => e = .returned (.bool !b) ∧ w = w' := by
  go_enter Tryd.func98, Tryd.ntmps98
  go_wp2
  go_ret
  exact ⟨rfl, rfl⟩

theorem HashAt.cell {w : World} {g : Nat} {m : List UInt8} (h : HashAt w g m) : w.cell? ⟨g, 0, none⟩ = some (.bool true) := by
  obtain ⟨st, rest, held, h1, h2⟩ := h
  exact h2.cell 0 hcells_made
theorem HashAt.total {w : World} {g : Nat} {m : List UInt8} (h : HashAt w g m) : w.cell? ⟨g, 74, none⟩ = some (.int .i64 m.length) := by
  obtain ⟨st, rest, held, h1, h2⟩ := h
  exact h2.cell 74 (hcells_total h1.stl h1.restl)
theorem HashAt.below {w w' : World} {g B : Nat} {m : List UInt8} (h : HashAt w g m) (hb : Below B w w') (hg : g < B) : HashAt w' g m := by
  obtain ⟨st, rest, held, h1, h2⟩ := h
  exact ⟨st, rest, held, h1, h2.below hb hg⟩
theorem HashAt.grown {w w' : World} {g : Nat} {r : Option Nat} {m : List UInt8} (h : HashAt w g m) (hb : w.grownBy w' r) (hg : some g ≠ r) : HashAt w' g m := by
  obtain ⟨st, rest, held, h1, h2⟩ := h
  exact ⟨st, rest, held, h1, h2.grown hb hg⟩
theorem HashAt.drew {w : World} {g : Nat} {m : List UInt8} (h : HashAt w g m) : HashAt w.drew g m := h
theorem HashAt.drewN {w : World} {g : Nat} {m : List UInt8} (h : HashAt w g m) (n : Nat) : HashAt (w.drewN n) g m := h
theorem HashAt.lt {w : World} {g : Nat} {m : List UInt8} (h : HashAt w g m) : g < w.heap.size := by
  obtain ⟨st, rest, held, h1, h2⟩ := h
  exact h2.lt

theorem put_at (m : List UInt8) (l : List UInt8) (n cap : Nat) (hn : n = l.length) (hcap : n ≤ cap) (a : Option Addr) (g : Nat) (w : World)
    (hB : HashAt w g m) (hR : RdB w a l) (hne : ∀ b o, a = some ⟨b, o, none⟩ → 0 < l.length → b ≠ g) (hT : Tab w) (hgt : g ≠ 0) (hlen : m.length + l.length ≤ 4611686018427387904) :
    Calls Tryd.prog 99 #[.pointer (some ⟨g, 0, none⟩), .slice a n cap] w fun e w' => e = .returned (.tuple #[]) ∧ w.grownBy w' (some g) ∧ HashAt w' g (m ++ l) := by
  obtain ⟨st, rest, held, h1, h2⟩ := hB
  exact put_walk m st rest held h1 l n cap hn hcap a g w h2 hR hne hT hgt hlen

/-- Texts in a row of slices; the blocks that they lie in are 'av'. -/
def Parts (w : World) (av : Nat → Prop) (pa : Option Addr) (ls : List (List UInt8)) : Prop :=
  ∀ i, i < ls.length → ∃ b o a n cap, pa = some ⟨b, o, none⟩ ∧ av b ∧ w.cell? ⟨b, o + i, none⟩ = some (.slice a n cap) ∧ n = (ls.getD i []).length ∧ n ≤ cap ∧ RdB w a (ls.getD i []) ∧ (∀ b o, a = some ⟨b, o, none⟩ → 0 < (ls.getD i []).length → av b)
theorem Parts.mono {w : World} {av av' : Nat → Prop} {pa : Option Addr} {ls : List (List UInt8)} (h : Parts w av pa ls) (hv : ∀ b, av b → av' b) : Parts w av' pa ls := fun i hi => by
  obtain ⟨b, o, a, n, cap, h1, h2, h3, h4, h5, h6, h7⟩ := h i hi
  exact ⟨b, o, a, n, cap, h1, hv _ h2, h3, h4, h5, h6, fun b o e h0 => hv _ (h7 b o e h0)⟩
theorem Parts.grown {w w' : World} {g : Nat} {pa : Option Addr} {ls : List (List UInt8)} (h : Parts w (· ≠ g) pa ls) (hb : w.grownBy w' (some g)) : Parts w' (· ≠ g) pa ls := fun i hi => by
  obtain ⟨b, o, a, n, cap, h1, h2, h3, h4, h5, h6, h7⟩ := h i hi
  exact ⟨b, o, a, n, cap, h1, h2, (World.cell?_of_block (a := ⟨b, o + i, none⟩) (hb.block _ (block_lt_of_cell h3) (by simpa using h2))).trans h3, h4, h5, Rd.grown' h6 hb (fun h0 b o e => by have := h7 b o e (by simpa using h0); simpa using this), h7⟩
theorem Parts.below {w w' : World} {B : Nat} {pa : Option Addr} {ls : List (List UInt8)} (h : Parts w (· < B) pa ls) (hb : Below B w w') : Parts w' (· < B) pa ls := fun i hi => by
  obtain ⟨b, o, a, n, cap, h1, h2, h3, h4, h5, h6, h7⟩ := h i hi
  refine ⟨b, o, a, n, cap, h1, h2, (hb.cell (p := ⟨b, o + i, none⟩) h2).trans h3, h4, h5, fun j hj => ?_, h7⟩
  obtain ⟨b', o', e1, e2⟩ := h6 j hj
  exact ⟨b', o', e1, (hb.cell (p := ⟨b', o' + j, none⟩) (h7 b' o' e1 (by rw [List.length_map] at hj; omega))).trans e2⟩

theorem flat_take (ls : List (List UInt8)) (k : Nat) (h : k < ls.length) : (ls.take (k + 1)).flatten = (ls.take k).flatten ++ ls.getD k [] := by
  rw [List.take_succ_eq_append_getElem h, List.flatten_append]; simp [h]
theorem flat_len (ls : List (List UInt8)) (k : Nat) : (ls.take k).flatten.length ≤ ls.flatten.length := by
  have h : (ls.take k ++ ls.drop k).flatten.length = ls.flatten.length := by rw [List.take_append_drop]
  rw [List.flatten_append, List.length_append] at h
  omega
set_option maxRecDepth 100000 in
set_option maxHeartbeats 1000000 in
theorem write_walk (m : List UInt8) (ls : List (List UInt8)) (n cap : Nat) (hn : n = ls.length) (pa : Option Addr) (g : Nat) (w : World)
    (hB : HashAt w g m) (hP : Parts w (· ≠ g) pa ls) (hT : Tab w) (hgt : g ≠ 0) (hlen : m.length + ls.flatten.length ≤ 4611686018427387904) (hls : ls.length ≤ 4611686018427387904) :
    Calls Tryd.prog 32 #[.pointer (some ⟨g, 0, none⟩), .slice pa n cap] w fun e w' => e = .returned (.int .i64 0) ∧ w.grownBy w' (some g) ∧ HashAt w' g (m ++ ls.flatten) := by
  subst hn
  have HB := Lib.hid hB
  have HP := Lib.hid hP
  have HT := Lib.hid hT
  clear hB hP hT
  go_enter Tryd.func32, Tryd.ntmps32
  go_wp2_with (go_at_call 98; refine (none_made _ g true HB.out.cell).mono ?_; rintro e w' ⟨rfl, rfl⟩)
  go_loopw [11] (fun c wr => ∃ k : Nat, k ≤ ls.length ∧ c = .int .i64 k ∧ w.grownBy wr (some g) ∧ HashAt wr g (m ++ (ls.take k).flatten)) (fun c _ => ls.length - (intOf c).toNat)
  case atStart => exact ⟨0, Nat.zero_le _, rfl, grownBy_refl _ _, by simpa using HB.out⟩
  case round =>
    obtain ⟨k, hk, rfl, hgr, hH⟩ := hrel
    by_cases hlt : k < ls.length
    · obtain ⟨b, o, a, n, cap', rfl, h2, h3, h4, h5, h6, h7⟩ := HP.out.grown hgr k hlt
      have hl : (m ++ (ls.take k).flatten).length + (ls.getD k []).length ≤ 4611686018427387904 := by
        have := flat_len ls (k + 1)
        rw [flat_take ls k hlt] at this
        simp only [List.length_append] at *; omega
      have hH' := Lib.hid hH
      have hT' := Lib.hid (HT.out.grown hgr (by simpa using fun h => hgt h.symm))
      have h6' := Lib.hid h6
      have h7' := Lib.hid h7
      have h4' := Lib.hid h4
      have hgr' := Lib.hid hgr
      have hl' := Lib.hid hl
      clear hH h6 h7 h4 hgr hl
      go_wp2_with (go_at_call 99; refine (put_at (m ++ (ls.take k).flatten) (ls.getD k []) n cap' h4'.out h5 a g _ hH'.out h6'.out h7'.out hT'.out hgt hl'.out).mono ?_; rintro e w' ⟨rfl, hg1, hH1⟩)
      go_roundw
      case rel => exact ⟨k + 1, by omega, by go_num, grownBy_trans hgr'.out hg1, by rw [flat_take ls k hlt, ← List.append_assoc]; exact hH1⟩
      case measure => simp [intOf]; omega
    · have HK := Lib.hid (show k = ls.length by omega)
      go_wp2
      go_ret
      refine ⟨rfl, hgr, ?_⟩
      rw [HK.out, List.take_length] at hH
      exact hH
theorem len_walk (m : List UInt8) (g : Nat) (w : World) (hB : HashAt w g m) :
    Calls Tryd.prog 34 #[.pointer (some ⟨g, 0, none⟩)] w fun e w' => e = .returned (.int .i64 m.length) ∧ w = w' := by
  have HB := Lib.hid hB
  have h0 := hB.total
  clear hB
  go_enter Tryd.func34, Tryd.ntmps34
  go_wp2_with (go_at_call 98; refine (none_made _ g true HB.out.cell).mono ?_; rintro e w' ⟨rfl, rfl⟩)
  go_ret
  exact ⟨rfl, rfl⟩
set_option maxRecDepth 100000 in
theorem new_walk (w : World) (hS : Sta w) :
    Calls Tryd.prog 31 #[] w fun e w' => e = .returned (.pointer (some ⟨w.heap.size, 0, none⟩)) ∧ HashAt w' w.heap.size [] ∧ Below w.heap.size w w' := by
  have c0 := hS 0 (by omega)
  have c1 := hS 1 (by omega)
  have c2 := hS 2 (by omega)
  have c3 := hS 3 (by omega)
  have c4 := hS 4 (by omega)
  have c5 := hS 5 (by omega)
  have c6 := hS 6 (by omega)
  have c7 := hS 7 (by omega)
  clear hS
  go_enter Tryd.func31, Tryd.ntmps31
  go_wp2
  go_ret
  refine ⟨rfl, ⟨start8, List.replicate 64 0, 0, HashIs.zero, ?_⟩, (new1 w _ _).2⟩
  exact (new1 w (hcells start8 (List.replicate 64 0) 0 0) 51).1
theorem size_hash : (Tryd.prog.info? 51).map (·.size) = some 75 := by kernel_rfl
theorem hcells_one (st : List UInt32) (rest : List UInt8) (held total : Int) : (hcells st rest held total).all (·.oneCell') = true := by
  simp [hcells, hlist, Value.oneCell']
set_option maxRecDepth 100000 in
set_option maxHeartbeats 1000000 in
theorem clone_walk (m : List UInt8) (g : Nat) (w : World) (hB : HashAt w g m) :
    Calls Tryd.prog 39 #[.pointer (some ⟨g, 0, none⟩)] w fun e w' => e = .returned (.pointer (some ⟨w.heap.size, 0, none⟩)) ∧ HashAt w' w.heap.size m ∧ Below w.heap.size w w' := by
  have hc := hB.cell
  obtain ⟨st, rest, held, h1, h2⟩ := hB
  have H1 := Lib.hid h1
  have hsz : (Tryd.prog.info? 51).map (·.size) = some (hcells st rest held m.length).size := by rw [hcells_size h1.stl h1.restl]; exact size_hash
  have HZ := Lib.hid hsz
  have hsz2 : (75 : Nat) = (hcells st rest held m.length).size := by rw [hcells_size h1.stl h1.restl]
  have HZ2 := Lib.hid hsz2
  clear hsz hsz2 h1
  go_enter Tryd.func39, Tryd.ntmps39
  go_wp2_with (first | (go_at_call 98; refine (none_made _ g true hc).mono ?_; rintro e w' ⟨rfl, rfl⟩) | (refine wpList_load_row rfl 51 (.tmp 7) rfl g rfl 51 _ _ _ h2 Tryd.underlying51 rfl HZ.out ?_) | (refine wpList_store_abs rfl 51 (.tmp 3) (.tmp 8) rfl w.heap.size _ rfl rfl 51 _ (Blk.new w _ _) HZ.out HZ2.out (hcells_one _ _ _ _) ?_; intro W hW p5; have pb := hW.below ((Below.refl _ w).alloc (Nat.le_refl _) _) (Nat.le_refl _); clear hW))
  go_ret
  exact ⟨rfl, ⟨st, rest, held, H1.out, p5⟩, pb⟩
end Go.Proofs.YtgbahfggnbpnmaaDoor
