import Derived.Test.YtgbahfggnbpnmaaDoorDrbgO
/-
  liverylaw05.much.
-/
namespace Go.Proofs.YtgbahfggnbpnmaaDoor
open Go.RowKit
def longP (l : List UInt8) : Prop := 500 < l.length ∧ l.length ≤ 4096 ∨ 9000 < l.length
instance (l : List UInt8) : Decidable (longP l) := by unfold longP; infer_instance
def badP (o : DOp) : Prop := longP o.b ∨ longP o.add ∨ (600 < o.n ∧ o.n ≤ 65536)
def muchP (os : List DOp) : Prop := (∃ o ∈ os, badP o) ∨ 40 < os.length
theorem ocells_one (o : DOp) (ab aa : Option Addr) (nb cb na ca : Nat) : (ocells o ab aa nb cb na ca).toArray.all (·.oneCell') = true := by
  simp [ocells, Value.oneCell']
section
variable (o : DOp) (ab aa : Option Addr) (nb cb na ca : Nat)
theorem ocell0 : (ocells o ab aa nb cb na ca).toArray[0]? = some (.bool o.res) := by simp [ocells]
theorem ocell1 : (ocells o ab aa nb cb na ca).toArray[1]? = some (.int .i64 o.n) := by simp [ocells]
theorem ocell2 : (ocells o ab aa nb cb na ca).toArray[2]? = some (.slice ab nb cb) := by simp [ocells]
theorem ocell3 : (ocells o ab aa nb cb na ca).toArray[3]? = some (.slice aa na ca) := by simp [ocells]
theorem ocell4 : (ocells o ab aa nb cb na ca).toArray[4]? = some (.bool o.copy) := by simp [ocells]
end
theorem long_yes {l : List UInt8} (h : longP l) (a : Option Addr) (n c : Nat) (hn : n = l.length) (w : World) : Calls Tryd.prog 60 #[.slice a n c] w fun e w' => e = .returned (.bool true) ∧ w' = w :=
  (long_walk l a n c hn w).mono fun e w' ⟨h1, h2⟩ => ⟨by rw [h1, decide_eq_true (show 500 < l.length ∧ l.length ≤ 4096 ∨ 9000 < l.length from h)], h2.symm⟩
theorem long_no {l : List UInt8} (h : ¬ longP l) (a : Option Addr) (n c : Nat) (hn : n = l.length) (w : World) : Calls Tryd.prog 60 #[.slice a n c] w fun e w' => e = .returned (.bool false) ∧ w' = w :=
  (long_walk l a n c hn w).mono fun e w' ⟨h1, h2⟩ => ⟨by rw [h1, decide_eq_false (show ¬ (500 < l.length ∧ l.length ≤ 4096 ∨ 9000 < l.length) from h)], h2.symm⟩
set_option maxRecDepth 100000 in
set_option maxHeartbeats 1000000 in
theorem much_walk (os : List DOp) (a : Option Addr) (n c : Nat) (w : World) (hO : OpsIn w a n c os) (M : Bool) (hM : M = true ↔ muchP os) :
    Calls Tryd.prog 65 #[.slice a n c] w fun e w' => e = .returned (.bool M) ∧ Below w.heap.size w w' := by
  have HO := Lib.hid hO
  have HN := Lib.hid hO.1
  have HC := Lib.hid hO.2.1
  have HX := Lib.hid hO.2.2.1
  have HM := Lib.hid hM
  have hn63 : n ≤ 9223372036854775807 := by have h1 := hO.2.1; have h2 := hO.2.2.1; unfold maxLen at h2; omega
  clear hO hM
  go_enter Tryd.func65, Tryd.ntmps65
  go_wp2
  go_loopw [7] (fun x wr => ∃ i : Nat, i ≤ n ∧ x = .int .i64 (i : Nat) ∧ Below w.heap.size w wr ∧ Hid (∀ j, j < i → ¬ badP (os.getD j dop0))) (fun x _ => n - (intOf x).toNat)
  case atStart => exact ⟨0, Nat.zero_le _, rfl, Below.refl _ _, fun j hj => by omega⟩
  case round =>
    obtain ⟨i, hi, rfl, hb, HJ⟩ := hrel
    have HB := Lib.hid hb
    by_cases hlt : i < n
    · obtain ⟨g, o, rfl, _, ab, aa, nb, cb, na, ca, hr, htb, hta⟩ := (HO.out.on hb).2.2.2 i (by have := HN.out; omega)
      obtain ⟨op, hop⟩ : ∃ op, op = os.getD i dop0 := ⟨_, rfl⟩
      rw [← hop] at hr htb hta
      have HOP := Lib.hid hop
      have HR := Lib.hid hr
      have HTB := Lib.hid htb
      have HTA := Lib.hid hta
      clear hr htb hta hb hop
      have HZ := Lib.hid (show (Tryd.prog.info? 84).map (·.size) = some (ocells op ab aa nb cb na ca).toArray.size from size_dop)
      have HFIN := Lib.hid (show badP op → M = true from fun h => HM.out.2 (.inl ⟨os.getD i dop0, by rw [List.getD, List.getElem?_eq_getElem (by have := HN.out; omega)]; exact List.getElem_mem _, by rw [← HOP.out]; exact h⟩))
      go_wp2_with (first | (refine wpList_load_mid rfl 84 (.tmp 9) rfl g (o + i * 5) rfl (ocells op ab aa nb cb na ca) _ HR.out Tryd.underlying84 rfl size_dop ?_) | (refine wpList_store_abs rfl 84 (.tmp 4) (.tmp 10) rfl wr.heap.size (ocells op ab aa nb cb na ca).toArray (by rfl) (by rfl) 84 _ (Blk.new wr _ _) HZ.out (by rfl) (ocells_one _ _ _ _ _ _ _) ?_; intro W hW p5; have HBW := Lib.hid (HB.out.trans ((hW.below ((Below.refl _ wr).alloc (Nat.le_refl _) _) (Nat.le_refl _)).mono HB.out.size)); have b1 := p5.cell 1 (ocell1 _ _ _ _ _ _ _); have b2 := p5.cell 2 (ocell2 _ _ _ _ _ _ _); have b3 := p5.cell 3 (ocell3 _ _ _ _ _ _ _); clear hW p5))
      by_cases k1 : longP op.b
      · refine (long_yes k1 ab nb cb HTB.out.len W).mono ?_
        rintro e w' ⟨rfl, rfl⟩
        have hM1 := HFIN.out (.inl k1)
        subst hM1
        go_wp2
        go_ret
        exact ⟨rfl, HBW.out⟩
      · refine (long_no k1 ab nb cb HTB.out.len W).mono ?_
        rintro e w' ⟨rfl, rfl⟩
        by_cases k2 : longP op.add
        · go_wp2_with fail
          refine (long_yes k2 aa na ca HTA.out.len _).mono ?_
          rintro e w' ⟨rfl, rfl⟩
          have hM1 := HFIN.out (.inr (.inl k2))
          subst hM1
          go_wp2
          go_ret
          exact ⟨rfl, HBW.out⟩
        · go_wp2_with fail
          refine (long_no k2 aa na ca HTA.out.len _).mono ?_
          rintro e w' ⟨rfl, rfl⟩
          by_cases k3 : 600 < op.n
          · by_cases k4 : op.n ≤ 65536
            · have hM1 := HFIN.out (.inr (.inr ⟨k3, k4⟩))
              subst hM1
              go_wp2
              go_ret
              exact ⟨rfl, HBW.out⟩
            · have HJ2 := Lib.hid (show ¬ badP op from fun h => by rcases h with h | h | h; exact k1 h; exact k2 h; exact k4 h.2)
              go_wp2
              go_roundw
              case rel =>
                refine ⟨i + 1, by omega, by go_num, HBW.out, fun j hj => ?_⟩
                rcases Nat.lt_or_ge j i with h | h
                · exact HJ.out j h
                · obtain rfl : j = i := by omega
                  rw [← HOP.out]; exact HJ2.out
              case measure => simp [intOf]; omega
          · have HJ2 := Lib.hid (show ¬ badP op from fun h => by rcases h with h | h | h; exact k1 h; exact k2 h; exact k3 h.1)
            go_wp2
            go_roundw
            case rel =>
              refine ⟨i + 1, by omega, by go_num, HBW.out, fun j hj => ?_⟩
              rcases Nat.lt_or_ge j i with h | h
              · exact HJ.out j h
              · obtain rfl : j = i := by omega
                rw [← HOP.out]; exact HJ2.out
            case measure => simp [intOf]; omega
    · have HK := Lib.hid (show i = n by omega)
      have HF := Lib.hid (show M = decide ((40 : Int) < (n : Int)) by
        by_cases q : 40 < n
        · rw [decide_eq_true (show (40 : Int) < (n : Int) by omega)]
          exact HM.out.2 (.inr (by have := HN.out; omega))
        · rw [decide_eq_false (show ¬ (40 : Int) < (n : Int) by omega)]
          refine Bool.eq_false_iff.2 fun h => ?_
          rcases HM.out.1 h with ⟨op, hm, hb⟩ | h
          · obtain ⟨j, hj, rfl⟩ := List.getElem_of_mem hm
            have := HJ.out j (by have := HK.out; have := HN.out; omega)
            rw [List.getD, List.getElem?_eq_getElem hj] at this
            exact this hb
          · have := HN.out; omega)
      clear hb
      go_wp2
      go_ret
      exact ⟨by show Ending.returned (.bool (decide ((40 : Int) < (n : Int)))) = _; rw [HF.out], HB.out⟩
end Go.Proofs.YtgbahfggnbpnmaaDoor
