import Derived.Test.YtgbahfggnbpnmaaOpE
import Derived.Test.YtgbahfggnbpnmaaLwS
/-
  liverylaw17.few.
-/
namespace Go.Proofs.Ytgbahfggnbpnmaa
open Go.RowKit
def longK (o : KOp) : Prop := 1000 < o.b.length ∨ 1000 < o.pick.length
def fewK (os : List KOp) : Prop := (∀ o ∈ os, ¬ longK o) ∧ os.length ≤ 200
theorem kcells_one (o : KOp) (ab ap : Option Addr) (nb cb np cp : Nat) : (kcells o ab ap nb cb np cp).toArray.all (·.oneCell') = true := by
  simp [kcells, Value.oneCell']
section
variable (o : KOp) (ab ap : Option Addr) (nb cb np cp : Nat)
theorem kcell0 : (kcells o ab ap nb cb np cp).toArray[0]? = some (.int .i64 o.act) := by simp [kcells]
theorem kcell1 : (kcells o ab ap nb cb np cp).toArray[1]? = some (.int .i64 o.i) := by simp [kcells]
theorem kcell2 : (kcells o ab ap nb cb np cp).toArray[2]? = some (.int .i64 o.n) := by simp [kcells]
theorem kcell3 : (kcells o ab ap nb cb np cp).toArray[3]? = some (.int .u8 o.x.toNat) := by simp [kcells]
theorem kcell4 : (kcells o ab ap nb cb np cp).toArray[4]? = some (.slice ab nb cb) := by simp [kcells]
theorem kcell5 : (kcells o ab ap nb cb np cp).toArray[5]? = some (.slice ap np cp) := by simp [kcells]
end
set_option maxRecDepth 100000 in
set_option maxHeartbeats 1000000 in
theorem few17_walk (os : List KOp) (a : Option Addr) (n c : Nat) (w : World) (hO : KsIn w a n c os) :
    Calls Try.prog 12 #[.slice a n c] w fun e w' => ∃ M : Bool, e = .returned (.bool M) ∧ (M = true → fewK os) ∧ Below w.heap.size w w' := by
  have HO := Lib.hid hO
  have HN := Lib.hid hO.1
  have hn63 : n ≤ 9223372036854775807 := by have h1 := hO.2.1; have h2 := hO.2.2.1; unfold maxLen at h2; omega
  clear hO
  go_enter Try.func12, Try.ntmps12
  go_wp2
  go_loopw [7] (fun x wr => ∃ i : Nat, i ≤ n ∧ x = .int .i64 (i : Nat) ∧ Below w.heap.size w wr ∧ Hid (∀ j, j < i → ¬ longK (os.getD j kop0))) (fun x _ => n - (intOf x).toNat)
  case atStart => exact ⟨0, Nat.zero_le _, rfl, Below.refl _ _, fun j hj => by omega⟩
  case round =>
    obtain ⟨i, hi, rfl, hb, HJ⟩ := hrel
    have HB := Lib.hid hb
    by_cases hlt : i < n
    · obtain ⟨g, o, rfl, _, ⟨ab, ap, nb, cb, np, cp, hr, htb, htp⟩, _⟩ := (HO.out.on hb).2.2.2 i (by have := HN.out; omega)
      obtain ⟨op, hop⟩ : ∃ op, op = os.getD i kop0 := ⟨_, rfl⟩
      rw [← hop] at hr htb htp
      have HOP := Lib.hid hop
      have HR := Lib.hid hr
      have HTB := Lib.hid htb.len
      have HTP := Lib.hid htp.len
      clear hr htb htp hb hop
      have HZ := Lib.hid (show (Try.prog.info? 33).map (·.size) = some (kcells op ab ap nb cb np cp).toArray.size from size_kop)
      by_cases k1 : 1000 < nb
      · have k1' : (1000 : Int) < (nb : Int) := by omega
        go_wp2_with (first | (refine wpList_load_mid rfl 33 (.tmp 9) rfl g (o + i * 6) rfl (kcells op ab ap nb cb np cp) _ HR.out Try.underlying33 rfl size_kop ?_) | (refine wpList_store_abs rfl 33 (.tmp 4) (.tmp 10) rfl wr.heap.size (kcells op ab ap nb cb np cp).toArray (by rfl) (by rfl) 33 _ (Blk.new wr _ _) HZ.out (by rfl) (kcells_one _ _ _ _ _ _ _) ?_; intro W hW p5; have HBW := Lib.hid (HB.out.trans ((hW.below ((Below.refl _ wr).alloc (Nat.le_refl _) _) (Nat.le_refl _)).mono HB.out.size)); have b4 := p5.cell 4 (kcell4 _ _ _ _ _ _ _); have b5 := p5.cell 5 (kcell5 _ _ _ _ _ _ _); clear hW p5))
        go_ret
        exact ⟨false, rfl, (fun e => by cases e), HBW.out⟩
      · by_cases k2 : 1000 < np
        · have k2' : (1000 : Int) < (np : Int) := by omega
          go_wp2_with (first | (refine wpList_load_mid rfl 33 (.tmp 9) rfl g (o + i * 6) rfl (kcells op ab ap nb cb np cp) _ HR.out Try.underlying33 rfl size_kop ?_) | (refine wpList_store_abs rfl 33 (.tmp 4) (.tmp 10) rfl wr.heap.size (kcells op ab ap nb cb np cp).toArray (by rfl) (by rfl) 33 _ (Blk.new wr _ _) HZ.out (by rfl) (kcells_one _ _ _ _ _ _ _) ?_; intro W hW p5; have HBW := Lib.hid (HB.out.trans ((hW.below ((Below.refl _ wr).alloc (Nat.le_refl _) _) (Nat.le_refl _)).mono HB.out.size)); have b4 := p5.cell 4 (kcell4 _ _ _ _ _ _ _); have b5 := p5.cell 5 (kcell5 _ _ _ _ _ _ _); clear hW p5))
          go_ret
          exact ⟨false, rfl, (fun e => by cases e), HBW.out⟩
        · have HJ2 := Lib.hid (show ¬ longK op from fun h => by have h1 := HTB.out; have h2 := HTP.out; unfold longK at h; omega)
          go_wp2_with (first | (refine wpList_load_mid rfl 33 (.tmp 9) rfl g (o + i * 6) rfl (kcells op ab ap nb cb np cp) _ HR.out Try.underlying33 rfl size_kop ?_) | (refine wpList_store_abs rfl 33 (.tmp 4) (.tmp 10) rfl wr.heap.size (kcells op ab ap nb cb np cp).toArray (by rfl) (by rfl) 33 _ (Blk.new wr _ _) HZ.out (by rfl) (kcells_one _ _ _ _ _ _ _) ?_; intro W hW p5; have HBW := Lib.hid (HB.out.trans ((hW.below ((Below.refl _ wr).alloc (Nat.le_refl _) _) (Nat.le_refl _)).mono HB.out.size)); have b4 := p5.cell 4 (kcell4 _ _ _ _ _ _ _); have b5 := p5.cell 5 (kcell5 _ _ _ _ _ _ _); clear hW p5))
          go_roundw
          case rel =>
            refine ⟨i + 1, by omega, by go_num, HBW.out, fun j hj => ?_⟩
            rcases Nat.lt_or_ge j i with h | h
            · exact HJ.out j h
            · obtain rfl : j = i := by omega
              rw [← HOP.out]; exact HJ2.out
          case measure => simp [intOf]; omega
    · have HK := Lib.hid (show i = n by omega)
      have HF := Lib.hid (show ∀ M : Bool, M = decide ((n : Int) ≤ 200) → M = true → fewK os from fun M hM h => by
        rw [hM] at h
        have h200 := of_decide_eq_true h
        refine ⟨fun op hm => ?_, by have := HN.out; omega⟩
        obtain ⟨j, hj, rfl⟩ := List.getElem_of_mem hm
        have := HJ.out j (by have := HK.out; have := HN.out; omega)
        rwa [List.getD, List.getElem?_eq_getElem hj] at this)
      clear hb
      go_wp2
      go_ret
      exact ⟨_, rfl, HF.out _ rfl, HB.out⟩
end Go.Proofs.Ytgbahfggnbpnmaa
