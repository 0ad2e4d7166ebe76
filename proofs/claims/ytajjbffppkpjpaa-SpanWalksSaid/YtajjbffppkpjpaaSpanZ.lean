import Derived.Test.YtajjbffppkpjpaaSpanN
import Derived.Test.YtajjbffppkpjpaaSpanA
/-
  span.All's value; liverylaw19.live.
-/
namespace Go.Proofs.Ytajjbffppkpjpaa
open Go.RowKit
theorem live_may2 : MayP [⟨0, 4⟩, ⟨8, 9⟩] := by
  refine ⟨?_, ?_, by simp⟩
  · simp [Sep, Rg.pos]
  · intro x hx; simp at hx; rcases hx with rfl | rfl <;> simp [maxIx]
theorem live_add : addR [⟨0, 4⟩, ⟨8, 9⟩] ⟨4, 8⟩ = ([⟨0, 9⟩], 0) := by
  unfold addR
  rw [if_neg (not_not_intro ⟨live_may2, by simp [oneP, maxIx]⟩), if_neg]
  · rw [show putP [⟨0, 4⟩, ⟨8, 9⟩] ⟨4, 8⟩ = [⟨0, 9⟩] by decide]
    unfold sizeR
    rw [if_neg (by simp)]
  · rintro ⟨x, hx, h⟩
    simp at hx
    rcases hx with rfl | rfl <;> simp [inter] at h
theorem live_block : blockR [⟨1, 9⟩] (2 : Nat) = (⟨4, 8⟩, 0) :=
  blockR_some (by omega) ⟨by simp [Sep, Rg.pos], by intro x hx; simp at hx; subst hx; simp [maxIx], by simp⟩ (by decide)
theorem live_take : takeR [⟨3, 9⟩] 4 = (⟨3, 7⟩, 0) := by
  unfold takeR
  rw [if_neg (by omega), if_neg (not_not_intro ⟨by simp [Sep, Rg.pos], by intro x hx; simp at hx; subst hx; simp [maxIx], by simp⟩), if_neg (by simp)]
  simp
theorem RgR.blk {w : World} {g : Nat} {t : TypeId} {l : List Rg} {cs : Array Value} (h : Blk w g cs t) (e : cs.toList = rcs l) : RgR w (some ⟨g, 0, none⟩) l := fun i hi => by
  refine ⟨g, 0, rfl, h.lt, range_blk h (0 + i * 2) _ (fun j hj => ?_)⟩
  have hj2 : j < 2 := by simpa [rcl] using hj
  rw [← Array.getElem?_toList, e, Nat.zero_add]
  exact rcs_get l i hi j hj2
theorem RgsIn.blk {w : World} {g : Nat} {t : TypeId} {l : List Rg} {cs : Array Value} (h : Blk w g cs t) (e : cs.toList = rcs l) (n : Nat) (hn : n = l.length) (hm : n ≤ maxLen) (hb : ∀ r, r ∈ l → r.lo < 18446744073709551616 ∧ r.hi < 18446744073709551616) : RgsIn w (some ⟨g, 0, none⟩) n n l :=
  ⟨hn, Nat.le_refl _, hm, RgR.blk h e, hb⟩
theorem all_walk (a : Option Addr) (n c : Nat) (w : World) :
    Calls Try.prog 54 #[.slice a n c] w fun e w' => e = .returned (.func (.func 101) #[] #[.pointer (some ⟨w.heap.size, 0, none⟩)]) ∧ w' = w.alloc (.cells #[.slice a n c] 22) := by
  go_enter Try.func54, Try.ntmps54
  go_wp2
  go_ret
  exact ⟨rfl, rfl⟩
theorem equalIn_nilFunc (d : Nat) (w : World) (f : Fn) (xs ys : Array Value) : (Op.equalIn (d + 1) 82 (.func f xs ys) .nilFunc).run Try.prog w = .ok false w := by
  simp [Op.equalIn, run_underlying Try.underlying82]
theorem equal_nilFunc (w : World) (f : Fn) (xs ys : Array Value) : (Op.equal 82 (.func f xs ys) .nilFunc).run Try.prog w = .ok false w := equalIn_nilFunc 9999 w f xs ys
theorem ne_nilFunc (w : World) (f : Fn) (xs ys : Array Value) : (binOp .neq 82 (.func f xs ys) .nilFunc).run Try.prog w = .ok (.bool true) w := by
  simp only [binOp]
  simp [equal_nilFunc]
set_option maxRecDepth 100000 in
set_option maxHeartbeats 1000000 in
theorem live19_walk (w : World) : Calls Try.prog 16 #[] w fun e w' => e = .returned (.bool true) ∧ Below w.heap.size w w' := by
  have hb := below_one1 w (.cells #[.int .u64 0, .int .u64 4, .int .u64 8, .int .u64 9] 25)
  have HL := Lib.hid (RgsIn.blk (l := [⟨0, 4⟩, ⟨8, 9⟩]) (Blk.new w #[.int .u64 0, .int .u64 4, .int .u64 8, .int .u64 9] 25) rfl 2 rfl (by simp [maxLen]) (by intro x hx; simp at hx; rcases hx with rfl | rfl <;> simp))
  have HB := Lib.hid hb
  clear hb
  go_enter Try.func16, Try.ntmps16
  go_wp2_with fail
  refine (add_walk [⟨0, 4⟩, ⟨8, 9⟩] ⟨4, 8⟩ _ 2 2 _ HL.out).mono ?_
  rintro e w2 ⟨v2, z2, rfl, hO, hz, hb⟩
  rw [live_add] at hO hz
  obtain ⟨pa, ca, rfl, _⟩ := hO.form
  obtain rfl : z2 = 0 := hz
  have HB2 := Lib.hid (HB.out.trans (hb.mono HB.out.size))
  have HO2 := Lib.hid hO
  clear hO hb HL
  have hb := below_one1 w2 (.cells #[.int .u64 1, .int .u64 9] 25)
  have HL := Lib.hid (RgsIn.blk (l := [⟨1, 9⟩]) (Blk.new w2 #[.int .u64 1, .int .u64 9] 25) rfl 1 rfl (by simp [maxLen]) (by intro x hx; simp at hx; subst hx; simp))
  have HB3 := Lib.hid (HB2.out.trans (hb.mono HB2.out.size))
  have HO3 := Lib.hid (HO2.out.on hb)
  clear hb
  go_wp2_with fail
  refine (block_walk [⟨1, 9⟩] ((2 : Nat) : Int) _ 1 1 _ HL.out).mono ?_
  rintro e w3 ⟨rfl, hb⟩
  rw [live_block]
  have HB4 := Lib.hid (HB3.out.trans (hb.mono HB3.out.size))
  have HO4 := Lib.hid (HO3.out.on hb)
  clear hb HL
  have hb := below_two2 w3 (.cells #[.int .u64 4, .int .u64 8] 25) (.cells #[.int .u64 3, .int .u64 9] 25)
  have BT4 := Lib.hid ((Blk.new w3 #[.int .u64 4, .int .u64 8] 25).alloc (.cells #[.int .u64 3, .int .u64 9] 25))
  have HL := Lib.hid (RgsIn.blk (l := [⟨3, 9⟩]) (Blk.new' (w3.alloc (.cells #[.int .u64 4, .int .u64 8] 25)) #[.int .u64 3, .int .u64 9] 25 (g := w3.heap.size + 1) (by simp)) rfl 1 rfl (by simp [maxLen]) (by intro x hx; simp at hx; subst hx; simp))
  have HB5 := Lib.hid (HB4.out.trans (hb.mono HB4.out.size))
  have HO5 := Lib.hid (HO4.out.on hb)
  clear hb
  go_wp2_with fail
  refine (take_walk [⟨3, 9⟩] 4 (by omega) _ 1 1 _ HL.out).mono ?_
  rintro e w4 ⟨rfl, hb⟩
  rw [live_take]
  have HB6 := Lib.hid (HB5.out.trans (hb.mono HB5.out.size))
  have HO6 := Lib.hid (HO5.out.on hb)
  have BT6 := Lib.hid (BT4.out.on hb)
  clear hb HL BT4 HO4 HO5 HO3 HO2
  have hb := below_two2 w4 (.cells #[.int .u64 3, .int .u64 7] 25) (.cells #[.int .u64 0, .int .u64 9] 25)
  have BU := Lib.hid ((Blk.new w4 #[.int .u64 3, .int .u64 7] 25).alloc (.cells #[.int .u64 0, .int .u64 9] 25))
  have HL := Lib.hid (RgR.blk (l := [⟨0, 9⟩]) (Blk.new' (w4.alloc (.cells #[.int .u64 3, .int .u64 7] 25)) #[.int .u64 0, .int .u64 9] 25 (g := w4.heap.size + 1) (by simp)) rfl)
  have HB7 := Lib.hid (HB6.out.trans (hb.mono HB6.out.size))
  have HO7 := Lib.hid (HO6.out.on hb)
  have BT7 := Lib.hid (BT6.out.on hb)
  clear hb
  go_wp2_with fail
  refine (same_walk [⟨0, 9⟩] [⟨0, 9⟩] pa 1 ca _ 1 1 _ rfl rfl (by omega) (by
    obtain ⟨a', c', e', _, _, h3, _⟩ := HO7.out.form
    simp only [Value.slice.injEq] at e'
    rw [e'.1]; exact h3) HL.out).mono ?_
  rintro e w5 ⟨he, hb⟩
  rw [decide_eq_true rfl] at he
  subst he
  have HB8 := Lib.hid (HB7.out.trans (hb.mono HB7.out.size))
  have BT8 := BT7.out.on hb
  have BU8 := BU.out.on hb
  have b0 := BT8.cell 0 rfl
  have b1 := BT8.cell 1 rfl
  have b2 := BU8.cell 0 rfl
  have b3 := BU8.cell 1 rfl
  clear hb HL HO6 HO7 BT7 BT6 BU BT8 BU8
  go_wp2_with fail
  refine (all_walk pa 1 ca _).mono ?_
  rintro e w6 ⟨rfl, rfl⟩
  have HB9 := Lib.hid (HB8.out.trans ((below_one1 w5 (.cells #[.slice pa 1 ca] 22)).mono HB8.out.size))
  have hq := ne_nilFunc (w5.alloc (.cells #[.slice pa 1 ca] 22)) (.func 101) #[] #[.pointer (some ⟨w5.heap.size, 0, none⟩)]
  go_wp2
  go_ret
  exact ⟨rfl, HB9.out⟩
end Go.Proofs.Ytajjbffppkpjpaa
