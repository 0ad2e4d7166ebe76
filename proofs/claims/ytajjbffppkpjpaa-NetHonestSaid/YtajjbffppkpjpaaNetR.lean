import Derived.Test.YtajjbffppkpjpaaNetO
import Derived.Lib.SlBytesConst
/-
  liveryref26.Same; liverylaw26.live.
-/
namespace Go.Proofs.Ytajjbffppkpjpaa
set_option linter.unusedSimpArgs false
set_option linter.unusedVariables false
open Go.RowKit
def seq (x y : Snt) : Bool := decide (x.f = y.f ∧ x.t = y.t ∧ x.d = y.d)
set_option maxRecDepth 100000 in
set_option maxHeartbeats 1000000 in
theorem rsame_walk (x y : Snt) (px py : Option Addr) (nx cx ny cy : Nat) (w : World) (hX : Txt w px nx cx x.d) (hY : Txt w py ny cy y.d) (M : Bool) (hM : M = seq x y) :
    Calls Try.prog 29 #[sag x.f x.t px nx cx, sag y.f y.t py ny cy] w fun e w' => e = .returned (.bool M) ∧ Below w.heap.size w w' := by
  obtain ⟨xf, xt, xd⟩ := x
  obtain ⟨yf, yt, yd⟩ := y
  have HM := Lib.hid (show M = decide (xf = yf ∧ xt = yt ∧ xd = yd) from hM)
  have hb := below_boxes w (.cells #[.int .i64 xf, .int .i64 xt, .slice px nx cx] 47) (.cells #[.int .i64 yf, .int .i64 yt, .slice py ny cy] 47)
  have HB := Lib.hid hb
  have HX := Lib.hid (hX.below hb)
  have HY := Lib.hid (hY.below hb)
  have bx := (Blk.new w #[.int .i64 xf, .int .i64 xt, .slice px nx cx] 47).alloc (.cells #[.int .i64 yf, .int .i64 yt, .slice py ny cy] 47)
  have by' := Blk.new' (w.alloc (.cells #[.int .i64 xf, .int .i64 xt, .slice px nx cx] 47)) #[.int .i64 yf, .int .i64 yt, .slice py ny cy] 47 (g := w.heap.size + 1) (by simp)
  have d0 := bx.cell 0 rfl
  have d1 := bx.cell 1 rfl
  have d2 := bx.cell 2 rfl
  have e0 := by'.cell 0 rfl
  have e1 := by'.cell 1 rfl
  have e2 := by'.cell 2 rfl
  clear hM hb hX hY bx by'
  simp only
  by_cases hf : xf = yf
  · have hf2 : (xf == yf) = true := by simp [hf]
    by_cases ht : xt = yt
    · have ht2 : (xt == yt) = true := by simp [ht]
      have HE := Lib.hid (show M = decide (xd = yd) by rw [HM.out]; simp [hf, ht])
      clear hf ht
      go_enter Try.func29, Try.ntmps29
      go_wp2_with fail
      refine (equal_walk px py nx ny cx cy xd yd HX.out.len HY.out.len _ HX.out.rd HY.out.rd).mono ?_
      rintro e w2 ⟨rfl, rfl⟩
      obtain ⟨q, hq⟩ : ∃ q, q = decide (xd = yd) := ⟨_, rfl⟩
      rw [← hq]
      have HQ := Lib.hid hq
      clear hq
      go_wp2
      go_ret
      exact ⟨by rw [HE.out, ← HQ.out]; rfl, HB.out⟩
    · have ht2 : (xt == yt) = false := by simp [ht]
      have HE := Lib.hid (show M = false by rw [HM.out]; simp [ht])
      clear hf ht
      go_enter Try.func29, Try.ntmps29
      go_wp2
      go_ret
      exact ⟨by rw [HE.out]; rfl, HB.out⟩
  · have hf2 : (xf == yf) = false := by simp [hf]
    have HE := Lib.hid (show M = false by rw [HM.out]; simp [hf])
    clear hf
    go_enter Try.func29, Try.ntmps29
    go_wp2
    go_ret
    exact ⟨by rw [HE.out]; rfl, HB.out⟩
theorem conv_const {P : Program} (w : World) (t e : TypeId) (C : Array Value) (n c g : Nat) (hg : g = w.heap.size) (ht : P.underlying t = some (.slice e)) (he : P.underlying e = some (.int .u8)) :
    (convert t t (.slice (some ⟨g, 0, none⟩) n c)).run P (w.alloc (.cells C e)) = .ok (.slice (some ⟨g, 0, none⟩) n c) (w.alloc (.cells C e (C.size, C.size + 1))) := by
  subst hg; exact Lib.run_convert_bytes_const w t e C n c ht he
/-- What the iterator captures, by a letter. -/
theorem never_at' {av : Nat → Prop} {b : Nat} {vx vy vz : Value} {S : NS} (w : World) (h : NetAt w av b vx vy vz S) :
    Calls Try.prog 34 #[.pointer (some ⟨b, 0, none⟩)] w fun e w' => ∃ g, e = .returned (.func (.func 117) #[] #[.pointer (some ⟨g, 0, none⟩)]) ∧ w'.cell? ⟨g, 0, none⟩ = some vy ∧ Below w.heap.size w w' :=
  (never_at w h).mono fun e w' ⟨he, hw⟩ => ⟨_, he, by rw [hw]; exact (Blk.new w #[vy] 41).cell 0 rfl, by rw [hw]; exact below_one' w _⟩
theorem never_no' {p : Option Addr} (w : World) (h : NoNet w p) :
    Calls Try.prog 34 #[.pointer p] w fun e w' => ∃ g, e = .returned (.func (.func 117) #[] #[.pointer (some ⟨g, 0, none⟩)]) ∧ w'.cell? ⟨g, 0, none⟩ = some (.slice none 0 0) ∧ Below w.heap.size w w' :=
  (never_no w h).mono fun e w' ⟨he, hw⟩ => ⟨_, he, by rw [hw]; exact (Blk.new w #[.slice none 0 0] 41).cell 0 rfl, by rw [hw]; exact below_one' w _⟩
/-- What the iterator captures, by a letter. -/
theorem ncame_at' {av : Nat → Prop} {b : Nat} {vx vy vz : Value} {S : NS} (w : World) (h : NetAt w av b vx vy vz S) :
    Calls Try.prog 35 #[.pointer (some ⟨b, 0, none⟩)] w fun e w' => ∃ g, e = .returned (.func (.func 117) #[] #[.pointer (some ⟨g, 0, none⟩)]) ∧ w'.cell? ⟨g, 0, none⟩ = some vz ∧ Below w.heap.size w w' :=
  (ncame_at w h).mono fun e w' ⟨he, hw⟩ => ⟨_, he, by rw [hw]; exact (Blk.new w #[vz] 41).cell 0 rfl, by rw [hw]; exact below_one' w _⟩
theorem ncame_no' {p : Option Addr} (w : World) (h : NoNet w p) :
    Calls Try.prog 35 #[.pointer p] w fun e w' => ∃ g, e = .returned (.func (.func 117) #[] #[.pointer (some ⟨g, 0, none⟩)]) ∧ w'.cell? ⟨g, 0, none⟩ = some (.slice none 0 0) ∧ Below w.heap.size w w' :=
  (ncame_no w h).mono fun e w' ⟨he, hw⟩ => ⟨_, he, by rw [hw]; exact (Blk.new w #[.slice none 0 0] 41).cell 0 rfl, by rw [hw]; exact below_one' w _⟩
def lvL : List Ltr := [(2, [97]), (3, [98])]
def lvS1 : NS := ⟨[⟨1, 2, [97]⟩, ⟨1, 3, [98]⟩], [⟨1, 2, [97]⟩, ⟨1, 3, [98]⟩], []⟩
def lvS2 : NS := ⟨[⟨1, 2, [97]⟩, ⟨1, 3, [98]⟩, ⟨1, 2, [97]⟩], [⟨1, 2, [97]⟩, ⟨1, 3, [98]⟩], []⟩
def lvS3 : NS := ⟨[⟨1, 2, [97]⟩, ⟨1, 2, [97]⟩], [⟨1, 2, [97]⟩, ⟨1, 3, [98]⟩], [⟨1, 3, [98]⟩]⟩
theorem lv_send : newN.send 1 lvL = (0, lvS1) := by simp [NS.send, NS.put, newN, lvL, lvS1, devP]
theorem lv_double : lvS1.double 0 = (0, lvS2) := by simp [NS.double, NS.out, NS.at_, lvS1, lvS2]
theorem lv_take : lvS2.take 1 = (⟨1, 3, [98]⟩, 0, lvS3) := by simp [NS.take, NS.out, NS.at_, lvS2, lvS3]
theorem lv_lim1 : lvS1.Lim 2 := ⟨by decide, by decide, by decide, fun s h => by simp [lvS1] at h; rcases h with h | h <;> rcases h with rfl | rfl <;> decide⟩
theorem lv_lim2 : lvS2.Lim 2 := ⟨by decide, by decide, by decide, fun s h => by simp [lvS2] at h; rcases h with h | h <;> (try rcases h with rfl | rfl | rfl) <;> (try rcases h with rfl | rfl) <;> decide⟩
theorem lv_lim3 : lvS3.Lim 2 := ⟨by decide, by decide, by decide, fun s h => by simp [lvS3] at h; rcases h with h | h | h <;> (try rcases h with rfl | rfl) <;> (try subst h) <;> decide⟩
set_option maxRecDepth 100000 in
set_option maxHeartbeats 2000000 in
theorem live26_walk (w : World) : Calls Try.prog 38 #[] w fun e w' => e = .returned (.bool true) ∧ Below w.heap.size w w' := by
  go_enter Try.func38, Try.ntmps38
  go_wp2_with fail
  refine (nnew_walk _).mono ?_
  rintro e w1 ⟨b, rfl, hN, hbl, hb⟩
  have HN := Lib.hid hN
  have HB := Lib.hid hb
  have HBL := Lib.hid hbl
  clear hN hbl hb
  have hcA := conv_const (P := Try.prog) w1 45 5 #[.int .u8 97] 1 1 w1.heap.size rfl Try.underlying45 Try.underlying5
  have hcB := conv_const (P := Try.prog) (w1.alloc (.cells #[.int .u8 97] 5 (1, 2))) 45 5 #[.int .u8 98] 1 1 (w1.heap.size + 1) (by simp) Try.underlying45 Try.underlying5
  obtain ⟨W, hW⟩ : ∃ W, W = ((w1.alloc (.cells #[.int .u8 97] 5 (1, 2))).alloc (.cells #[.int .u8 98] 5 (1, 2))).alloc (.cells #[.int .i64 2, .slice (some ⟨w1.heap.size, 0, none⟩) 1 1, .int .i64 3, .slice (some ⟨w1.heap.size + 1, 0, none⟩) 1 1] 70) := ⟨_, rfl⟩
  have hbW : Below w1.heap.size w1 W := by rw [hW]; exact (((Below.refl _ w1).alloc (Nat.le_refl _) _).alloc (by simp) _).alloc (by simp; omega) _
  have hT1 : Txt W (some ⟨w1.heap.size, 0, none⟩) 1 1 [97] := by rw [hW]; exact ((Txt.new w1 [97] 5 (1, 2) rfl rfl).alloc _).alloc _
  have hT2 : Txt W (some ⟨w1.heap.size + 1, 0, none⟩) 1 1 [98] := by rw [hW]; exact (Txt.new _ [98] 5 (1, 2) rfl (by simp)).alloc _
  have hBk : Blk W (w1.heap.size + 1 + 1) #[.int .i64 2, .slice (some ⟨w1.heap.size, 0, none⟩) 1 1, .int .i64 3, .slice (some ⟨w1.heap.size + 1, 0, none⟩) 1 1] 70 := by rw [hW]; exact Blk.new' _ _ _ (by simp)
  have hsz : W.heap.size = w1.heap.size + 3 := by rw [hW]; simp
  have r0 : W.rangeAt (w1.heap.size + 1 + 1) (0 + 0 * 2) [.int .i64 2, .slice (some ⟨w1.heap.size, 0, none⟩) 1 1] := range_blk hBk _ _ (fun j hj => by
    have h : j = 0 ∨ j = 1 := by simp at hj; omega
    rcases h with rfl | rfl <;> rfl)
  have r1 : W.rangeAt (w1.heap.size + 1 + 1) (0 + 1 * 2) [.int .i64 3, .slice (some ⟨w1.heap.size + 1, 0, none⟩) 1 1] := range_blk hBk _ _ (fun j hj => by
    have h : j = 0 ∨ j = 1 := by simp at hj; omega
    rcases h with rfl | rfl <;> rfl)
  have HI := Lib.hid (show LtIn W (fun k => w1.heap.size ≤ k ∧ k < W.heap.size) (some ⟨w1.heap.size + 1 + 1, 0, none⟩) 2 2 lvL from ⟨rfl, Nat.le_refl _, by simp [maxLen], fun i hi => by
    have h : i = 0 ∨ i = 1 := by simp [lvL] at hi; omega
    rcases h with rfl | rfl
    · exact ⟨_, 0, _, 1, 1, rfl, hBk.lt, r0, hT1, ⟨by omega, by omega⟩, fun b o e _ => by cases e; exact ⟨by omega, by omega⟩⟩
    · exact ⟨_, 0, _, 1, 1, rfl, hBk.lt, r1, hT2, ⟨by omega, by omega⟩, fun b o e _ => by cases e; exact ⟨by omega, by omega⟩⟩⟩)
  have HNW := Lib.hid (HN.out.on hbW)
  have HBW := Lib.hid (HB.out.trans (hbW.mono HB.out.size))
  have HNF := Lib.hid (show ∀ j, NFoot b (.slice none 0 0) (.slice none 0 0) (.slice none 0 0) j → j < w1.heap.size ∧ w.heap.size ≤ j from fun j q => ⟨HN.out.lt q, by
    rcases q with rfl | e | e | e
    · exact HBL.out
    · cases e
    · cases e
    · cases e⟩)
  clear hbW hT1 hT2 hBk hsz r0 r1
  go_wp2_with fail
  rw [← hW]
  clear hcA hcB hW
  refine (nsend_at 1 lvL _ 2 2 W HNW.out HI.out (fun j hj => ⟨hj.2, fun q => by have h1 := (HNF.out j q).1; omega⟩) (newN_lim) (by decide) (by decide)).mono ?_
  rw [lv_send]
  rintro e w2 ⟨rfl, x1, x2, hN, hO, hG⟩
  have HN2 := Lib.hid hN
  have HB2 := Lib.hid (HBW.out.trans (hO.below (fun k q => (HNF.out k q).2) HBW.out.size))
  have HG2 := Lib.hid (show ∀ k, NFoot b x1 x2 (.slice none 0 0) k → w.heap.size ≤ k from fun k q => (hG k q).elim (fun q => (HNF.out k q).2) (fun q => Nat.le_trans HBW.out.size q))
  clear hN hO hG HI HNW HBW HNF HN
  go_wp2_with fail
  refine (ndouble_at 0 _ HN2.out lv_lim1).mono ?_
  rw [lv_double]
  rintro e w3 ⟨rfl, y1, hN, hO, hG⟩
  have HN3 := Lib.hid hN
  have HB3 := Lib.hid (HB2.out.trans (hO.below (fun k q => HG2.out k q) HB2.out.size))
  have HG3 := Lib.hid (show ∀ k, NFoot b y1 x2 (.slice none 0 0) k → w.heap.size ≤ k from fun k q => (hG k q).elim (fun q => HG2.out k q) (fun q => Nat.le_trans HB2.out.size q))
  clear hN hO hG HN2 HG2
  go_wp2_with fail
  refine (ntake_at 1 _ HN3.out lv_lim2 (by decide)).mono ?_
  rw [lv_take]
  rintro e w4 ⟨ua, nn, cc, rfl, hT, z1, z3, hN, hO, hG⟩
  have HB4 := Lib.hid (HB3.out.trans (hO.below (fun k q => HG3.out k q) HB3.out.size))
  have HT4 := Lib.hid hT.txt
  have HN4 := Lib.hid hN
  clear hT hN hO hG HN3 HG3
  simp only at HT4 ⊢
  have hcB := conv_const (P := Try.prog) (w4.alloc (.cells #[.int .i64 1, .int .i64 3, .slice ua nn cc] 47)) 45 5 #[.int .u8 98] 1 1 (w4.heap.size + 1) (by simp) Try.underlying45 Try.underlying5
  go_wp2_with fail
  have hb4 := below_boxes w4 (.cells #[.int .i64 1, .int .i64 3, .slice ua nn cc] 47) (.cells (barr [98]) 5 (1, 2))
  have hT5 : Txt ((w4.alloc (.cells #[.int .i64 1, .int .i64 3, .slice ua nn cc] 47)).alloc (.cells (barr [98]) 5 (1, 2))) (some ⟨w4.heap.size + 1, 0, none⟩) 1 1 [98] := Txt.new _ [98] 5 (1, 2) rfl (by simp)
  have HN5 := Lib.hid (HN4.out.on hb4)
  have HB5 := Lib.hid (HB4.out.trans (hb4.mono HB4.out.size))
  have HT6 := Lib.hid (HT4.out.below hb4)
  have HT5 := Lib.hid hT5
  clear hb4 hT5 HN4 HT4 hcB
  refine (rsame_walk ⟨1, 3, [98]⟩ ⟨1, 3, [98]⟩ ua _ nn cc 1 1 _ HT6.out HT5.out true rfl).mono ?_
  rintro e w5 ⟨rfl, hb⟩
  have HN6 := Lib.hid (HN5.out.on hb)
  have HB6 := Lib.hid (HB5.out.trans (hb.mono HB5.out.size))
  clear hb HN5 HT5 HT6
  go_wp2_with fail
  refine (nlen_at _ HN6.out).mono ?_
  rintro e w6 ⟨rfl, rfl⟩
  have hln : ((lvS3.way.length : Nat) : Int) = 2 := rfl
  rw [hln]
  clear hln
  have hcA := conv_const (P := Try.prog) w6 45 5 #[.int .u8 97] 1 1 w6.heap.size rfl Try.underlying45 Try.underlying5
  have hb4 := below_one' w6 (.cells (barr [97]) 5 (1, 2))
  have HN7 := Lib.hid (HN6.out.on hb4)
  have HB7 := Lib.hid (HB6.out.trans (hb4.mono HB6.out.size))
  have HT7 := Lib.hid (Txt.new w6 [97] 5 (1, 2) (n := 1) (g := w6.heap.size) rfl rfl)
  clear hb4
  go_wp2_with fail
  clear hcA
  refine (nsaid_at 1 _ 1 1 [97] _ HN7.out lv_lim3 HT7.out true ⟨fun _ => ⟨⟨1, 2, [97]⟩, by simp [lvS3], rfl, rfl⟩, fun _ => rfl⟩).mono ?_
  rintro e w7 ⟨rfl, hb⟩
  have HN8 := Lib.hid (HN7.out.on hb)
  have HB8 := Lib.hid (HB7.out.trans (hb.mono HB7.out.size))
  clear hb HN7 HT7
  have hcA := conv_const (P := Try.prog) w7 45 5 #[.int .u8 97] 1 1 w7.heap.size rfl Try.underlying45 Try.underlying5
  have hb4 := below_one' w7 (.cells (barr [97]) 5 (1, 2))
  have HN9 := Lib.hid (HN8.out.on hb4)
  have HB9 := Lib.hid (HB8.out.trans (hb4.mono HB8.out.size))
  have HT9 := Lib.hid (Txt.new w7 [97] 5 (1, 2) (n := 1) (g := w7.heap.size) rfl rfl)
  clear hb4
  go_wp2_with fail
  clear hcA
  refine (nsaid_at 2 _ 1 1 [97] _ HN9.out lv_lim3 HT9.out false ⟨(fun e => by cases e), fun ⟨s, hs, h1, _⟩ => by simp [lvS3] at hs; rcases hs with rfl | rfl <;> simp at h1⟩).mono ?_
  rintro e w8 ⟨rfl, hb⟩
  have HB10 := Lib.hid (HB9.out.trans (hb.mono HB9.out.size))
  clear hb
  go_wp2
  go_ret
  exact ⟨rfl, HB10.out⟩
end Go.Proofs.Ytajjbffppkpjpaa
