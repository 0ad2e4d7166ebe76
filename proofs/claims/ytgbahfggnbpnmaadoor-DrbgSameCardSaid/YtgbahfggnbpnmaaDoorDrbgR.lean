import Derived.Test.YtgbahfggnbpnmaaDoorDrbgN
/-
  (*Drbg).Reseed.
-/
namespace Go.Proofs.YtgbahfggnbpnmaaDoor
open Go.RowKit
theorem parts_far2 {w W : World} {g G : Nat} {t : TypeId} {a a' : Option Addr} {n c n' c' : Nat} {l l' : List UInt8} (h : Txt w a n c l) (h' : Txt w a' n' c' l') (f : ∀ b o, a = some ⟨b, o, none⟩ → 0 < l.length → b ≠ G) (f' : ∀ b o, a' = some ⟨b, o, none⟩ → 0 < l'.length → b ≠ G) (hw : Below w.heap.size w W) (hg : g ≠ G) (hb : Blk W g #[.slice a n c, .slice a' n' c'] t) : Parts W (fun b => b ≠ G ∧ b < W.heap.size) (some ⟨g, 0, none⟩) [l, l'] := fun i hi => by
  have hs := hw.size
  have : i = 0 ∨ i = 1 := by simp at hi; omega
  rcases this with rfl | rfl
  · exact ⟨g, 0, a, n, c, rfl, ⟨hg, hb.lt⟩, hb.cell 0 rfl, h.len, h.fit, (h.on hw).rd, fun b o e h0 => ⟨f b o e h0, Nat.lt_of_lt_of_le (h.old b o e h0) hs⟩⟩
  · exact ⟨g, 0, a', n', c', rfl, ⟨hg, hb.lt⟩, hb.cell 1 rfl, h'.len, h'.fit, (h'.on hw).rd, fun b o e h0 => ⟨f' b o e h0, Nat.lt_of_lt_of_le (h'.old b o e h0) hs⟩⟩
theorem parts_far1 {w W : World} {g G : Nat} {t : TypeId} {a : Option Addr} {n c : Nat} {l : List UInt8} (h : Txt w a n c l) (f : ∀ b o, a = some ⟨b, o, none⟩ → 0 < l.length → b ≠ G) (hw : Below w.heap.size w W) (hg : g ≠ G) (hb : Blk W g #[.slice a n c] t) : Parts W (fun b => b ≠ G ∧ b < W.heap.size) (some ⟨g, 0, none⟩) [l] := fun i hi => by
  have hs := hw.size
  have : i = 0 := by simp at hi; omega
  subst this
  exact ⟨g, 0, a, n, c, rfl, ⟨hg, hb.lt⟩, hb.cell 0 rfl, h.len, h.fit, (h.on hw).rd, fun b o e h0 => ⟨f b o e h0, Nat.lt_of_lt_of_le (h.old b o e h0) hs⟩⟩
/-- A text that lies in no piece of a state's block. -/
def Off (a : Option Addr) (l : List UInt8) (G : Nat) : Prop := ∀ b o, a = some ⟨b, o, none⟩ → 0 < l.length → b ≠ G
theorem Txt.off {w w' : World} {a : Option Addr} {n c G : Nat} {l : List UInt8} (h : Txt w a n c l) (hg : w.grownBy w' (some G)) (ho : Off a l G) : Txt w' a n c l :=
  ⟨h.len, h.fit, Rd.grown' h.rd hg (fun h0 b o e => by have := ho b o e (by simpa using h0); simpa using this), fun b o e h0 => Nat.lt_of_lt_of_le (h.old b o e h0) hg.size⟩
set_option maxRecDepth 100000 in
set_option maxHeartbeats 1000000 in
theorem reseed_err (k v : List UInt8) (cnt : Int) (G : Nat) (ent add : List UInt8) (a b : Option Addr) (n c m d : Nat) (w : World) (hD : DAt w G k v cnt) (hE : Txt w a n c ent) (hA : Txt w b m d add) (he : mayE ent [add] ≠ 0) :
    Calls Tryd.prog 61 #[.pointer (some ⟨G, 0, none⟩), .slice a n c, .slice b m d] w fun e w' => e = .returned (.int .i64 (mayE ent [add])) ∧ Below w.heap.size w w' := by
  have hb := below_one' w (.cells #[.slice b m d] 28)
  have HD := Lib.hid hD
  have HE := Lib.hid (hE.on hb)
  have HP := Lib.hid (((Pcs.nil w).snoc hA).on hb)
  have HO := Lib.hid (OwnS.of_blk (xs := [.slice b m d]) (Blk.new w #[.slice b m d] 28) (Nat.le_refl _) (by simp [maxLen]))
  have HB := Lib.hid hb
  clear hE hA hb hD
  obtain ⟨er, her⟩ : ∃ z, z = mayE ent [add] := ⟨_, rfl⟩
  rw [← her] at he ⊢
  go_enter Tryd.func61, Tryd.ntmps61
  go_wp2_with (go_at_call 115; refine (dnone_at HD.out).mono ?_; rintro e w' ⟨rfl, rfl⟩)
  refine (may_walk ent _ _ _ _ _ _ _ _ w.heap.size _ HE.out HO.out HP.out HB.out.size (by simp)).mono ?_
  rintro e w2 ⟨he2, hg2⟩
  have HB2 := Lib.hid (below_ownS HB.out HO.out HB.out.size hg2)
  clear hg2
  rw [show mayE ent ([] ++ [add]) = er from her.symm] at he2
  subst he2
  clear her
  go_wp2
  go_ret
  exact ⟨rfl, HB2.out⟩
set_option maxRecDepth 100000 in
set_option maxHeartbeats 1000000 in
theorem reseed_walk (k v : List UInt8) (cnt : Int) (G : Nat) (ent add : List UInt8) (a b : Option Addr) (n c m d : Nat) (w : World) (hD : DAt w G k v cnt) (hE : Txt w a n c ent) (hA : Txt w b m d add) (fE : Off a ent G) (fA : Off b add G) (hT : Two w) (h1 : G ≠ 0) (h2 : G ≠ 1) (he : mayE ent [add] = 0) :
    Calls Tryd.prog 61 #[.pointer (some ⟨G, 0, none⟩), .slice a n c, .slice b m d] w fun e w' => e = .returned (.int .i64 0) ∧ w.grownBy w' (some G) ∧ DAt w' G (updK k v (ent ++ add)) (updV k v (ent ++ add)) 1 := by
  have hb := below_one' w (.cells #[.slice b m d] 28)
  have HD := Lib.hid hD
  have HE := Lib.hid (hE.on hb)
  have HP := Lib.hid (((Pcs.nil w).snoc hA).on hb)
  have HO := Lib.hid (OwnS.of_blk (xs := [.slice b m d]) (Blk.new w #[.slice b m d] 28) (Nat.le_refl _) (by simp [maxLen]))
  have HB := Lib.hid hb
  have HEw := Lib.hid hE
  have HAw := Lib.hid hA
  have HFE := Lib.hid fE
  have HFA := Lib.hid fA
  have HTw := Lib.hid hT
  have HG1 := Lib.hid h1
  have HG2 := Lib.hid h2
  have HLen := Lib.hid (mayE_len he)
  clear hE hA hb hD hT fE fA h1 h2
  go_enter Tryd.func61, Tryd.ntmps61
  go_wp2_with (go_at_call 115; refine (dnone_at HD.out).mono ?_; rintro e w' ⟨rfl, rfl⟩)
  refine (may_walk ent _ _ _ _ _ _ _ _ w.heap.size _ HE.out HO.out HP.out HB.out.size (by simp)).mono ?_
  rintro e w2 ⟨he2, hg2⟩
  have HB2 := Lib.hid (below_ownS HB.out HO.out HB.out.size hg2)
  clear hg2
  rw [show mayE ent ([] ++ [add]) = 0 from he] at he2
  subst he2
  clear he HE HP HO HB
  have hbn := below_one' w2 (.cells #[.slice a n c, .slice b m d] 28)
  have hb3 := HB2.out.trans (hbn.mono HB2.out.size)
  have HB3 := Lib.hid hb3
  have HD3 := Lib.hid (HD.out.on hb3)
  have HP3 := Lib.hid (parts_far2 (G := G) HEw.out HAw.out HFE.out HFA.out hb3 (by have := HD.out.blk.lt; have := HB2.out.size; omega) (Blk.new w2 #[.slice a n c, .slice b m d] 28))
  have HT3 := Lib.hid (HTw.out.on hb3)
  clear hbn hb3
  go_wp2_with fail
  refine (update_walk k v cnt G [ent, add] _ 2 2 rfl _ HD3.out HP3.out HT3.out HG1.out HG2.out (by simp) (by have h := HLen.out; have h1 := h.2.2 add (by simp); simp; omega)).mono ?_
  rintro e w3 ⟨rfl, hg3, hD3⟩
  have hg := grownBy_trans (grownBy_of_below HB3.out) hg3
  have HD4 := Lib.hid hD3
  have HGR := Lib.hid hg
  have c0 := hD3.blk.cell 65 (dcells_cnt hD3.kl hD3.vl)
  have c1 := hD3.blk.free 65
  clear hg3 hD3 hg
  go_wp2
  go_ret
  refine ⟨rfl, grownBy_set HGR.out _ _, ?_⟩
  have h := HD4.out.blk.set 65 (.int .i64 1)
  rw [dcells_set_cnt HD4.out.kl HD4.out.vl] at h
  simp only [List.flatten_cons, List.flatten_nil, List.append_nil] at h
  exact ⟨updK_len _ _ _, updV_len _ _ _, h⟩
end Go.Proofs.YtgbahfggnbpnmaaDoor
