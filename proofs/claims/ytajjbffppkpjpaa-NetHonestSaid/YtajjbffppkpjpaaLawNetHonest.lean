import Derived.Test.YtajjbffppkpjpaaNetX
import Derived.Test.YtajjbffppkpjpaaNetQ
/-
  The walk of liverylaw26.NetHonest.
-/
namespace Go.Proofs.Ytajjbffppkpjpaa
set_option linter.unusedSimpArgs false
set_option linter.unusedVariables false
open Go.RowKit
theorem cost_len (L : List Ltr) : L.length ≤ cost L := by
  unfold cost
  induction L with
  | nil => exact Nat.le_refl _
  | cons x L ih => simp only [List.map_cons, List.sum_cons, List.length_cons]; omega
theorem cost_mem {L : List Ltr} {x : Ltr} (h : x ∈ L) : x.2.length ≤ cost L := by
  unfold cost
  induction L with
  | nil => cases h
  | cons y L ih =>
    simp only [List.map_cons, List.sum_cons]
    rcases List.mem_cons.1 h with rfl | h
    · omega
    · have := ih h; omega
theorem tot_mono (os : List NOp) {k m : Nat} (h : k ≤ m) : tot (os.take k) ≤ tot (os.take m) := by
  obtain ⟨d, rfl⟩ : ∃ d, m = k + d := ⟨m - k, by omega⟩
  rw [List.take_add]
  unfold tot
  rw [List.map_append, List.sum_append]
  omega
theorem send_cases (S : NS) (f : Int) (L : List Ltr) : ((S.send f L).1 = 0 ∧ S.send f L = S.put (L.map (mkS f))) ∨ ((S.send f L).1 ≠ 0 ∧ (S.send f L).2 = S) := by
  unfold NS.send
  split
  · exact .inr ⟨by show (1 : Int) ≠ 0; decide, rfl⟩
  · rcases put_cases S (L.map (mkS f)) with ⟨h1, _⟩ | ⟨h1, h2⟩
    · exact .inl ⟨h1, rfl⟩
    · exact .inr ⟨by show (S.put (L.map (mkS f))).1 ≠ 0; rw [h1]; decide, h2⟩
theorem inject_cases (S : NS) (t : Int) (b : List UInt8) : ((S.inject t b).1 = 0 ∧ S.inject t b = S.put [⟨-1, t, b⟩]) ∨ ((S.inject t b).1 ≠ 0 ∧ (S.inject t b).2 = S) := by
  unfold NS.inject
  split
  · exact .inr ⟨by show (1 : Int) ≠ 0; decide, rfl⟩
  · rcases put_cases S [⟨-1, t, b⟩] with ⟨h1, _⟩ | ⟨h1, h2⟩
    · exact .inl ⟨h1, rfl⟩
    · exact .inr ⟨by show (S.put [⟨-1, t, b⟩]).1 ≠ 0; rw [h1]; decide, h2⟩
theorem NS.Lim.send {S : NS} {k : Nat} (h : S.Lim k) (f : Int) (L : List Ltr) (hl : ∀ x, x ∈ L → x.2.length ≤ 1000000) : (S.send f L).2.Lim (k + L.length) := by
  rcases send_cases S f L with ⟨_, e⟩ | ⟨_, e⟩
  · rw [e]
    have := h.put (L.map (mkS f)) (fun s hs => by obtain ⟨x, hx, rfl⟩ := List.mem_map.1 hs; exact hl x hx)
    rwa [List.length_map] at this
  · rw [e]; exact h.mono (by omega)
theorem NS.Lim.inject {S : NS} {k : Nat} (h : S.Lim k) (t : Int) (b : List UInt8) (hl : b.length ≤ 1000000) : (S.inject t b).2.Lim (k + 1) := by
  rcases inject_cases S t b with ⟨_, e⟩ | ⟨_, e⟩
  · rw [e]; exact h.put _ (fun s hs => by rw [List.mem_singleton.1 hs]; exact hl)
  · rw [e]; exact h.mono (by omega)
/-- A net between two acts of NetHonest. -/
def HJ (w0 w : World) (b K p lo mo : Nat) : Prop := ∃ av x1 x2 x3 S, NetAt w av b x1 x2 x3 S ∧ S.Lim K ∧ Hon S p lo mo ∧ (∀ k, NFoot b x1 x2 x3 k → w0.heap.size ≤ k) ∧ Below w0.heap.size w0 w
theorem HJ.on {w0 w w' : World} {b K p lo mo : Nat} (h : HJ w0 w b K p lo mo) (hb : Below w.heap.size w w') : HJ w0 w' b K p lo mo := by
  obtain ⟨av, x1, x2, x3, S, h1, h2, h3, h4, h5⟩ := h
  exact ⟨av, x1, x2, x3, S, h1.on hb, h2, h3, h4, h5.trans (hb.mono h5.size)⟩
theorem HJ.mk' {w0 w w2 : World} {b K p lo mo : Nat} {av : Nat → Prop} {x1 x2 x3 y1 y2 y3 : Value} {S : NS} (hN : NetAt w2 av b y1 y2 y3 S) (hL : S.Lim K) (hH : Hon S p lo mo) (hO : Only (NFoot b x1 x2 x3) w w2) (hG : ∀ k, NFoot b y1 y2 y3 k → NFoot b x1 x2 x3 k ∨ w.heap.size ≤ k)
    (hf : ∀ k, NFoot b x1 x2 x3 k → w0.heap.size ≤ k) (hb : Below w0.heap.size w0 w) : HJ w0 w2 b K p lo mo :=
  ⟨av, y1, y2, y3, S, hN, hL, hH, fun k q => (hG k q).elim (hf k) (fun q => Nat.le_trans hb.size q), hb.trans (hO.below hf hb.size)⟩
theorem HJ.mono {w0 w : World} {b K K' p lo mo : Nat} (h : HJ w0 w b K p lo mo) (hk : K ≤ K') : HJ w0 w b K' p lo mo := by
  obtain ⟨av, x1, x2, x3, S, h1, h2, h3, h4, h5⟩ := h
  exact ⟨av, x1, x2, x3, S, h1, h2.mono hk, h3, h4, h5⟩
theorem HJ.bounds {w0 w : World} {b K p lo mo : Nat} (h : HJ w0 w b K p lo mo) : p ≤ K := by
  obtain ⟨av, x1, x2, x3, S, h1, h2, h3, h4, h5⟩ := h
  have := h2.ever; have := h3.ever; omega
theorem u8_wrap (i : Int) : ∃ x : UInt8, IntKind.u8.wrap i = (x.toNat : Int) := by
  refine ⟨UInt8.ofNat (i % 256).toNat, ?_⟩
  simp [IntKind.wrap, IntKind.bits, IntKind.signed]
  omega
set_option maxRecDepth 100000 in
set_option maxHeartbeats 16000000 in
theorem netHonest_walk (os : List NOp) (a : Option Addr) (n c : Nat) (w0 : World) (hO : NOsIn w0 a n c os) (hL : ∀ o, o ∈ os → LtLen o.l) :
    Calls Try.prog 6 #[.slice a n c] w0 fun e w' => e = .returned (.bool true) ∧ Below w0.heap.size w0 w' := by
  have HO := Lib.hid hO
  have HL := Lib.hid hL
  have hn63 : n ≤ 9223372036854775807 := by have h1 := hO.2.1; have h2 := hO.2.2.1; unfold maxLen at h2; omega
  clear hO hL
  go_enter Try.func6, Try.ntmps6
  go_wp2_with fail
  refine (nnew_walk _).mono ?_
  rintro e w1 ⟨b, rfl, hN, hbl, hb⟩
  have hf1 : ∀ k, NFoot b (.slice none 0 0) (.slice none 0 0) (.slice none 0 0) k → w0.heap.size ≤ k := fun k q => by
    rcases q with rfl | e | e | e
    · exact hbl
    · cases e
    · cases e
    · cases e
  have HJ1 := Lib.hid (show HJ w0 w1 b 0 0 0 0 from ⟨_, _, _, _, _, hN, newN_lim, hon_new, hf1, hb⟩)
  have HB1 := Lib.hid hb
  clear hN hbl hb hf1
  go_wp2_with fail
  refine (live26_walk _).mono ?_
  rintro e w2 ⟨rfl, hb⟩
  have HJ2 := Lib.hid (HJ1.out.on hb)
  have HB2 := Lib.hid (HB1.out.trans (hb.mono HB1.out.size))
  clear hb
  go_wp2_with fail
  refine (few26_walk os a n c _ (HO.out.on HB2.out) HL.out).mono ?_
  rintro e w3 ⟨m, rfl, hmn, hm100, htot, hb⟩
  have HJ3 := Lib.hid (HJ2.out.on hb)
  have HMN := Lib.hid hmn
  have HTOT := Lib.hid htot
  clear hb HJ1 HJ2 htot hmn
  go_wp2
  go_loopw [4, 5, 6, 24] (fun z4 z5 z6 y wr => ∃ k p lo mo : Nat, k ≤ m ∧ p ≤ 30000 ∧ lo ≤ k ∧ mo ≤ k ∧ y = .int .i64 (k : Nat) ∧ z4 = .int .i64 (p : Nat) ∧ z5 = .int .i64 (lo : Nat) ∧ z6 = .int .i64 (mo : Nat) ∧ Hid (HJ w0 wr b (tot (os.take k) + k) p lo mo)) (fun _ _ _ y _ => m - (intOf y).toNat)
  case atStart => exact ⟨0, 0, 0, 0, Nat.zero_le _, by omega, Nat.le_refl _, Nat.le_refl _, rfl, rfl, rfl, rfl, HJ3.out.mono (by omega)⟩
  case round =>
    obtain ⟨k, p, lo, mo, hk, hp, hlo, hmo, rfl, rfl, rfl, rfl, HJR⟩ := hrel
    by_cases hlt : k < m
    · have hbw : Below w0.heap.size w0 wr := by obtain ⟨_, _, _, _, _, _, _, _, _, h⟩ := HJR.out; exact h
      obtain ⟨g, o, oa, on, oc, op, ha, hop, hmem, hr, hl⟩ := HO.out.at_ (k := k) (by have := HMN.out; omega) hbw
      subst ha
      have hk2 : k < os.length := by have h1 := HO.out.1; have := HMN.out; omega
      have hts : tot (os.take (k + 1)) = tot (os.take k) + cost op.l := by rw [hop]; exact tot_snoc os k hk2
      have hle : tot (os.take (k + 1)) ≤ 20000 := Nat.le_trans (tot_mono os (by omega)) HTOT.out
      have HTS := Lib.hid hts
      have HLE := Lib.hid hle
      have HCL := Lib.hid (show on ≤ cost op.l by rw [hl.len]; exact cost_len _)
      have HON := Lib.hid hl.len
      have hon63 : on ≤ 20000 := by have := HCL.out; omega
      have HCM := Lib.hid (show ∀ x, x ∈ op.l → x.2.length ≤ 1000000 from fun x hx => by have := cost_mem hx; omega)
      have hb1 := below_one' wr (.cells #[.int .i64 op.act, .int .i64 op.f, .int .i64 op.i, .slice oa on oc] 39)
      have HJW := Lib.hid (HJR.out.on hb1)
      have HLI := Lib.hid (hl.on hb1)
      have HBX := Lib.hid (Blk.new wr #[.int .i64 op.act, .int .i64 op.f, .int .i64 op.i, .slice oa on oc] 39)
      have HLT := Lib.hid hlt
      have HM1 := Lib.hid hm100
      have d0 := hr 0 _ rfl
      have d1 := hr 1 _ rfl
      have d2 := hr 2 _ rfl
      have d3 := hr 3 _ rfl
      simp only [Nat.add_zero] at d0
      clear hr hl hop hmem hbw hts hle hk2 hb1
      by_cases a0 : op.act = 0
      · have t0 : (op.act == 0) = true := by simp; omega
        clear a0
        go_wp2_with fail
        generalize hbx : wr.heap.size = bx at *
        generalize World.alloc wr _ = w4 at *
        clear d0 d1 d2 d3 hbx
        obtain ⟨av, x1, x2, x3, S, hN, hLi, hH, hf, hb⟩ := HJW.out
        have HN := Lib.hid hN
        have HLM := Lib.hid hLi
        have HH := Lib.hid hH
        have HF := Lib.hid hf
        have HBB := Lib.hid hb
        clear hN hLi hH hf hb
        refine (nsend_at op.f op.l oa on oc _ HN.out HLI.out (fun j hj => ⟨Nat.lt_of_lt_of_le hj HBB.out.size, fun q => by have := HF.out j q; omega⟩) HLM.out HCM.out (by have h1 := HTS.out; have h2 := HLE.out; have h3 := HCL.out; have h4 := HON.out; have h5 := HM1.out; have h6 := HLT.out; omega)).mono ?_
        rintro e w5 ⟨rfl, y1, y2, hN, hO, hG⟩
        have hl5 := HLM.out.send op.f op.l HCM.out
        have hbx5 := hO.blk HBX.out (HN.out.foot_ne HBX.out (by decide))
        rcases send_cases S op.f op.l with ⟨hc, he⟩ | ⟨hc, he⟩
        · have HJ5 := Lib.hid (HJ.mk' hN hl5 (by rw [he]; exact HH.out.put _ (by rw [← he]; exact hc)) hO hG HF.out HBB.out)
          rw [List.length_map, ← HON.out] at HJ5
          rw [hc]
          have c3 := hbx5.cell 3 rfl
          clear hN hO hG hl5 hbx5 hc he
          go_wp2
          go_roundw
          case rel => exact ⟨k + 1, p + on, lo, mo, by have := HLT.out; omega, by have h1 := HJ5.out.bounds; have h2 := HTS.out; have h3 := HLE.out; have h6 := HCL.out; have h4 := HM1.out; have h5 := HLT.out; omega, by omega, by omega, by go_num, by go_num, rfl, rfl, HJ5.out.mono (by have h1 := HTS.out; have h2 := HCL.out; omega)⟩
          case measure => have := HLT.out; simp [intOf]; omega
        · have HJ5 := Lib.hid (HJ.mk' hN hl5 (by rw [he]; exact HH.out) hO hG HF.out HBB.out)
          rw [← HON.out] at HJ5
          obtain ⟨cc, hcc⟩ : ∃ cc, cc = (S.send op.f op.l).1 := ⟨_, rfl⟩
          rw [← hcc] at hc ⊢
          have hc2 : (cc == 0) = false := by simp [hc]
          clear hN hO hG hl5 hbx5 hc he hcc
          go_wp2
          go_roundw
          case rel => exact ⟨k + 1, p, lo, mo, by have := HLT.out; omega, by have h1 := HJ5.out.bounds; have h2 := HTS.out; have h3 := HLE.out; have h6 := HCL.out; have h4 := HM1.out; have h5 := HLT.out; omega, by omega, by omega, by go_num, rfl, rfl, rfl, HJ5.out.mono (by have h1 := HTS.out; have h2 := HCL.out; omega)⟩
          case measure => have := HLT.out; simp [intOf]; omega
      by_cases a1 : op.act = 1
      · have t0 : (op.act == 0) = false := by simp; omega
        have t1 : (op.act == 1) = true := by simp; omega
        clear a0 a1
        obtain ⟨xb, hxb⟩ := u8_wrap op.i
        have hxm : op.i % 256 = (xb.toNat : Int) := by rw [← hxb, IntKind.wrap_u8]
        go_wp2_with fail
        clear hxb hxm
        have hs4 : wr.heap.size + 1 = (wr.alloc (.cells #[.int .i64 op.act, .int .i64 op.f, .int .i64 op.i, .slice oa on oc] 39)).heap.size := by simp
        generalize hbx : wr.heap.size = bx at *
        generalize World.alloc wr _ = w4 at *
        have hb2 := below_one' w4 (.cells (barr [xb]) 5)
        have HT := Lib.hid (Txt.new w4 [xb] 5 (0, 0) (n := 1) (g := bx + 1) rfl hs4)
        have HJW := Lib.hid (HJW.out.on hb2)
        have HBX := Lib.hid (HBX.out.on hb2)
        have HBT := Lib.hid (Blk.new' w4 (barr [xb]) 5 hs4)
        clear hb2 hs4
        clear d0 d1 d2 d3 hbx
        obtain ⟨av, x1, x2, x3, S, hN, hLi, hH, hf, hb⟩ := HJW.out
        have HN := Lib.hid hN
        have HLM := Lib.hid hLi
        have HH := Lib.hid hH
        have HF := Lib.hid hf
        have HBB := Lib.hid hb
        clear hN hLi hH hf hb
        refine (ninject_at op.f _ 1 1 [xb] _ HN.out HT.out (fun g o e _ => by cases e; exact HN.out.foot_ne HBT.out (by decide)) HLM.out (by simp) (by have h1 := HTS.out; have h2 := HLE.out; have h5 := HM1.out; have h6 := HLT.out; omega)).mono ?_
        rintro e w5 ⟨rfl, y1, y2, hN, hO, hG⟩
        have hl5 := HLM.out.inject op.f [xb] (by simp)
        rcases inject_cases S op.f [xb] with ⟨hc, he⟩ | ⟨hc, he⟩
        · have HJ5 := Lib.hid (HJ.mk' hN hl5 (by rw [he]; exact HH.out.put _ (by rw [← he]; exact hc)) hO hG HF.out HBB.out)
          rw [List.length_singleton] at HJ5
          rw [hc]
          clear hN hO hG hl5 hc he
          go_wp2
          go_roundw
          case rel => exact ⟨k + 1, p + 1, lo, mo, by have := HLT.out; omega, by have h1 := HJ5.out.bounds; have h2 := HTS.out; have h3 := HLE.out; have h6 := HCL.out; have h4 := HM1.out; have h5 := HLT.out; omega, by omega, by omega, by go_num, by go_num, rfl, rfl, HJ5.out.mono (by have h1 := HTS.out; have h2 := HCL.out; omega)⟩
          case measure => have := HLT.out; simp [intOf]; omega
        · have HJ5 := Lib.hid (HJ.mk' hN hl5 (by rw [he]; exact HH.out) hO hG HF.out HBB.out)
          obtain ⟨cc, hcc⟩ : ∃ cc, cc = (S.inject op.f [xb]).1 := ⟨_, rfl⟩
          rw [← hcc] at hc ⊢
          have hc2 : (cc == 0) = false := by simp [hc]
          clear hN hO hG hl5 hc he hcc
          go_wp2
          go_roundw
          case rel => exact ⟨k + 1, p, lo, mo, by have := HLT.out; omega, by have h1 := HJ5.out.bounds; have h2 := HTS.out; have h3 := HLE.out; have h6 := HCL.out; have h4 := HM1.out; have h5 := HLT.out; omega, by omega, by omega, by go_num, rfl, rfl, rfl, HJ5.out.mono (by have h1 := HTS.out; have h2 := HCL.out; omega)⟩
          case measure => have := HLT.out; simp [intOf]; omega
      by_cases a2 : op.act = 2
      · have t0 : (op.act == 0) = false := by simp; omega
        have t1 : (op.act == 1) = false := by simp; omega
        have t2 : (op.act == 2) = true := by simp; omega
        clear a0 a1 a2
        go_wp2_with fail
        generalize hbx : wr.heap.size = bx at *
        generalize World.alloc wr _ = w4 at *
        clear d0 d1 d2 d3 hbx
        obtain ⟨av, x1, x2, x3, S, hN, hLi, hH, hf, hb⟩ := HJW.out
        have HN := Lib.hid hN
        have HLM := Lib.hid hLi
        have HH := Lib.hid hH
        have HF := Lib.hid hf
        have HBB := Lib.hid hb
        clear hN hLi hH hf hb
        refine (ntake_at op.i _ HN.out HLM.out (by have h1 := HTS.out; have h2 := HLE.out; have h5 := HM1.out; have h6 := HLT.out; omega)).mono ?_
        rintro e w5 ⟨ua, nn, cc, rfl, _, y1, y3, hN, hO, hG⟩
        have HJ5 := Lib.hid (HJ.mk' hN (HLM.out.take op.i) (HH.out.take op.i) hO hG HF.out HBB.out)
        clear hN hO hG
        go_wp2
        go_roundw
        case rel => exact ⟨k + 1, p, lo, mo, by have := HLT.out; omega, by have h1 := HJ5.out.bounds; have h2 := HTS.out; have h3 := HLE.out; have h6 := HCL.out; have h4 := HM1.out; have h5 := HLT.out; omega, by omega, by omega, by go_num, rfl, rfl, rfl, HJ5.out.mono (by have h1 := HTS.out; have h2 := HCL.out; omega)⟩
        case measure => have := HLT.out; simp [intOf]; omega
      by_cases a3 : op.act = 3
      · have t0 : (op.act == 0) = false := by simp; omega
        have t1 : (op.act == 1) = false := by simp; omega
        have t2 : (op.act == 2) = false := by simp; omega
        have t3 : (op.act == 3) = true := by simp; omega
        clear a0 a1 a2 a3
        go_wp2_with fail
        generalize hbx : wr.heap.size = bx at *
        generalize World.alloc wr _ = w4 at *
        clear d0 d1 d2 d3 hbx
        obtain ⟨av, x1, x2, x3, S, hN, hLi, hH, hf, hb⟩ := HJW.out
        have HN := Lib.hid hN
        have HLM := Lib.hid hLi
        have HH := Lib.hid hH
        have HF := Lib.hid hf
        have HBB := Lib.hid hb
        clear hN hLi hH hf hb
        refine (ndrop_at op.i _ HN.out HLM.out).mono ?_
        rintro e w5 ⟨rfl, y1, hN, hO, hx⟩
        have hH5 := HH.out.drop op.i
        have hl5 := HLM.out.drop op.i
        obtain ⟨cc, hcc⟩ : ∃ cc, cc = (S.drop op.i).1 := ⟨_, rfl⟩
        rw [← hcc] at hH5 ⊢
        by_cases hc : cc = 0
        · rw [if_pos hc] at hH5
          have HJ5 := Lib.hid (HJ.mk' hN hl5 hH5 hO (fun k q => .inl (q.imp id (fun q => q.imp (fun e => by rw [← hx]; exact e) id))) HF.out HBB.out)
          rw [hc]
          clear hN hO hH5 hl5 hc hcc hx
          go_wp2
          go_roundw
          case rel => exact ⟨k + 1, p, lo + 1, mo, by have := HLT.out; omega, by have h1 := HJ5.out.bounds; have h2 := HTS.out; have h3 := HLE.out; have h6 := HCL.out; have h4 := HM1.out; have h5 := HLT.out; omega, by omega, by omega, by go_num, rfl, by go_num, rfl, HJ5.out.mono (by have h1 := HTS.out; have h2 := HCL.out; omega)⟩
          case measure => have := HLT.out; simp [intOf]; omega
        · rw [if_neg hc] at hH5
          have HJ5 := Lib.hid (HJ.mk' hN hl5 hH5 hO (fun k q => .inl (q.imp id (fun q => q.imp (fun e => by rw [← hx]; exact e) id))) HF.out HBB.out)
          have hc2 : (cc == 0) = false := by simp [hc]
          clear hN hO hH5 hl5 hc hcc hx
          go_wp2
          go_roundw
          case rel => exact ⟨k + 1, p, lo, mo, by have := HLT.out; omega, by have h1 := HJ5.out.bounds; have h2 := HTS.out; have h3 := HLE.out; have h6 := HCL.out; have h4 := HM1.out; have h5 := HLT.out; omega, by omega, by omega, by go_num, rfl, rfl, rfl, HJ5.out.mono (by have h1 := HTS.out; have h2 := HCL.out; omega)⟩
          case measure => have := HLT.out; simp [intOf]; omega
      by_cases a4 : op.act = 4
      · have t0 : (op.act == 0) = false := by simp; omega
        have t1 : (op.act == 1) = false := by simp; omega
        have t2 : (op.act == 2) = false := by simp; omega
        have t3 : (op.act == 3) = false := by simp; omega
        have t4 : (op.act == 4) = true := by simp; omega
        clear a0 a1 a2 a3 a4
        go_wp2_with fail
        generalize hbx : wr.heap.size = bx at *
        generalize World.alloc wr _ = w4 at *
        clear d0 d1 d2 d3 hbx
        obtain ⟨av, x1, x2, x3, S, hN, hLi, hH, hf, hb⟩ := HJW.out
        have HN := Lib.hid hN
        have HLM := Lib.hid hLi
        have HH := Lib.hid hH
        have HF := Lib.hid hf
        have HBB := Lib.hid hb
        clear hN hLi hH hf hb
        refine (ndouble_at op.i _ HN.out HLM.out).mono ?_
        rintro e w5 ⟨rfl, y1, hN, hO, hG⟩
        have hH5 := HH.out.double op.i
        have hl5 := HLM.out.double op.i
        obtain ⟨cc, hcc⟩ : ∃ cc, cc = (S.double op.i).1 := ⟨_, rfl⟩
        rw [← hcc] at hH5 ⊢
        by_cases hc : cc = 0
        · rw [if_pos hc] at hH5
          have HJ5 := Lib.hid (HJ.mk' hN hl5 hH5 hO hG HF.out HBB.out)
          rw [hc]
          clear hN hO hH5 hl5 hc hcc hG
          go_wp2
          go_roundw
          case rel => exact ⟨k + 1, p, lo, mo + 1, by have := HLT.out; omega, by have h1 := HJ5.out.bounds; have h2 := HTS.out; have h3 := HLE.out; have h6 := HCL.out; have h4 := HM1.out; have h5 := HLT.out; omega, by omega, by omega, by go_num, rfl, rfl, by go_num, HJ5.out.mono (by have h1 := HTS.out; have h2 := HCL.out; omega)⟩
          case measure => have := HLT.out; simp [intOf]; omega
        · rw [if_neg hc] at hH5
          have HJ5 := Lib.hid (HJ.mk' hN hl5 hH5 hO hG HF.out HBB.out)
          have hc2 : (cc == 0) = false := by simp [hc]
          clear hN hO hH5 hl5 hc hcc hG
          go_wp2
          go_roundw
          case rel => exact ⟨k + 1, p, lo, mo, by have := HLT.out; omega, by have h1 := HJ5.out.bounds; have h2 := HTS.out; have h3 := HLE.out; have h6 := HCL.out; have h4 := HM1.out; have h5 := HLT.out; omega, by omega, by omega, by go_num, rfl, rfl, rfl, HJ5.out.mono (by have h1 := HTS.out; have h2 := HCL.out; omega)⟩
          case measure => have := HLT.out; simp [intOf]; omega
      have t0 : (op.act == 0) = false := by simp; omega
      have t1 : (op.act == 1) = false := by simp; omega
      have t2 : (op.act == 2) = false := by simp; omega
      have t3 : (op.act == 3) = false := by simp; omega
      have t4 : (op.act == 4) = false := by simp; omega
      clear a0 a1 a2 a3 a4
      have HJ5 := HJW
      go_wp2
      go_roundw
      case rel => exact ⟨k + 1, p, lo, mo, by have := HLT.out; omega, by have h1 := HJ5.out.bounds; have h2 := HTS.out; have h3 := HLE.out; have h6 := HCL.out; have h4 := HM1.out; have h5 := HLT.out; omega, by omega, by omega, by go_num, rfl, rfl, rfl, HJ5.out.mono (by have h1 := HTS.out; have h2 := HCL.out; omega)⟩
      case measure => have := HLT.out; simp [intOf]; omega
    · have HKM := Lib.hid (show k = m by omega)
      obtain ⟨av, x1, x2, x3, S, hN, hLi, hH, hf, hb⟩ := HJR.out
      have hKK : tot (os.take k) + k ≤ 20100 := by have h1 := HTOT.out; have h2 := HKM.out; subst h2; omega
      have HN := Lib.hid hN
      have HLM := Lib.hid (hLi.mono hKK)
      have HH := Lib.hid hH
      have HBB := Lib.hid hb
      have hmo2 : mo ≤ 100 := by omega
      have hlo2 : lo ≤ 100 := by omega
      clear hN hLi hH hf hb hKK
      go_wp2_with fail
      refine (way_walk 1048576 (by omega) _ HN.out HLM.out).mono ?_
      rintro e w5 ⟨xw, rfl, hR, hx0, hb⟩
      rw [List.take_of_length_le (by have := HLM.out.way; omega)] at hR
      have HN := Lib.hid (HN.out.on hb)
      have HBB := Lib.hid (HBB.out.trans (hb.mono HBB.out.size))
      have HRW := Lib.hid (hR.mono (av' := fun _ => True) (fun _ _ _ => trivial))
      clear hR hb hx0
      go_wp2_with fail
      refine (ncame_at' _ HN.out).mono ?_
      rintro e w6 ⟨g6, rfl, hg, hb⟩
      have HG := Lib.hid hg
      have HN := Lib.hid (HN.out.on hb)
      have HBB := Lib.hid (HBB.out.trans (hb.mono HBB.out.size))
      have HRW := Lib.hid (HRW.out.on hb)
      clear hg hb
      go_wp2_with fail
      refine (toldl_walk g6 1048576 (by omega) x3 _ HG.out HN.out.came (by have := HLM.out.came; omega) (fun s hs => HLM.out.txt s (.inr (.inr hs)))).mono ?_
      rintro e w7 ⟨xc, rfl, hR, hx0, hb⟩
      rw [List.take_of_length_le (by have := HLM.out.came; omega)] at hR
      obtain ⟨aw, cw, rfl, hq1, hq2⟩ := HRW.out.form
      obtain ⟨ac, cc, rfl, hq3, hq4⟩ := hR.form
      have hbl := below_one' w7 (.cells #[.slice aw S.way.length cw, .slice ac S.came.length cc] 41)
      have hb8 := hb.trans (hbl.mono hb.size)
      have HN := Lib.hid (HN.out.on hb8)
      have HBB := Lib.hid (HBB.out.trans (hb8.mono HBB.out.size))
      have HRW := Lib.hid (HRW.out.on hb8)
      have HRC := Lib.hid ((hR.mono (av' := fun _ => True) (fun _ _ _ => trivial)).on hbl)
      have HBK := Lib.hid (Blk.new w7 #[.slice aw S.way.length cw, .slice ac S.came.length cc] 41)
      clear hR hb HG hbl hb8 hq1 hq2 hq3 hq4 hx0
      go_wp2_with fail
      refine (concat2_walk w7.heap.size _ _ _ HRW.out HRC.out (by have := HLM.out.way; omega) (by have := HLM.out.came; omega) HBK.out).mono ?_
      rintro e w8 ⟨xz, rfl, hR, hx0, hb⟩
      obtain ⟨L, hLL⟩ : ∃ L, L = S.way ++ S.came := ⟨_, rfl⟩
      rw [← hLL] at hR
      obtain ⟨az, cz, rfl, hq1, hq2⟩ := hR.form
      obtain ⟨N, hNN⟩ : ∃ N, N = L.length := ⟨_, rfl⟩
      rw [← hNN]
      have HNN := Lib.hid hNN
      have hN63 : N ≤ 30000 := by rw [hNN, hLL, List.length_append]; have := HLM.out.way; have := HLM.out.came; omega
      have HME := Lib.hid (show ∀ s, s ∈ L → s ∈ S.ever from fun s hs => by rw [hLL] at hs; exact (List.mem_append.1 hs).elim (HH.out.way s) (HH.out.came s))
      have HRZ := Lib.hid (show SRow w8 (fun _ => True) (.slice az N cz) L by rw [hNN]; exact hR)
      have HN := Lib.hid (HN.out.on hb)
      have HBB := Lib.hid (HBB.out.trans (hb.mono HBB.out.size))
      clear hR hb hLL hNN hq1 hq2 hx0 HRW HRC HBK
      go_wp2
      go_loopw [95] (fun y wr => ∃ k : Nat, k ≤ N ∧ y = .int .i64 (k : Nat) ∧ Hid (NetAt wr av b x1 x2 x3 S) ∧ Hid (SRow wr (fun _ => True) (.slice az N cz) L) ∧ Hid (Below w0.heap.size w0 wr)) (fun y _ => N - (intOf y).toNat)
      case atStart => exact ⟨0, Nat.zero_le _, rfl, HN.out, HRZ.out, HBB.out⟩
      case round =>
        obtain ⟨k, hk, rfl, HN, HRZ, HBB⟩ := hrel
        by_cases hlt : k < N
        · obtain ⟨gz, cz', cur, px, nx, cx, ha, _, _, hbk, _, hr, ht⟩ := (show SRow wr (fun _ => True) (.slice az L.length cz) L by rw [← HNN.out]; exact HRZ.out).at_i (i := k) (by have := HNN.out; omega)
          cases ha
          obtain ⟨s, hs⟩ : ∃ s, s = L.getD k snt0 := ⟨_, rfl⟩
          rw [← hs] at hr ht
          rw [Nat.zero_add] at hr
          have HSM := Lib.hid (show s ∈ S.ever from HME.out s (by rw [hs, List.getD, List.getElem?_eq_getElem (show k < L.length by have := HNN.out; omega)]; exact List.getElem_mem _))
          obtain ⟨qa, qn, qc, qe, ht, _⟩ := ht
          cases qe
          have hal := below_one' wr (.cells #[.int .i64 s.f, .int .i64 s.t, .slice px nx cx] 47)
          have HT := Lib.hid (ht.below hal)
          have HNa := Lib.hid (HN.out.on hal)
          have HRa := Lib.hid (HRZ.out.on hal)
          have HBa := Lib.hid (HBB.out.trans (hal.mono HBB.out.size))
          have HBX := Lib.hid (Blk.new wr #[.int .i64 s.f, .int .i64 s.t, .slice px nx cx] 47)
          have HLT := Lib.hid hlt
          have c0 := hr 0 _ rfl
          have c1 := hr 1 _ rfl
          have c2 := hr 2 _ rfl
          simp only [Nat.add_zero] at c0
          clear hr hs ht hal hbk
          go_wp2_with fail
          generalize hbx : wr.heap.size = bx at *
          generalize World.alloc wr _ = w9 at *
          clear c0 c1 c2 hbx
          refine (nsaid_at s.f px nx cx s.d _ HNa.out HLM.out HT.out true ⟨fun _ => ⟨s, HSM.out, rfl, rfl⟩, fun _ => rfl⟩).mono ?_
          rintro e wa ⟨rfl, hb⟩
          have HNa := Lib.hid (HNa.out.on hb)
          have HRa := Lib.hid (HRa.out.on hb)
          have HBa := Lib.hid (HBa.out.trans (hb.mono HBa.out.size))
          have HBX := Lib.hid (HBX.out.on hb)
          have HT := Lib.hid (HT.out.below hb)
          clear hb
          go_wp2_with fail
          refine (never_at' _ HNa.out).mono ?_
          rintro e wb ⟨gb, rfl, hg, hb⟩
          have HG := Lib.hid hg
          have HNa := Lib.hid (HNa.out.on hb)
          have HRa := Lib.hid (HRa.out.on hb)
          have HBa := Lib.hid (HBa.out.trans (hb.mono HBa.out.size))
          have HBX := Lib.hid (HBX.out.on hb)
          have HT := Lib.hid (HT.out.below hb)
          clear hg hb
          go_wp2_with fail
          refine (toldl_walk gb 1048576 (by omega) x2 _ HG.out HNa.out.ever (by have := HLM.out.ever; omega) (fun s hs => HLM.out.txt s (.inr (.inl hs)))).mono ?_
          rintro e wc ⟨xe, rfl, hR, hx0, hb⟩
          rw [List.take_of_length_le (by have := HLM.out.ever; omega)] at hR
          have HRE := Lib.hid hR
          have HNa := Lib.hid (HNa.out.on hb)
          have HRa := Lib.hid (HRa.out.on hb)
          have HBa := Lib.hid (HBa.out.trans (hb.mono HBa.out.size))
          have HBX := Lib.hid (HBX.out.on hb)
          have HT := Lib.hid (HT.out.below hb)
          clear hR hb HG hx0
          go_wp2_with fail
          refine (containsh_walk (fun x => seq x s) S.ever xe bx _ HRE.out (fun x qx mx dx W hx hb ht => honest1_walk x s qx px mx dx nx cx bx W (HBX.out.on hb) (HT.out.below hb) ht) true ⟨fun _ => ⟨s, HSM.out, by simp [seq]⟩, fun _ => rfl⟩).mono ?_
          rintro e wd ⟨rfl, hb⟩
          have HNa := Lib.hid (HNa.out.on hb)
          have HRa := Lib.hid (HRa.out.on hb)
          have HBa := Lib.hid (HBa.out.trans (hb.mono HBa.out.size))
          clear hb HRE HBX HT
          go_wp2
          go_roundw
          case rel => exact ⟨k + 1, by have := HLT.out; omega, by go_num, HNa.out, HRa.out, HBa.out⟩
          case measure => have := HLT.out; simp [intOf]; omega
        · go_wp2_with fail
          refine (never_at' _ HN.out).mono ?_
          rintro e wb ⟨gb, rfl, hg, hb⟩
          have HG := Lib.hid hg
          have HN := Lib.hid (HN.out.on hb)
          have HBB := Lib.hid (HBB.out.trans (hb.mono HBB.out.size))
          clear hg hb
          go_wp2_with fail
          refine (toldl_walk gb 1048576 (by omega) x2 _ HG.out HN.out.ever (by have := HLM.out.ever; omega) (fun s hs => HLM.out.txt s (.inr (.inl hs)))).mono ?_
          rintro e wc ⟨xe, rfl, hR, hx0, hb⟩
          rw [List.take_of_length_le (by have := HLM.out.ever; omega)] at hR
          obtain ⟨ae, ce, rfl, hq1, hq2⟩ := hR.form
          rw [HH.out.ever]
          have HBB := Lib.hid (HBB.out.trans (hb.mono HBB.out.size))
          obtain ⟨n1, hn1⟩ : ∃ n1, n1 = S.way.length := ⟨_, rfl⟩
          obtain ⟨n2, hn2⟩ : ∃ n2, n2 = S.came.length := ⟨_, rfl⟩
          have b1 : n1 ≤ 1024 := by rw [hn1]; exact HLM.out.way
          have b2 : n2 ≤ 20100 := by rw [hn2]; exact HLM.out.came
          have heq : ((n1 : Int) + (n2 : Int) + (lo : Int) == (p : Int) + (mo : Int)) = true := by
            have := HH.out.sum
            rw [← hn1, ← hn2] at this
            simp; omega
          rw [← hn1, ← hn2]
          clear hR hb hx0 hq1 hq2 hn1 hn2
          go_wp2
          go_ret
          exact ⟨rfl, HBB.out⟩
end Go.Proofs.Ytajjbffppkpjpaa
