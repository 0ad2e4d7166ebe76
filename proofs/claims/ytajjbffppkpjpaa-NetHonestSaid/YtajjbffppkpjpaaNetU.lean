import Derived.Test.YtajjbffppkpjpaaNetT
/-
  slices.Concat of two rows of letters.
-/
namespace Go.Proofs.Ytajjbffppkpjpaa
set_option linter.unusedSimpArgs false
set_option linter.unusedVariables false
open Go.RowKit
theorem SnL.append {w : World} {av : Nat → Prop} {ls ks : List (Snt × Value)} {L K : List Snt} (h : SnL w av ls L) (k : SnL w av ks K) : SnL w av (ls ++ ks) (L ++ K) :=
  ⟨by rw [List.map_append, h.1, k.1], fun p hp => (List.mem_append.1 hp).elim (h.2 p) (k.2 p)⟩
/-- A row behind an append of cells of another one. -/
theorem SRow.append {w w' : World} {av : Nat → Prop} {v x : Value} {L K : List Snt} {ls ks : List (Snt × Value)} {n : Nat} (hr : SRow w av v L) (h : SnL w av ls L) (k : SnL w av ks K) (hg : w.grownBy w' v.ownBlock) (hn : n = L.length + K.length) (hO : w'.ownsRow 0 47 3 x n (ncells ls ++ ncells ks)) : SRow w' av x (L ++ K) := by
  have hO3 : Only (fun k => v.ownBlock = some k) w w' := Only.grown hg (fun k e => e)
  refine ⟨ls ++ ks, by rw [ncells_append, List.length_append, ← hn]; exact hO, (h.append k).keep hO3 (fun j cur _ hb => hr.not_u8 hb)⟩
/-- What Concat holds between two rounds. -/
structure CJ (w wr : World) (av : Nat → Prop) (v : Value) (L : List Snt) : Prop where
  row : SRow wr av v L
  own : ∀ k, v.ownBlock = some k → w.heap.size ≤ k
  bl : Below w.heap.size w wr
theorem CJ.snoc {w wr w' : World} {av : Nat → Prop} {v : Value} {L K : List Snt} {ls ks : List (Snt × Value)} {n c : Nat} {a : Option Addr} (h : CJ w wr av v L) (hl : SnL wr av ls L) (hk : SnL wr av ks K) (hg : wr.grownBy w' v.ownBlock) (hn : n = L.length + K.length) (hO : w'.ownsRow 0 47 3 (.slice a n c) n (ncells ls ++ ncells ks))
    (hat : ∀ k, (Value.slice a n c).ownBlock = some k → v.ownBlock = some k ∨ k = wr.heap.size) : CJ w w' av (.slice a n c) (L ++ K) :=
  ⟨h.row.append hl hk hg hn hO, fun k e => (hat k e).elim (h.own k) (fun q => by rw [q]; exact h.bl.size), h.bl.trans ((Only.grown (S := fun k => w.heap.size ≤ k) hg (fun k e => h.own k e)).below (fun _ q => q) h.bl.size)⟩
set_option maxRecDepth 100000 in
set_option maxHeartbeats 4000000 in
theorem concat2_walk {av : Nat → Prop} {L1 L2 : List Snt} (g : Nat) (v1 v2 : Value) (w : World) (h1 : SRow w av v1 L1) (h2 : SRow w av v2 L2) (hl1 : L1.length ≤ 1000000) (hl2 : L2.length ≤ 1000000) (hB : Blk w g #[v1, v2] 41) :
    Calls Try.prog 49 #[.slice (some ⟨g, 0, none⟩) 2 2] w fun e w' => ∃ x, e = .returned x ∧ SRow w' av x (L1 ++ L2) ∧ (∀ k, x.ownBlock = some k → w.heap.size ≤ k) ∧ Below w.heap.size w w' := by
  obtain ⟨a1, c1, rfl, _⟩ := h1.form
  obtain ⟨a2, c2, rfl, _⟩ := h2.form
  obtain ⟨n1, hn1⟩ : ∃ n, n = L1.length := ⟨_, rfl⟩
  obtain ⟨n2, hn2⟩ : ∃ n, n = L2.length := ⟨_, rfl⟩
  rw [← hn1] at hB hl1
  rw [← hn2] at hB hl2
  have H1 := Lib.hid (show SRow w av (.slice a1 n1 c1) L1 by rw [hn1]; exact h1)
  have H2 := Lib.hid (show SRow w av (.slice a2 n2 c2) L2 by rw [hn2]; exact h2)
  have HN1 := Lib.hid hn1
  have HN2 := Lib.hid hn2
  have HB := Lib.hid hB
  have d0 := hB.cell 0 rfl
  have d1 := hB.cell 1 rfl
  clear h1 h2 hn1 hn2 hB
  go_enter Try.func49, Try.ntmps49
  go_wp2
  go_loop [3, 11] (fun z y => (y = .int .i64 0 ∧ z = .int .i64 0) ∨ (y = .int .i64 1 ∧ z = .int .i64 (n1 : Nat)) ∨ (y = .int .i64 2 ∧ z = .int .i64 ((n1 + n2 : Nat)))) (fun _ y => 2 - (intOf y).toNat)
  case atStart => exact .inl ⟨rfl, rfl⟩
  case round =>
    rcases hrel with ⟨rfl, rfl⟩ | ⟨rfl, rfl⟩ | ⟨rfl, rfl⟩
    · go_wp2
      go_round
      case rel => exact .inr (.inl ⟨rfl, rfl⟩)
      case measure => simp [intOf]
    · go_wp2
      go_round
      case rel => exact .inr (.inr ⟨rfl, by go_num⟩)
      case measure => simp [intOf]
    · clear d0 d1
      go_wp2_with fail
      refine (grow_walk (n1 + n2) (by omega) _).mono ?_
      rintro e w2 ⟨x, rfl, hO, hown, hb⟩
      have HJ := Lib.hid (show CJ w w2 av x [] from ⟨⟨[], by simpa [ncells] using hO, rfl, (fun p hp => by cases hp)⟩, hown, hb⟩)
      clear hO hown hb
      go_wp2
      go_loopw [6, 27] (fun v y wr => (y = .int .i64 0 ∧ Hid (CJ w wr av v [])) ∨ (y = .int .i64 1 ∧ Hid (CJ w wr av v L1)) ∨ (y = .int .i64 2 ∧ Hid (CJ w wr av v (L1 ++ L2)))) (fun _ y _ => 2 - (intOf y).toNat)
      case atStart => exact .inl ⟨rfl, HJ.out⟩
      case round =>
        rcases hrel with ⟨rfl, HJ⟩ | ⟨rfl, HJ⟩ | ⟨rfl, HJ⟩
        · have d0 := (HB.out.on HJ.out.bl).cell 0 rfl
          obtain ⟨hq, ks, hk, hs, hone⟩ := (H1.out.on HJ.out.bl).src
          obtain ⟨ls, hw, hl⟩ := HJ.out.row
          obtain ⟨va, vc, rfl, _⟩ := HJ.out.row.form
          have HK := Lib.hid hk
          have HS := Lib.hid hs
          have HO1 := Lib.hid hone
          have HW := Lib.hid (show wr.ownsRow 0 47 3 (.slice va 0 vc) 0 (ncells ls) from hw)
          have HL := Lib.hid hl
          have HLN := Lib.hid (show (ncells ks).length = n1 * 3 by rw [ncells_len, hk.len, HN1.out])
          have H63 := Lib.hid (show 0 + n1 ≤ maxLen by unfold maxLen; omega)
          have HBY := Lib.hid (show (0 + n1) * 40 ≤ 140737488355328 by omega)
          clear hk hs hone hw hl hq
          simp only [List.length_nil] at HJ ⊢
          go_wp2_with (refine wpList_append_src rfl (.tmp 31) (.tmp 32) 41 47 rfl (.agg #[.int .i64 0, .int .i64 0, .slice none 0 0]) 3 40 Try.underlying41 info_sent (by rfl) (by decide) (.slice va 0 vc) 0 (ncells ls) (by rfl) HW.out a1 n1 c1 (ncells ks) (by rfl) HLN.out HS.out HO1.out H63.out HBY.out ?_; intro a7 c7 w7 hO hg hat; have HJ7 := Lib.hid (HJ.out.snoc HL.out HK.out hg (by rw [HN1.out]; simp) hO hat); clear hO hg hat)
          go_roundw
          case rel => exact .inr (.inl ⟨rfl, by have h := HJ7.out; rw [Nat.zero_add, List.nil_append] at h; exact h⟩)
          case measure => simp [intOf]
        · have d1 := (HB.out.on HJ.out.bl).cell 1 rfl
          obtain ⟨hq, ks, hk, hs, hone⟩ := (H2.out.on HJ.out.bl).src
          obtain ⟨ls, hw, hl⟩ := HJ.out.row
          obtain ⟨va, vc, rfl, _⟩ := HJ.out.row.form
          rw [← HN1.out] at hw HJ ⊢
          have HK := Lib.hid hk
          have HS := Lib.hid hs
          have HO1 := Lib.hid hone
          have HW := Lib.hid hw
          have HL := Lib.hid hl
          have HLN := Lib.hid (show (ncells ks).length = n2 * 3 by rw [ncells_len, hk.len, HN2.out])
          have H63 := Lib.hid (show n1 + n2 ≤ maxLen by unfold maxLen; omega)
          have HBY := Lib.hid (show (n1 + n2) * 40 ≤ 140737488355328 by omega)
          clear hk hs hone hw hl hq
          go_wp2_with (refine wpList_append_src rfl (.tmp 31) (.tmp 32) 41 47 rfl (.agg #[.int .i64 0, .int .i64 0, .slice none 0 0]) 3 40 Try.underlying41 info_sent (by rfl) (by decide) (.slice va n1 vc) n1 (ncells ls) (by rfl) HW.out a2 n2 c2 (ncells ks) (by rfl) HLN.out HS.out HO1.out H63.out HBY.out ?_; intro a7 c7 w7 hO hg hat; have HJ7 := Lib.hid (HJ.out.snoc HL.out HK.out hg (by rw [HN1.out, HN2.out]) hO hat); clear hO hg hat)
          go_roundw
          case rel => exact .inr (.inr ⟨rfl, HJ7.out⟩)
          case measure => simp [intOf]
        · go_wp2
          go_ret
          exact ⟨_, rfl, HJ.out.row, HJ.out.own, HJ.out.bl⟩
end Go.Proofs.Ytajjbffppkpjpaa
