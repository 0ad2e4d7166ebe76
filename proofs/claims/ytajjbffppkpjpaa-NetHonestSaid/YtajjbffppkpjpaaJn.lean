import Derived.Test.YtajjbffppkpjpaaOwn
import Derived.Test.YtajjbffppkpjpaaDskP
/-
  The reference's Join and Equal.
-/
namespace Go.Proofs.Ytajjbffppkpjpaa
open Go.RowKit
/-- Texts in a row of slices; the blocks that they lie in are 'av'. -/
def Parts (w : World) (av : Nat → Prop) (pa : Option Addr) (ls : List (List UInt8)) : Prop :=
  ∀ i, i < ls.length → ∃ b o a n cap, pa = some ⟨b, o, none⟩ ∧ av b ∧ w.cell? ⟨b, o + i, none⟩ = some (.slice a n cap) ∧ n = (ls.getD i []).length ∧ n ≤ cap ∧ RdB w a (ls.getD i []) ∧ (∀ b o, a = some ⟨b, o, none⟩ → 0 < (ls.getD i []).length → av b)
theorem Parts.mono {w : World} {av av' : Nat → Prop} {pa : Option Addr} {ls : List (List UInt8)} (h : Parts w av pa ls) (hv : ∀ b, av b → av' b) : Parts w av' pa ls := fun i hi => by
  obtain ⟨b, o, a, n, cap, h1, h2, h3, h4, h5, h6, h7⟩ := h i hi
  exact ⟨b, o, a, n, cap, h1, hv _ h2, h3, h4, h5, h6, fun b o e h0 => hv _ (h7 b o e h0)⟩
theorem Parts.below {w w' : World} {B : Nat} {pa : Option Addr} {ls : List (List UInt8)} (h : Parts w (· < B) pa ls) (hb : Below B w w') : Parts w' (· < B) pa ls := fun i hi => by
  obtain ⟨b, o, a, n, cap, h1, h2, h3, h4, h5, h6, h7⟩ := h i hi
  refine ⟨b, o, a, n, cap, h1, h2, (hb.cell (p := ⟨b, o + i, none⟩) h2).trans h3, h4, h5, fun j hj => ?_, h7⟩
  obtain ⟨b', o', e1, e2⟩ := h6 j hj
  exact ⟨b', o', e1, (hb.cell (p := ⟨b', o' + j, none⟩) (h7 b' o' e1 (by rw [List.length_map] at hj; omega))).trans e2⟩

theorem flat_take (ls : List (List UInt8)) (k : Nat) (h : k < ls.length) : (ls.take (k + 1)).flatten = (ls.take k).flatten ++ ls.getD k [] := by
  rw [List.take_succ_eq_append_getElem h, List.flatten_append]; simp [h]
theorem flat_len (ls : List (List UInt8)) (k : Nat) : (ls.take k).flatten.length ≤ ls.flatten.length := by
  have h : (ls.take k ++ ls.drop k).flatten.length = ls.flatten.length := by rw [List.take_append_drop]
  rw [List.flatten_append, List.length_append] at h
  omega
set_option maxRecDepth 100000 in
set_option maxHeartbeats 800000 in
theorem equal_walk (a b : Option Addr) (n m c d : Nat) (l k : List UInt8) (hn : n = l.length) (hm : m = k.length) (w : World) (ha : RdB w a l) (hb : RdB w b k) :
    Calls Try.prog 91 #[.slice a n c, .slice b m d] w fun e w' => e = .returned (.bool (decide (l = k))) ∧ w = w' := by
  have h1 := run_str (P := Try.prog) w 45 9 5 a n c l hn Try.underlying45 Try.underlying5 Try.underlying9 ha
  have h2 := run_str (P := Try.prog) w 45 9 5 b m d k hm Try.underlying45 Try.underlying5 Try.underlying9 hb
  clear hn hm ha hb
  go_enter Try.func91, Try.ntmps91
  go_wp2
  go_ret
  refine ⟨?_, rfl⟩
  have e : (l == k) = decide (l = k) := by rw [Bool.eq_iff_iff]; simp
  simp [e]

set_option maxRecDepth 100000 in
set_option maxHeartbeats 800000 in
theorem join_walk (ls : List (List UInt8)) (n cap : Nat) (hn : n = ls.length) (pa : Option Addr) (w : World) (hP : Parts w (· < w.heap.size) pa ls) (hlen : ls.flatten.length ≤ 140737488355328) (hls : ls.length ≤ 4611686018427387904) :
    Calls Try.prog 41 #[.slice pa n cap] w fun e w' => ∃ a n' c, e = .returned (.slice a n' c) ∧ OwnB w' w.heap.size (.slice a n' c) ls.flatten ∧ Below w.heap.size w w' := by
  subst hn
  have HP := Lib.hid hP
  clear hP
  go_enter Try.func41, Try.ntmps41
  go_wp2
  go_loopw [3, 9] (fun x i wr => ∃ k a n' c, k ≤ ls.length ∧ i = .int .i64 (k : Nat) ∧ x = .slice a n' c ∧ OwnB wr w.heap.size (.slice a n' c) (ls.take k).flatten ∧ Below w.heap.size w wr) (fun _ i _ => ls.length - (intOf i).toNat)
  case atStart => exact ⟨0, _, _, _, Nat.zero_le _, rfl, rfl, OwnB.made w [] (Nat.le_refl _) (by simp [maxLen]), (new1 w #[] 5).2⟩
  case round =>
    obtain ⟨k, a, n', c, hk, rfl, rfl, hO, hb⟩ := hrel
    by_cases hlt : k < ls.length
    · obtain ⟨b, o, a2, n2, cap2, rfl, h2, h3, h4, h5, h6, h7⟩ := HP.out.below hb k hlt
      have hl : (ls.take k).flatten.length + (ls.getD k []).length ≤ 140737488355328 := by
        have := flat_len ls (k + 1)
        rw [flat_take ls k hlt] at this
        simp only [List.length_append] at *; omega
      have HF := Lib.hid (flat_take ls k hlt)
      have HO := Lib.hid hO
      have HB := Lib.hid hb
      have H4 := Lib.hid h4
      have H6 := Lib.hid h6
      have HL := Lib.hid hl
      clear hO hb h4 h6 hl h7 h2
      go_wp2_with (refine wpList_append_txt rfl (.tmp 13) (.tmp 14) rfl w.heap.size _ _ rfl HO.out a2 n2 cap2 (ls.getD k []) rfl H4.out H6.out HL.out HB.out.size ?_; intro a' n1 c' w1 hO1 hg1)
      go_roundw
      case rel =>
        refine ⟨k + 1, a', n1, c', by omega, by go_num, rfl, by rw [HF.out]; exact hO1, ?_⟩
        refine HB.out.trans ⟨hg1.os, hg1.tape, hg1.output, hg1.size, fun i hi => hg1.block i (Nat.lt_of_lt_of_le hi HB.out.size) (fun e => ?_)⟩
        have := (HO.out.lt i e.symm).1
        omega
      case measure => simp [intOf]; omega
    · have HK := Lib.hid (show k = ls.length by omega)
      go_wp2
      go_ret
      refine ⟨a, n', c, rfl, ?_, hb⟩
      · have := hO; rw [HK.out, List.take_length] at this; exact this

/-! Lists of texts in a block of the call's own. -/
theorem below_one' (W : World) (o : Obj) : Below W.heap.size W (W.alloc o) := (Below.refl _ W).alloc (Nat.le_refl _) o
theorem Txt.parts1 {w : World} {g : Nat} {t : TypeId} {a : Option Addr} {n c : Nat} {l : List UInt8} (h : Txt w a n c l) (hb : Blk w g #[.slice a n c] t) : Parts w (· < w.heap.size) (some ⟨g, 0, none⟩) [l] := fun i hi => by
  have : i = 0 := by simp at hi; omega
  subst this
  exact ⟨g, 0, a, n, c, rfl, hb.lt, hb.cell 0 rfl, h.len, h.fit, h.rd, h.old⟩
theorem Txt.parts2 {w : World} {g : Nat} {t : TypeId} {a a' : Option Addr} {n c n' c' : Nat} {l l' : List UInt8} (h : Txt w a n c l) (h' : Txt w a' n' c' l') (hb : Blk w g #[.slice a n c, .slice a' n' c'] t) : Parts w (· < w.heap.size) (some ⟨g, 0, none⟩) [l, l'] := fun i hi => by
  have : i = 0 ∨ i = 1 := by simp at hi; omega
  rcases this with rfl | rfl
  · exact ⟨g, 0, a, n, c, rfl, hb.lt, hb.cell 0 rfl, h.len, h.fit, h.rd, h.old⟩
  · exact ⟨g, 0, a', n', c', rfl, hb.lt, hb.cell 1 rfl, h'.len, h'.fit, h'.rd, h'.old⟩
theorem Txt.parts3 {w : World} {g : Nat} {t : TypeId} {a a' a2 : Option Addr} {n c n' c' n2 c2 : Nat} {l l' l2 : List UInt8} (h : Txt w a n c l) (h' : Txt w a' n' c' l') (h2 : Txt w a2 n2 c2 l2) (hb : Blk w g #[.slice a n c, .slice a' n' c', .slice a2 n2 c2] t) : Parts w (· < w.heap.size) (some ⟨g, 0, none⟩) [l, l', l2] := fun i hi => by
  have : i = 0 ∨ i = 1 ∨ i = 2 := by simp at hi; omega
  rcases this with rfl | rfl | rfl
  · exact ⟨g, 0, a, n, c, rfl, hb.lt, hb.cell 0 rfl, h.len, h.fit, h.rd, h.old⟩
  · exact ⟨g, 0, a', n', c', rfl, hb.lt, hb.cell 1 rfl, h'.len, h'.fit, h'.rd, h'.old⟩
  · exact ⟨g, 0, a2, n2, c2, rfl, hb.lt, hb.cell 2 rfl, h2.len, h2.fit, h2.rd, h2.old⟩
/-- Join of one, two, three texts that lie in a block of slices just made. -/
theorem join1 (X : World) (t : TypeId) (g : Nat) (hg : g = X.heap.size) {a : Option Addr} {n c : Nat} {l : List UInt8} (h : Txt X a n c l) (hlen : l.length ≤ 140737488355328) :
    Calls Try.prog 41 #[.slice (some ⟨g, 0, none⟩) 1 1] (X.alloc (.cells #[.slice a n c] t)) fun e w' => ∃ a' n' c', e = .returned (.slice a' n' c') ∧ OwnB w' X.heap.size (.slice a' n' c') l ∧ Below X.heap.size X w' := by
  subst hg
  have h1 := (join_walk [l] 1 1 rfl (some ⟨X.heap.size, 0, none⟩) (X.alloc (.cells #[.slice a n c] t)) ((h.alloc _).parts1 (Blk.new X _ t)) (by simpa using hlen) (by simp))
  refine h1.mono ?_
  rintro e w' ⟨a', n', c', he, h2, h3⟩
  simp only [List.flatten_cons, List.flatten_nil, List.append_nil] at h2
  exact ⟨a', n', c', he, h2.mono (by simp), (below_one' X _).trans (h3.mono (by simp))⟩
theorem join2 (X : World) (t : TypeId) (g : Nat) (hg : g = X.heap.size) {a a2 : Option Addr} {n c n2 c2 : Nat} {l l2 : List UInt8} (h : Txt X a n c l) (h' : Txt X a2 n2 c2 l2) (hlen : l.length + l2.length ≤ 140737488355328) :
    Calls Try.prog 41 #[.slice (some ⟨g, 0, none⟩) 2 2] (X.alloc (.cells #[.slice a n c, .slice a2 n2 c2] t)) fun e w' => ∃ a' n' c', e = .returned (.slice a' n' c') ∧ OwnB w' X.heap.size (.slice a' n' c') (l ++ l2) ∧ Below X.heap.size X w' := by
  subst hg
  have h1 := (join_walk [l, l2] 2 2 rfl (some ⟨X.heap.size, 0, none⟩) (X.alloc (.cells #[.slice a n c, .slice a2 n2 c2] t)) ((h.alloc _).parts2 (h'.alloc _) (Blk.new X _ t)) (by simpa using hlen) (by simp))
  refine h1.mono ?_
  rintro e w' ⟨a', n', c', he, h2, h3⟩
  simp only [List.flatten_cons, List.flatten_nil, List.append_nil] at h2
  exact ⟨a', n', c', he, h2.mono (by simp), (below_one' X _).trans (h3.mono (by simp))⟩
theorem join3 (X : World) (t : TypeId) (g : Nat) (hg : g = X.heap.size) {a a2 a3 : Option Addr} {n c n2 c2 n3 c3 : Nat} {l l2 l3 : List UInt8} (h : Txt X a n c l) (h' : Txt X a2 n2 c2 l2) (h3 : Txt X a3 n3 c3 l3) (hlen : l.length + (l2.length + l3.length) ≤ 140737488355328) :
    Calls Try.prog 41 #[.slice (some ⟨g, 0, none⟩) 3 3] (X.alloc (.cells #[.slice a n c, .slice a2 n2 c2, .slice a3 n3 c3] t)) fun e w' => ∃ a' n' c', e = .returned (.slice a' n' c') ∧ OwnB w' X.heap.size (.slice a' n' c') (l ++ (l2 ++ l3)) ∧ Below X.heap.size X w' := by
  subst hg
  have h1 := (join_walk [l, l2, l3] 3 3 rfl (some ⟨X.heap.size, 0, none⟩) (X.alloc (.cells #[.slice a n c, .slice a2 n2 c2, .slice a3 n3 c3] t)) ((h.alloc _).parts3 (h'.alloc _) (h3.alloc _) (Blk.new X _ t)) (by simpa using hlen) (by simp))
  refine h1.mono ?_
  rintro e w' ⟨a', n', c', he, h2, h3⟩
  simp only [List.flatten_cons, List.flatten_nil, List.append_nil] at h2
  exact ⟨a', n', c', he, h2.mono (by simp), (below_one' X _).trans (h3.mono (by simp))⟩

theorem equal_same (a b : Option Addr) (n m c d : Nat) (l : List UInt8) (w : World) (ha : Txt w a n c l) (hb : Txt w b m d l) :
    Calls Try.prog 91 #[.slice a n c, .slice b m d] w fun e w' => e = .returned (.bool true) ∧ w = w' :=
  (equal_walk a b n m c d l l ha.len hb.len w ha.rd hb.rd).mono fun e w' ⟨he, hw⟩ => ⟨by rw [he]; simp, hw⟩
theorem equal_q (a b : Option Addr) (n m c d : Nat) (l : List UInt8) (w : World) (ha : Txt w a n c l) (hb : Txt w b m d l) :
    Calls Try.prog 91 #[.slice a n c, .slice b m d] w fun e w' => e = .returned (.bool true) ∧ w' = w :=
  (equal_same a b n m c d l w ha hb).mono fun e w' ⟨he, hw⟩ => ⟨he, hw.symm⟩
theorem below_two (w : World) (o p : Obj) : Below w.heap.size w ((w.alloc o).alloc p) := (below_one' w o).trans ((below_one' _ p).mono (by simp))
theorem Parts.all {w w' : World} {pa : Option Addr} {ls : List (List UInt8)} (h : Parts w (· < w.heap.size) pa ls) (hb : Below w.heap.size w w') : Parts w' (· < w'.heap.size) pa ls :=
  (h.below hb).mono fun b hb' => Nat.lt_of_lt_of_le hb' hb.size
theorem Txt.cut {w : World} {a : Option Addr} {n c k : Nat} {l : List UInt8} (h : Txt w a n c l) (hk : k ≤ n) : Txt w a k c (l.take k) :=
  ⟨by rw [List.length_take, ← h.len]; omega, Nat.le_trans hk h.fit, by unfold RdB; rw [List.map_take]; exact Rd.take h.rd k, fun b o e h0 => h.old b o e (by simp at h0; omega)⟩
end Go.Proofs.Ytajjbffppkpjpaa
