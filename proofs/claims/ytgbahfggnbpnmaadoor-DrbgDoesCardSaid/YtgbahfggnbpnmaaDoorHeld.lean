import Derived.Test.YtgbahfggnbpnmaaDoorRExpand
import Derived.Test.YtgbahfggnbpnmaaDoorLawBegins
import Derived.Deep.RegionHeld
/-
  Words for regions that draw their order: facts carried on; calls at texts that lie in a block of slices; loads of arrays.
-/
namespace Go.Proofs.YtgbahfggnbpnmaaDoor
open Go.RowKit
theorem Txt.on {w w' : World} {a : Option Addr} {n c : Nat} {l : List UInt8} (h : Txt w a n c l) (hb : Below w.heap.size w w') : Txt w' a n c l := h.below hb
theorem Two.on {w w' : World} (h : Two w) (hb : Below w.heap.size w w') : Two w' := h.below' hb
theorem Blk.on {w w' : World} {g : Nat} {cs : Array Value} {t : TypeId} (h : Blk w g cs t) (hb : Below w.heap.size w w') : Blk w' g cs t := h.below hb h.lt
theorem HashAt.on {w w' : World} {g : Nat} {m : List UInt8} (h : HashAt w g m) (hb : Below w.heap.size w w') : HashAt w' g m := h.below hb h.lt
theorem OwnB.on {w w' : World} {lo : Nat} {v : Value} {l : List UInt8} (h : OwnB w lo v l) (hb : Below w.heap.size w w') : OwnB w' lo v l := h.below hb
theorem yields_arr {P : Program} {o : Oper} {a : Act} {w : World} (ty : TypeId) (x : Operand) (ho : o.op = .load ty x)
    (g : Nat) (hx : a.eval x = .pointer (some ⟨g, 0, none⟩)) {cur : Array Value} {t : TypeId} (hg : Blk w g cur t)
    (d : TypeDesc) (hu : P.underlying ty = some d) (hd : d.isRow = true) (hi : (P.info? ty).map (·.size) = some cur.size) : (execOp a.eval o).run P w = .ok (.value (.agg cur)) w := by
  unfold execOp
  have := run_loadVar_mid w g 0 ty cur.toList d (range_blk hg 0 cur.toList (by simp)) hu hd (by simpa using hi)
  simp [ho, hx, Instr.loadAt, Instr.sureAddr, this]
theorem mac_blk1 (w : World) (g : Nat) (t : TypeId) {ka a : Option Addr} {kn kc n c : Nat} {key l : List UInt8} (hB : Blk w g #[.slice a n c] t) (hk : Txt w ka kn kc key) (h : Txt w a n c l) (hT : Two w) (hlen : key.length ≤ 1152921504606) (hl : l.length ≤ 1152921504606) :
    Calls Tryd.prog 40 #[.slice ka kn kc, .slice (some ⟨g, 0, none⟩) 1 1] w fun e w' => e = .returned (.agg (barr (macL key l))) ∧ Below w.heap.size w w' := by
  refine (mac_walk key ka kn kc [l] 1 1 rfl _ _ hk (h.parts1 hB) hT hlen (by simpa using hl) (by simp)).mono ?_
  rintro e w' ⟨he, hb⟩
  simp only [List.flatten_cons, List.flatten_nil, List.append_nil] at he
  exact ⟨he, hb⟩
theorem join_blk2 (w : World) (g : Nat) (t : TypeId) {a a2 : Option Addr} {n c n2 c2 : Nat} {l l2 : List UInt8} (hB : Blk w g #[.slice a n c, .slice a2 n2 c2] t) (h : Txt w a n c l) (h' : Txt w a2 n2 c2 l2) (hlen : l.length + l2.length ≤ 140737488355328) :
    Calls Tryd.prog 36 #[.slice (some ⟨g, 0, none⟩) 2 2] w fun e w' => ∃ a' n' c', e = .returned (.slice a' n' c') ∧ OwnB w' w.heap.size (.slice a' n' c') (l ++ l2) ∧ Below w.heap.size w w' := by
  refine (join_walk [l, l2] 2 2 rfl _ w (h.parts2 h' hB) (by simpa using hlen) (by simp)).mono ?_
  rintro e w' ⟨a', n', c', he, h2, h3⟩
  simp only [List.flatten_cons, List.flatten_nil, List.append_nil] at h2
  exact ⟨a', n', c', he, h2, h3⟩
theorem kz_pad (key : List UInt8) (z : Nat) (h : key.length + z ≤ 64) : kz (key ++ List.replicate z 0) = kz key := by
  have h1 : k64 (key ++ List.replicate z 0) = key ++ List.replicate z 0 := by unfold k64; rw [if_neg (by simp; omega)]
  have h2 : k64 key = key := by unfold k64; rw [if_neg (by omega)]
  unfold kz
  rw [h1, h2, List.append_assoc]
  congr 1
  rw [List.replicate_append_replicate]
  congr 1
  simp; omega
theorem kz_sum (key : List UInt8) (h : 64 < key.length) : kz (sha key) = kz key := by
  have h1 : k64 (sha key) = sha key := by unfold k64; rw [if_neg (by rw [sha_len]; omega)]
  have h2 : k64 key = sha key := by unfold k64; rw [if_pos h]
  unfold kz; rw [h1, h2]
theorem macL_kz {key key' : List UInt8} (h : kz key = kz key') (t : List UInt8) : macL key t = macL key' t := by unfold macL turnL; rw [h]
theorem run_make_bytes (z : Nat) (hz : z ≤ 65536) (w : World) : (Instr.makeSlice 28 (.int .i64 z) (.int .i64 z)).run Tryd.prog w = .ok (.slice (some ⟨w.heap.size, 0, none⟩) z z) (w.alloc (.cells (barr (List.replicate z 0)) 5)) := by
  obtain ⟨i, i1, i2, i3, i4⟩ := info_parts info_u8
  have hr := run_make (P := Tryd.prog) w 28 5 i (.int .u8 0) Tryd.underlying28 i1 i2 .i64 .i64 z z (by omega) (by omega) (by rw [i4]; omega) (by omega)
  simp only [Int.toNat_natCast, i3, Nat.mul_one] at hr
  have em : madeCells (Value.int .u8 0).cells z = barr (List.replicate z 0) := by
    rw [← rep_bytes]
    apply Array.ext
    · simp [madeCells, Value.cells]
    · intro j h1 h2; simp [madeCells, Value.cells, Nat.mod_one]
  rw [hr, em]
theorem wp_make_bytes {o : Oper} {a : Act} {w : World} {K : Act → World → Prop} {Q : Exit → Act → World → Prop} (l c : Operand) (ho : o.op = .makeSlice 28 l c) (z : Nat) (hz : z ≤ 65536)
    (hl : a.eval l = .int .i64 z) (hc : a.eval c = .int .i64 z) (h : K (a.put o.dst (.slice (some ⟨w.heap.size, 0, none⟩) z z)) (w.alloc (.cells (barr (List.replicate z 0)) 5))) : o.wp Tryd.prog a w K Q := by
  unfold Oper.wp execOp
  simp only [ho, hl, hc, Sem.run_bind, run_make_bytes z hz w, Result.andThen_ok, Sem.run_pure]
  exact h
end Go.Proofs.YtgbahfggnbpnmaaDoor
