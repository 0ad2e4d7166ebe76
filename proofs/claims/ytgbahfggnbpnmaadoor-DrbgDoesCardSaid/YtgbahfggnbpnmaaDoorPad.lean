import Derived.Test.YtgbahfggnbpnmaaDoorKeyP
import Derived.Test.YtgbahfggnbpnmaaDoorRefSum
/-
  sha2.pad and the reference's turned: a key's 64 bytes, turned.
-/
namespace Go.Proofs.YtgbahfggnbpnmaaDoor
open Go.RowKit

theorem ofInt_u8 (x : UInt8) : BitVec.ofInt 8 (x.toNat : Int) = x.toBitVec := by
  apply BitVec.eq_of_toNat_eq; simp [BitVec.toNat_ofInt]
theorem wrap_bv8 (x : BitVec 8) : IntKind.u8.wrap (x.toNat : Int) = (x.toNat : Int) := by
  have := x.isLt
  simp [IntKind.wrap, IntKind.bits, IntKind.signed]; omega
theorem u8_xor (x y : UInt8) : bits .xor .u8 (x.toNat : Int) (y.toNat : Int) = ((x ^^^ y).toNat : Int) := by
  show IntKind.u8.wrap ((BitVec.ofInt 8 (x.toNat : Int) ^^^ BitVec.ofInt 8 (y.toNat : Int)).toNat : Int) = _
  rw [wrap_bv8, ofInt_u8, ofInt_u8]; simp
/-- The first k bytes turned. -/
def turned (X : List UInt8) (c : UInt8) (k : Nat) : List UInt8 := (X.take k).map (· ^^^ c) ++ X.drop k
theorem turned_zero (X : List UInt8) (c : UInt8) : turned X c 0 = X := by simp [turned]
theorem turned_full (X : List UInt8) (c : UInt8) (k : Nat) (h : X.length ≤ k) : turned X c k = X.map (· ^^^ c) := by
  unfold turned; rw [List.take_of_length_le h, List.drop_of_length_le h, List.append_nil]
theorem turned_len (X : List UInt8) (c : UInt8) (k : Nat) : (turned X c k).length = X.length := by simp [turned]; omega
theorem turned_get (X : List UInt8) (c : UInt8) (k : Nat) (h : k < X.length) : (turned X c k).getD k 0 = X.getD k 0 := by
  unfold turned
  simp only [List.getD]
  rw [List.getElem?_append_right (by simp; omega)]
  simp [Nat.min_eq_left (Nat.le_of_lt h)]
theorem turned_step (X : List UInt8) (c : UInt8) (k : Nat) (h : k < X.length) : (turned X c k).set k (X.getD k 0 ^^^ c) = turned X c (k + 1) := by
  have hl : ((X.take k).map (· ^^^ c)).length = k := by simp; omega
  unfold turned
  rw [List.drop_eq_getElem_cons h, List.set_append_right _ _ (by omega), hl, Nat.sub_self, List.set_cons_zero, List.take_succ_eq_append_getElem h, List.map_append, List.append_assoc]
  simp [List.getD, h]
theorem pad_copy (X : List UInt8) (h : X.length ≤ 64) : (splice (barr (List.replicate 64 0)).toList 0 (X.map bv)).toArray = barr (X ++ List.replicate (64 - X.length) 0) := by
  unfold splice barr
  simp only [List.take_zero, List.nil_append, Nat.zero_add, List.length_map, List.map_append]
  congr 1
  rw [List.map_replicate, List.map_replicate, List.drop_replicate]
/-- Sum256 of one, of two texts that lie in a block of slices just made. -/
theorem sum_one (X : World) (t : TypeId) (g : Nat) (hg : g = X.heap.size) {a : Option Addr} {n c : Nat} {l : List UInt8} (h : Txt X a n c l) (hT : Two X) (hlen : l.length ≤ 1152921504606846976) :
    Calls Tryd.prog 30 #[.slice (some ⟨g, 0, none⟩) 1 1] (X.alloc (.cells #[.slice a n c] t)) fun e w' => e = .returned (.agg (barr (sha l))) ∧ Below X.heap.size X w' := by
  subst hg
  refine (sum256_walk [l] 1 1 rfl _ _ ((h.alloc _).parts1 (Blk.new X _ t)) (hT.below' (below_one' X _)) (by simpa using hlen) (by simp)).mono ?_
  rintro e w' ⟨he, hb⟩
  simp only [List.flatten_cons, List.flatten_nil, List.append_nil] at he
  exact ⟨he, (below_one' X _).trans (hb.mono (by simp))⟩
theorem sum_two (X : World) (t : TypeId) (g : Nat) (hg : g = X.heap.size) {a a2 : Option Addr} {n c n2 c2 : Nat} {l l2 : List UInt8} (h : Txt X a n c l) (h' : Txt X a2 n2 c2 l2) (hT : Two X) (hlen : l.length + l2.length ≤ 1152921504606846976) :
    Calls Tryd.prog 30 #[.slice (some ⟨g, 0, none⟩) 2 2] (X.alloc (.cells #[.slice a n c, .slice a2 n2 c2] t)) fun e w' => e = .returned (.agg (barr (sha (l ++ l2)))) ∧ Below X.heap.size X w' := by
  subst hg
  refine (sum256_walk [l, l2] 2 2 rfl _ _ ((h.alloc _).parts2 (h'.alloc _) (Blk.new X _ t)) (hT.below' (below_one' X _)) (by simpa using hlen) (by simp)).mono ?_
  rintro e w' ⟨he, hb⟩
  simp only [List.flatten_cons, List.flatten_nil, List.append_nil] at he
  exact ⟨he, (below_one' X _).trans (hb.mono (by simp))⟩
theorem out32 {w W : World} {g : Nat} {t : TypeId} {l : List UInt8} (h : Blk w g (barr l) t) (hl : l.length = 32) (hb : Below w.heap.size w W) : Txt W (some ⟨g, 0, none⟩) 32 32 l := by
  have := Txt.of_blk h
  rw [hl] at this
  exact this.below hb
set_option maxRecDepth 100000 in
set_option maxHeartbeats 1000000 in
theorem pad_walk (key : List UInt8) (b : UInt8) (a : Option Addr) (n c : Nat) (w : World) (hX : Txt w a n c key) (hlen : key.length ≤ 1152921504606) (hT : Two w) :
    Calls Tryd.prog 104 #[.slice a n c, bv b] w fun e w' => ∃ g, e = .returned (.slice (some ⟨g, 0, none⟩) 64 64) ∧ w.heap.size ≤ g ∧ Blk w' g (barr (turnL key b)) 5 ∧ Below w.heap.size w w' := by
  have HX := Lib.hid hX
  obtain rfl := hX.len
  have HT := Lib.hid hT
  clear hX hT
  by_cases h64 : 64 < key.length
  · have hk : k64 key = sha key := by unfold k64; rw [if_pos h64]
    have HK := Lib.hid hk
    clear hk
    go_enter Tryd.func104, Tryd.ntmps104
    go_wp2_with (first | (go_at_call 30; refine (sum_one w 28 _ rfl HX.out HT.out (by omega)).mono ?_; rintro e w2 ⟨rfl, hb2⟩; have HB2 := Lib.hid hb2; clear hb2) | (refine wpList_store_abs rfl 31 (.tmp 5) (.tmp 13) rfl w2.heap.size (barr (sha key)) (by rfl) (by rfl) 31 _ (Blk.new w2 _ _) (by rw [barr_size, sha_len]; exact size_u8x32) (by rw [barr_size, sha_len]; rfl) (barr_one_all _) ?_; intro W3 hW3 p3; have HB3 := Lib.hid (hW3.below (HB2.out.trans ((below_one' w2 _).mono HB2.out.size)) HB2.out.size); have TK := Lib.hid (by have h := out32 p3 (sha_len _) (Below.refl _ _); rw [← HK.out] at h; exact h); clear hW3 p3) | (refine wpList_make_abs rfl 28 (.const (.int .i64 64)) (.const (.int .i64 64)) rfl 5 (.int .u8 0) 1 Tryd.underlying28 info_u8 rfl .i64 .i64 64 64 rfl rfl (Nat.le_refl _) (by omega) (by omega) ?_; rw [rep_bytes]) | (refine wpList_copy_abs rfl (.tmp 16) (.tmp 17) 28 28 rfl 5 Tryd.underlying28 size_u8 (some ⟨W3.heap.size, 0, none⟩) (some ⟨w2.heap.size, 0, none⟩) 64 64 32 32 (by rfl) (by rfl) W3.heap.size 0 (Blk.new W3 (barr (List.replicate 64 0)) 5) ((k64 key).map bv) (by rw [List.length_map, ← TK.out.len]; omega) (fun _ => rfl) (TK.out.alloc _).rd (by rw [List.length_map, barr_size, List.length_replicate]; have := k64_len key; omega) (bv_one _) 32 (by rw [List.length_map, ← TK.out.len]) ?_; intro W4 hW4 p4; rw [pad_copy _ (k64_len key)] at p4; have P4 := Lib.hid p4; have HB4 := Lib.hid (hW4.below (HB3.out.trans ((below_one' W3 _).mono HB3.out.size)) HB3.out.size); clear hW4 p4))
    go_loopw [21] (fun x wr => ∃ k : Nat, k ≤ 64 ∧ x = .int .i64 (k : Nat) ∧ Blk wr W3.heap.size (barr (turned (kz key) b k)) 5 ∧ Below w.heap.size w wr) (fun x _ => 64 - (intOf x).toNat)
    case atStart => exact ⟨0, Nat.zero_le _, rfl, by rw [turned_zero]; exact P4.out, HB4.out⟩
    case round =>
      clear P4 HB4
      obtain ⟨k, hk, rfl, hp, hb⟩ := hrel
      by_cases hlt : k < 64
      · obtain ⟨x, hx⟩ : ∃ x, x = (kz key).getD k 0 := ⟨_, rfl⟩
        have c0 := hp.cell k (barr_get (turned (kz key) b k) k (by rw [turned_len, kz_len]; exact hlt))
        rw [turned_get _ _ _ (by rw [kz_len]; exact hlt), ← hx] at c0
        have c1 := hp.free k
        have hxor := u8_xor x b
        have HP := Lib.hid hp
        have HB := Lib.hid hb
        have HXX := Lib.hid hx
        clear hp hb hx
        go_wp2
        go_roundw
        case rel =>
          refine ⟨k + 1, by omega, by go_num, ?_, below_setCell HB.out HB3.out.size _⟩
          rw [← turned_step _ _ _ (show k < (kz key).length by rw [kz_len]; exact hlt), ← barr_set, ← HXX.out]
          exact HP.out.set _ _
        case measure => simp [intOf]; omega
      · have HK2 := Lib.hid (show k = 64 by omega)
        go_wp2
        go_ret
        refine ⟨_, rfl, HB3.out.size, ?_, hb⟩
        rw [HK2.out, turned_full _ _ _ (by rw [kz_len]; omega)] at hp
        exact hp
  · have hk : k64 key = key := by unfold k64; rw [if_neg h64]
    have TK := Lib.hid (by rw [hk]; exact HX.out : Txt w a key.length c (k64 key))
    have HB3 := Lib.hid (Below.refl w.heap.size w)
    clear hk
    go_enter Tryd.func104, Tryd.ntmps104
    go_wp2_with (first | (refine wpList_make_abs rfl 28 (.const (.int .i64 64)) (.const (.int .i64 64)) rfl 5 (.int .u8 0) 1 Tryd.underlying28 info_u8 rfl .i64 .i64 64 64 rfl rfl (Nat.le_refl _) (by omega) (by omega) ?_; rw [rep_bytes]) | (refine wpList_copy_abs rfl (.tmp 16) (.tmp 17) 28 28 rfl 5 Tryd.underlying28 size_u8 (some ⟨w.heap.size, 0, none⟩) a 64 64 key.length c (by rfl) (by rfl) w.heap.size 0 (Blk.new w (barr (List.replicate 64 0)) 5) ((k64 key).map bv) (by rw [List.length_map, ← TK.out.len]; omega) (fun _ => rfl) (TK.out.alloc _).rd (by rw [List.length_map, barr_size, List.length_replicate]; have := k64_len key; omega) (bv_one _) key.length (by rw [List.length_map, ← TK.out.len]) ?_; intro W4 hW4 p4; rw [pad_copy _ (k64_len key)] at p4; have P4 := Lib.hid p4; have HB4 := Lib.hid (hW4.below (HB3.out.trans ((below_one' w _).mono HB3.out.size)) HB3.out.size); clear hW4 p4))
    go_loopw [21] (fun x wr => ∃ k : Nat, k ≤ 64 ∧ x = .int .i64 (k : Nat) ∧ Blk wr w.heap.size (barr (turned (kz key) b k)) 5 ∧ Below w.heap.size w wr) (fun x _ => 64 - (intOf x).toNat)
    case atStart => exact ⟨0, Nat.zero_le _, rfl, by rw [turned_zero]; exact P4.out, HB4.out⟩
    case round =>
      clear P4 HB4
      obtain ⟨k, hk, rfl, hp, hb⟩ := hrel
      by_cases hlt : k < 64
      · obtain ⟨x, hx⟩ : ∃ x, x = (kz key).getD k 0 := ⟨_, rfl⟩
        have c0 := hp.cell k (barr_get (turned (kz key) b k) k (by rw [turned_len, kz_len]; exact hlt))
        rw [turned_get _ _ _ (by rw [kz_len]; exact hlt), ← hx] at c0
        have c1 := hp.free k
        have hxor := u8_xor x b
        have HP := Lib.hid hp
        have HB := Lib.hid hb
        have HXX := Lib.hid hx
        clear hp hb hx
        go_wp2
        go_roundw
        case rel =>
          refine ⟨k + 1, by omega, by go_num, ?_, below_setCell HB.out HB3.out.size _⟩
          rw [← turned_step _ _ _ (show k < (kz key).length by rw [kz_len]; exact hlt), ← barr_set, ← HXX.out]
          exact HP.out.set _ _
        case measure => simp [intOf]; omega
      · have HK2 := Lib.hid (show k = 64 by omega)
        go_wp2
        go_ret
        refine ⟨_, rfl, HB3.out.size, ?_, hb⟩
        rw [HK2.out, turned_full _ _ _ (by rw [kz_len]; omega)] at hp
        exact hp
end Go.Proofs.YtgbahfggnbpnmaaDoor
