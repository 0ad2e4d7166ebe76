import Derived.Test.YtajjbffppkpjpaaSpanB
/-
  The reference's All, Both, Less, Covers.
-/
namespace Go.Proofs.Ytajjbffppkpjpaa
open Go.RowKit
def B64 (l : List Rg) : Prop := ∀ x, x ∈ l → x.lo < 18446744073709551616 ∧ x.hi < 18446744073709551616
def b64r (r : Rg) : Prop := r.lo < 18446744073709551616 ∧ r.hi < 18446744073709551616
theorem pfold_b64 (l : List Rg) : ∀ s : List Rg × Rg × List Rg, B64 l → B64 s.1 → b64r s.2.1 → B64 s.2.2 → B64 (l.foldl pstep s).1 ∧ b64r (l.foldl pstep s).2.1 ∧ B64 (l.foldl pstep s).2.2 := by
  induction l with
  | nil => intro s _ h1 h2 h3; exact ⟨h1, h2, h3⟩
  | cons x l ih =>
    intro s hl h1 h2 h3
    have hx := hl x (by simp)
    have hl' : B64 l := fun y hy => hl y (by simp [hy])
    have app : ∀ k : List Rg, B64 k → B64 (k ++ [x]) := fun k hk y hy => by
      rcases List.mem_append.1 hy with h | h
      · exact hk y h
      · simp at h; subst h; exact hx
    refine ih (pstep s x) hl' ?_ ?_ ?_
    · unfold pstep; split
      · exact app _ h1
      · split <;> exact h1
    · unfold pstep; split
      · exact h2
      · split
        · exact h2
        · unfold b64r at *; simp only; omega
    · unfold pstep; split
      · exact h3
      · split
        · exact app _ h3
        · exact h3
theorem put_b64 {l : List Rg} {r : Rg} (hl : B64 l) (hr : b64r r) : B64 (putP l r) := by
  obtain ⟨h1, h2, h3⟩ := pfold_b64 l ([], r, []) hl (fun x hx => (by cases hx)) hr (fun x hx => (by cases hx))
  intro x hx
  unfold putP at hx
  rcases List.mem_append.1 hx with h | h
  · rcases List.mem_append.1 h with h | h
    · exact h1 x h
    · simp at h; subst h; exact h2
  · exact h3 x h
theorem inter_b64 {x y : Rg} (hx : b64r x) (hy : b64r y) : b64r (inter x y) := by
  unfold b64r inter at *; simp only; omega
theorem all_succ (l : List Rg) (i : Nat) (h : i < l.length) : (l.take (i + 1)).foldl putP [] = putP ((l.take i).foldl putP []) (l.getD i r0) := by
  rw [List.take_add_one, List.foldl_append]
  simp [List.getD, h]
theorem fold_b64 (l : List Rg) : ∀ out : List Rg, B64 l → B64 out → B64 (l.foldl putP out) := by
  induction l with
  | nil => intro out _ h; exact h
  | cons x l ih => intro out hl h; exact ih _ (fun y hy => hl y (by simp [hy])) (put_b64 h (hl x (by simp)))
theorem take_b64 {l : List Rg} (h : B64 l) (i : Nat) : B64 (l.take i) := fun x hx => h x (List.mem_of_mem_take hx)
theorem get_b64 {l : List Rg} (h : B64 l) {i : Nat} (hi : i < l.length) : b64r (l.getD i r0) := by
  have hm : l.getD i r0 ∈ l := by
    simp only [List.getD, List.getElem?_eq_getElem hi, Option.getD_some]
    exact List.getElem_mem hi
  exact h _ hm
theorem add_b64 {out : List Rg} {r : Rg} (h : B64 out) (hr : b64r r) : B64 (addP out r) := by
  unfold addP; split
  · exact put_b64 h hr
  · exact h
theorem row_b64 (x : Rg) (b : List Rg) : ∀ out : List Rg, b64r x → B64 b → B64 out → B64 (rowP x b out) := by
  induction b with
  | nil => intro out _ _ h; exact h
  | cons y b ih => intro out hx hb h; exact ih _ hx (fun z hz => hb z (by simp [hz])) (add_b64 h (inter_b64 hx (hb y (by simp))))
theorem cols_b64 (a b : List Rg) : ∀ out : List Rg, B64 a → B64 b → B64 out → B64 (a.foldl (fun out x => rowP x b out) out) := by
  induction a with
  | nil => intro out _ _ h; exact h
  | cons x a ih => intro out ha hb h; exact ih _ (fun z hz => ha z (by simp [hz])) hb (row_b64 x b out (ha x (by simp)) hb h)
theorem row_succ (x : Rg) (b out : List Rg) (j : Nat) (h : j < b.length) : rowP x (b.take (j + 1)) out = addP (rowP x (b.take j) out) (inter x (b.getD j r0)) := by
  unfold rowP
  rw [List.take_add_one, List.foldl_append]
  simp [List.getD, h]
theorem cols_succ (a b : List Rg) (i : Nat) (h : i < a.length) : (a.take (i + 1)).foldl (fun out x => rowP x b out) [] = rowP (a.getD i r0) b ((a.take i).foldl (fun out x => rowP x b out) []) := by
  rw [List.take_add_one, List.foldl_append]
  simp [List.getD, h]
theorem row_len (x : Rg) (b : List Rg) : ∀ out : List Rg, (rowP x b out).length ≤ out.length + b.length := by
  induction b with
  | nil => intro out; simp [rowP]
  | cons y b ih =>
    intro out
    have h1 := ih (addP out (inter x y))
    have h2 : (addP out (inter x y)).length ≤ out.length + 1 := by
      unfold addP; split
      · exact put_len _ _
      · omega
    have e : rowP x (y :: b) out = rowP x b (addP out (inter x y)) := rfl
    rw [e, List.length_cons]
    omega
theorem cols_len (a b : List Rg) : ∀ out : List Rg, (a.foldl (fun out x => rowP x b out) out).length ≤ out.length + a.length * b.length := by
  induction a with
  | nil => intro out; simp
  | cons x a ih =>
    intro out
    have h1 := ih (rowP x b out)
    have h2 := row_len x b out
    rw [List.foldl_cons, List.length_cons, Nat.add_mul]
    omega
set_option maxRecDepth 100000 in
set_option maxHeartbeats 2000000 in
theorem rall_walk (l : List Rg) (a : Option Addr) (n c : Nat) (w : World) (hL : RgsIn w a n c l) (hlen : l.length ≤ 100000) :
    Calls Try.prog 105 #[.slice a n c] w fun e w' => ∃ v, e = .returned v ∧ OwnR w' w.heap.size v (allP l) ∧ Below w.heap.size w w' := by
  have HL := Lib.hid hL
  obtain rfl : n = l.length := hL.len
  have hn63 : l.length ≤ 9223372036854775807 := by omega
  have HLn := Lib.hid hlen
  have HB0 := Lib.hid (below_one1 w (.cells #[] 25))
  have HO0 := Lib.hid (OwnR.empty w (lo := w.heap.size) (Nat.le_refl _))
  clear hL hlen
  go_enter Try.func105, Try.ntmps105
  go_wp2
  go_loopw [9, 3] (fun x s wr => ∃ i : Nat, i ≤ l.length ∧ x = .int .i64 (i : Nat) ∧ Hid (OwnR wr w.heap.size s ((l.take i).foldl putP [])) ∧ Below w.heap.size w wr) (fun x _ _ => l.length - (intOf x).toNat)
  case atStart => exact ⟨0, Nat.zero_le _, rfl, HO0.out, HB0.out⟩
  case round =>
    obtain ⟨i, hi, rfl, HOS, hb⟩ := hrel
    have HBr := Lib.hid hb
    have hl1 := allP_len (l.take i) []
    have h64 := fold_b64 (l.take i) [] (take_b64 HL.out.b64 i) (fun x hx => (by cases hx))
    have hsu0 := fun h => all_succ l i h
    obtain ⟨O, hO⟩ : ∃ O, O = (l.take i).foldl putP [] := ⟨_, rfl⟩
    rw [← hO] at HOS hl1 h64 hsu0
    obtain ⟨sa, cs, rfl, _⟩ := HOS.out.form
    by_cases hlt : i < l.length
    · have HOl := Lib.hid (show O.length ≤ 100000 by
        have := HLn.out
        simp [Nat.min_eq_left hi] at hl1
        omega)
      have H64 := Lib.hid h64
      have hsu := hsu0 hlt
      clear hsu0 hO h64 hl1
      obtain ⟨g, o, rfl, hg, hr⟩ := HL.out.rd i hlt
      have HR := Lib.hid (rng_on hr hb)
      obtain ⟨x, hx⟩ : ∃ x, x = l.getD i r0 := ⟨_, rfl⟩
      rw [← hx] at HR hsu
      have HSU := Lib.hid hsu
      have HI := Lib.hid hlt
      clear hr hx hg hb hlt hsu
      go_wp2_with (first | (refine wpList_load_mid rfl 25 (.tmp 11) rfl g (o + i * 2) rfl (rcl x) _ HR.out Try.underlying25 rfl size_rg ?_) | (refine wpList_store_abs rfl 25 (.tmp 5) (.tmp 12) (by rfl) wr.heap.size #[.int .u64 (x.lo : Nat), .int .u64 (x.hi : Nat)] (by rfl) (by rfl) 25 _ (Blk.new wr _ _) size_rg (by rfl) (by simp [Value.oneCell']) ?_; intro W hW hp5; have hbW := hW.below ((Below.refl _ wr).alloc (Nat.le_refl _) _) (Nat.le_refl _); have HBW := Lib.hid (HBr.out.trans (hbW.mono HBr.out.size)); have BXW := Lib.hid hp5; have b2 := hp5.cell 0 rfl; have b3 := hp5.cell 1 rfl; have HOSW := Lib.hid (HOS.out.on hbW); clear hW hbW hp5))
      refine (rput_walk O x sa _ cs _ (HOSW.out.rgs H64.out) HOl.out).mono ?_
      rintro e w5 ⟨v5, rfl, hO5, hb5⟩
      have HB5 := Lib.hid (HBW.out.trans (hb5.mono HBW.out.size))
      have HO5 := Lib.hid (hO5.mono HBW.out.size)
      clear hO5 hb5 b2 b3
      go_wp2
      go_roundw
      case rel => exact ⟨i + 1, by have := HI.out; omega, by go_num, by rw [HSU.out]; exact HO5.out, HB5.out⟩
      case measure => have := HI.out; simp [intOf]; omega
    · have HF := Lib.hid (show O = allP l by rw [hO, List.take_of_length_le (by omega)]; rfl)
      clear hsu0 hO h64 hl1
      go_wp2
      go_ret
      exact ⟨_, rfl, by rw [← HF.out]; exact HOS.out, HBr.out⟩
set_option maxRecDepth 100000 in
set_option maxHeartbeats 2000000 in
theorem rboth_walk (a b : List Rg) (pa : Option Addr) (na ca : Nat) (pb : Option Addr) (nb cb : Nat) (w : World) (hLa : RgsIn w pa na ca a) (hLb : RgsIn w pb nb cb b) (ha : a.length ≤ 64) (hb : b.length ≤ 64) :
    Calls Try.prog 104 #[.slice pa na ca, .slice pb nb cb] w fun e w' => ∃ v, e = .returned v ∧ OwnR w' w.heap.size v (bothP a b) ∧ Below w.heap.size w w' := by
  have HLa := Lib.hid hLa
  have HLb := Lib.hid hLb
  obtain rfl : na = a.length := hLa.len
  obtain rfl : nb = b.length := hLb.len
  have hna : a.length ≤ 9223372036854775807 := by omega
  have hnb : b.length ≤ 9223372036854775807 := by omega
  have Ha := Lib.hid ha
  have Hb := Lib.hid hb
  have HB0 := Lib.hid (below_one1 w (.cells #[] 25))
  have HO0 := Lib.hid (OwnR.empty w (lo := w.heap.size) (Nat.le_refl _))
  clear hLa hLb ha hb
  go_enter Try.func104, Try.ntmps104
  go_wp2
  go_loopw [14, 5] (fun x s wr => ∃ i : Nat, i ≤ a.length ∧ x = .int .i64 (i : Nat) ∧ Hid (OwnR wr w.heap.size s ((a.take i).foldl (fun out x => rowP x b out) [])) ∧ Below w.heap.size w wr) (fun x _ _ => a.length - (intOf x).toNat)
  case atStart => exact ⟨0, Nat.zero_le _, rfl, HO0.out, HB0.out⟩
  case round =>
    obtain ⟨i, hi, rfl, HOS, hb⟩ := hrel
    have HBr := Lib.hid hb
    have hl1 := cols_len (a.take i) b []
    have h64 := cols_b64 (a.take i) b [] (take_b64 HLa.out.b64 i) HLb.out.b64 (fun x hx => (by cases hx))
    have hsu0 := fun h => cols_succ a b i h
    obtain ⟨P, hP⟩ : ∃ P, P = (a.take i).foldl (fun out x => rowP x b out) [] := ⟨_, rfl⟩
    rw [← hP] at HOS hl1 h64 hsu0
    by_cases hlt : i < a.length
    · have HPl := Lib.hid (show P.length ≤ 4096 by
        rw [List.length_take, Nat.min_eq_left hi] at hl1
        have h2 : i * b.length ≤ 64 * 64 := Nat.mul_le_mul (show i ≤ 64 by have := Ha.out; omega) Hb.out
        simp at hl1
        omega)
      have H64 := Lib.hid h64
      have hsu := hsu0 hlt
      clear hsu0 hP h64 hl1
      obtain ⟨g, o, rfl, hg, hr⟩ := HLa.out.rd i hlt
      have HR := Lib.hid (rng_on hr hb)
      have hx64 := get_b64 HLa.out.b64 hlt
      obtain ⟨x, hx⟩ : ∃ x, x = a.getD i r0 := ⟨_, rfl⟩
      rw [← hx] at HR hsu hx64
      have HSU := Lib.hid hsu
      have HX64 := Lib.hid hx64
      have HI := Lib.hid hlt
      clear hr hx hg hb hlt hsu hx64
      go_wp2_with (first | (refine wpList_load_mid rfl 25 (.tmp 16) rfl g (o + i * 2) rfl (rcl x) _ HR.out Try.underlying25 rfl size_rg ?_) | (refine wpList_store_abs rfl 25 (.tmp 7) (.tmp 17) (by rfl) wr.heap.size #[.int .u64 (x.lo : Nat), .int .u64 (x.hi : Nat)] (by rfl) (by rfl) 25 _ (Blk.new wr _ _) size_rg (by rfl) (by simp [Value.oneCell']) ?_; intro W hW hp5; have hbW := hW.below ((Below.refl _ wr).alloc (Nat.le_refl _) _) (Nat.le_refl _); have HBW := Lib.hid (HBr.out.trans (hbW.mono HBr.out.size)); have BXW := Lib.hid hp5; have b2 := hp5.cell 0 rfl; have b3 := hp5.cell 1 rfl; have HOSW := Lib.hid (HOS.out.on hbW); clear hW hbW hp5))
      clear b2 b3
      generalize wr.heap.size = gx at *
      obtain ⟨wo, rfl⟩ : ∃ wo : World, wo = wr := ⟨_, rfl⟩
      go_loopw [20, 5] (fun x2 s wr => ∃ j : Nat, j ≤ b.length ∧ x2 = .int .i64 (j : Nat) ∧ Hid (OwnR wr w.heap.size s (rowP x (b.take j) P)) ∧ Hid (Blk wr gx #[.int .u64 (x.lo : Nat), .int .u64 (x.hi : Nat)] 25) ∧ Below w.heap.size w wr) (fun x2 _ _ => b.length - (intOf x2).toNat)
      case atStart => exact ⟨0, Nat.zero_le _, rfl, HOSW.out, BXW.out, HBW.out⟩
      case round =>
        obtain ⟨j, hj, rfl, HOS2, BX2, hb2⟩ := hrel
        have HBr2 := Lib.hid hb2
        have hl2 := row_len x (b.take j) P
        have hq64 := row_b64 x (b.take j) P HX64.out (take_b64 HLb.out.b64 j) H64.out
        have hsu2 := fun h => row_succ x b P j h
        obtain ⟨O, hO⟩ : ∃ O, O = rowP x (b.take j) P := ⟨_, rfl⟩
        rw [← hO] at HOS2 hl2 hq64 hsu2
        obtain ⟨sa, cs, rfl, _⟩ := HOS2.out.form
        by_cases hlt2 : j < b.length
        · have HOl := Lib.hid (show O.length ≤ 100000 by
            have h2 := HPl.out; have h3 := Hb.out
            rw [List.length_take] at hl2
            omega)
          have HQ64 := Lib.hid hq64
          have hsu := hsu2 hlt2
          obtain ⟨g2, o2, rfl, hg, hr⟩ := HLb.out.rd j hlt2
          have HR2 := Lib.hid (rng_on hr hb2)
          have hy64 := get_b64 HLb.out.b64 hlt2
          obtain ⟨y, hy⟩ : ∃ y, y = b.getD j r0 := ⟨_, rfl⟩
          rw [← hy] at HR2 hsu hy64
          have HSU2 := Lib.hid hsu
          have HJ := Lib.hid hlt2
          have g3 : max (x.lo : Int) (y.lo : Int) = ((inter x y).lo : Int) := by simp [inter]; omega
          have g4 : min (x.hi : Int) (y.hi : Int) = ((inter x y).hi : Int) := by simp [inter]; omega
          clear hr hy hg hb2 hlt2 hsu hl2 hq64 hsu2 hO hy64
          by_cases his : (inter x y).lo < (inter x y).hi
          · have g5 : ((inter x y).lo : Int) < ((inter x y).hi : Int) := by omega
            have HAD := Lib.hid (show addP O (inter x y) = putP O (inter x y) from if_pos his)
            clear his
            generalize inter x y = q at *
            go_wp2_with (first | (refine wpList_load_mid rfl 25 (.tmp 22) rfl g2 (o2 + j * 2) rfl (rcl y) _ HR2.out Try.underlying25 rfl size_rg ?_) | (refine wpList_store_abs rfl 25 (.tmp 9) (.tmp 23) (by rfl) wr.heap.size #[.int .u64 (y.lo : Nat), .int .u64 (y.hi : Nat)] (by rfl) (by rfl) 25 _ (Blk.new wr _ _) size_rg (by rfl) (by simp [Value.oneCell']) ?_; intro V hV hp6; have hbV := hV.below ((Below.refl _ wr).alloc (Nat.le_refl _) _) (Nat.le_refl _); have HBV := Lib.hid (HBr2.out.trans (hbV.mono HBr2.out.size)); have BXV := Lib.hid (BX2.out.on hbV); have HOSV := Lib.hid (HOS2.out.on hbV); have b0 := BXV.out.cell 0 rfl; have b1 := BXV.out.cell 1 rfl; have b2 := hp6.cell 0 rfl; have b3 := hp6.cell 1 rfl; have hbU := below_one1 V (.cells #[.int .u64 (q.lo : Nat), .int .u64 (q.hi : Nat)] 25); have HBU := Lib.hid (HBV.out.trans (hbU.mono HBV.out.size)); have BXU := Lib.hid (BXV.out.on hbU); have HOSU := Lib.hid (HOSV.out.on hbU); clear hV hbV hp6 hbU))
            refine (rput_walk O q sa _ cs _ (HOSU.out.rgs HQ64.out) HOl.out).mono ?_
            rintro e w5 ⟨v5, rfl, hO5, hb5⟩
            have HB5 := Lib.hid (HBU.out.trans (hb5.mono HBU.out.size))
            have HO5 := Lib.hid (hO5.mono HBU.out.size)
            have BX5 := Lib.hid (BXU.out.on hb5)
            clear hO5 hb5 b0 b1 b2 b3
            go_wp2
            go_roundw
            case rel => exact ⟨j + 1, by have := HJ.out; omega, by go_num, by rw [HSU2.out, HAD.out]; exact HO5.out, BX5.out, HB5.out⟩
            case measure => have := HJ.out; simp [intOf]; omega
          · have g5 : ¬ ((inter x y).lo : Int) < ((inter x y).hi : Int) := by omega
            have HAD := Lib.hid (show addP O (inter x y) = O from if_neg his)
            clear his
            generalize inter x y = q at *
            go_wp2_with (first | (refine wpList_load_mid rfl 25 (.tmp 22) rfl g2 (o2 + j * 2) rfl (rcl y) _ HR2.out Try.underlying25 rfl size_rg ?_) | (refine wpList_store_abs rfl 25 (.tmp 9) (.tmp 23) (by rfl) wr.heap.size #[.int .u64 (y.lo : Nat), .int .u64 (y.hi : Nat)] (by rfl) (by rfl) 25 _ (Blk.new wr _ _) size_rg (by rfl) (by simp [Value.oneCell']) ?_; intro V hV hp6; have hbV := hV.below ((Below.refl _ wr).alloc (Nat.le_refl _) _) (Nat.le_refl _); have HBV := Lib.hid (HBr2.out.trans (hbV.mono HBr2.out.size)); have BXV := Lib.hid (BX2.out.on hbV); have HOSV := Lib.hid (HOS2.out.on hbV); have b0 := BXV.out.cell 0 rfl; have b1 := BXV.out.cell 1 rfl; have b2 := hp6.cell 0 rfl; have b3 := hp6.cell 1 rfl; have hbU := below_one1 V (.cells #[.int .u64 (q.lo : Nat), .int .u64 (q.hi : Nat)] 25); have HBU := Lib.hid (HBV.out.trans (hbU.mono HBV.out.size)); have BXU := Lib.hid (BXV.out.on hbU); have HOSU := Lib.hid (HOSV.out.on hbU); clear hV hbV hp6 hbU))
            go_roundw
            case rel => exact ⟨j + 1, by have := HJ.out; omega, by go_num, by rw [HSU2.out, HAD.out]; exact HOSU.out, BXU.out, HBU.out⟩
            case measure => have := HJ.out; simp [intOf]; omega
        · have HF := Lib.hid (show O = (a.take (i + 1)).foldl (fun out x => rowP x b out) [] by rw [hO, HSU.out, List.take_of_length_le (by omega)])
          clear hO hl2 hq64 hsu2
          go_wp2
          go_roundw
          case rel => exact ⟨i + 1, by have := HI.out; omega, by go_num, by rw [← HF.out]; exact HOS2.out, HBr2.out⟩
          case measure => have := HI.out; simp [intOf]; omega
    · have HF := Lib.hid (show P = bothP a b by rw [hP, List.take_of_length_le (by omega)]; rfl)
      clear hsu0 hP h64 hl1
      go_wp2
      go_ret
      exact ⟨_, rfl, by rw [← HF.out]; exact HOS.out, HBr.out⟩
set_option maxRecDepth 100000 in
set_option maxHeartbeats 1000000 in
theorem rless_walk (l : List Rg) (r : Rg) (a : Option Addr) (n c : Nat) (w : World) (hL : RgsIn w a n c l) (hl : l.length ≤ 64) (hr : b64r r) :
    Calls Try.prog 108 #[.slice a n c, rag r] w fun e w' => ∃ v, e = .returned v ∧ OwnR w' w.heap.size v (lessP l r) ∧ Below w.heap.size w w' := by
  have hb := below_two2 w (.cells (rcb r) 25) (.cells #[.int .u64 0, .int .u64 (r.lo : Nat), .int .u64 (r.hi : Nat), .int .u64 18446744073709551615] 25)
  have HL := Lib.hid (hL.on hb)
  have HLr := Lib.hid (RgsIn.blk (l := [⟨0, r.lo⟩, ⟨r.hi, 18446744073709551615⟩]) (Blk.new' (w.alloc (.cells (rcb r) 25)) #[.int .u64 0, .int .u64 (r.lo : Nat), .int .u64 (r.hi : Nat), .int .u64 18446744073709551615] 25 (g := w.heap.size + 1) (by simp)) (by simp [rcs, rcl]) 2 rfl (by simp [maxLen]) (by
    intro x hx
    have h1 := hr.1; have h2 := hr.2
    simp at hx
    rcases hx with rfl | rfl <;> simp <;> omega))
  have HB := Lib.hid hb
  have Hl := Lib.hid hl
  clear hL hb hl hr
  go_enter Try.func108, Try.ntmps108
  go_wp2_with fail
  refine (rboth_walk l [⟨0, r.lo⟩, ⟨r.hi, 18446744073709551615⟩] a n c _ 2 2 _ HL.out HLr.out Hl.out (by simp)).mono ?_
  rintro e w2 ⟨v2, rfl, hO, hb2⟩
  have HB2 := Lib.hid (HB.out.trans (hb2.mono HB.out.size))
  have HO := Lib.hid (hO.mono HB.out.size)
  clear hO hb2
  go_wp2
  go_ret
  exact ⟨_, rfl, HO.out, HB2.out⟩
theorem covers_step {l : List Rg} {r : Rg} {i : Nat} (h : ∀ j, j < i → ¬ ((l.getD j r0).lo ≤ r.lo ∧ r.hi ≤ (l.getD j r0).hi)) (hn : ¬ ((l.getD i r0).lo ≤ r.lo ∧ r.hi ≤ (l.getD i r0).hi)) :
    ∀ j, j < i + 1 → ¬ ((l.getD j r0).lo ≤ r.lo ∧ r.hi ≤ (l.getD j r0).hi) := fun j hj => by
  rcases Nat.lt_or_ge j i with q | q
  · exact h j q
  · obtain rfl : j = i := by omega
    exact hn
set_option maxRecDepth 100000 in
set_option maxHeartbeats 1000000 in
theorem rcovers_walk (l : List Rg) (r : Rg) (a : Option Addr) (n c : Nat) (w : World) (hL : RgsIn w a n c l) (Q : Bool) (hQ : Q = true ↔ covP l r) :
    Calls Try.prog 70 #[.slice a n c, rag r] w fun e w' => e = .returned (.bool Q) ∧ Below w.heap.size w w' := by
  have hb := below_one1 w (.cells (rcb r) 25)
  have HL := Lib.hid (hL.on hb)
  have BG := Lib.hid (Blk.new w (rcb r) 25)
  have HB := Lib.hid hb
  have HQ := Lib.hid hQ
  obtain rfl : n = l.length := hL.len
  have hn63 : l.length ≤ 9223372036854775807 := by have h1 := hL.fit; have h2 := hL.top; unfold maxLen at h2; omega
  clear hL hb hQ
  go_enter Try.func70, Try.ntmps70
  go_wp2
  go_loopw [9] (fun x wr => ∃ i : Nat, i ≤ l.length ∧ x = .int .i64 (i : Nat) ∧ Hid (∀ j, j < i → ¬ ((l.getD j r0).lo ≤ r.lo ∧ r.hi ≤ (l.getD j r0).hi)) ∧ Below (w.alloc (.cells (rcb r) 25)).heap.size (w.alloc (.cells (rcb r) 25)) wr) (fun x _ => l.length - (intOf x).toNat)
  case atStart => exact ⟨0, Nat.zero_le _, rfl, fun j hj => (by omega), Below.refl _ _⟩
  case round =>
    obtain ⟨i, hi, rfl, HJ, hb⟩ := hrel
    have HBr := Lib.hid hb
    by_cases hlt : i < l.length
    · obtain ⟨g, o, rfl, hg, hr⟩ := HL.out.rd i hlt
      have HR := Lib.hid (rng_on hr hb)
      have BGr := Lib.hid (BG.out.below hb BG.out.lt)
      obtain ⟨x, hx⟩ : ∃ x, x = l.getD i r0 := ⟨_, rfl⟩
      rw [← hx] at HR
      have HX := Lib.hid hx
      have HI := Lib.hid hlt
      clear hr hx hg hb hlt
      by_cases h1 : x.lo ≤ r.lo
      · have g1 : (x.lo : Int) ≤ (r.lo : Int) := by omega
        by_cases h2 : r.hi ≤ x.hi
        · have g2 : (r.hi : Int) ≤ (x.hi : Int) := by omega
          have HT := Lib.hid (show Q = true from HQ.out.2 ⟨x, by
            rw [HX.out]
            simp only [List.getD, List.getElem?_eq_getElem HI.out, Option.getD_some]
            exact List.getElem_mem HI.out, h1, h2⟩)
          clear h1 h2
          go_wp2_with (first | (refine wpList_load_mid rfl 25 (.tmp 11) rfl g (o + i * 2) rfl (rcl x) _ HR.out Try.underlying25 rfl size_rg ?_) | (refine wpList_store_abs rfl 25 (.tmp 6) (.tmp 12) (by rfl) wr.heap.size #[.int .u64 (x.lo : Nat), .int .u64 (x.hi : Nat)] (by rfl) (by rfl) 25 _ (Blk.new wr _ _) size_rg (by rfl) (by simp [Value.oneCell']) ?_; intro W hW hp5; have hbW := hW.below ((Below.refl _ wr).alloc (Nat.le_refl _) _) (Nat.le_refl _); have HBW := Lib.hid (HBr.out.trans (hbW.mono HBr.out.size)); have BXW := Lib.hid hp5; have b2 := hp5.cell 0 rfl; have b3 := hp5.cell 1 rfl; have BGW := Lib.hid (BGr.out.on hbW); have b0 := BGW.out.cell 0 rfl; have b1 := BGW.out.cell 1 rfl; clear hW hbW hp5))
          go_ret
          exact ⟨by rw [HT.out]; rfl, HB.out.trans (HBW.out.mono HB.out.size)⟩
        · have g2 : ¬ (r.hi : Int) ≤ (x.hi : Int) := by omega
          have HNN := Lib.hid (show ¬ (x.lo ≤ r.lo ∧ r.hi ≤ x.hi) from fun h => h2 h.2)
          clear h1 h2
          go_wp2_with (first | (refine wpList_load_mid rfl 25 (.tmp 11) rfl g (o + i * 2) rfl (rcl x) _ HR.out Try.underlying25 rfl size_rg ?_) | (refine wpList_store_abs rfl 25 (.tmp 6) (.tmp 12) (by rfl) wr.heap.size #[.int .u64 (x.lo : Nat), .int .u64 (x.hi : Nat)] (by rfl) (by rfl) 25 _ (Blk.new wr _ _) size_rg (by rfl) (by simp [Value.oneCell']) ?_; intro W hW hp5; have hbW := hW.below ((Below.refl _ wr).alloc (Nat.le_refl _) _) (Nat.le_refl _); have HBW := Lib.hid (HBr.out.trans (hbW.mono HBr.out.size)); have BXW := Lib.hid hp5; have b2 := hp5.cell 0 rfl; have b3 := hp5.cell 1 rfl; have BGW := Lib.hid (BGr.out.on hbW); have b0 := BGW.out.cell 0 rfl; have b1 := BGW.out.cell 1 rfl; clear hW hbW hp5))
          go_roundw
          case rel => exact ⟨i + 1, by have := HI.out; omega, by go_num, covers_step HJ.out (by rw [← HX.out]; exact HNN.out), HBW.out⟩
          case measure => have := HI.out; simp [intOf]; omega
      · have g1 : ¬ (x.lo : Int) ≤ (r.lo : Int) := by omega
        have HNN := Lib.hid (show ¬ (x.lo ≤ r.lo ∧ r.hi ≤ x.hi) from fun h => h1 h.1)
        clear h1
        go_wp2_with (first | (refine wpList_load_mid rfl 25 (.tmp 11) rfl g (o + i * 2) rfl (rcl x) _ HR.out Try.underlying25 rfl size_rg ?_) | (refine wpList_store_abs rfl 25 (.tmp 6) (.tmp 12) (by rfl) wr.heap.size #[.int .u64 (x.lo : Nat), .int .u64 (x.hi : Nat)] (by rfl) (by rfl) 25 _ (Blk.new wr _ _) size_rg (by rfl) (by simp [Value.oneCell']) ?_; intro W hW hp5; have hbW := hW.below ((Below.refl _ wr).alloc (Nat.le_refl _) _) (Nat.le_refl _); have HBW := Lib.hid (HBr.out.trans (hbW.mono HBr.out.size)); have BXW := Lib.hid hp5; have b2 := hp5.cell 0 rfl; have b3 := hp5.cell 1 rfl; have BGW := Lib.hid (BGr.out.on hbW); have b0 := BGW.out.cell 0 rfl; have b1 := BGW.out.cell 1 rfl; clear hW hbW hp5))
        go_roundw
        case rel => exact ⟨i + 1, by have := HI.out; omega, by go_num, covers_step HJ.out (by rw [← HX.out]; exact HNN.out), HBW.out⟩
        case measure => have := HI.out; simp [intOf]; omega
    · have HF := Lib.hid (show Q = false from Bool.eq_false_iff.2 fun q => by
        obtain ⟨x, hx, h1, h2⟩ := HQ.out.1 q
        obtain ⟨j, hj, rfl⟩ := List.getElem_of_mem hx
        have h := HJ.out j (by omega)
        rw [show l.getD j r0 = l[j] by simp [List.getD, hj]] at h
        exact h ⟨h1, h2⟩)
      go_wp2
      go_ret
      exact ⟨by rw [HF.out]; rfl, HB.out.trans (HBr.out.mono HB.out.size)⟩
end Go.Proofs.Ytajjbffppkpjpaa
