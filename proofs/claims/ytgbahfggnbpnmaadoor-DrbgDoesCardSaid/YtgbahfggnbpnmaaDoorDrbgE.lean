import Derived.Test.YtgbahfggnbpnmaaDoorLawDrbgFull
import Derived.Test.YtgbahfggnbpnmaaDoorLawP
import Derived.Test.YtgbahfggnbpnmaaDoorLawD
import Derived.Deep.Slices
/-
  A script of liverylaw05 as plain Lean: what lies in memory, how it is opened, how an element is loaded.
-/
namespace Go.Proofs.YtgbahfggnbpnmaaDoor
open Go.ChangeShapes Go.WideShapes Go.ChangeAt Go.RowKit Go.Deep
structure DOp where
  res : Bool
  n : Int
  b : List UInt8
  add : List UInt8
  copy : Bool
def dop0 : DOp := ⟨false, 0, [], [], false⟩
instance : Inhabited DOp := ⟨dop0⟩
def ocells (o : DOp) (ab aa : Option Addr) (nb cb na ca : Nat) : List Value := [.bool o.res, .int .i64 o.n, .slice ab nb cb, .slice aa na ca, .bool o.copy]
/-- One operation, where it lies. -/
def OpAt (w : World) (g k : Nat) (o : DOp) : Prop := ∃ ab aa nb cb na ca, w.rangeAt g k (ocells o ab aa nb cb na ca) ∧ Txt w ab nb cb o.b ∧ Txt w aa na ca o.add
def OpsIn (w : World) (a : Option Addr) (n c : Nat) (os : List DOp) : Prop := n = os.length ∧ n ≤ c ∧ c ≤ maxLen ∧ ∀ i, i < os.length → ∃ g o, a = some ⟨g, o, none⟩ ∧ g < w.heap.size ∧ OpAt w g (o + i * 5) (os.getD i dop0)
theorem OpAt.on {w w' : World} {g k : Nat} {o : DOp} (h : OpAt w g k o) (hb : Below w.heap.size w w') : OpAt w' g k o := by
  obtain ⟨ab, aa, nb, cb, na, ca, h1, h2, h3⟩ := h
  refine ⟨ab, aa, nb, cb, na, ca, fun j v hv => ?_, h2.on hb, h3.on hb⟩
  have h := h1 j v hv
  exact (hb.cell (p := ⟨g, k + j, none⟩) (block_lt_of_cell h)).trans h
theorem OpsIn.on {w w' : World} {a : Option Addr} {n c : Nat} {os : List DOp} (h : OpsIn w a n c os) (hb : Below w.heap.size w w') : OpsIn w' a n c os :=
  ⟨h.1, h.2.1, h.2.2.1, fun i hi => by
    obtain ⟨g, o, e, hg, hc⟩ := h.2.2.2 i hi
    exact ⟨g, o, e, Nat.lt_of_lt_of_le hg hb.size, hc.on hb⟩⟩
theorem cells_dop : Tryd.prog.cellsOf 84 = 5 := by kernel_rfl
theorem cells_bool' : Tryd.prog.cellsOf 4 = 1 := by kernel_rfl
theorem cells_int' : Tryd.prog.cellsOf 3 = 1 := by kernel_rfl
theorem cells_u8s' : Tryd.prog.cellsOf 28 = 1 := by kernel_rfl
theorem size_dop : (Tryd.prog.info? 84).map (·.size) = some 5 := by kernel_rfl
theorem text_trod {H : Type} {enc : TypeId × Value → H} {W : World} {t e : TypeId} {n : Nat} {v : Value} {y : DataW H × List MemPlace} (ht : Tryd.prog.underlying t = some (.slice e)) (he : Tryd.prog.underlying e = some (.int .u8)) (hc : Tryd.prog.cellsOf e = 1)
    (hf : DataW.trod enc Tryd.prog W 0 (fun _ => true) true n t [v] = some y) : ∃ a n cap l, v = .slice a n cap ∧ Txt W a n cap l := by
  rcases open_ints ht he hc hf with ⟨hcs, _⟩ | ⟨a, len, cap', zs, hcs, _, hl, hm, hz, _, hcell, hw⟩
  · simp at hcs
    subst hcs
    exact ⟨_, _, _, [], rfl, Txt.nil W 0⟩
  · simp at hcs
    subst hcs
    simp only [if_true] at hz
    exact ⟨_, _, _, _, rfl, (text_cells hl hm hz (fun i hi => hcell i (by omega)) hw).txt⟩
set_option maxRecDepth 100000 in
/-- A script that came in. -/
theorem open_ops {H : Type} {enc : TypeId × Value → H} {W : World} {base : Nat} {v : Value} {d : DataW H} {ps : List MemPlace}
    (hv : Value.okWide Tryd.prog W .any base 81 v) (h : DataW.Trod enc Tryd.prog W 0 (fun _ => true) true 81 v d ps) : ∃ a n c os, v = .slice a n c ∧ OpsIn W a n c os := by
  obtain ⟨a0, n, cap, rfl⟩ := okWide_slice Tryd.underlying81 hv
  obtain ⟨fuel, hf⟩ := h
  simp only [Value.cells] at hf
  rcases open_slice Tryd.underlying81 hf with ⟨hcs, _⟩ | ⟨a, len, cap', m, k, D, Pl, hcs, _, hl, hm, hmm, _, hel⟩
  · simp at hcs
    obtain ⟨rfl, rfl, rfl⟩ := hcs
    exact ⟨_, _, _, [], rfl, rfl, Nat.le_refl _, by simp [maxLen], fun i hi => by simp at hi⟩
  · simp at hcs
    obtain ⟨rfl, rfl, rfl⟩ := hcs
    simp only [if_true] at hmm
    rw [cells_dop] at hel
    obtain ⟨g, p, spot⟩ := a
    have hsp : 0 < n → spot = none := fun h0 => by
      obtain ⟨cs', h1, _⟩ := hel 0 (by omega)
      obtain ⟨_, _, hc⟩ := World.cells?_some h1
      have h := hc 0 (by omega)
      rw [add_add] at h
      cases hx : cs'[0]? with
      | none => simp at hx; subst hx; simp at *
      | some v => rw [hx] at h; simpa [Addr.add] using World.cell?_spot h
    have one : ∀ i, i < n → ∃ o : DOp, ∃ g' p', (⟨g, p, spot⟩ : Addr) = ⟨g', p', none⟩ ∧ g' < W.heap.size ∧ OpAt W g' (p' + i * 5) o := fun i hi => by
      obtain rfl := hsp (by omega)
      obtain ⟨cs', h1, h2⟩ := hel i (by omega)
      obtain ⟨_, hlen, hc⟩ := World.cells?_some h1
      obtain ⟨xs, n', _, _, _, hxl, hx⟩ := DataW.trod_struct Tryd.underlying84 h2
      match cs', hlen, xs, hxl with
      | [c0, c1, c2, c3, c4], _, [y0, y1, y2, y3, y4], _ =>
        have t0 := hx 0 _ rfl
        have t1 := hx 1 _ rfl
        have t2 := hx 2 _ rfl
        have t3 := hx 3 _ rfl
        have t4 := hx 4 _ rfl
        simp only [cells_bool', cells_int', cells_u8s', List.drop_zero, List.drop_succ_cons, List.take_succ_cons, List.take_zero, List.getElem?_cons_zero, List.getElem?_cons_succ] at t0 t1 t2 t3 t4
        obtain ⟨r, e0, _⟩ := DataW.trod_bool Tryd.underlying4 t0
        obtain ⟨z, e1, _⟩ := DataW.trod_int Tryd.underlying3 t1
        obtain ⟨ab, nb, cb, lb, rfl, tb⟩ := text_trod Tryd.underlying28 Tryd.underlying5 cells_u8 t2
        obtain ⟨aa, na, ca, la, rfl, ta⟩ := text_trod Tryd.underlying28 Tryd.underlying5 cells_u8 t3
        obtain ⟨q, e4, _⟩ := DataW.trod_bool Tryd.underlying4 t4
        obtain rfl : c0 = .bool r := by simpa [cells_bool'] using e0
        obtain rfl : c1 = .int .i64 z := by simpa [cells_int'] using e1
        obtain rfl : c4 = .bool q := by simpa [cells_bool'] using e4
        have h00 := hc 0 (by omega)
        refine ⟨⟨r, z, lb, la, q⟩, g, p, rfl, ?_, ab, aa, nb, cb, na, ca, fun j u hj => ?_, tb, ta⟩
        · rw [Addr.add_mid, Addr.add_mid] at h00
          exact block_lt_of_cell (a := ⟨g, p + i * 5 + 0, none⟩) h00
        · have hj5 : j < 5 := by
            rcases Nat.lt_or_ge j 5 with h | h
            · exact h
            · rw [List.getElem?_eq_none (by simpa [ocells] using h)] at hj; cases hj
          have := hc j hj5
          rw [Addr.add_mid, Addr.add_mid] at this
          rw [this, ← hj]
          rfl
    obtain ⟨f, hf⟩ := choose_lt (α := DOp) (n := n) (p := fun i o => ∃ g' p', (⟨g, p, spot⟩ : Addr) = ⟨g', p', none⟩ ∧ g' < W.heap.size ∧ OpAt W g' (p' + i * 5) o) one
    refine ⟨_, n, cap, (List.range n).map f, rfl, by simp, hl, hm, fun i hi => ?_⟩
    simp only [List.length_map, List.length_range] at hi
    obtain ⟨g, p, e, hg, ho⟩ := hf i hi
    refine ⟨g, p, by rw [e], hg, ?_⟩
    have e2 : ((List.range n).map f).getD i dop0 = f i := by simp [List.getD, hi]
    rw [e2]; exact ho
end Go.Proofs.YtgbahfggnbpnmaaDoor
/-
  liverylaw05.much.
-/
namespace Go.Proofs.YtgbahfggnbpnmaaDoor
open Go.RowKit
def longP (l : List UInt8) : Prop := 500 < l.length ∧ l.length ≤ 4096 ∨ 9000 < l.length
instance (l : List UInt8) : Decidable (longP l) := by unfold longP; infer_instance
def badP (o : DOp) : Prop := longP o.b ∨ longP o.add ∨ (600 < o.n ∧ o.n ≤ 65536)
def muchP (os : List DOp) : Prop := (∃ o ∈ os, badP o) ∨ 40 < os.length
theorem ocells_one (o : DOp) (ab aa : Option Addr) (nb cb na ca : Nat) : (ocells o ab aa nb cb na ca).toArray.all (·.oneCell') = true := by
  simp [ocells, Value.oneCell']
section
variable (o : DOp) (ab aa : Option Addr) (nb cb na ca : Nat)
theorem ocell0 : (ocells o ab aa nb cb na ca).toArray[0]? = some (.bool o.res) := by simp [ocells]
theorem ocell1 : (ocells o ab aa nb cb na ca).toArray[1]? = some (.int .i64 o.n) := by simp [ocells]
theorem ocell2 : (ocells o ab aa nb cb na ca).toArray[2]? = some (.slice ab nb cb) := by simp [ocells]
theorem ocell3 : (ocells o ab aa nb cb na ca).toArray[3]? = some (.slice aa na ca) := by simp [ocells]
theorem ocell4 : (ocells o ab aa nb cb na ca).toArray[4]? = some (.bool o.copy) := by simp [ocells]
end
theorem long_yes {l : List UInt8} (h : longP l) (a : Option Addr) (n c : Nat) (hn : n = l.length) (w : World) : Calls Tryd.prog 60 #[.slice a n c] w fun e w' => e = .returned (.bool true) ∧ w' = w :=
  (long_walk l a n c hn w).mono fun e w' ⟨h1, h2⟩ => ⟨by rw [h1, decide_eq_true (show 500 < l.length ∧ l.length ≤ 4096 ∨ 9000 < l.length from h)], h2.symm⟩
theorem long_no {l : List UInt8} (h : ¬ longP l) (a : Option Addr) (n c : Nat) (hn : n = l.length) (w : World) : Calls Tryd.prog 60 #[.slice a n c] w fun e w' => e = .returned (.bool false) ∧ w' = w :=
  (long_walk l a n c hn w).mono fun e w' ⟨h1, h2⟩ => ⟨by rw [h1, decide_eq_false (show ¬ (500 < l.length ∧ l.length ≤ 4096 ∨ 9000 < l.length) from h)], h2.symm⟩
set_option maxRecDepth 100000 in
set_option maxHeartbeats 1000000 in
theorem much_walk (os : List DOp) (a : Option Addr) (n c : Nat) (w : World) (hO : OpsIn w a n c os) (M : Bool) (hM : M = true ↔ muchP os) :
    Calls Tryd.prog 65 #[.slice a n c] w fun e w' => e = .returned (.bool M) ∧ Below w.heap.size w w' := by
  have HO := Lib.hid hO
  have HN := Lib.hid hO.1
  have HC := Lib.hid hO.2.1
  have HX := Lib.hid hO.2.2.1
  have HM := Lib.hid hM
  have hn63 : n ≤ 9223372036854775807 := by have h1 := hO.2.1; have h2 := hO.2.2.1; unfold maxLen at h2; omega
  clear hO hM
  go_enter Tryd.func65, Tryd.ntmps65
  go_wp2
  go_loopw [7] (fun x wr => ∃ i : Nat, i ≤ n ∧ x = .int .i64 (i : Nat) ∧ Below w.heap.size w wr ∧ Hid (∀ j, j < i → ¬ badP (os.getD j dop0))) (fun x _ => n - (intOf x).toNat)
  case atStart => exact ⟨0, Nat.zero_le _, rfl, Below.refl _ _, fun j hj => by omega⟩
  case round =>
    obtain ⟨i, hi, rfl, hb, HJ⟩ := hrel
    have HB := Lib.hid hb
    by_cases hlt : i < n
    · obtain ⟨g, o, rfl, _, ab, aa, nb, cb, na, ca, hr, htb, hta⟩ := (HO.out.on hb).2.2.2 i (by have := HN.out; omega)
      obtain ⟨op, hop⟩ : ∃ op, op = os.getD i dop0 := ⟨_, rfl⟩
      rw [← hop] at hr htb hta
      have HOP := Lib.hid hop
      have HR := Lib.hid hr
      have HTB := Lib.hid htb
      have HTA := Lib.hid hta
      clear hr htb hta hb hop
      have HZ := Lib.hid (show (Tryd.prog.info? 84).map (·.size) = some (ocells op ab aa nb cb na ca).toArray.size from size_dop)
      have HFIN := Lib.hid (show badP op → M = true from fun h => HM.out.2 (.inl ⟨os.getD i dop0, by rw [List.getD, List.getElem?_eq_getElem (by have := HN.out; omega)]; exact List.getElem_mem _, by rw [← HOP.out]; exact h⟩))
      go_wp2_with (first | (refine wpList_load_mid rfl 84 (.tmp 9) rfl g (o + i * 5) rfl (ocells op ab aa nb cb na ca) _ HR.out Tryd.underlying84 rfl size_dop ?_) | (refine wpList_store_abs rfl 84 (.tmp 4) (.tmp 10) rfl wr.heap.size (ocells op ab aa nb cb na ca).toArray (by rfl) (by rfl) 84 _ (Blk.new wr _ _) HZ.out (by rfl) (ocells_one _ _ _ _ _ _ _) ?_; intro W hW p5; have HBW := Lib.hid (HB.out.trans ((hW.below ((Below.refl _ wr).alloc (Nat.le_refl _) _) (Nat.le_refl _)).mono HB.out.size)); have b1 := p5.cell 1 (ocell1 _ _ _ _ _ _ _); have b2 := p5.cell 2 (ocell2 _ _ _ _ _ _ _); have b3 := p5.cell 3 (ocell3 _ _ _ _ _ _ _); clear hW p5))
      by_cases k1 : longP op.b
      · refine (long_yes k1 ab nb cb HTB.out.len W).mono ?_
        rintro e w' ⟨rfl, rfl⟩
        have hM1 := HFIN.out (.inl k1)
        subst hM1
        go_wp2
        go_ret
        exact ⟨rfl, HBW.out⟩
      · refine (long_no k1 ab nb cb HTB.out.len W).mono ?_
        rintro e w' ⟨rfl, rfl⟩
        by_cases k2 : longP op.add
        · go_wp2_with fail
          refine (long_yes k2 aa na ca HTA.out.len _).mono ?_
          rintro e w' ⟨rfl, rfl⟩
          have hM1 := HFIN.out (.inr (.inl k2))
          subst hM1
          go_wp2
          go_ret
          exact ⟨rfl, HBW.out⟩
        · go_wp2_with fail
          refine (long_no k2 aa na ca HTA.out.len _).mono ?_
          rintro e w' ⟨rfl, rfl⟩
          by_cases k3 : 600 < op.n
          · by_cases k4 : op.n ≤ 65536
            · have hM1 := HFIN.out (.inr (.inr ⟨k3, k4⟩))
              subst hM1
              go_wp2
              go_ret
              exact ⟨rfl, HBW.out⟩
            · have HJ2 := Lib.hid (show ¬ badP op from fun h => by rcases h with h | h | h; exact k1 h; exact k2 h; exact k4 h.2)
              go_wp2
              go_roundw
              case rel =>
                refine ⟨i + 1, by omega, by go_num, HBW.out, fun j hj => ?_⟩
                rcases Nat.lt_or_ge j i with h | h
                · exact HJ.out j h
                · obtain rfl : j = i := by omega
                  rw [← HOP.out]; exact HJ2.out
              case measure => simp [intOf]; omega
          · have HJ2 := Lib.hid (show ¬ badP op from fun h => by rcases h with h | h | h; exact k1 h; exact k2 h; exact k3 h.1)
            go_wp2
            go_roundw
            case rel =>
              refine ⟨i + 1, by omega, by go_num, HBW.out, fun j hj => ?_⟩
              rcases Nat.lt_or_ge j i with h | h
              · exact HJ.out j h
              · obtain rfl : j = i := by omega
                rw [← HOP.out]; exact HJ2.out
            case measure => simp [intOf]; omega
    · have HK := Lib.hid (show i = n by omega)
      have HF := Lib.hid (show M = decide ((40 : Int) < (n : Int)) by
        by_cases q : 40 < n
        · rw [decide_eq_true (show (40 : Int) < (n : Int) by omega)]
          exact HM.out.2 (.inr (by have := HN.out; omega))
        · rw [decide_eq_false (show ¬ (40 : Int) < (n : Int) by omega)]
          refine Bool.eq_false_iff.2 fun h => ?_
          rcases HM.out.1 h with ⟨op, hm, hb⟩ | h
          · obtain ⟨j, hj, rfl⟩ := List.getElem_of_mem hm
            have := HJ.out j (by have := HK.out; have := HN.out; omega)
            rw [List.getD, List.getElem?_eq_getElem hj] at this
            exact this hb
          · have := HN.out; omega)
      clear hb
      go_wp2
      go_ret
      exact ⟨by show Ending.returned (.bool (decide ((40 : Int) < (n : Int)))) = _; rw [HF.out], HB.out⟩
end Go.Proofs.YtgbahfggnbpnmaaDoor
