import Derived.Test.YtgbahfggnbpnmaaDskV
/-
  The reference's disk in memory: its five cells, its sectors (a row of texts), what waits (a row of numbers and texts).
-/
namespace Go.Proofs.Ytgbahfggnbpnmaa
open Go.RowKit
/-- A text of 256 bytes in a block of bytes that 'av' allows. -/
def Tx (w : World) (av : Nat → Prop) (v : Value) (l : Sec) : Prop := ∃ k o c, v = .slice (some ⟨k, o, none⟩) 256 c ∧ 256 ≤ c ∧ l.length = 256 ∧ RdB w (some ⟨k, o, none⟩) l ∧ av k ∧ ∃ cur, Blk w k cur 5
theorem Tx.keep {w w' : World} {av F : Nat → Prop} {v : Value} {l : Sec} (h : Tx w av v l) (hO : Only F w w') (hF : ∀ k cur, av k → Blk w k cur 5 → ¬ F k) : Tx w' av v l := by
  obtain ⟨k, o, c, rfl, h1, h2, h3, h4, cur, h5⟩ := h
  have hn := hF k cur h4 h5
  exact ⟨k, o, c, rfl, h1, h2, hO.rdB h3 (fun b o' e _ => by cases e; exact hn), h4, cur, hO.blk h5 hn⟩
theorem Tx.mono {w : World} {av av' : Nat → Prop} {v : Value} {l : Sec} (h : Tx w av v l) (hv : ∀ k, av k → k < w.heap.size → av' k) : Tx w av' v l := by
  obtain ⟨k, o, c, rfl, h1, h2, h3, h4, cur, h5⟩ := h
  exact ⟨k, o, c, rfl, h1, h2, h3, hv k h4 h5.lt, cur, h5⟩
theorem Tx.on {w w' : World} {av : Nat → Prop} {v : Value} {l : Sec} (h : Tx w av v l) (hb : Below w.heap.size w w') : Tx w' av v l :=
  h.keep (F := fun _ => False) (Only.of_below hb) (fun _ _ _ _ q => q)
theorem Tx.txt {w : World} {av : Nat → Prop} {v : Value} {l : Sec} (h : Tx w av v l) : ∃ k o c, v = .slice (some ⟨k, o, none⟩) 256 c ∧ Txt w (some ⟨k, o, none⟩) 256 c l := by
  obtain ⟨k, o, c, rfl, h1, h2, h3, h4, cur, h5⟩ := h
  exact ⟨k, o, c, rfl, h2.symm, h1, h3, fun b o' e _ => by cases e; exact h5.lt⟩
theorem Tx.of_own {w : World} {lo n c : Nat} {a : Option Addr} {l : Sec} (h : OwnB w lo (.slice a n c) l) (hl : l.length = 256) : Tx w (lo ≤ ·) (.slice a n c) l := by
  obtain ⟨a', c', e, h1, _, h3, h4, h5⟩ := h.form
  simp only [Value.slice.injEq] at e
  obtain ⟨rfl, rfl, rfl⟩ := e
  obtain ⟨g, o, rfl, _⟩ := h3.at (i := 0) (by omega)
  obtain ⟨rfl, cur, hb, _⟩ := h5 g o rfl
  rw [hl]
  exact ⟨g, 0, c, rfl, by omega, hl, h3, (h4 _ _ rfl).1, cur, hb⟩
/-- The values of a row of texts. -/
def TxL (w : World) (av : Nat → Prop) (gs : List Value) (G : List Sec) : Prop := gs.length = G.length ∧ ∀ i v, gs[i]? = some v → Tx w av v (G.getD i [])
def rcells (ws : List (Nat × Value)) : List Value := ws.flatMap fun p => [.int .i64 (p.1 : Nat), p.2]
def WtL (w : World) (av : Nat → Prop) (ws : List (Nat × Value)) (W : List Wt) : Prop := ws.length = W.length ∧ ∀ i p, ws[i]? = some p → p.1 = (W.getD i (0, [])).1 ∧ Tx w av p.2 (W.getD i (0, [])).2
def fz (f : Option Nat) : Int := match f with | none => -1 | some k => (k : Int)
theorem TxL.keep {w w' : World} {av F : Nat → Prop} {gs : List Value} {G : List Sec} (h : TxL w av gs G) (hO : Only F w w') (hF : ∀ k cur, av k → Blk w k cur 5 → ¬ F k) : TxL w' av gs G := ⟨h.1, fun i v hv => (h.2 i v hv).keep hO hF⟩
theorem TxL.mono {w : World} {av av' : Nat → Prop} {gs : List Value} {G : List Sec} (h : TxL w av gs G) (hv : ∀ k, av k → k < w.heap.size → av' k) : TxL w av' gs G := ⟨h.1, fun i v hi => (h.2 i v hi).mono hv⟩
theorem WtL.keep {w w' : World} {av F : Nat → Prop} {ws : List (Nat × Value)} {W : List Wt} (h : WtL w av ws W) (hO : Only F w w') (hF : ∀ k cur, av k → Blk w k cur 5 → ¬ F k) : WtL w' av ws W := ⟨h.1, fun i v hv => ⟨(h.2 i v hv).1, (h.2 i v hv).2.keep hO hF⟩⟩
theorem WtL.mono {w : World} {av av' : Nat → Prop} {ws : List (Nat × Value)} {W : List Wt} (h : WtL w av ws W) (hv : ∀ k, av k → k < w.heap.size → av' k) : WtL w av' ws W := ⟨h.1, fun i v hi => ⟨(h.2 i v hi).1, (h.2 i v hi).2.mono hv⟩⟩
theorem TxL.at {w : World} {av : Nat → Prop} {gs : List Value} {G : List Sec} (h : TxL w av gs G) {i : Nat} (hi : i < G.length) : ∃ v, gs[i]? = some v ∧ Tx w av v (G.getD i []) := by
  have h1 : i < gs.length := by rw [h.1]; exact hi
  exact ⟨gs[i], List.getElem?_eq_getElem h1, h.2 i _ (List.getElem?_eq_getElem h1)⟩
theorem TxL.set {w : World} {av : Nat → Prop} {gs : List Value} {G : List Sec} (h : TxL w av gs G) (i : Nat) {v : Value} {l : Sec} (hv : Tx w av v l) : TxL w av (gs.set i v) (G.set i l) := by
  refine ⟨by simp [h.1], fun j u hu => ?_⟩
  by_cases e : i = j
  · subst e
    have hlt : i < gs.length := by
      rcases Nat.lt_or_ge i gs.length with q | q
      · exact q
      · rw [List.getElem?_eq_none (by simpa using q)] at hu; cases hu
    rw [List.getElem?_set_self hlt] at hu
    cases hu
    have h2 : i < G.length := by rw [← h.1]; exact hlt
    have e2 : (G.set i l).getD i [] = l := by rw [List.getD_eq_getElem?_getD, List.getElem?_set_self h2]; rfl
    rw [e2]; exact hv
  · rw [List.getElem?_set_ne e] at hu
    have e2 : (G.set i l).getD j [] = G.getD j [] := by simp only [List.getD_eq_getElem?_getD, List.getElem?_set_ne e]
    rw [e2]; exact h.2 j u hu
theorem TxL.snoc {w : World} {av : Nat → Prop} {gs : List Value} {G : List Sec} (h : TxL w av gs G) {v : Value} {l : Sec} (hv : Tx w av v l) : TxL w av (gs ++ [v]) (G ++ [l]) := by
  refine ⟨by simp [h.1], fun j u hu => ?_⟩
  rcases Nat.lt_or_ge j gs.length with q | q
  · rw [List.getElem?_append_left q] at hu
    have e2 : (G ++ [l]).getD j [] = G.getD j [] := by simp only [List.getD_eq_getElem?_getD]; rw [List.getElem?_append_left (by rw [← h.1]; exact q)]
    rw [e2]; exact h.2 j u hu
  · rw [List.getElem?_append_right q] at hu
    have e0 : j - gs.length = 0 := by
      rcases Nat.eq_zero_or_pos (j - gs.length) with e | e
      · exact e
      · rw [List.getElem?_eq_none (by simp; omega)] at hu; cases hu
    rw [e0] at hu
    cases hu
    have e2 : (G ++ [l]).getD j [] = l := by
      simp only [List.getD_eq_getElem?_getD]
      rw [List.getElem?_append_right (by rw [← h.1]; exact q), ← h.1, e0]; rfl
    rw [e2]; exact hv
theorem WtL.snoc {w : World} {av : Nat → Prop} {ws : List (Nat × Value)} {W : List Wt} (h : WtL w av ws W) {v : Value} {l : Sec} (i : Nat) (hv : Tx w av v l) : WtL w av (ws ++ [(i, v)]) (W ++ [(i, l)]) := by
  refine ⟨by simp [h.1], fun j u hu => ?_⟩
  rcases Nat.lt_or_ge j ws.length with q | q
  · rw [List.getElem?_append_left q] at hu
    have e2 : (W ++ [(i, l)]).getD j (0, []) = W.getD j (0, []) := by simp only [List.getD_eq_getElem?_getD]; rw [List.getElem?_append_left (by rw [← h.1]; exact q)]
    rw [e2]; exact h.2 j u hu
  · rw [List.getElem?_append_right q] at hu
    have e0 : j - ws.length = 0 := by
      rcases Nat.eq_zero_or_pos (j - ws.length) with e | e
      · exact e
      · rw [List.getElem?_eq_none (by simp; omega)] at hu; cases hu
    rw [e0] at hu
    cases hu
    have e2 : (W ++ [(i, l)]).getD j (0, []) = (i, l) := by
      simp only [List.getD_eq_getElem?_getD]
      rw [List.getElem?_append_right (by rw [← h.1]; exact q), ← h.1, e0]; rfl
    rw [e2]; exact ⟨rfl, hv⟩
theorem WtL.at {w : World} {av : Nat → Prop} {ws : List (Nat × Value)} {W : List Wt} (h : WtL w av ws W) {i : Nat} (hi : i < W.length) : ∃ v, ws[i]? = some ((W.getD i (0, [])).1, v) ∧ Tx w av v (W.getD i (0, [])).2 := by
  have h1 : i < ws.length := by rw [h.1]; exact hi
  obtain ⟨h2, h3⟩ := h.2 i _ (List.getElem?_eq_getElem h1)
  exact ⟨ws[i].2, by rw [List.getElem?_eq_getElem h1, ← h2], h3⟩
theorem rcells_len (ws : List (Nat × Value)) : (rcells ws).length = ws.length * 2 := by
  induction ws with
  | nil => rfl
  | cons p ws ih =>
    have e : rcells (p :: ws) = [.int .i64 (p.1 : Nat), p.2] ++ rcells ws := rfl
    rw [e, List.length_append, ih, List.length_cons]; simp; omega
theorem rcells_snoc (ws : List (Nat × Value)) (p : Nat × Value) : rcells (ws ++ [p]) = rcells ws ++ [.int .i64 (p.1 : Nat), p.2] := by simp [rcells]
theorem rcells_at : ∀ {ws : List (Nat × Value)} {i : Nat} {p : Nat × Value}, ws[i]? = some p → (rcells ws)[i * 2]? = some (.int .i64 (p.1 : Nat)) ∧ (rcells ws)[i * 2 + 1]? = some p.2 := by
  intro ws
  induction ws with
  | nil => intro i p h; simp at h
  | cons q ws ih =>
    intro i p h
    have e : rcells (q :: ws) = .int .i64 (q.1 : Nat) :: q.2 :: rcells ws := rfl
    cases i with
    | zero => simp at h; subst h; rw [e]; exact ⟨rfl, rfl⟩
    | succ i =>
      simp only [List.getElem?_cons_succ] at h
      have := ih h
      rw [e, show (i + 1) * 2 = i * 2 + 1 + 1 by omega, show i * 2 + 1 + 1 + 1 = (i * 2 + 1) + 1 + 1 by omega]
      simp only [List.getElem?_cons_succ]
      exact this
structure RefAt (w : World) (av : Nat → Prop) (b n : Nat) (u v : Value) (S : DS) : Prop where
  ok : S.Ok n
  pos : 0 < n ∧ n ≤ 2048
  fit : ∀ f, S.fuse = some f → f ≤ 9223372036854775807
  blk : Blk w b #[u, v, .bool S.gone, .int .i64 (fz S.fuse), .int .i64 (S.ops : Nat)] 71
  good : ∃ gs, w.ownsRow 0 30 1 u n gs ∧ TxL w av gs S.good
  wait : ∃ ws, w.ownsRow 0 76 2 v S.wait.length (rcells ws) ∧ WtL w av ws S.wait
def RFoot (b : Nat) (u v : Value) (k : Nat) : Prop := k = b ∨ u.ownBlock = some k ∨ v.ownBlock = some k
theorem RefAt.lt {w : World} {av : Nat → Prop} {b n : Nat} {u v : Value} {S : DS} (h : RefAt w av b n u v S) {k : Nat} (hk : RFoot b u v k) : k < w.heap.size := by
  obtain ⟨gs, hg, _⟩ := h.good
  obtain ⟨ws, hw, _⟩ := h.wait
  rcases hk with rfl | e | e
  · exact h.blk.lt
  · exact (row_blk hg e).choose_spec.lt
  · exact (row_blk hw e).choose_spec.lt
theorem RefAt.ub {w : World} {av : Nat → Prop} {b n : Nat} {u v : Value} {S : DS} (h : RefAt w av b n u v S) : ∀ k, u.ownBlock = some k → k ≠ b := fun k e => by
  obtain ⟨gs, hg, _⟩ := h.good
  obtain ⟨cur, hc⟩ := row_blk hg e
  exact blk_type_ne hc h.blk (by decide)
theorem RefAt.vb {w : World} {av : Nat → Prop} {b n : Nat} {u v : Value} {S : DS} (h : RefAt w av b n u v S) : ∀ k, v.ownBlock = some k → k ≠ b ∧ u.ownBlock ≠ some k := fun k e => by
  obtain ⟨gs, hg, _⟩ := h.good
  obtain ⟨ws, hw, _⟩ := h.wait
  obtain ⟨cur, hc⟩ := row_blk hw e
  refine ⟨blk_type_ne hc h.blk (by decide), fun e2 => ?_⟩
  obtain ⟨cur2, hc2⟩ := row_blk hg e2
  exact blk_type_ne hc hc2 (by decide) rfl
/-- The reference's own blocks hold no text. -/
theorem RefAt.foot_ne {w : World} {av : Nat → Prop} {b n : Nat} {u v : Value} {S : DS} (h : RefAt w av b n u v S) {k : Nat} {cur : Array Value} (hk : Blk w k cur 5) : ¬ RFoot b u v k := fun q => by
  obtain ⟨gs, hg, _⟩ := h.good
  obtain ⟨ws, hw, _⟩ := h.wait
  rcases q with rfl | e | e
  · exact blk_type_ne hk h.blk (by decide) rfl
  · exact blk_type_ne hk (row_blk hg e).choose_spec (by decide) rfl
  · exact blk_type_ne hk (row_blk hw e).choose_spec (by decide) rfl
theorem DiskAt.foot_ne {w : World} {b g n : Nat} {v : Value} {S : DS} (h : DiskAt w b g n v S) {k : Nat} {cur : Array Value} (hk : Blk w k cur 5) : ¬ Foot b g v k := fun q => by
  obtain ⟨z, hb, _⟩ := h.blk
  rcases q with rfl | rfl | e
  · exact blk_type_ne hk hb (by decide) rfl
  · exact blk_type_ne hk h.good (by decide) rfl
  · exact blk_type_ne hk (row_blk h.wait e).choose_spec (by decide) rfl
/-- A disk and a reference's disk have no block in common. -/
theorem foot_apart {w : World} {b g n b' n' : Nat} {v u' v' : Value} {S R : DS} {av : Nat → Prop} (h : DiskAt w b g n v S) (h' : RefAt w av b' n' u' v' R) {k : Nat} (hk : Foot b g v k) : ¬ RFoot b' u' v' k := fun q => by
  obtain ⟨z, hb, _⟩ := h.blk
  obtain ⟨gs, hg, _⟩ := h'.good
  obtain ⟨ws, hw, _⟩ := h'.wait
  obtain ⟨c1, t1, h1, n1⟩ : ∃ c t, Blk w k c t ∧ (t = 62 ∨ t = 65 ∨ t = 67) := by
    rcases hk with rfl | rfl | e
    · exact ⟨_, _, hb, .inl rfl⟩
    · exact ⟨_, _, h.good, .inr (.inl rfl)⟩
    · exact ⟨_, _, (row_blk h.wait e).choose_spec, .inr (.inr rfl)⟩
  obtain ⟨c2, t2, h2, n2⟩ : ∃ c t, Blk w k c t ∧ (t = 71 ∨ t = 30 ∨ t = 76) := by
    rcases q with rfl | e | e
    · exact ⟨_, _, h'.blk, .inl rfl⟩
    · exact ⟨_, _, (row_blk hg e).choose_spec, .inr (.inl rfl)⟩
    · exact ⟨_, _, (row_blk hw e).choose_spec, .inr (.inr rfl)⟩
  have ht := (h1.inj h2).2
  rcases n1 with rfl | rfl | rfl <;> rcases n2 with rfl | rfl | rfl <;> revert ht <;> decide
theorem RefAt.keep {w w' : World} {av F : Nat → Prop} {b n : Nat} {u v : Value} {S : DS} (h : RefAt w av b n u v S) (hO : Only F w w') (hF : ∀ k, RFoot b u v k → ¬ F k) (hT : ∀ k cur, av k → Blk w k cur 5 → ¬ F k) : RefAt w' av b n u v S := by
  obtain ⟨gs, hg, hg2⟩ := h.good
  obtain ⟨ws, hw, hw2⟩ := h.wait
  exact ⟨h.ok, h.pos, h.fit, hO.blk h.blk (hF _ (.inl rfl)), ⟨gs, row_same hg fun k e => hO.same k (h.lt (.inr (.inl e))) (hF k (.inr (.inl e))), hg2.keep hO hT⟩,
    ⟨ws, row_same hw fun k e => hO.same k (h.lt (.inr (.inr e))) (hF k (.inr (.inr e))), hw2.keep hO hT⟩⟩
theorem RefAt.on {w w' : World} {av : Nat → Prop} {b n : Nat} {u v : Value} {S : DS} (h : RefAt w av b n u v S) (hb : Below w.heap.size w w') : RefAt w' av b n u v S :=
  h.keep (F := fun _ => False) (Only.of_below hb) (fun _ _ q => q) (fun _ _ _ _ q => q)
/-- What a disk's method writes leaves the reference's disk. -/
theorem RefAt.keepD {w w' : World} {av : Nat → Prop} {b n b' g' n' : Nat} {u v v' : Value} {S R : DS} (h : RefAt w av b n u v S) (hd : DiskAt w b' g' n' v' R) (hO : Only (Foot b' g' v') w w') : RefAt w' av b n u v S :=
  h.keep hO (fun _ hk q => foot_apart hd h q hk) (fun _ _ _ hb q => hd.foot_ne hb q)
theorem DiskAt.keepR {w w' : World} {av : Nat → Prop} {b n b' g' n' : Nat} {u v v' : Value} {S R : DS} (hd : DiskAt w b' g' n' v' R) (h : RefAt w av b n u v S) (hO : Only (RFoot b u v) w w') : DiskAt w' b' g' n' v' R :=
  hd.keep hO (fun _ hk q => foot_apart hd h hk q)
theorem RefAt.mono {w : World} {av av' : Nat → Prop} {b n : Nat} {u v : Value} {S : DS} (h : RefAt w av b n u v S) (hv : ∀ k, av k → k < w.heap.size → av' k) : RefAt w av' b n u v S := by
  obtain ⟨gs, hg, hg2⟩ := h.good
  obtain ⟨ws, hw, hw2⟩ := h.wait
  exact ⟨h.ok, h.pos, h.fit, h.blk, ⟨gs, hg, hg2.mono hv⟩, ⟨ws, hw, hw2.mono hv⟩⟩
/-- Plain cells of the reference's disk turn. -/
theorem RefAt.scal {w w' : World} {av : Nat → Prop} {b n : Nat} {u v : Value} {S T : DS} (h : RefAt w av b n u v S) (hO : Only (· = b) w w')
    (hB : Blk w' b #[u, v, .bool T.gone, .int .i64 (fz T.fuse), .int .i64 (T.ops : Nat)] 71) (hf : ∀ f, T.fuse = some f → f ≤ 9223372036854775807)
    (h1 : T.good = S.good) (h2 : T.wait = S.wait) : RefAt w' av b n u v T := by
  obtain ⟨gs, hg, hg2⟩ := h.good
  obtain ⟨ws, hw, hw2⟩ := h.wait
  have hne : ∀ k cur, av k → Blk w k cur 5 → ¬ k = b := fun k cur _ hb e => h.foot_ne hb (.inl e)
  exact ⟨h.ok.of h1 h2, h.pos, hf, hB, ⟨gs, row_same hg fun k e => hO.same k (h.lt (.inr (.inl e))) (h.ub k e), by rw [h1]; exact hg2.keep hO hne⟩,
    ⟨ws, by rw [h2]; exact row_same hw fun k e => hO.same k (h.lt (.inr (.inr e))) (h.vb k e).1, by rw [h2]; exact hw2.keep hO hne⟩⟩
theorem only2' (w : World) (b i j : Nat) (u v : Value) : Only (· = b) w ((w.setCell ⟨b, i, none⟩ u).setCell ⟨b, j, none⟩ v) := (Only.cell (S := (· = b)) w u rfl).trans (Only.cell _ v rfl)
theorem RefAt.c0 {w : World} {av : Nat → Prop} {b n : Nat} {u v : Value} {S : DS} (h : RefAt w av b n u v S) : w.cell? ⟨b, 0, none⟩ = some u := h.blk.cell 0 rfl
theorem RefAt.c1 {w : World} {av : Nat → Prop} {b n : Nat} {u v : Value} {S : DS} (h : RefAt w av b n u v S) : w.cell? ⟨b, 1, none⟩ = some v := h.blk.cell 1 rfl
theorem RefAt.c2 {w : World} {av : Nat → Prop} {b n : Nat} {u v : Value} {S : DS} (h : RefAt w av b n u v S) : w.cell? ⟨b, 2, none⟩ = some (.bool S.gone) := h.blk.cell 2 rfl
theorem RefAt.c3 {w : World} {av : Nat → Prop} {b n : Nat} {u v : Value} {S : DS} (h : RefAt w av b n u v S) : w.cell? ⟨b, 3, none⟩ = some (.int .i64 (fz S.fuse)) := h.blk.cell 3 rfl
theorem RefAt.c4 {w : World} {av : Nat → Prop} {b n : Nat} {u v : Value} {S : DS} (h : RefAt w av b n u v S) : w.cell? ⟨b, 4, none⟩ = some (.int .i64 (S.ops : Nat)) := h.blk.cell 4 rfl
/-- A row of slices: form, elements. -/
theorem RefAt.u_form {w : World} {av : Nat → Prop} {b n : Nat} {u v : Value} {S : DS} (h : RefAt w av b n u v S) : ∃ gu cu, u = .slice (some ⟨gu, 0, none⟩) n cu ∧ n ≤ cu ∧ cu ≤ maxLen := by
  obtain ⟨gs, hg, _⟩ := h.good
  obtain ⟨a, c, e, h1, h2, h3, h4⟩ := row_form hg
  cases a with
  | none => have := (h3 rfl).1; have := h.pos.1; omega
  | some q => obtain ⟨g, cur, rfl, _⟩ := h4 q rfl; exact ⟨g, c, e, h1, h2⟩
theorem RefAt.u_at {w : World} {av : Nat → Prop} {b n gu cu : Nat} {v : Value} {S : DS} (h : RefAt w av b n (.slice (some ⟨gu, 0, none⟩) n cu) v S) {i : Nat} (hi : i < n) :
    ∃ x, w.cell? ⟨gu, i, none⟩ = some x ∧ w.frozen? ⟨gu, i, none⟩ = false ∧ Tx w av x (S.good.getD i []) := by
  obtain ⟨gs, hg, hg2⟩ := h.good
  obtain ⟨x, hx, ht⟩ := hg2.at (i := i) (by rw [h.ok.len]; exact hi)
  obtain ⟨a, c, e, h1, h2, h3, h4⟩ := row_form hg
  simp only [Value.slice.injEq] at e
  obtain ⟨rfl, _, rfl⟩ := e
  obtain ⟨g, cur, e1, e2, hb, h5, h6⟩ := h4 _ rfl
  cases e1
  refine ⟨x, hb.cell i ?_, hb.free i, ht⟩
  rw [← h6] at hx
  rw [List.getElem?_take_of_lt (by omega)] at hx
  simpa using hx
theorem RefAt.w_at {w : World} {av : Nat → Prop} {b n m c : Nat} {a : Option Addr} {u : Value} {S : DS} (h : RefAt w av b n u (.slice a m c) S) {i : Nat} (hi : i < S.wait.length) :
    ∃ gw cur x, a = some ⟨gw, 0, none⟩ ∧ Blk w gw cur 76 ∧ cur[i * 2]? = some (.int .i64 ((S.wait.getD i (0, [])).1 : Nat)) ∧ cur[i * 2 + 1]? = some x ∧ Tx w av x (S.wait.getD i (0, [])).2 := by
  obtain ⟨ws, hw, hw2⟩ := h.wait
  obtain ⟨x, hx, ht⟩ := hw2.at (i := i) hi
  obtain ⟨a', c', e, h1, h2, h3, h4⟩ := row_form hw
  simp only [Value.slice.injEq] at e
  obtain ⟨rfl, rfl, rfl⟩ := e
  cases a with
  | none => have := (h3 rfl).1; omega
  | some q =>
    obtain ⟨g, cur, rfl, e2, hb, h5, h6⟩ := h4 q rfl
    obtain ⟨r1, r2⟩ := rcells_at hx
    rw [← h6] at r1 r2
    rw [List.getElem?_take_of_lt (by omega)] at r1 r2
    exact ⟨g, cur, x, rfl, hb, by simpa using r1, by simpa using r2, ht⟩
end Go.Proofs.Ytgbahfggnbpnmaa
