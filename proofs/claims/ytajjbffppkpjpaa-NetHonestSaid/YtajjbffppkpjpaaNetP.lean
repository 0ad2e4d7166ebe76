import Derived.Test.YtajjbffppkpjpaaNetA
/-
  A net's state, plainly: letters on their way, all that were ever put there, those that came; and in memory.
-/
namespace Go.Proofs.Ytajjbffppkpjpaa
set_option linter.unusedSimpArgs false
set_option linter.unusedVariables false
open Go.RowKit
def devP (n : Int) : Prop := 0 ≤ n ∧ n < 16
instance (n : Int) : Decidable (devP n) := by unfold devP; infer_instance
structure NS where
  way : List Snt
  ever : List Snt
  came : List Snt
def newN : NS := ⟨[], [], []⟩
def NS.put (S : NS) (l : List Snt) : Int × NS := if 1024 - (S.way.length : Int) < l.length then (6, S) else (0, { S with way := S.way ++ l, ever := S.ever ++ l })
def NS.send (S : NS) (f : Int) (l : List (Int × List UInt8)) : Int × NS :=
  if ¬ devP f ∨ ∃ x, x ∈ l ∧ ¬ devP x.1 then (1, S) else S.put (l.map fun x => ⟨f, x.1, x.2⟩)
def NS.inject (S : NS) (t : Int) (b : List UInt8) : Int × NS := if ¬ devP t then (1, S) else S.put [⟨-1, t, b⟩]
def NS.out (S : NS) (i : Int) : Prop := i < 0 ∨ (S.way.length : Int) ≤ i
instance (S : NS) (i : Int) : Decidable (S.out i) := by unfold NS.out; infer_instance
def snt0 : Snt := ⟨0, 0, []⟩
def NS.at_ (S : NS) (i : Int) : Snt := S.way.getD i.toNat snt0
def NS.take (S : NS) (i : Int) : Snt × Int × NS := if S.out i then (snt0, 4, S) else (S.at_ i, 0, { S with way := S.way.eraseIdx i.toNat, came := S.came ++ [S.at_ i] })
def NS.drop (S : NS) (i : Int) : Int × NS := if S.out i then (4, S) else (0, { S with way := S.way.eraseIdx i.toNat })
def NS.double (S : NS) (i : Int) : Int × NS := if S.out i then (4, S) else if 1024 ≤ S.way.length then (6, S) else (0, { S with way := S.way ++ [S.at_ i] })
def NS.said (S : NS) (f : Int) (b : List UInt8) : Prop := ∃ s, s ∈ S.ever ∧ s.f = f ∧ s.d = b
/-- So much at most: on its way, ever, came; how long a letter is. -/
structure NS.Lim (S : NS) (k : Nat) : Prop where
  way : S.way.length ≤ 1024
  ever : S.ever.length ≤ k
  came : S.came.length ≤ k
  txt : ∀ s, s ∈ S.way ∨ s ∈ S.ever ∨ s ∈ S.came → s.d.length ≤ 1000000
theorem newN_lim : newN.Lim 0 := ⟨Nat.zero_le _, Nat.le_refl _, Nat.le_refl _, fun s h => by rcases h with h | h | h <;> cases h⟩
theorem NS.Lim.mono {S : NS} {k m : Nat} (h : S.Lim k) (hm : k ≤ m) : S.Lim m := ⟨h.way, Nat.le_trans h.ever hm, Nat.le_trans h.came hm, h.txt⟩
theorem NS.Lim.put {S : NS} {k : Nat} (h : S.Lim k) (l : List Snt) (hl : ∀ s, s ∈ l → s.d.length ≤ 1000000) : (S.put l).2.Lim (k + l.length) := by
  unfold NS.put
  split
  · exact h.mono (by omega)
  · rename_i hn
    refine ⟨?_, ?_, ?_, fun s hs => ?_⟩
    · show (S.way ++ l).length ≤ 1024
      rw [List.length_append]; have := h.way; omega
    · show (S.ever ++ l).length ≤ _
      rw [List.length_append]; have := h.ever; omega
    · have := h.came; show S.came.length ≤ _; omega
    · rcases hs with q | q | q
      · rcases List.mem_append.1 q with r | r
        · exact h.txt s (.inl r)
        · exact hl s r
      · rcases List.mem_append.1 q with r | r
        · exact h.txt s (.inr (.inl r))
        · exact hl s r
      · exact h.txt s (.inr (.inr q))
theorem NS.at_mem {S : NS} {i : Int} (h : ¬ S.out i) : S.at_ i ∈ S.way := by
  unfold NS.out at h
  unfold NS.at_
  have hi : i.toNat < S.way.length := by omega
  rw [List.getD_eq_getElem?_getD, List.getElem?_eq_getElem hi]
  exact List.getElem_mem hi
theorem NS.Lim.take {S : NS} {k : Nat} (h : S.Lim k) (i : Int) : (S.take i).2.2.Lim (k + 1) := by
  unfold NS.take
  split
  · exact h.mono (by omega)
  · rename_i hn
    refine ⟨?_, ?_, ?_, fun s hs => ?_⟩
    · show (S.way.eraseIdx i.toNat).length ≤ 1024
      have := List.length_eraseIdx_le S.way i.toNat; have := h.way; omega
    · have := h.ever; show S.ever.length ≤ _; omega
    · show (S.came ++ [S.at_ i]).length ≤ _
      rw [List.length_append]; have := h.came; simp; omega
    · rcases hs with q | q | q
      · exact h.txt s (.inl (List.mem_of_mem_eraseIdx q))
      · exact h.txt s (.inr (.inl q))
      · rcases List.mem_append.1 q with r | r
        · exact h.txt s (.inr (.inr r))
        · rw [List.mem_singleton.1 r]; exact h.txt _ (.inl (NS.at_mem hn))
theorem NS.Lim.drop {S : NS} {k : Nat} (h : S.Lim k) (i : Int) : (S.drop i).2.Lim k := by
  unfold NS.drop
  split
  · exact h
  · refine ⟨?_, h.ever, h.came, fun s hs => ?_⟩
    · show (S.way.eraseIdx i.toNat).length ≤ 1024
      have := List.length_eraseIdx_le S.way i.toNat; have := h.way; omega
    · rcases hs with q | q | q
      · exact h.txt s (.inl (List.mem_of_mem_eraseIdx q))
      · exact h.txt s (.inr (.inl q))
      · exact h.txt s (.inr (.inr q))
theorem NS.Lim.double {S : NS} {k : Nat} (h : S.Lim k) (i : Int) : (S.double i).2.Lim k := by
  unfold NS.double
  split
  · exact h
  · rename_i hn
    split
    · exact h
    · refine ⟨?_, h.ever, h.came, fun s hs => ?_⟩
      · show (S.way ++ [S.at_ i]).length ≤ 1024
        rw [List.length_append]; simp; omega
      · rcases hs with q | q | q
        · rcases List.mem_append.1 q with r | r
          · exact h.txt s (.inl r)
          · rw [List.mem_singleton.1 r]; exact h.txt _ (.inl (NS.at_mem hn))
        · exact h.txt s (.inr (.inl q))
        · exact h.txt s (.inr (.inr q))
/-- A text in a block of bytes that 'av' allows (an empty one: anywhere). -/
def Tn (w : World) (av : Nat → Prop) (v : Value) (l : List UInt8) : Prop := ∃ a n c, v = .slice a n c ∧ Txt w a n c l ∧ ∀ b o, a = some ⟨b, o, none⟩ → 0 < l.length → av b ∧ ∃ cur, Blk w b cur 5
theorem Tn.keep {w w' : World} {av F : Nat → Prop} {v : Value} {l : List UInt8} (h : Tn w av v l) (hO : Only F w w') (hF : ∀ k cur, av k → Blk w k cur 5 → ¬ F k) : Tn w' av v l := by
  obtain ⟨a, n, c, rfl, h1, h2⟩ := h
  refine ⟨a, n, c, rfl, ⟨h1.len, h1.fit, hO.rdB h1.rd (fun b o e h0 => by obtain ⟨q, cur, hb⟩ := h2 b o e h0; exact hF b cur q hb), fun b o e h0 => Nat.lt_of_lt_of_le (h1.old b o e h0) hO.size⟩, fun b o e h0 => ?_⟩
  obtain ⟨q, cur, hb⟩ := h2 b o e h0
  exact ⟨q, cur, hO.blk hb (hF b cur q hb)⟩
theorem Tn.mono {w : World} {av av' : Nat → Prop} {v : Value} {l : List UInt8} (h : Tn w av v l) (hv : ∀ k, av k → k < w.heap.size → av' k) : Tn w av' v l := by
  obtain ⟨a, n, c, rfl, h1, h2⟩ := h
  exact ⟨a, n, c, rfl, h1, fun b o e h0 => by obtain ⟨q, cur, hb⟩ := h2 b o e h0; exact ⟨hv b q hb.lt, cur, hb⟩⟩
theorem Tn.on {w w' : World} {av : Nat → Prop} {v : Value} {l : List UInt8} (h : Tn w av v l) (hb : Below w.heap.size w w') : Tn w' av v l := h.keep (F := fun _ => False) (Only.of_below hb) (fun _ _ _ _ q => q)
theorem Tn.of_blk {w : World} {av : Nat → Prop} {g : Nat} {l : List UInt8} (h : Blk w g (barr l) 5) (hg : av g) : Tn w av (.slice (some ⟨g, 0, none⟩) l.length l.length) l :=
  ⟨_, _, _, rfl, Txt.of_blk h, fun b o e _ => by cases e; exact ⟨hg, _, h⟩⟩
/-- The cells of a row of letters. -/
def ncells (ls : List (Snt × Value)) : List Value := ls.flatMap fun p => [.int .i64 p.1.f, .int .i64 p.1.t, p.2]
/-- The letters' texts. -/
def SnL (w : World) (av : Nat → Prop) (ls : List (Snt × Value)) (L : List Snt) : Prop := ls.map (·.1) = L ∧ ∀ p, p ∈ ls → Tn w av p.2 p.1.d
theorem SnL.keep {w w' : World} {av F : Nat → Prop} {ls : List (Snt × Value)} {L : List Snt} (h : SnL w av ls L) (hO : Only F w w') (hF : ∀ k cur, av k → Blk w k cur 5 → ¬ F k) : SnL w' av ls L := ⟨h.1, fun p hp => (h.2 p hp).keep hO hF⟩
theorem SnL.mono {w : World} {av av' : Nat → Prop} {ls : List (Snt × Value)} {L : List Snt} (h : SnL w av ls L) (hv : ∀ k, av k → k < w.heap.size → av' k) : SnL w av' ls L := ⟨h.1, fun p hp => (h.2 p hp).mono hv⟩
theorem SnL.snoc {w : World} {av : Nat → Prop} {ls : List (Snt × Value)} {L : List Snt} (h : SnL w av ls L) {s : Snt} {v : Value} (hv : Tn w av v s.d) : SnL w av (ls ++ [(s, v)]) (L ++ [s]) :=
  ⟨by rw [List.map_append, h.1]; rfl, fun p hp => by
    rcases List.mem_append.1 hp with q | q
    · exact h.2 p q
    · rw [List.mem_singleton.1 q]; exact hv⟩
theorem SnL.len {w : World} {av : Nat → Prop} {ls : List (Snt × Value)} {L : List Snt} (h : SnL w av ls L) : ls.length = L.length := by rw [← h.1, List.length_map]
theorem ncells_snoc (ls : List (Snt × Value)) (p : Snt × Value) : ncells (ls ++ [p]) = ncells ls ++ [.int .i64 p.1.f, .int .i64 p.1.t, p.2] := by simp [ncells]
theorem ncells_len (ls : List (Snt × Value)) : (ncells ls).length = ls.length * 3 := by
  induction ls with
  | nil => rfl
  | cons p ls ih =>
    have e : ncells (p :: ls) = [.int .i64 p.1.f, .int .i64 p.1.t, p.2] ++ ncells ls := rfl
    rw [e, List.length_append, ih, List.length_cons]; simp; omega
theorem ncells_at : ∀ {ls : List (Snt × Value)} {i : Nat} {p : Snt × Value}, ls[i]? = some p → (ncells ls)[i * 3]? = some (.int .i64 p.1.f) ∧ (ncells ls)[i * 3 + 1]? = some (.int .i64 p.1.t) ∧ (ncells ls)[i * 3 + 2]? = some p.2 := by
  intro ls
  induction ls with
  | nil => intro i p h; simp at h
  | cons q ls ih =>
    intro i p h
    have e : ncells (q :: ls) = .int .i64 q.1.f :: .int .i64 q.1.t :: q.2 :: ncells ls := rfl
    cases i with
    | zero => simp at h; subst h; rw [e]; exact ⟨rfl, rfl, rfl⟩
    | succ i =>
      simp only [List.getElem?_cons_succ] at h
      have := ih h
      rw [e, show (i + 1) * 3 = i * 3 + 1 + 1 + 1 by omega, show i * 3 + 1 + 1 + 1 + 1 = (i * 3 + 1) + 1 + 1 + 1 by omega, show i * 3 + 1 + 1 + 1 + 2 = (i * 3 + 2) + 1 + 1 + 1 by omega]
      simp only [List.getElem?_cons_succ]
      exact this
/-- A row of letters in memory. -/
def SRow (w : World) (av : Nat → Prop) (v : Value) (L : List Snt) : Prop := ∃ ls, w.ownsRow 0 47 3 v L.length (ncells ls) ∧ SnL w av ls L
theorem row_blk' {w : World} {lo n sz : Nat} {t : TypeId} {v : Value} {cs : List Value} (h : w.ownsRow lo t sz v n cs) {k : Nat} (e : v.ownBlock = some k) : ∃ cur, Blk w k cur t := by
  rcases h.2 with ⟨rfl, _⟩ | ⟨g, cap, cur, rfl, h2, h3, _⟩
  · cases e
  · simp [Value.ownBlock] at e
    subst e
    exact ⟨cur, h3⟩
theorem row_same' {w w' : World} {lo n sz : Nat} {t : TypeId} {v : Value} {cs : List Value} (h : w.ownsRow lo t sz v n cs) (hk : ∀ k, v.ownBlock = some k → w'.heap[k]? = w.heap[k]?) : w'.ownsRow lo t sz v n cs := by
  refine ⟨h.1, ?_⟩
  rcases h.2 with h0 | ⟨g, cap, cur, rfl, h2, h3, h4⟩
  · exact .inl h0
  · exact .inr ⟨g, cap, cur, rfl, h2, (hk g rfl).trans h3, h4⟩
theorem SRow.nil (w : World) (av : Nat → Prop) : SRow w av (.slice none 0 0) [] := ⟨[], World.ownsRow_nil _ 0 _ _, rfl, fun p hp => by cases hp⟩
theorem SRow.lt {w : World} {av : Nat → Prop} {v : Value} {L : List Snt} (h : SRow w av v L) {k : Nat} (e : v.ownBlock = some k) : k < w.heap.size := by
  obtain ⟨ls, h1, _⟩ := h; exact (row_blk' h1 e).choose_spec.lt
theorem SRow.keep {w w' : World} {av F : Nat → Prop} {v : Value} {L : List Snt} (h : SRow w av v L) (hO : Only F w w') (hF : ∀ k, v.ownBlock = some k → ¬ F k) (hT : ∀ k cur, av k → Blk w k cur 5 → ¬ F k) : SRow w' av v L := by
  obtain ⟨ls, h1, h2⟩ := h
  exact ⟨ls, row_same' h1 fun k e => hO.same k (row_blk' h1 e).choose_spec.lt (hF k e), h2.keep hO hT⟩
theorem SRow.on {w w' : World} {av : Nat → Prop} {v : Value} {L : List Snt} (h : SRow w av v L) (hb : Below w.heap.size w w') : SRow w' av v L := h.keep (F := fun _ => False) (Only.of_below hb) (fun _ _ q => q) (fun _ _ _ _ q => q)
theorem SRow.mono {w : World} {av av' : Nat → Prop} {v : Value} {L : List Snt} (h : SRow w av v L) (hv : ∀ k, av k → k < w.heap.size → av' k) : SRow w av' v L := by
  obtain ⟨ls, h1, h2⟩ := h; exact ⟨ls, h1, h2.mono hv⟩
/-- A net in memory: its four cells, its three rows, which lie apart. -/
structure NetAt (w : World) (av : Nat → Prop) (b : Nat) (v1 v2 v3 : Value) (S : NS) : Prop where
  blk : Blk w b #[.bool true, v1, v2, v3] 43
  way : SRow w av v1 S.way
  ever : SRow w av v2 S.ever
  came : SRow w av v3 S.came
  a12 : ∀ k, v1.ownBlock = some k → v2.ownBlock ≠ some k
  a13 : ∀ k, v1.ownBlock = some k → v3.ownBlock ≠ some k
  a23 : ∀ k, v2.ownBlock = some k → v3.ownBlock ≠ some k
def NFoot (b : Nat) (v1 v2 v3 : Value) (k : Nat) : Prop := k = b ∨ v1.ownBlock = some k ∨ v2.ownBlock = some k ∨ v3.ownBlock = some k
theorem NetAt.lt {w : World} {av : Nat → Prop} {b : Nat} {v1 v2 v3 : Value} {S : NS} (h : NetAt w av b v1 v2 v3 S) {k : Nat} (hk : NFoot b v1 v2 v3 k) : k < w.heap.size := by
  rcases hk with rfl | e | e | e
  · exact h.blk.lt
  · exact h.way.lt e
  · exact h.ever.lt e
  · exact h.came.lt e
theorem NetAt.keep {w w' : World} {av F : Nat → Prop} {b : Nat} {v1 v2 v3 : Value} {S : NS} (h : NetAt w av b v1 v2 v3 S) (hO : Only F w w') (hF : ∀ k, NFoot b v1 v2 v3 k → ¬ F k) (hT : ∀ k cur, av k → Blk w k cur 5 → ¬ F k) : NetAt w' av b v1 v2 v3 S :=
  ⟨hO.blk h.blk (hF _ (.inl rfl)), h.way.keep hO (fun k e => hF k (.inr (.inl e))) hT, h.ever.keep hO (fun k e => hF k (.inr (.inr (.inl e)))) hT, h.came.keep hO (fun k e => hF k (.inr (.inr (.inr e)))) hT, h.a12, h.a13, h.a23⟩
theorem NetAt.on {w w' : World} {av : Nat → Prop} {b : Nat} {v1 v2 v3 : Value} {S : NS} (h : NetAt w av b v1 v2 v3 S) (hb : Below w.heap.size w w') : NetAt w' av b v1 v2 v3 S :=
  h.keep (F := fun _ => False) (Only.of_below hb) (fun _ _ q => q) (fun _ _ _ _ q => q)
theorem NetAt.mono {w : World} {av av' : Nat → Prop} {b : Nat} {v1 v2 v3 : Value} {S : NS} (h : NetAt w av b v1 v2 v3 S) (hv : ∀ k, av k → k < w.heap.size → av' k) : NetAt w av' b v1 v2 v3 S :=
  ⟨h.blk, h.way.mono hv, h.ever.mono hv, h.came.mono hv, h.a12, h.a13, h.a23⟩
theorem NetAt.foot_ne {w : World} {av : Nat → Prop} {b : Nat} {v1 v2 v3 : Value} {S : NS} (h : NetAt w av b v1 v2 v3 S) {k : Nat} {cur : Array Value} {t : TypeId} (hk : Blk w k cur t) (h1 : t ≠ 43 ∧ t ≠ 47) : ¬ NFoot b v1 v2 v3 k := fun q => by
  obtain ⟨l1, r1, _⟩ := h.way
  obtain ⟨l2, r2, _⟩ := h.ever
  obtain ⟨l3, r3, _⟩ := h.came
  rcases q with rfl | e | e | e
  · exact blk_type_ne hk h.blk h1.1 rfl
  · obtain ⟨c, hc⟩ := row_blk' r1 e; exact blk_type_ne hk hc h1.2 rfl
  · obtain ⟨c, hc⟩ := row_blk' r2 e; exact blk_type_ne hk hc h1.2 rfl
  · obtain ⟨c, hc⟩ := row_blk' r3 e; exact blk_type_ne hk hc h1.2 rfl
end Go.Proofs.Ytajjbffppkpjpaa
