import Derived.Test.YtajjbffppkpjpaaWalkB
import Derived.Maps.OwnIn
/-
  liverylaw19.walk over span.All.
-/
namespace Go.Proofs.Ytajjbffppkpjpaa
open Go.RowKit Go.Shelf
attribute [local go_sem] Oper.semAt_some
/-- Numbers of the call's own. -/
def OwnU (w : World) (lo : Nat) (v : Value) (s : List Nat) : Prop := w.ownsRow lo 23 1 v s.length (s.map fun x => Value.int .u64 (x : Nat))
theorem OwnU.lt {w : World} {lo : Nat} {v : Value} {s : List Nat} (h : OwnU w lo v s) : ∀ k, v.ownBlock = some k → lo ≤ k ∧ k < w.heap.size := World.ownsRow.lt h
theorem OwnU.form {w : World} {lo : Nat} {v : Value} {s : List Nat} (h : OwnU w lo v s) : ∃ a c, v = .slice a s.length c := by
  rcases h.2 with ⟨rfl, h0⟩ | ⟨g, cap, cur, rfl, _⟩
  · exact ⟨none, 0, by rw [h0]⟩
  · exact ⟨_, _, rfl⟩
theorem OwnU.same {w w' : World} {lo : Nat} {v : Value} {s : List Nat} (h : OwnU w lo v s) (hk : ∀ k, v.ownBlock = some k → w'.heap[k]? = w.heap[k]?) : OwnU w' lo v s := by
  refine ⟨h.1, ?_⟩
  rcases h.2 with h0 | ⟨g, cap, cur, rfl, h2, h3, h4⟩
  · exact .inl h0
  · exact .inr ⟨g, cap, cur, rfl, h2, (hk g rfl).trans h3, h4⟩
theorem OwnU.empty (w : World) {lo : Nat} (hb : lo ≤ w.heap.size) : OwnU (w.alloc (.cells #[] 23)) lo (.slice (some ⟨w.heap.size, 0, none⟩) 0 0) [] :=
  ⟨by simp, Or.inr ⟨w.heap.size, 0, #[], rfl, hb, heap_alloc_new w _, Nat.le_refl _, by simp [maxLen], by simp, by simp⟩⟩
/-- What may have changed. -/
structure Only (S : Nat → Prop) (W W' : World) : Prop where
  os : W'.os = W.os
  tape : W'.tape = W.tape
  output : W'.output = W.output
  size : W.heap.size ≤ W'.heap.size
  same : ∀ k, k < W.heap.size → ¬ S k → W'.heap[k]? = W.heap[k]?
theorem Only.trans {S : Nat → Prop} {A B C : World} (h : Only S A B) (k : Only S B C) : Only S A C :=
  ⟨k.os.trans h.os, k.tape.trans h.tape, k.output.trans h.output, Nat.le_trans h.size k.size, fun i hi hs => (k.same i (Nat.lt_of_lt_of_le hi h.size) hs).trans (h.same i hi hs)⟩
theorem Only.grown {S : Nat → Prop} {A B : World} {r : Option Nat} (h : A.grownBy B r) (hr : ∀ k, r = some k → S k) : Only S A B :=
  ⟨h.os, h.tape, h.output, h.size, fun i hi hs => h.block i hi (fun e => hs (hr i e.symm))⟩
theorem Only.put {S : Nat → Prop} (A : World) {k : Nat} (o : Obj) (hk : S k) : Only S A (A.putObj k o) := Only.grown (grownBy_putObj' A k o) (fun j e => by cases e; exact hk)
theorem Only.alloc {S : Nat → Prop} (A : World) (o : Obj) : Only S A (A.alloc o) := Only.grown (r := none) (grownBy_of_below (below_one1 A o)) (fun _ e => by cases e)
theorem Only.cell {S : Nat → Prop} (A : World) {k i : Nat} (u : Value) (hk : S k) : Only S A (A.setCell ⟨k, i, none⟩ u) := Only.grown (grownBy_set (grownBy_refl A (some k)) i u) (fun j e => by cases e; exact hk)
theorem Only.below {S : Nat → Prop} {n₀ : Nat} {A B : World} (h : Only S A B) (hs : ∀ k, S k → n₀ ≤ k) (hn : n₀ ≤ A.heap.size) : Below n₀ A B :=
  ⟨h.os, h.tape, h.output, h.size, fun i hi => h.same i (Nat.lt_of_lt_of_le hi hn) (fun q => by have := hs i q; omega)⟩
theorem Only.blk {S : Nat → Prop} {A B : World} (h : Only S A B) {g : Nat} {cs : Array Value} {t : TypeId} (hb : Blk A g cs t) (hg : ¬ S g) : Blk B g cs t := (h.same g hb.lt hg).trans hb
/-- What walk holds between two rounds. -/
structure Wk (w : World) (m D : Nat) (r : Loop) (s : List Nat) (X : World) : Prop where
  len : s.length ≤ m
  b3 : Blk X w.heap.size #[.int .i64 (m : Nat)] 3
  b4 : Blk X (w.heap.size + 1) #[.slice none 0 0] 78
  b5 : Blk X (w.heap.size + 2) #[.bool false] 4
  row : ∃ v, Blk X (w.heap.size + 4) #[v] 78 ∧ OwnU X w.heap.size v s
  lp : X.heap[D + 1]? = some (.loop r)
  dfr : X.heap[D]? = some (.deferred (some []))
  below : Below w.heap.size w X
/-- What it holds when a round has left it. -/
structure WkX (w : World) (m D : Nat) (r : Loop) (s : List Nat) (X : World) : Prop where
  lon : m < s.length
  b5 : Blk X (w.heap.size + 2) #[.bool true] 4
  row : ∃ v, Blk X (w.heap.size + 1) #[v] 78 ∧ Blk X (w.heap.size + 4) #[v] 78 ∧ OwnU X w.heap.size v (s.take m)
  lp : X.heap[D + 1]? = some (.loop r)
  dfr : X.heap[D]? = some (.deferred (some []))
  below : Below w.heap.size w X
/-- What its rounds write. -/
def Wrw (w : World) (D : Nat) (X : World) (k : Nat) : Prop := (w.heap.size ≤ k ∧ k < D + 2) ∨ ∃ v, Blk X (w.heap.size + 4) #[v] 78 ∧ v.ownBlock = some k
theorem Turn.low {D : Nat} {Wr : World → Nat → Prop} {X Y : World} (h : Turn (D + 2) Wr X Y) {k : Nat} {o : Obj} (hk : k < D + 2) (e : X.heap[k]? = some o) : Y.heap[k]? = some o := by
  rcases h.same k (Array.getElem?_eq_some_iff.1 e).1 with q | q
  · exact q.trans e
  · omega
theorem Turn.wrw {w : World} {D : Nat} (hD : w.heap.size + 5 ≤ D) {X Y : World} (h : Turn (D + 2) (Wrw w D) X Y) (hs : D < X.heap.size) : ∀ k, Wrw w D Y k → Wrw w D X k := fun k hk => by
  rcases hk with q | ⟨v, hv, e⟩
  · exact .inl q
  · refine .inr ⟨v, ?_, e⟩
    rcases h.same (w.heap.size + 4) (by omega) with q | q
    · exact q.symm.trans hv
    · omega
theorem Turn.below' {w : World} {D : Nat} (hD : w.heap.size + 5 ≤ D) {X Y : World} (h : Turn (D + 2) (Wrw w D) X Y) (hb : Below w.heap.size w X) : Below w.heap.size w Y :=
  hb.trans ⟨h.os, h.tape, h.output, h.size, fun i hi => by
    rcases h.same i (Nat.lt_of_lt_of_le hi hb.size) with q | q
    · exact q
    · omega⟩
theorem Turn.own {w : World} {D : Nat} {X Y : World} (h : Turn (D + 2) (Wrw w D) X Y) {v : Value} {s : List Nat} (hv : Blk X (w.heap.size + 4) #[v] 78) (hO : OwnU X w.heap.size v s) : OwnU Y w.heap.size v s :=
  hO.same fun k hk => by
    rcases h.same k (hO.lt k hk).2 with q | q
    · exact q
    · exact absurd (.inr ⟨v, hv, hk⟩) q.2
theorem Wk.turn {w : World} {m D : Nat} (hD : w.heap.size + 5 ≤ D) {r : Loop} {s : List Nat} {X Y : World} (h : Wk w m D r s X) (ht : Turn (D + 2) (Wrw w D) X Y) : Wk w m D r s Y := by
  obtain ⟨v, hv, hO⟩ := h.row
  exact ⟨h.len, ht.low (by omega) h.b3, ht.low (by omega) h.b4, ht.low (by omega) h.b5, ⟨v, ht.low (by omega) hv, ht.own hv hO⟩, ht.low (by omega) h.lp, ht.low (by omega) h.dfr, ht.below' hD h.below⟩
theorem WkX.turn {w : World} {m D : Nat} (hD : w.heap.size + 5 ≤ D) {r : Loop} {s : List Nat} {X Y : World} (h : WkX w m D r s X) (ht : Turn (D + 2) (Wrw w D) X Y) : WkX w m D r s Y := by
  obtain ⟨v, h4, hv, hO⟩ := h.row
  exact ⟨h.lon, ht.low (by omega) h.b5, ⟨v, ht.low (by omega) h4, ht.low (by omega) hv, ht.own hv hO⟩, ht.low (by omega) h.lp, ht.low (by omega) h.dfr, ht.below' hD h.below⟩
theorem Wk.wr {w : World} {m D : Nat} {r : Loop} {s : List Nat} {X : World} (h : Wk w m D r s X) {k : Nat} (hk : Wrw w D X k) : w.heap.size ≤ k ∧ k < X.heap.size := by
  rcases hk with q | ⟨v, hv, e⟩
  · have := (Array.getElem?_eq_some_iff.1 h.lp).1
    omega
  · obtain ⟨u, hu, hO⟩ := h.row
    have := (hv.inj hu).1
    simp at this
    subst this
    exact hO.lt k e
theorem OwnU.blk {w : World} {lo : Nat} {v : Value} {s : List Nat} (h : OwnU w lo v s) {k : Nat} (e : v.ownBlock = some k) : ∃ cur, Blk w k cur 23 := by
  rcases h.2 with ⟨rfl, _⟩ | ⟨g, cap, cur, rfl, h2, h3, _⟩
  · cases e
  · simp [Value.ownBlock] at e
    subst e
    exact ⟨cur, h3⟩
theorem OwnU.ne {w : World} {lo : Nat} {v : Value} {s : List Nat} (h : OwnU w lo v s) {k : Nat} (hn : ∀ cur, ¬ Blk w k cur 23) : v.ownBlock ≠ some k := fun e => by
  obtain ⟨cur, hc⟩ := h.blk e
  exact hn cur hc
theorem Wk.put {w : World} {m D : Nat} (hD : w.heap.size + 5 ≤ D) {r : Loop} {s : List Nat} {X : World} (h : Wk w m D r s X) (r' : Loop) : Wk w m D r' s (X.putObj (D + 1) (.loop r')) := by
  obtain ⟨v, hv, hO⟩ := h.row
  have key : ∀ {k : Nat} {o : Obj}, k < D + 1 → X.heap[k]? = some o → (X.putObj (D + 1) (.loop r')).heap[k]? = some o := fun {k o} hk e => (World.putObj_heap_other (by omega)).trans e
  refine ⟨h.len, key (by omega) h.b3, key (by omega) h.b4, key (by omega) h.b5, ⟨v, key (by omega) hv, hO.same fun k e => World.putObj_heap_other (fun q => ?_)⟩, World.putObj_heap_same (Array.getElem?_eq_some_iff.1 h.lp).1, key (by omega) h.dfr, h.below.trans (below_put _ _ (by omega))⟩
  subst q
  obtain ⟨cur, hc⟩ := hO.blk e
  have := hc.symm.trans h.lp
  simp at this
theorem keep_obj {A B : World} {q : Option Nat} (hg : A.grownBy B q) {k : Nat} {o : Obj} (h : A.heap[k]? = some o) (hne : ∀ j, q = some j → j ≠ k) : B.heap[k]? = some o :=
  (hg.block k (Array.getElem?_eq_some_iff.1 h).1 (fun e => hne k e.symm rfl)).trans h
theorem cell_obj {A : World} {b i : Nat} {u : Value} {k : Nat} {o : Obj} (h : A.heap[k]? = some o) (hne : k ≠ b) : (A.setCell ⟨b, i, none⟩ u).heap[k]? = some o :=
  keep_obj (grownBy_set (grownBy_refl A (some b)) i u) h (fun j e => by cases e; exact fun q => hne q.symm)
theorem OwnU.off {w : World} {lo : Nat} {v : Value} {s : List Nat} (h : OwnU w lo v s) {k : Nat} {o : Obj} (hk : w.heap[k]? = some o) (ho : ∀ cur, o ≠ .cells cur 23 (0, 0)) : ∀ j, v.ownBlock = some j → j ≠ k := fun j e q => by
  subst q
  obtain ⟨cur, hc⟩ := h.blk e
  have h2 : w.heap[j]? = some (.cells cur 23 (0, 0)) := hc
  rw [hk] at h2
  exact ho cur (by simpa using h2)
theorem WkX.put {w : World} {m D : Nat} (hD : w.heap.size + 5 ≤ D) {r : Loop} {s : List Nat} {X : World} (h : WkX w m D r s X) (r' : Loop) : WkX w m D r' s (X.putObj (D + 1) (.loop r')) := by
  obtain ⟨v, h4, hv, hO⟩ := h.row
  have key : ∀ {k : Nat} {o : Obj}, k < D + 1 → X.heap[k]? = some o → (X.putObj (D + 1) (.loop r')).heap[k]? = some o := fun {k o} hk e => (World.putObj_heap_other (by omega)).trans e
  refine ⟨h.lon, key (by omega) h.b5, ⟨v, key (by omega) h4, key (by omega) hv, hO.same fun k e => World.putObj_heap_other (fun q => ?_)⟩, World.putObj_heap_same (Array.getElem?_eq_some_iff.1 h.lp).1, key (by omega) h.dfr, h.below.trans (below_put _ _ (by omega))⟩
  subst q
  obtain ⟨cur, hc⟩ := hO.blk e
  have := hc.symm.trans h.lp
  simp at this
theorem kept_of {w : World} {m D : Nat} {r : Loop} {s : List Nat} {X Y : World} (hX : Wk w m D r s X) (h : Only (Wrw w D X) X Y) {v v' : Value} (hv : Blk X (w.heap.size + 4) #[v] 78) (hy : Blk Y (w.heap.size + 4) #[v'] 78)
    (hvv : ∀ k, v'.ownBlock = some k → v.ownBlock = some k ∨ X.heap.size ≤ k) : Kept w.heap.size (Wrw w D) X Y :=
  ⟨h.below (fun k hk => (hX.wr hk).1) hX.below.size, h.size, fun k hk hn => ⟨h.same k hk hn, by
    rintro (q | ⟨u, hu, e⟩)
    · exact hn (.inl q)
    · have := (hu.inj hy).1
      simp at this
      subst this
      rcases hvv k e with q | q
      · exact hn (.inr ⟨v, hv, q⟩)
      · omega⟩⟩
theorem eql_nilFunc (w : World) (f : Fn) (xs ys : Array Value) : (binOp .eql 82 (.func f xs ys) .nilFunc).run Try.prog w = .ok (.bool false) w := by
  simp only [binOp]
  simp [equal_nilFunc]
theorem info_u64' : (Try.prog.info? 23).map (fun i => (i.zero, i.size, i.bytes)) = some (some (.int .u64 0), 1, 8) := by kernel_rfl
theorem results_two {fn : Func} (hf : fn.results = #[.cell 4 78, .cell 5 4]) {tmps : Array Value} {w : World} {p q : Addr} {v : Value} {b : Bool} (hp : tmps.getD 4 undef = .pointer (some p)) (hq : tmps.getD 5 undef = .pointer (some q)) (h1 : w.cell? p = some v) (h2 : w.cell? q = some (.bool b)) :
    (results fn tmps).run Try.prog w = .ok (.tuple #[v, .bool b]) w := by
  have hp' : tmps[4]?.getD undef = .pointer (some p) := by simpa using hp
  have hq' : tmps[5]?.getD undef = .pointer (some q) := by simpa using hq
  have u1 : Try.prog.underlying 78 = some (.slice 23) := by kernel_rfl
  have u2 : Try.prog.underlying 4 = some .bool := by kernel_rfl
  simp [results, hf, hp', hq', asAddr, loadVar, isAgg, u1, u2, h1, h2, Sem.run_bind, Result.andThen]
set_option maxRecDepth 100000 in
set_option maxHeartbeats 4000000 in
theorem walk_walk (b1 m : Nat) (hm : m ≤ 500) (l : List Rg) (a : Option Addr) (n c : Nat) (w : World) (hb1 : w.cell? ⟨b1, 0, none⟩ = some (.slice a n c)) (hL : RgsIn w a n c l) :
    Calls Try.prog 53 #[.func (.func 101) #[] #[.pointer (some ⟨b1, 0, none⟩)], .int .i64 (m : Nat)] w fun e w' => ∃ v s, e = .returned (.tuple #[v, .bool true]) ∧ OwnU w' w.heap.size v s ∧ (MayP l → s = (idxs l).take m) ∧ (¬ MayP l → s = []) ∧ Below w.heap.size w w' := by
  refine (callsIn_wide (n := 3)).1 ?_
  refine callsIn_of_wp_marks Try.func53 rfl trivial ?_ rfl
  simp only [Try.ntmps53, List.size_toArray, List.length_cons, List.length_nil, Nat.reduceAdd, Nat.reduceSub, Array.replicate_succ, Array.replicate_zero, List.push_toArray, List.append_toArray, List.nil_append, List.cons_append]
  have HL := Lib.hid hL
  have Hm := Lib.hid hm
  have H1 := Lib.hid hb1
  have hq := fun W => eql_nilFunc W (.func 101) #[] #[.pointer (some ⟨b1, 0, none⟩)]
  clear hL hm hb1
  gi_wp2
  refine range_stmt rfl (enters_of Try.func101 (by kernel_rfl) rfl) fun r hst hpe hps has hbo htm => ?_
  clear hq
  obtain ⟨W1, hW1⟩ : ∃ x, x = (((((w.alloc (.cells #[.int .i64 (m : Nat)] 3)).alloc (.cells #[.slice none 0 0] 78)).alloc (.cells #[.bool false] 4)).alloc (.cells #[] 23)).alloc (.cells #[.slice (some ⟨w.heap.size + 1 + 1 + 1, 0, none⟩) 0 0] 78)) := ⟨_, rfl⟩
  have hs1 : W1.heap.size = w.heap.size + 5 := by rw [hW1]; simp
  have hbw : Below w.heap.size w W1 := by rw [hW1]; exact (((((Below.refl _ w).alloc (Nat.le_refl _) _).alloc (by simp) _).alloc (by simp; omega) _).alloc (by simp; omega) _).alloc (by simp; omega) _
  have h3 : Blk W1 w.heap.size #[.int .i64 (m : Nat)] 3 := by rw [hW1]; exact ((((Blk.new w _ _).alloc _).alloc _).alloc _).alloc _
  have h4 : Blk W1 (w.heap.size + 1) #[.slice none 0 0] 78 := by rw [hW1]; exact (((Blk.new' _ _ _ (by simp)).alloc _).alloc _).alloc _
  have h5 : Blk W1 (w.heap.size + 2) #[.bool false] 4 := by rw [hW1]; exact ((Blk.new' _ _ _ (by simp)).alloc _).alloc _
  have h6 : Blk W1 (w.heap.size + 4) #[.slice (some ⟨w.heap.size + 3, 0, none⟩) 0 0] 78 := by rw [hW1]; exact Blk.new' _ _ _ (by simp)
  have hO : OwnU W1 w.heap.size (.slice (some ⟨w.heap.size + 3, 0, none⟩) 0 0) [] :=
    ⟨by simp, Or.inr ⟨w.heap.size + 3, 0, #[], rfl, by omega, (by rw [hW1]; exact (Blk.new' _ #[] 23 (by simp)).alloc _), Nat.le_refl _, by simp [maxLen], by simp, by simp⟩⟩
  rw [← hW1]
  obtain ⟨D, hD⟩ : ∃ D, D = W1.heap.size := ⟨_, rfl⟩
  rw [← hD]
  clear hW1
  have hal : Below W1.heap.size W1 ((W1.alloc (.deferred (some []))).alloc (.loop r)) := ((Below.refl _ W1).alloc (Nat.le_refl _) _).alloc (by simp) _
  obtain ⟨W2, hW2⟩ : ∃ x, x = (W1.alloc (.deferred (some []))).alloc (.loop r) := ⟨_, rfl⟩
  have hl2 : W2.heap[D + 1]? = some (.loop r) := by
    rw [hW2, hD]; have := World.alloc_heap_new (W1.alloc (.deferred (some []))) (.loop r); rwa [World.size_alloc] at this
  have hd2 : W2.heap[D]? = some (.deferred (some [])) := by
    rw [hW2, hD]; exact (Below.heap_alloc _ _ _ (by simp)).trans (World.alloc_heap_new W1 _)
  have hs2 : W2.heap.size = D + 2 := by rw [hW2, hD]; simp
  rw [← hW2] at hal ⊢
  have hDn : w.heap.size + 5 ≤ D := by omega
  have HW := Lib.hid (show Wk w m D r [] W2 from ⟨Nat.zero_le _, h3.on hal, h4.on hal, h5.on hal, ⟨_, h6.on hal, hO.same fun k e => hal.block k (hO.lt k e).2⟩, hl2, hd2, hbw.trans (hal.mono hbw.size)⟩)
  have HDN := Lib.hid hDn
  have HST := Lib.hid hst
  have HPE := Lib.hid hpe
  have HPS := Lib.hid hps
  have HAS := Lib.hid has
  have HBO := Lib.hid hbo
  have HTM := Lib.hid htm
  obtain ⟨rd, hrd⟩ : ∃ rd : Loop, rd = { r with state := .done, pending := some .ret } := ⟨_, rfl⟩
  obtain ⟨rb, hrb⟩ : ∃ rb : Loop, rb = { r with state := .busy } := ⟨_, rfl⟩
  have HRD := Lib.hid hrd
  have HRB := Lib.hid hrb
  have HB2 := Lib.hid (hbw.trans (hal.mono hbw.size))
  have HS2 := Lib.hid hs2
  clear hW2 hl2 hd2 hbw hal hst hpe hps has hbo htm hrd hrb hD hDn hs1 hs2 h3 h4 h5 h6 hO
  refine (all1_in (3 - 1) (D + 1) w.heap.size b1 (D + 2) l a n c (Wk w m D r) (WkX w m D rd) (Wrw w D)
    ⟨fun s X Y h ht => ⟨h.turn HDN.out ht, ht.wrw HDN.out (by have := (Array.getElem?_eq_some_iff.1 h.dfr).1; omega)⟩, fun s X Y h ht => ⟨h.turn HDN.out ht, ht.wrw HDN.out (by have := (Array.getElem?_eq_some_iff.1 h.dfr).1; omega)⟩, fun s X k h hk => h.wr hk, ?round⟩
    (fun g o e hl => by obtain ⟨g', o', e', hg, _⟩ := HL.out.rd 0 hl; rw [e] at e'; simp at e'; omega) W2 (by rw [HS2.out]; omega) (by have := HDN.out; omega)
    ((HB2.out.cell (p := ⟨b1, 0, none⟩) (block_lt_of_cell H1.out)).trans H1.out) (HL.out.on HB2.out) HW.out).mono ?behind
  case round =>
    intro q pre x X hx hX
    refine round_at hX.lp (by rw [HPS.out]; rfl) ?_
    rw [HAS.out, HPS.out, HTM.out, HBO.out]
    have HX := Lib.hid hX
    clear hX
    gi_wp2
    refine ⟨_, run_beginRound HX.out.lp HST.out, ?_⟩
    rw [← HRB.out]
    have hX1 := HX.out.put HDN.out rb
    have hOn : Only (Wrw w D X) X (X.putObj (D + 1) (.loop rb)) := Only.put X _ (.inl ⟨by have := HDN.out; omega, by omega⟩)
    obtain ⟨X1, hX1e⟩ : ∃ y, y = X.putObj (D + 1) (.loop rb) := ⟨_, rfl⟩
    have hback : ∀ {cs t}, Blk (X.putObj (D + 1) (.loop rb)) (w.heap.size + 4) cs t → Blk X (w.heap.size + 4) cs t := fun {cs t} h => (World.putObj_heap_other (by have := HDN.out; omega)).symm.trans h
    rw [← hX1e] at hX1 hOn hback ⊢
    obtain ⟨v, hv, hO⟩ := hX1.row
    obtain ⟨av, cv, rfl⟩ := hO.form
    have c3 : X1.cell? ⟨w.heap.size, 0, none⟩ = some (.int .i64 (m : Nat)) := hX1.b3.cell 0 rfl
    have c6 : X1.cell? ⟨w.heap.size + 1 + 1 + 1 + 1, 0, none⟩ = some (.slice av pre.length cv) := hv.cell 0 rfl
    have HX1 := Lib.hid hX1
    have HV := Lib.hid hv
    have HO := Lib.hid hO
    have HON := Lib.hid hOn
    have HVX := Lib.hid (hback hv)
    have hle := hX1.len
    clear hX1 hv hO hOn hX1e hback
    by_cases hge : m ≤ pre.length
    · have g1 : (m : Int) ≤ (pre.length : Int) := by omega
      have c4 : X1.cell? ⟨w.heap.size + 1, 0, none⟩ = some (.slice none 0 0) := HX1.out.b4.cell 0 rfl
      have c5 : X1.cell? ⟨w.heap.size + 1 + 1, 0, none⟩ = some (.bool false) := HX1.out.b5.cell 0 rfl
      have f4 := HX1.out.b4.free 0
      have f5 : X1.frozen? ⟨w.heap.size + 1 + 1, 0, none⟩ = false := HX1.out.b5.free 0
      gi_wp2
      have HD := HDN.out
      have z4 := (HX1.out.b4.set 0 (.slice av pre.length cv)).set' 0 (.bool true) (g' := w.heap.size + 2) (by omega)
      have z5 := (HX1.out.b5.set' 0 (.slice av pre.length cv) (g' := w.heap.size + 1) (by omega)).set 0 (.bool true)
      have z6 := (HV.out.set' 0 (.slice av pre.length cv) (g' := w.heap.size + 1) (by omega)).set' 0 (.bool true) (g' := w.heap.size + 2) (by omega)
      have zl := cell_obj (b := w.heap.size + 2) (i := 0) (u := .bool true) (cell_obj (b := w.heap.size + 1) (i := 0) (u := .slice av pre.length cv) HX1.out.lp (by omega)) (by omega)
      have zd := cell_obj (b := w.heap.size + 2) (i := 0) (u := .bool true) (cell_obj (b := w.heap.size + 1) (i := 0) (u := .slice av pre.length cv) HX1.out.dfr (by omega)) (by omega)
      have n4 := HO.out.off HX1.out.b4 (fun cur e => by simp at e)
      have n5 := HO.out.off HX1.out.b5 (fun cur e => by simp at e)
      have on1 := HON.out.trans ((Only.cell X1 (k := w.heap.size + 1) (i := 0) (.slice av pre.length cv) (.inl ⟨by omega, by omega⟩)).trans (Only.cell _ (k := w.heap.size + 2) (i := 0) (.bool true) (.inl ⟨by omega, by omega⟩)))
      have zO : OwnU ((X1.setCell ⟨w.heap.size + 1, 0, none⟩ (.slice av pre.length cv)).setCell ⟨w.heap.size + 2, 0, none⟩ (.bool true)) w.heap.size (.slice av pre.length cv) pre := HO.out.same fun k e => by
        obtain ⟨cur, hc⟩ := HO.out.blk e
        have h1 : X1.heap[k]? = some (.cells cur 23 (0, 0)) := hc
        rw [cell_obj (cell_obj h1 (n4 k e)) (n5 k e), h1]
      have HW := Lib.hid (show WkX w m D rb (pre ++ [x]) ((X1.setCell ⟨w.heap.size + 1, 0, none⟩ (.slice av pre.length cv)).setCell ⟨w.heap.size + 2, 0, none⟩ (.bool true)) from
        ⟨by simp; omega, z5, ⟨_, z4, z6, by rw [List.take_append_of_le_length (by omega), List.take_of_length_le (by omega)]; exact zO⟩, zl, zd, HX.out.below.trans (on1.below (fun k hk => (HX.out.wr hk).1) HX.out.below.size)⟩)
      have e1 : ({ rb with state := if (some Code.ret).isNone then .ready else .done, pending := some .ret } : Loop) = rd := by rw [HRD.out, HRB.out]; rfl
      have q1 := run_endRound (P := Try.prog) (some .ret) HW.out.lp
      rw [e1] at q1
      refine ⟨_, _, q1, ?_, .inr ⟨rfl, HW.out.put HD rd⟩⟩
      exact kept_of HX.out (on1.trans (Only.put _ _ (.inl ⟨by omega, by omega⟩))) HVX.out ((World.putObj_heap_other (by omega)).trans z6) (fun k e => .inl e)
    · have g1 : ¬ (m : Int) ≤ (pre.length : Int) := by omega
      obtain ⟨i0, hi, hz0, hz1, hz2⟩ := info_parts info_u64'
      have HI := Lib.hid hi
      have HZ0 := Lib.hid hz0
      have HZ1 := Lib.hid hz1
      have HZ2 := Lib.hid hz2
      have hal := below_one1 X1 (.cells #[.int .u64 (x : Nat)] 23)
      have HROW := Lib.hid (HO.out.same fun k e => hal.block k (HO.out.lt k e).2)
      have HP1 := Lib.hid (show pre.length + 1 ≤ maxLen by have := Hm.out; unfold maxLen; omega)
      have HP2 := Lib.hid (show (pre.length + 1) * 8 ≤ 140737488355328 by have := Hm.out; omega)
      have HP3 := Lib.hid (show w.heap.size ≤ (X1.alloc (.cells #[.int .u64 (x : Nat)] 23)).heap.size from Nat.le_trans HX1.out.below.size hal.size)
      have HV6 := Lib.hid (HV.out.alloc (.cells #[.int .u64 (x : Nat)] 23))
      have N6 := Lib.hid (HROW.out.off HV6.out (fun cur e => by simp at e))
      clear hi hz0 hz1 hz2 hal
      gi_wp2_with (gi_at_builtin; refine wpListIn_append_own_at _ rfl (.tmp 19) (.tmp 21) 78 rfl w.heap.size 23 i0 (.int .u64 0) 1 8 Try.underlying78 HI.out HZ0.out HZ1.out HZ2.out rfl (by decide) _ pre.length _ rfl HROW.out ⟨X1.heap.size, 0, none⟩ 1 1 [.int .u64 (x : Nat)] rfl rfl (cell_one_new _ _ _) (by simp [Value.oneCell']) HP1.out HP2.out HP3.out ?_; intro v' Z hown' hgrow _ hat; obtain ⟨g', cap', rfl⟩ := ownsRow_succ hown'; have z6 : Blk Z (w.heap.size + 4) #[.slice av pre.length cv] 78 := HV6.out.past hgrow N6.out; have d6 : Z.cell? ⟨w.heap.size + 1 + 1 + 1 + 1, 0, none⟩ = some (.slice av pre.length cv) := z6.cell 0 rfl; have f6 : Z.frozen? ⟨w.heap.size + 1 + 1 + 1 + 1, 0, none⟩ = false := z6.free 0)
      have HD := HDN.out
      have key : ∀ {k : Nat} {ob : Obj}, X1.heap[k]? = some ob → (∀ cur, ob ≠ .cells cur 23 (0, 0)) → k ≠ w.heap.size + 4 → (Z.setCell ⟨w.heap.size + 4, 0, none⟩ (.slice (some ⟨g', 0, none⟩) (pre.length + 1) cap')).heap[k]? = some ob := fun {k ob} e ho hk =>
        cell_obj (keep_obj hgrow ((Below.heap_alloc X1 _ k (Array.getElem?_eq_some_iff.1 e).1).trans e) (HROW.out.off ((Below.heap_alloc X1 _ k (Array.getElem?_eq_some_iff.1 e).1).trans e) ho)) hk
      have hO' : OwnU Z w.heap.size (.slice (some ⟨g', 0, none⟩) (pre.length + 1) cap') (pre ++ [x]) := by
        have q := hown'
        unfold OwnU
        rw [List.length_append, List.map_append]
        exact q
      have zO : OwnU (Z.setCell ⟨w.heap.size + 4, 0, none⟩ (.slice (some ⟨g', 0, none⟩) (pre.length + 1) cap')) w.heap.size (.slice (some ⟨g', 0, none⟩) (pre.length + 1) cap') (pre ++ [x]) := hO'.same fun k e => by
        obtain ⟨cur, hc⟩ := hO'.blk e
        have h1 : Z.heap[k]? = some (.cells cur 23 (0, 0)) := hc
        rw [cell_obj h1 (hO'.off z6 (fun cur e => by simp at e) k e), h1]
      have zV := z6.set 0 (.slice (some ⟨g', 0, none⟩) (pre.length + 1) cap')
      have on1 : Only (Wrw w D X) X (Z.setCell ⟨w.heap.size + 4, 0, none⟩ (.slice (some ⟨g', 0, none⟩) (pre.length + 1) cap')) :=
        HON.out.trans ((Only.alloc X1 _).trans ((Only.grown hgrow (fun k e => .inr ⟨_, HVX.out, e⟩)).trans (Only.cell Z (k := w.heap.size + 4) (i := 0) _ (.inl ⟨by omega, by omega⟩))))
      have HW := Lib.hid (show Wk w m D rb (pre ++ [x]) (Z.setCell ⟨w.heap.size + 4, 0, none⟩ (.slice (some ⟨g', 0, none⟩) (pre.length + 1) cap')) from
        ⟨by simp; omega, key HX1.out.b3 (fun cur e => by simp at e) (by omega), key HX1.out.b4 (fun cur e => by simp at e) (by omega), key HX1.out.b5 (fun cur e => by simp at e) (by omega), ⟨_, zV, zO⟩,
          key HX1.out.lp (fun cur e => by cases e) (by omega), key HX1.out.dfr (fun cur e => by cases e) (by omega), HX.out.below.trans (on1.below (fun k hk => (HX.out.wr hk).1) HX.out.below.size)⟩)
      have e1 : ({ rb with state := if (none : Option Code).isNone then .ready else .done, pending := none } : Loop) = r := by
        rw [HRB.out]
        have h1 := HST.out
        have h2 := HPE.out
        cases r
        simp_all
      have q1 := run_endRound (P := Try.prog) none HW.out.lp
      rw [e1] at q1
      refine ⟨_, _, q1, ?_, .inl ⟨rfl, HW.out.put HD r⟩⟩
      refine kept_of HX.out (on1.trans (Only.put _ _ (.inl ⟨by omega, by omega⟩))) HVX.out ((World.putObj_heap_other (by omega)).trans zV) (fun k e => ?_)
      rcases hat with h | h
      · exact .inl (h ▸ e)
      · refine .inr ?_
        rw [h] at e
        simp at e
        have := HON.out.size
        omega
  case behind =>
    rintro e Y ⟨⟨v, rfl⟩, (⟨k, hk1, hk2, hI⟩ | ⟨k, hM, hpre, hI⟩)⟩
    · have HI := Lib.hid hI
      have q1 := run_endLoop (P := Try.prog) hI.lp (by rw [HST.out]; simp)
      rw [HPE.out] at q1
      refine ⟨none, _, q1, ?_⟩
      have H2 := Lib.hid (hI.put HDN.out { r with state := .exhausted, pending := none })
      have hK1 := Lib.hid hk1
      have hK2 := Lib.hid hk2
      clear hI q1 hk1 hk2
      obtain ⟨v, hv, hO⟩ := H2.out.row
      obtain ⟨Z, hZ⟩ : ∃ Z, Z = Y.putObj (D + 1) (.loop { r with state := .exhausted, pending := none }) := ⟨_, rfl⟩
      rw [← hZ] at H2 hv hO ⊢
      clear hZ
      have HV := Lib.hid hv
      have HO := Lib.hid hO
      have c6 : Z.cell? ⟨w.heap.size + 1 + 1 + 1 + 1, 0, none⟩ = some v := hv.cell 0 rfl
      have c4 : Z.cell? ⟨w.heap.size + 1, 0, none⟩ = some (.slice none 0 0) := H2.out.b4.cell 0 rfl
      have c5 : Z.cell? ⟨w.heap.size + 1 + 1, 0, none⟩ = some (.bool false) := H2.out.b5.cell 0 rfl
      have f4 := H2.out.b4.free 0
      have f5 : Z.frozen? ⟨w.heap.size + 1 + 1, 0, none⟩ = false := H2.out.b5.free 0
      obtain ⟨av, cv, rfl⟩ := hO.form
      clear hv hO
      gi_wp2
      have HD := HDN.out
      have zO : OwnU ((Z.setCell ⟨w.heap.size + 1, 0, none⟩ (.slice av k.length cv)).setCell ⟨w.heap.size + 2, 0, none⟩ (.bool true)) w.heap.size (.slice av k.length cv) k := HO.out.same fun j e => by
        obtain ⟨cur, hc⟩ := HO.out.blk e
        have h1 : Z.heap[j]? = some (.cells cur 23 (0, 0)) := hc
        rw [cell_obj (cell_obj h1 (HO.out.off H2.out.b4 (fun cur e => by simp at e) j e)) (HO.out.off H2.out.b5 (fun cur e => by simp at e) j e), h1]
      have z4 := (H2.out.b4.set 0 (.slice av k.length cv)).set' 0 (.bool true) (g' := w.heap.size + 2) (by omega)
      have z5 := (H2.out.b5.set' 0 (.slice av k.length cv) (g' := w.heap.size + 1) (by omega)).set 0 (.bool true)
      have zd := cell_obj (b := w.heap.size + 2) (i := 0) (u := .bool true) (cell_obj (b := w.heap.size + 1) (i := 0) (u := .slice av k.length cv) H2.out.dfr (by omega)) (by omega)
      have hbe : Below w.heap.size w ((Z.setCell ⟨w.heap.size + 1, 0, none⟩ (.slice av k.length cv)).setCell ⟨w.heap.size + 2, 0, none⟩ (.bool true)) := H2.out.below.trans (((Only.cell (S := fun j => w.heap.size ≤ j) Z (k := w.heap.size + 1) (i := 0) _ (by omega)).trans (Only.cell _ (k := w.heap.size + 2) (i := 0) _ (by omega))).below (fun _ h => h) H2.out.below.size)
      refine ⟨by simp, .inl ⟨_, _, rfl, run_takeDeferred zd, ?_⟩⟩
      have p4 := Blk.cell ((World.putObj_heap_other (by omega)).trans z4 : Blk (World.putObj _ D (.deferred none)) _ _ _) 0 rfl
      have p5 := Blk.cell ((World.putObj_heap_other (by omega)).trans z5 : Blk (World.putObj _ D (.deferred none)) _ _ _) 0 rfl
      refine ⟨_, results_two rfl rfl rfl p4 p5, _, k, rfl, zO.same fun j e => World.putObj_heap_other (zO.off zd (fun cur e => by cases e) j e), fun h => ?_, hK2.out, hbe.trans (below_put _ _ (by omega))⟩
      rw [← hK1.out h, List.take_of_length_le H2.out.len]
    · have HI := Lib.hid hI
      have q1 := run_endLoop (P := Try.prog) hI.lp (by rw [HRD.out]; simp)
      rw [show rd.pending = some Code.ret by rw [HRD.out]] at q1
      refine ⟨some .ret, _, q1, ?_⟩
      have H2 := Lib.hid (hI.put HDN.out { rd with state := .exhausted, pending := some .ret })
      have hK1 := Lib.hid hpre
      have hK2 := Lib.hid hM
      clear hI q1 hpre hM
      obtain ⟨v, hv4, hv, hO⟩ := H2.out.row
      obtain ⟨Z, hZ⟩ : ∃ Z, Z = Y.putObj (D + 1) (.loop { rd with state := .exhausted, pending := some .ret }) := ⟨_, rfl⟩
      rw [← hZ] at H2 hv4 hv hO ⊢
      clear hZ
      have HV := Lib.hid hv4
      have HO := Lib.hid hO
      clear hv4 hv hO
      gi_wp2
      have HD := HDN.out
      refine ⟨by simp, .inl ⟨_, _, rfl, run_takeDeferred H2.out.dfr, ?_⟩⟩
      have p4 := Blk.cell ((World.putObj_heap_other (by omega)).trans HV.out : Blk (World.putObj _ D (.deferred none)) _ _ _) 0 rfl
      have p5 := Blk.cell ((World.putObj_heap_other (by omega)).trans H2.out.b5 : Blk (World.putObj _ D (.deferred none)) _ _ _) 0 rfl
      refine ⟨_, results_two rfl rfl rfl p4 p5, _, k.take m, rfl, HO.out.same fun j e => World.putObj_heap_other (HO.out.off H2.out.dfr (fun cur e => by cases e) j e), fun h => ?_, fun h => absurd hK2.out h, H2.out.below.trans (below_put _ _ (by omega))⟩
      have h1 := hK1.out
      have h2 := H2.out.lon
      obtain ⟨t, ht⟩ := h1
      rw [← ht, List.take_append_of_le_length (by omega)]
end Go.Proofs.Ytajjbffppkpjpaa
