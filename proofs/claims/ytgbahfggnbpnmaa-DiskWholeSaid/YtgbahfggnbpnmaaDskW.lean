import Derived.Test.YtgbahfggnbpnmaaDskT
/-
  Write.
-/
namespace Go.Proofs.Ytgbahfggnbpnmaa
open Go.RowKit
set_option maxRecDepth 100000 in
theorem dwrite_nil (i : Int) (p : Option Addr) (m c : Nat) (w : World) : Calls Try.prog 15 #[.pointer none, .int .i64 i, .slice p m c] w fun e w' => e = .returned (.int .i64 2) ∧ w' = w := by
  go_enter Try.func15, Try.ntmps15
  go_wp2_with fail
  refine (dmay_nil i _).mono ?_
  rintro e w2 ⟨rfl, rfl⟩
  go_wp2
  go_ret
  exact ⟨rfl, rfl⟩
theorem set_front (R : Array Value) (x y : Value) : (#[x] ++ R).setIfInBounds 0 y = #[y] ++ R := by
  apply Array.ext'
  simp
theorem splice_behind (R : List Value) (x : Value) (l : List Value) (h : R.length = l.length) : splice (x :: R) 1 l = x :: l := by
  unfold splice
  simp [h, Nat.add_comm 1]
/-- A write's cells as they are begun. -/
def ic (i : Int) : Array Value := #[.int .i64 i] ++ Array.replicate 256 (.int .u8 0)
theorem ic_size (i : Int) : (ic i).size = 257 := by simp [ic]
theorem zero_ic (w : World) : (zeroValue 67).run Try.prog w = .ok (.agg (ic 0)) w := zero_wr w
theorem ic_one (i : Int) : (ic i).all (·.oneCell') = true := by
  rw [Array.all_eq_true_iff_forall_mem]
  intro u hu
  simp only [ic, Array.mem_append, Array.mem_replicate] at hu
  rcases hu with h | ⟨_, rfl⟩
  · simp at h; subst h; rfl
  · rfl
theorem size_int : (Try.prog.info? 3).map (·.size) = some 1 := by kernel_rfl
theorem build_wr (i : Int) (w : World) : (Instr.build 67 #[(0, .int .i64 i)]).run Try.prog w = .ok (.agg (ic i)) w := by
  cases h1 : Try.prog.info? 3 with
  | none => have := size_int; rw [h1] at this; simp at this
  | some i1 =>
    cases h2 : Try.prog.info? 65 with
    | none => have := size_sec; rw [h2] at this; simp at this
    | some i2 =>
      have s1 : i1.size = 1 := by have := size_int; rw [h1] at this; simpa using this
      have s2 : i2.size = 256 := by have := size_sec; rw [h2] at this; simpa using this
      simp [Instr.build, zero_ic, run_underlying Try.underlying67, sizeOf, typeInfo, h1, h2, s1, s2, Instr.fill, Value.cells, ic_size]
      have h0 : ic 0 ≠ #[] := fun e => by have := congrArg Array.size e; rw [ic_size] at this; simp at this
      rw [if_neg h0]
      simp [show (ic 0).setIfInBounds 0 (Value.int .i64 i) = ic i from set_front _ _ _]
theorem wpList_build_wr {ops : Array Oper} {rest : List Oper} {o : Oper} {a : Act} {w : World} {Q : Exit → Act → World → Prop} (hgd : o.guard = none) (x : Operand) (ho : o.op = .build 67 #[(0, x)]) (i : Int) (hx : a.eval x = .int .i64 i)
    (h : wpList Try.prog ops Q rest (a.put o.dst (.agg (ic i))) w) : wpList Try.prog ops Q (o :: rest) a w := by
  refine wpList_plain hgd fun K hK => wp_of_yields' (v := .agg (ic i)) ?_ (hK _ _ h)
  unfold execOp
  simp [ho, hx, build_wr]
theorem info_ic : (Try.prog.info? 67).map (fun i => (i.zero, i.size, i.bytes)) = some (some (.agg (ic 0)), 257, 264) := info_wr
theorem size_wrs : (Try.prog.info? 60).map (·.size) = some 1 := by kernel_rfl
theorem size_u8d : (Try.prog.info? 5).map (·.size) = some 1 := by kernel_rfl
theorem fold_fill : ∀ (l : List Value) (k : Nat) (cells : Array Value), k + l.length ≤ cells.size → (l.zipIdx k).foldl (fun cs (x : Value × Nat) => cs.setIfInBounds x.2 x.1) cells = (cells.toList.take k ++ l ++ cells.toList.drop (k + l.length)).toArray
  | [], k, cells, _ => by simp
  | v :: rest, k, cells, h => by
    simp only [List.length_cons] at h
    rw [List.zipIdx_cons, List.foldl_cons, fold_fill rest (k + 1) _ (by simp; omega)]
    have e := list_seg_step cells.toList k v rest (by simp; omega)
    simpa [Array.toList_setIfInBounds, Nat.add_assoc, Nat.add_comm 1] using e
theorem fill_one (z pc : Array Value) (h : pc.size = z.size) : Instr.fill (fun i => some (i * z.size, z.size)) z [(0, .agg pc)] = some pc := by
  have e : pc.zipIdx.foldl (fun cs (x : Value × Nat) => cs.setIfInBounds (0 * z.size + x.2) x.1) z = pc := by
    have := fold_fill pc.toList 0 z (by simp [h])
    simp only [Nat.zero_mul, Nat.zero_add]
    rw [← Array.foldl_toList, Array.toList_zipIdx]
    rw [this]
    simp [h, List.drop_eq_nil_of_le]
  have hc : (Value.agg pc).cells = pc := rfl
  simp only [Nat.zero_mul, Nat.zero_add] at e
  simp [Instr.fill, hc, h]
  have hs : z.size = pc.zipIdx.size := by simp [h]
  rw [show Array.foldl (fun cs (x : Value × Nat) => cs.setIfInBounds x.2 x.1) z pc.zipIdx 0 z.size = Array.foldl (fun cs (x : Value × Nat) => cs.setIfInBounds x.2 x.1) z pc.zipIdx 0 pc.zipIdx.size by rw [← hs]]
  exact e
/-- 'buildSlice' of one write: a new block of its cells. -/
theorem wp_build_row {o : Oper} {a : Act} {w : World} {K : Act → World → Prop} {Q : Exit → Act → World → Prop} (x : Operand) (pc : List Value) (ho : o.op = .buildSlice 60 1 #[(0, x)]) (hl : pc.length = 257) (hx : a.eval x = .agg pc.toArray)
    (h : K (a.put o.dst (.slice (some ⟨w.heap.size, 0, none⟩) 1 1)) (w.alloc (.cells pc.toArray 67))) : o.wp Try.prog a w K Q := by
  cases h1 : Try.prog.info? 67 with
  | none => have := size_wr; rw [h1] at this; simp at this
  | some i1 =>
    have s1 : i1.size = 257 := by have := size_wr; rw [h1] at this; simpa using this
    unfold Oper.wp execOp
    have hz : ((Array.range 257).map ((ic 0)[· % (ic 0).size]!)).size = 257 := by simp
    have hf := fill_one ((Array.range 257).map ((ic 0)[· % (ic 0).size]!)) pc.toArray (by rw [hz]; simpa using hl)
    rw [hz] at hf
    simp [ho, hx, Instr.buildSlice, run_underlying Try.underlying60, sizeOf, typeInfo, h1, s1, zero_ic, Value.cells, hf]
    simp [newRow, Result.andThen]
    exact h
/-- What of the disk stands when what waits has been written on. -/
theorem DiskAt.part {w W : World} {b g n : Nat} {v : Value} {S : DS} (h : DiskAt w b g n v S) (hg : w.grownBy W v.ownBlock) :
    (∃ z : Int, Blk W b #[.slice (some ⟨g, 0, none⟩) n n, v, .bool S.gone, .bool S.fuse.isSome, .int .i64 z, .int .i64 (S.ops : Nat)] 62 ∧ ∀ f, S.fuse = some f → z = (f : Int)) ∧ Blk W g (barr S.good.flatten) 65 := by
  obtain ⟨z, hb, hz⟩ := h.blk
  exact ⟨⟨z, hb.grown hg (fun e => (h.vb b e.symm).1 rfl), hz⟩, h.good.grown hg (fun e => (h.vb g e.symm).2 rfl)⟩
theorem wcell_splice (i : Nat) (l : List UInt8) (hl : l.length = 256) : (splice (ic (i : Nat)).toList 1 (l.map bv)).toArray = (wcell (i, l)).toArray := by
  have e : (ic (i : Nat)).toList = Value.int .i64 (i : Nat) :: List.replicate 256 (.int .u8 0) := by
    unfold ic
    generalize 256 = m
    simp
  rw [e, splice_behind _ _ _ (by rw [List.length_replicate, List.length_map, hl])]
  rfl
set_option maxRecDepth 100000 in
set_option maxHeartbeats 2000000 in
theorem dwrite_at {b g n : Nat} {v : Value} {S : DS} (i : Int) (p : Option Addr) (m c : Nat) (l : List UInt8) (w : World) (h : DiskAt w b g n v S) (hops : S.ops ≤ 4611686018427387904) (hlen : S.wait.length ≤ 1000000) (hT : Txt w p m c l) :
    Calls Try.prog 15 #[.pointer (some ⟨b, 0, none⟩), .int .i64 i, .slice p m c] w fun e w' => e = .returned (.int .i64 (S.write i l).1) ∧ ∃ v', DiskAt w' b g n v' (S.write i l).2 ∧ Only (Foot b g v) w w' ∧ ∀ k, v'.ownBlock = some k → v.ownBlock = some k ∨ w.heap.size ≤ k := by
  obtain ⟨va, vc, rfl, _⟩ := row_form h.wait
  obtain ⟨wn, hwn⟩ : ∃ x, x = S.wait.length := ⟨_, rfl⟩
  rw [← hwn] at h ⊢
  have HWN := Lib.hid hwn
  have HROW := Lib.hid (show ∀ x, DiskAt x b g n (.slice va wn vc) S → x.ownsRow 0 67 257 (.slice va wn vc) wn (wcells S.wait) from fun x hx => by have q := hx.wait; rw [← hwn] at q; exact q)
  have H := Lib.hid h
  have HOP := Lib.hid hops
  have HLN := Lib.hid hlen
  have HT := Lib.hid hT
  have HML := Lib.hid hT.len
  have c2 := h.c2
  clear h hops hlen hT hwn
  go_enter Try.func15, Try.ntmps15
  go_wp2_with fail
  refine (dmay_at i _ H.out).mono ?_
  rintro e w2 ⟨rfl, rfl⟩
  by_cases hout : S.out i
  · have HE := Lib.hid (show S.write i l = (1, S) from if_pos (.inl hout))
    rw [show S.mayE i = 1 from if_pos hout]
    clear hout
    go_wp2
    go_ret
    exact ⟨by rw [HE.out]; rfl, _, by rw [HE.out]; exact H.out, Only.refl _ _, fun k e => .inl e⟩
  rw [show S.mayE i = 0 from if_neg hout]
  by_cases h256 : m = 256
  · subst h256
    cases hg : S.gone with
    | true =>
      have HE := Lib.hid (show S.write i l = (5, S) by unfold DS.write; rw [if_neg (by rw [← HML.out]; simp [hout]), if_pos hg])
      rw [hg] at c2
      clear hg hout
      go_wp2
      go_ret
      exact ⟨by rw [HE.out]; rfl, _, by rw [HE.out]; exact H.out, Only.refl _ _, fun k e => .inl e⟩
    | false =>
      have HE := Lib.hid (show S.write i l = (if (S.put i.toNat l).goes.1 = true then 0 else 5, (S.put i.toNat l).goes.2) by unfold DS.write; rw [if_neg (by rw [← HML.out]; simp [hout]), if_neg (by rw [hg]; decide)])
      have HI := Lib.hid (show i = (i.toNat : Int) ∧ i.toNat < n by have := H.out.ok.len; unfold DS.out at hout; omega)
      rw [hg] at c2
      have hzw := zero_ic
      have HL256 := Lib.hid (show l.length = 256 from HML.out.symm)
      have HLM := Lib.hid (show (l.map bv).length = min 256 256 by rw [List.length_map]; exact HML.out.symm)
      have HL1 := Lib.hid (show ∀ v ∈ l.map bv, v.oneCell' = true from fun v hv => by obtain ⟨x, _, rfl⟩ := List.mem_map.1 hv; rfl)
      obtain ⟨pc, hpc⟩ : ∃ x, x = wcell (i.toNat, l) := ⟨_, rfl⟩
      have HPC := Lib.hid hpc
      have HPL := Lib.hid (show pc.length = 257 by rw [hpc]; exact wcell_len HL256.out)
      have HPS := Lib.hid (show (Try.prog.info? 67).map (·.size) = some pc.length by rw [HPL.out]; exact size_wr)
      have HP1 := Lib.hid (show ∀ u ∈ pc, u.oneCell' = true by rw [hpc]; intro u hu; have := wcells_one [(i.toNat, l)] u (by simpa [wcells] using hu); exact this)
      have H63 := Lib.hid (show wn + 1 ≤ maxLen by have := HLN.out; have := HWN.out; unfold maxLen; omega)
      have HBY := Lib.hid (show (wn + 1) * 264 ≤ 140737488355328 by have := HLN.out; have := HWN.out; omega)
      have HNEW := Lib.hid (show ∀ x y a7 c7, ((∃ z : Int, Blk x b #[.slice (some ⟨g, 0, none⟩) n n, .slice va wn vc, .bool S.gone, .bool S.fuse.isSome, .int .i64 z, .int .i64 (S.ops : Nat)] 62 ∧ ∀ f, S.fuse = some f → z = (f : Int)) ∧ Blk x g (barr S.good.flatten) 65) → x.ownsRow 0 67 257 (.slice a7 (wn + 1) c7) (wn + 1) (wcells S.wait ++ pc) → Wrote x y b → (∃ z : Int, Blk y b (#[Value.slice (some ⟨g, 0, none⟩) n n, .slice va wn vc, .bool S.gone, .bool S.fuse.isSome, .int .i64 z, .int .i64 (S.ops : Nat)].setIfInBounds 1 (.slice a7 (wn + 1) c7)) 62 ∧ ∀ f, S.fuse = some f → z = (f : Int)) → DiskAt y b g n (.slice a7 (wn + 1) c7) (S.put i.toNat l) from fun x y a7 c7 hp hr hW hz => by
        obtain ⟨⟨z0, hb0, _⟩, hg0⟩ := hp
        refine ⟨H.out.ok.put HI.out.2 HL256.out, H.out.pos, H.out.fz, hz, hW.blk hg0 H.out.gb, ?_⟩
        have hr2 : x.ownsRow 0 67 257 (.slice a7 (wn + 1) c7) (S.put i.toNat l).wait.length (wcells (S.put i.toNat l).wait) := by
          show x.ownsRow 0 _ 257 _ (S.wait ++ [(i.toNat, l)]).length (wcells (S.wait ++ [(i.toNat, l)]))
          rw [List.length_append, wcells_snoc, ← HPC.out, ← HWN.out]
          exact hr
        exact row_same hr2 fun k e => (Only.wrote (S := (· = b)) hW rfl).same k (row_blk hr2 e).choose_spec.lt (blk_type_ne (row_blk hr2 e).choose_spec hb0 (by decide)))
      have hbi : Below w2.heap.size w2 (w2.alloc (.cells (ic 0) 67)) := below_one' w2 _
      have HBI := Lib.hid hbi
      have HI1 := Lib.hid HI.out.1
      clear hg hout hpc hbi
      go_wp2_with (first | (refine wpList_build_wr rfl (.tmp 24) (by rfl) i (by rfl) ?_) | (refine wpList_store_abs rfl 67 (.tmp 8) (.tmp 25) (by rfl) w2.heap.size (ic i) (by rfl) (by rfl) 67 _ (Blk.new w2 (ic 0) _) (by rw [ic_size]; exact size_wr) (by rw [ic_size, ic_size]) (ic_one i) ?_; intro W1 hW hB; have HB1 := Lib.hid (hW.below HBI.out (Nat.le_refl _)); have BX1 := Lib.hid hB; clear hW hB) | (refine wpList_copy_abs rfl (.tmp 27) (.tmp 28) 30 30 rfl 5 Try.underlying30 size_u8d (some ⟨w2.heap.size, 1, none⟩) p 256 256 256 c (by rfl) (by rfl) w2.heap.size 1 BX1.out (l.map bv) HLM.out (fun _ => rfl) (HT.out.below HB1.out).rd (by rw [HLM.out, ic_size]; decide) HL1.out 256 (by rw [HLM.out]; rfl) ?_; intro W hW hB; have HBW := Lib.hid (hW.below HB1.out (Nat.le_refl _)); have BX := Lib.hid (show Blk W w2.heap.size pc.toArray 67 by rw [HPC.out, ← wcell_splice _ _ HL256.out, ← HI1.out]; exact hB); clear hW hB BX1 HB1))
      have HD := Lib.hid (H.out.on HBW.out)
      have HO2 := Lib.hid (Only.of_below (S := Foot b g (.slice va wn vc)) HBW.out)
      generalize hbx : w2.heap.size = bx at BX
      clear hbx
      refine wp_region_held_drew (S := fun _ => True) (by kernel_rfl) True.intro (fun _ => ?_)
      have HS := Lib.hid True.intro
      have hb : Below W.heap.size W (World.drew W) := (Below.refl _ _).drew
      have HD := Lib.hid (HD.out.on hb)
      have BX := Lib.hid (BX.out.on hb)
      have HO2 := Lib.hid (HO2.out.trans (Only.of_below (S := Foot b g (.slice va wn vc)) hb))
      clear hb
      generalize World.drew W = v0 at *
      try simp only [Act.put, List.setIfInBounds_toArray, List.set_cons_succ, List.set_cons_zero]
      refine wpAnyH_take (i := 0) (oi := ⟨some 30, .move (.tmp 0), _, _, _, none⟩) (v := .pointer (some ⟨b, 0, none⟩)) rfl (by kernel_rfl) (by kernel_rfl) (by kernel_rfl) (fun _ _ _ h => h) (Or.inl ⟨by rfl, fun _ _ => by go_simp⟩) HS.out ?_
      try simp only [Act.put, List.setIfInBounds_toArray, List.set_cons_succ, List.set_cons_zero]
      refine wpAnyH_take (i := 1) (oi := ⟨some 31, .move (.tmp 0), _, _, _, none⟩) (v := .pointer (some ⟨b, 0, none⟩)) rfl (by kernel_rfl) (by kernel_rfl) (by kernel_rfl) (fun _ _ _ h => h) (Or.inl ⟨by rfl, fun _ _ => by go_simp⟩) HS.out ?_
      try simp only [Act.put, List.setIfInBounds_toArray, List.set_cons_succ, List.set_cons_zero]
      refine wpAnyH_take (i := 2) (oi := ⟨some 32, .nilCheck (.tmp 31), _, _, _, none⟩) (v := .pointer (some ⟨b, 0, none⟩)) rfl (by kernel_rfl) (by kernel_rfl) (by kernel_rfl) (fun _ _ _ h => h) (Or.inl ⟨by rfl, fun _ _ => by go_simp⟩) HS.out ?_
      try simp only [Act.put, List.setIfInBounds_toArray, List.set_cons_succ, List.set_cons_zero]
      refine wpAnyH_take (i := 3) (oi := ⟨some 33, .fieldAddr 62 (.tmp 32) 1, _, _, _, none⟩) (v := .pointer (some ⟨b, 1, none⟩)) rfl (by kernel_rfl) (by kernel_rfl) (by kernel_rfl) (fun _ _ _ h => h) (Or.inl ⟨by rfl, fun _ _ => by go_simp⟩) HS.out ?_
      try simp only [Act.put, List.setIfInBounds_toArray, List.set_cons_succ, List.set_cons_zero]
      refine wpAnyH_ready (rs := [4, 5]) (by kernel_rfl) (by simp) ?_
      refine AllReadyH.cons (o := ⟨some 34, .load 60 (.tmp 33), 60, _, _, none⟩) rfl (fun K hK => ?_) (AllReadyH.cons (o := ⟨some 35, .load 67 (.tmp 8), 67, _, _, none⟩) rfl (fun K hK => ?_) AllReadyH.nil)
      · have c1 := HD.out.c1
        refine wp_of_yields' (v := .slice va wn vc) (by unfold execOp; go_simp) ?_
        clear c1
        refine hK _ _ HS.out (fun _ => ?_)
        clear hK K
        try simp only [Act.put, List.setIfInBounds_toArray, List.set_cons_succ, List.set_cons_zero]
        refine wpAnyH_ready (rs := [5]) (by kernel_rfl) (by simp) ?_
        refine AllReadyH.cons (o := ⟨some 35, .load 67 (.tmp 8), 67, _, _, none⟩) rfl (fun K hK => ?_) AllReadyH.nil
        refine wp_load_sub 67 (.tmp 8) (by rfl) bx 0 (by rfl) BX.out pc (fun i _ => by simp) _ Try.underlying67 rfl HPS.out ?_
        refine hK _ _ HS.out (fun _ => ?_)
        clear hK K
        try simp only [Act.put, List.setIfInBounds_toArray, List.set_cons_succ, List.set_cons_zero]
        refine wpAnyH_ready (rs := [6]) (by kernel_rfl) (by simp) ?_
        refine AllReadyH.cons (o := ⟨some 36, .buildSlice 60 1 #[(0, .tmp 35)], 60, _, _, none⟩) rfl (fun K hK => ?_) AllReadyH.nil
        refine wp_build_row (.tmp 35) pc (by rfl) HPL.out (by rfl) ?_
        have BJ := Blk.new v0 pc.toArray 67
        have hb := below_one' v0 (.cells pc.toArray 67)
        generalize World.alloc v0 _ = v3 at *
        have HD := Lib.hid (HD.out.on hb)
        have BX := Lib.hid (BX.out.on hb)
        replace BJ := Lib.hid BJ
        have HO2 := Lib.hid (HO2.out.trans (Only.of_below (S := Foot b g (.slice va wn vc)) hb))
        clear hb
        refine hK _ _ HS.out (fun _ => ?_)
        clear hK K
        try simp only [Act.put, List.setIfInBounds_toArray, List.set_cons_succ, List.set_cons_zero]
        refine wpAnyH_ready (rs := [7]) (by kernel_rfl) (by simp) ?_
        refine AllReadyH.cons (o := ⟨some 37, .call { callee := .builtin .append, args := #[.tmp 34, .tmp 36], argTypes := #[60, 60] }, 60, _, _, none⟩) rfl (fun K hK => ?_) AllReadyH.nil
        refine wp_append_row (.tmp 34) (.tmp 36) 60 67 rfl (.agg (ic 0)) 257 264 Try.underlying60 info_ic (ic_size 0) (by decide) (.slice va wn vc) wn (wcells S.wait) (by rfl) (HROW.out _ HD.out) _ 1 pc (by rfl) HPL.out BJ.out HP1.out H63.out HBY.out ?_
        intro a7 c7 v4 hO hg hat
        have HO7 := Lib.hid hO
        have HG7 := Lib.hid hg
        have HAT := Lib.hid (show ∀ k, (Value.slice a7 (wn + 1) c7).ownBlock = some k → (Value.slice va wn vc).ownBlock = some k ∨ w2.heap.size ≤ k from fun k e => (hat k e).elim .inl (fun q => .inr (by rw [q]; exact HO2.out.size)))
        have HO2 := Lib.hid (HO2.out.trans (Only.grown (S := Foot b g (.slice va wn vc)) hg (fun k e => .inr (.inr e))))
        have HBD := Lib.hid (HD.out.part hg)
        clear hO hg hat HD BX BJ
        refine hK _ _ HS.out (fun _ => ?_)
        clear hK K
        try simp only [Act.put, List.setIfInBounds_toArray, List.set_cons_succ, List.set_cons_zero]
        refine wpAnyH_take (i := 8) (oi := ⟨some 38, .nilCheck (.tmp 30), _, _, _, none⟩) (v := .pointer (some ⟨b, 0, none⟩)) rfl (by kernel_rfl) (by kernel_rfl) (by kernel_rfl) (fun _ _ _ h => h) (Or.inl ⟨by rfl, fun _ _ => by go_simp⟩) HS.out ?_
        try simp only [Act.put, List.setIfInBounds_toArray, List.set_cons_succ, List.set_cons_zero]
        refine wpAnyH_take (i := 9) (oi := ⟨some 39, .fieldAddr 62 (.tmp 38) 1, _, _, _, none⟩) (v := .pointer (some ⟨b, 1, none⟩)) rfl (by kernel_rfl) (by kernel_rfl) (by kernel_rfl) (fun _ _ _ h => h) (Or.inl ⟨by rfl, fun _ _ => by go_simp⟩) HS.out ?_
        try simp only [Act.put, List.setIfInBounds_toArray, List.set_cons_succ, List.set_cons_zero]
        refine wpAnyH_ready (rs := [10]) (by kernel_rfl) (by simp) ?_
        refine AllReadyH.cons (o := ⟨none, .store 60 (.tmp 39) (.tmp 37), _, _, _, none⟩) rfl (fun K hK => ?_) AllReadyH.nil
        obtain ⟨z, hbZ, hzZ⟩ := HBD.out.1
        refine wp_store_one (.tmp 39) (.tmp 37) 60 size_wrs rfl b 1 (.slice a7 (wn + 1) c7) (by rfl) (by rfl) (by rfl) (by rfl) hbZ (by simp) ?_
        intro v5 hW hB
        have HDN := Lib.hid (HNEW.out _ _ a7 c7 HBD.out HO7.out hW ⟨z, hB, hzZ⟩)
        have HO2 := Lib.hid (HO2.out.trans (Only.wrote (S := Foot b g (.slice va wn vc)) hW (.inl rfl)))
        clear hW hB hbZ hzZ HBD
        refine hK _ _ HS.out (fun _ => ?_)
        clear hK K
        try simp only [Act.put, List.setIfInBounds_toArray, List.set_cons_succ, List.set_cons_zero]
        refine wpAnyH_done (by kernel_rfl) ?_ _
        clear HO7 HG7
        go_wp2_with fail
        refine (goes_at _ HDN.out HOP.out).mono ?_
        rintro e w9 ⟨rfl, hD, hO⟩
        have HD9 := Lib.hid hD
        have HO9 := Lib.hid (HO2.out.trans (hO.mono fun k e => .inl e))
        clear hD hO
        cases hq : (S.put i.toNat l).goes.1 with
        | false =>
          have HE2 := Lib.hid (show S.write i l = (5, (S.put i.toNat l).goes.2) by rw [HE.out, if_neg (by rw [hq]; decide)])
          clear hq
          go_wp2
          go_ret
          exact ⟨by rw [HE2.out]; rfl, _, by rw [HE2.out]; exact HD9.out, HO9.out, HAT.out⟩
        | true =>
          have HE2 := Lib.hid (show S.write i l = (0, (S.put i.toNat l).goes.2) by rw [HE.out, if_pos hq])
          clear hq
          go_wp2
          go_ret
          exact ⟨by rw [HE2.out]; rfl, _, by rw [HE2.out]; exact HD9.out, HO9.out, HAT.out⟩
      · refine wp_load_sub 67 (.tmp 8) (by rfl) bx 0 (by rfl) BX.out pc (fun i _ => by simp) _ Try.underlying67 rfl HPS.out ?_
        refine hK _ _ HS.out (fun _ => ?_)
        clear hK K
        try simp only [Act.put, List.setIfInBounds_toArray, List.set_cons_succ, List.set_cons_zero]
        refine wpAnyH_ready (rs := [4, 6]) (by kernel_rfl) (by simp) ?_
        refine AllReadyH.cons (o := ⟨some 34, .load 60 (.tmp 33), 60, _, _, none⟩) rfl (fun K hK => ?_) (AllReadyH.cons (o := ⟨some 36, .buildSlice 60 1 #[(0, .tmp 35)], 60, _, _, none⟩) rfl (fun K hK => ?_) AllReadyH.nil)
        · have c1 := HD.out.c1
          refine wp_of_yields' (v := .slice va wn vc) (by unfold execOp; go_simp) ?_
          clear c1
          refine hK _ _ HS.out (fun _ => ?_)
          clear hK K
          try simp only [Act.put, List.setIfInBounds_toArray, List.set_cons_succ, List.set_cons_zero]
          refine wpAnyH_ready (rs := [6]) (by kernel_rfl) (by simp) ?_
          refine AllReadyH.cons (o := ⟨some 36, .buildSlice 60 1 #[(0, .tmp 35)], 60, _, _, none⟩) rfl (fun K hK => ?_) AllReadyH.nil
          refine wp_build_row (.tmp 35) pc (by rfl) HPL.out (by rfl) ?_
          have BJ := Blk.new v0 pc.toArray 67
          have hb := below_one' v0 (.cells pc.toArray 67)
          generalize World.alloc v0 _ = v8 at *
          have HD := Lib.hid (HD.out.on hb)
          have BX := Lib.hid (BX.out.on hb)
          replace BJ := Lib.hid BJ
          have HO2 := Lib.hid (HO2.out.trans (Only.of_below (S := Foot b g (.slice va wn vc)) hb))
          clear hb
          refine hK _ _ HS.out (fun _ => ?_)
          clear hK K
          try simp only [Act.put, List.setIfInBounds_toArray, List.set_cons_succ, List.set_cons_zero]
          refine wpAnyH_ready (rs := [7]) (by kernel_rfl) (by simp) ?_
          refine AllReadyH.cons (o := ⟨some 37, .call { callee := .builtin .append, args := #[.tmp 34, .tmp 36], argTypes := #[60, 60] }, 60, _, _, none⟩) rfl (fun K hK => ?_) AllReadyH.nil
          refine wp_append_row (.tmp 34) (.tmp 36) 60 67 rfl (.agg (ic 0)) 257 264 Try.underlying60 info_ic (ic_size 0) (by decide) (.slice va wn vc) wn (wcells S.wait) (by rfl) (HROW.out _ HD.out) _ 1 pc (by rfl) HPL.out BJ.out HP1.out H63.out HBY.out ?_
          intro a7 c7 v9 hO hg hat
          have HO7 := Lib.hid hO
          have HG7 := Lib.hid hg
          have HAT := Lib.hid (show ∀ k, (Value.slice a7 (wn + 1) c7).ownBlock = some k → (Value.slice va wn vc).ownBlock = some k ∨ w2.heap.size ≤ k from fun k e => (hat k e).elim .inl (fun q => .inr (by rw [q]; exact HO2.out.size)))
          have HO2 := Lib.hid (HO2.out.trans (Only.grown (S := Foot b g (.slice va wn vc)) hg (fun k e => .inr (.inr e))))
          have HBD := Lib.hid (HD.out.part hg)
          clear hO hg hat HD BX BJ
          refine hK _ _ HS.out (fun _ => ?_)
          clear hK K
          try simp only [Act.put, List.setIfInBounds_toArray, List.set_cons_succ, List.set_cons_zero]
          refine wpAnyH_take (i := 8) (oi := ⟨some 38, .nilCheck (.tmp 30), _, _, _, none⟩) (v := .pointer (some ⟨b, 0, none⟩)) rfl (by kernel_rfl) (by kernel_rfl) (by kernel_rfl) (fun _ _ _ h => h) (Or.inl ⟨by rfl, fun _ _ => by go_simp⟩) HS.out ?_
          try simp only [Act.put, List.setIfInBounds_toArray, List.set_cons_succ, List.set_cons_zero]
          refine wpAnyH_take (i := 9) (oi := ⟨some 39, .fieldAddr 62 (.tmp 38) 1, _, _, _, none⟩) (v := .pointer (some ⟨b, 1, none⟩)) rfl (by kernel_rfl) (by kernel_rfl) (by kernel_rfl) (fun _ _ _ h => h) (Or.inl ⟨by rfl, fun _ _ => by go_simp⟩) HS.out ?_
          try simp only [Act.put, List.setIfInBounds_toArray, List.set_cons_succ, List.set_cons_zero]
          refine wpAnyH_ready (rs := [10]) (by kernel_rfl) (by simp) ?_
          refine AllReadyH.cons (o := ⟨none, .store 60 (.tmp 39) (.tmp 37), _, _, _, none⟩) rfl (fun K hK => ?_) AllReadyH.nil
          obtain ⟨z, hbZ, hzZ⟩ := HBD.out.1
          refine wp_store_one (.tmp 39) (.tmp 37) 60 size_wrs rfl b 1 (.slice a7 (wn + 1) c7) (by rfl) (by rfl) (by rfl) (by rfl) hbZ (by simp) ?_
          intro v10 hW hB
          have HDN := Lib.hid (HNEW.out _ _ a7 c7 HBD.out HO7.out hW ⟨z, hB, hzZ⟩)
          have HO2 := Lib.hid (HO2.out.trans (Only.wrote (S := Foot b g (.slice va wn vc)) hW (.inl rfl)))
          clear hW hB hbZ hzZ HBD
          refine hK _ _ HS.out (fun _ => ?_)
          clear hK K
          try simp only [Act.put, List.setIfInBounds_toArray, List.set_cons_succ, List.set_cons_zero]
          refine wpAnyH_done (by kernel_rfl) ?_ _
          clear HO7 HG7
          go_wp2_with fail
          refine (goes_at _ HDN.out HOP.out).mono ?_
          rintro e w9 ⟨rfl, hD, hO⟩
          have HD9 := Lib.hid hD
          have HO9 := Lib.hid (HO2.out.trans (hO.mono fun k e => .inl e))
          clear hD hO
          cases hq : (S.put i.toNat l).goes.1 with
          | false =>
            have HE2 := Lib.hid (show S.write i l = (5, (S.put i.toNat l).goes.2) by rw [HE.out, if_neg (by rw [hq]; decide)])
            clear hq
            go_wp2
            go_ret
            exact ⟨by rw [HE2.out]; rfl, _, by rw [HE2.out]; exact HD9.out, HO9.out, HAT.out⟩
          | true =>
            have HE2 := Lib.hid (show S.write i l = (0, (S.put i.toNat l).goes.2) by rw [HE.out, if_pos hq])
            clear hq
            go_wp2
            go_ret
            exact ⟨by rw [HE2.out]; rfl, _, by rw [HE2.out]; exact HD9.out, HO9.out, HAT.out⟩
        · refine wp_build_row (.tmp 35) pc (by rfl) HPL.out (by rfl) ?_
          have BJ := Blk.new v0 pc.toArray 67
          have hb := below_one' v0 (.cells pc.toArray 67)
          generalize World.alloc v0 _ = v11 at *
          have HD := Lib.hid (HD.out.on hb)
          have BX := Lib.hid (BX.out.on hb)
          replace BJ := Lib.hid BJ
          have HO2 := Lib.hid (HO2.out.trans (Only.of_below (S := Foot b g (.slice va wn vc)) hb))
          clear hb
          refine hK _ _ HS.out (fun _ => ?_)
          clear hK K
          try simp only [Act.put, List.setIfInBounds_toArray, List.set_cons_succ, List.set_cons_zero]
          refine wpAnyH_ready (rs := [4]) (by kernel_rfl) (by simp) ?_
          refine AllReadyH.cons (o := ⟨some 34, .load 60 (.tmp 33), 60, _, _, none⟩) rfl (fun K hK => ?_) AllReadyH.nil
          have c1 := HD.out.c1
          refine wp_of_yields' (v := .slice va wn vc) (by unfold execOp; go_simp) ?_
          clear c1
          refine hK _ _ HS.out (fun _ => ?_)
          clear hK K
          try simp only [Act.put, List.setIfInBounds_toArray, List.set_cons_succ, List.set_cons_zero]
          refine wpAnyH_ready (rs := [7]) (by kernel_rfl) (by simp) ?_
          refine AllReadyH.cons (o := ⟨some 37, .call { callee := .builtin .append, args := #[.tmp 34, .tmp 36], argTypes := #[60, 60] }, 60, _, _, none⟩) rfl (fun K hK => ?_) AllReadyH.nil
          refine wp_append_row (.tmp 34) (.tmp 36) 60 67 rfl (.agg (ic 0)) 257 264 Try.underlying60 info_ic (ic_size 0) (by decide) (.slice va wn vc) wn (wcells S.wait) (by rfl) (HROW.out _ HD.out) _ 1 pc (by rfl) HPL.out BJ.out HP1.out H63.out HBY.out ?_
          intro a7 c7 v13 hO hg hat
          have HO7 := Lib.hid hO
          have HG7 := Lib.hid hg
          have HAT := Lib.hid (show ∀ k, (Value.slice a7 (wn + 1) c7).ownBlock = some k → (Value.slice va wn vc).ownBlock = some k ∨ w2.heap.size ≤ k from fun k e => (hat k e).elim .inl (fun q => .inr (by rw [q]; exact HO2.out.size)))
          have HO2 := Lib.hid (HO2.out.trans (Only.grown (S := Foot b g (.slice va wn vc)) hg (fun k e => .inr (.inr e))))
          have HBD := Lib.hid (HD.out.part hg)
          clear hO hg hat HD BX BJ
          refine hK _ _ HS.out (fun _ => ?_)
          clear hK K
          try simp only [Act.put, List.setIfInBounds_toArray, List.set_cons_succ, List.set_cons_zero]
          refine wpAnyH_take (i := 8) (oi := ⟨some 38, .nilCheck (.tmp 30), _, _, _, none⟩) (v := .pointer (some ⟨b, 0, none⟩)) rfl (by kernel_rfl) (by kernel_rfl) (by kernel_rfl) (fun _ _ _ h => h) (Or.inl ⟨by rfl, fun _ _ => by go_simp⟩) HS.out ?_
          try simp only [Act.put, List.setIfInBounds_toArray, List.set_cons_succ, List.set_cons_zero]
          refine wpAnyH_take (i := 9) (oi := ⟨some 39, .fieldAddr 62 (.tmp 38) 1, _, _, _, none⟩) (v := .pointer (some ⟨b, 1, none⟩)) rfl (by kernel_rfl) (by kernel_rfl) (by kernel_rfl) (fun _ _ _ h => h) (Or.inl ⟨by rfl, fun _ _ => by go_simp⟩) HS.out ?_
          try simp only [Act.put, List.setIfInBounds_toArray, List.set_cons_succ, List.set_cons_zero]
          refine wpAnyH_ready (rs := [10]) (by kernel_rfl) (by simp) ?_
          refine AllReadyH.cons (o := ⟨none, .store 60 (.tmp 39) (.tmp 37), _, _, _, none⟩) rfl (fun K hK => ?_) AllReadyH.nil
          obtain ⟨z, hbZ, hzZ⟩ := HBD.out.1
          refine wp_store_one (.tmp 39) (.tmp 37) 60 size_wrs rfl b 1 (.slice a7 (wn + 1) c7) (by rfl) (by rfl) (by rfl) (by rfl) hbZ (by simp) ?_
          intro v14 hW hB
          have HDN := Lib.hid (HNEW.out _ _ a7 c7 HBD.out HO7.out hW ⟨z, hB, hzZ⟩)
          have HO2 := Lib.hid (HO2.out.trans (Only.wrote (S := Foot b g (.slice va wn vc)) hW (.inl rfl)))
          clear hW hB hbZ hzZ HBD
          refine hK _ _ HS.out (fun _ => ?_)
          clear hK K
          try simp only [Act.put, List.setIfInBounds_toArray, List.set_cons_succ, List.set_cons_zero]
          refine wpAnyH_done (by kernel_rfl) ?_ _
          clear HO7 HG7
          go_wp2_with fail
          refine (goes_at _ HDN.out HOP.out).mono ?_
          rintro e w9 ⟨rfl, hD, hO⟩
          have HD9 := Lib.hid hD
          have HO9 := Lib.hid (HO2.out.trans (hO.mono fun k e => .inl e))
          clear hD hO
          cases hq : (S.put i.toNat l).goes.1 with
          | false =>
            have HE2 := Lib.hid (show S.write i l = (5, (S.put i.toNat l).goes.2) by rw [HE.out, if_neg (by rw [hq]; decide)])
            clear hq
            go_wp2
            go_ret
            exact ⟨by rw [HE2.out]; rfl, _, by rw [HE2.out]; exact HD9.out, HO9.out, HAT.out⟩
          | true =>
            have HE2 := Lib.hid (show S.write i l = (0, (S.put i.toNat l).goes.2) by rw [HE.out, if_pos hq])
            clear hq
            go_wp2
            go_ret
            exact ⟨by rw [HE2.out]; rfl, _, by rw [HE2.out]; exact HD9.out, HO9.out, HAT.out⟩
  · have h2 : ((m : Int) == 256) = false := by simp; omega
    have HE := Lib.hid (show S.write i l = (1, S) from if_pos (.inr (by rw [← HML.out]; exact h256)))
    clear hout
    go_wp2
    go_ret
    exact ⟨by rw [HE.out]; rfl, _, by rw [HE.out]; exact H.out, Only.refl _ _, fun k e => .inl e⟩
end Go.Proofs.Ytgbahfggnbpnmaa
