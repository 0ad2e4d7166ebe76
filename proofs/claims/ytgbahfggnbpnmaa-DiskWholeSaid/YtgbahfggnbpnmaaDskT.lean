import Derived.Test.YtgbahfggnbpnmaaDskS
/-
  Sync and Crash.
-/
namespace Go.Proofs.Ytgbahfggnbpnmaa
open Go.RowKit
theorem ReadsB.only {w W : World} {a : Option Addr} {l : List Bool} {g : Nat} {F : List UInt8} {t : TypeId} (h : ReadsB w a l) (hg : Blk w g (barr F) t) (hO : Only (· = g) w W) : ReadsB W a l := fun i hi => by
  obtain ⟨p, o, e, hp, hc⟩ := h i hi
  refine ⟨p, o, e, Nat.lt_of_lt_of_le hp hO.size, ?_⟩
  rw [← hc]
  refine World.cell?_of_block (a := ⟨p, o + i, none⟩) (hO.same p hp fun e2 => ?_)
  subst e2
  have h1 : w.cell? ⟨p, o + i, none⟩ = (barr F)[o + i]? := by
    unfold Blk at hg
    simp [World.cell?, hg]
  rw [hc] at h1
  simp only [barr, List.getElem?_toArray, List.getElem?_map] at h1
  cases hF : F[o + i]? with
  | none => rw [hF] at h1; simp at h1
  | some x => rw [hF] at h1; simp [bv] at h1
theorem Foot.sub {b g k : Nat} {v : Value} (h : k = b) : Foot b g v k := .inl h
set_option maxRecDepth 100000 in
theorem dsync_nil (w : World) : Calls Try.prog 13 #[.pointer none] w fun e w' => e = .returned (.int .i64 2) ∧ w' = w := by
  go_enter Try.func13, Try.ntmps13
  go_wp2_with fail
  refine (dnone_nil _).mono ?_
  rintro e w2 ⟨rfl, rfl⟩
  go_wp2
  go_ret
  exact ⟨rfl, rfl⟩
set_option maxRecDepth 100000 in
set_option maxHeartbeats 1000000 in
theorem dsync_at {b g n : Nat} {v : Value} {S : DS} (w : World) (h : DiskAt w b g n v S) (hops : S.ops ≤ 4611686018427387904) (hlen : S.wait.length ≤ 1000000) :
    Calls Try.prog 13 #[.pointer (some ⟨b, 0, none⟩)] w fun e w' => e = .returned (.int .i64 S.sync.1) ∧ ∃ v', DiskAt w' b g n v' S.sync.2 ∧ Only (Foot b g v) w w' ∧ ∀ k, v'.ownBlock = some k → v.ownBlock = some k := by
  have H := Lib.hid h
  have HOP := Lib.hid hops
  have HLN := Lib.hid hlen
  have c2 := h.c2
  clear h hops hlen
  go_enter Try.func13, Try.ntmps13
  go_wp2_with fail
  refine (dnone_at _ H.out).mono ?_
  rintro e w2 ⟨rfl, rfl⟩
  cases hg : S.gone with
  | true =>
    have HE := Lib.hid (show S.sync = (5, S) from if_pos hg)
    rw [hg] at c2
    clear hg
    go_wp2
    go_ret
    exact ⟨by rw [HE.out]; rfl, v, by rw [HE.out]; exact H.out, Only.refl _ _, fun k e => e⟩
  | false =>
    have HG := Lib.hid hg
    rw [hg] at c2
    clear hg
    go_wp2_with fail
    refine (goes_at _ H.out HOP.out).mono ?_
    rintro e w3 ⟨rfl, hD, hO⟩
    have HD := Lib.hid hD
    have HO := Lib.hid hO
    clear hD hO c2
    cases hq : S.goes.1 with
    | false =>
      have HE := Lib.hid (show S.sync = (5, S.goes.2) by unfold DS.sync; rw [if_neg (by rw [HG.out]; decide), if_neg (by rw [hq]; decide)])
      clear hq
      go_wp2
      go_ret
      exact ⟨by rw [HE.out]; rfl, v, by rw [HE.out]; exact HD.out, HO.out.mono fun k e => .inl e, fun k e => e⟩
    | true =>
      have HE := Lib.hid (show S.sync = (0, { S.goes.2 with good := settle S.goes.2.good S.goes.2.wait (fun _ => true), wait := [] }) by unfold DS.sync; rw [if_neg (by rw [HG.out]; decide), if_pos hq, goes_good, goes_wait])
      have HL2 := Lib.hid (show S.goes.2.wait.length ≤ 1000000 by rw [goes_wait]; exact HLN.out)
      clear hq
      go_wp2_with fail
      refine (settles_sync (fun _ => true) _ HD.out HL2.out (fun k W _ => sync1_walk _ W)).mono ?_
      rintro e w4 ⟨⟨u, rfl⟩, v', hD, hO, hv⟩
      have HD4 := Lib.hid hD
      have HO4 := Lib.hid hO
      have HV4 := Lib.hid hv
      clear hD hO hv
      go_wp2
      go_ret
      exact ⟨by rw [HE.out]; rfl, v', by rw [HE.out]; exact HD4.out, (HO.out.mono fun k e => .inl e).trans HO4.out, HV4.out⟩
set_option maxRecDepth 100000 in
theorem dcrash_nil (p : Option Addr) (m c : Nat) (w : World) : Calls Try.prog 17 #[.pointer none, .slice p m c] w fun e w' => (∃ u, e = .returned u) ∧ Below w.heap.size w w' := by
  have hb := below_one' w (.cells #[.slice p m c] 23)
  have HB := Lib.hid hb
  clear hb
  go_enter Try.func17, Try.ntmps17
  go_wp2_with fail
  refine (dnone_nil _).mono ?_
  rintro e w2 ⟨rfl, rfl⟩
  go_wp2
  refine bodyPost_ret (results_none rfl _ _ _) rfl ?_
  exact ⟨⟨_, rfl⟩, HB.out⟩
set_option maxRecDepth 100000 in
set_option maxHeartbeats 1000000 in
theorem dcrash_at {b g n : Nat} {v : Value} {S : DS} (p : Option Addr) (m c : Nat) (l : List Bool) (hm : m = l.length) (w : World) (h : DiskAt w b g n v S) (hlen : S.wait.length ≤ 1000000) (hr : ReadsB w p l) :
    Calls Try.prog 17 #[.pointer (some ⟨b, 0, none⟩), .slice p m c] w fun e w' => (∃ u, e = .returned u) ∧ ∃ v', DiskAt w' b g n v' (S.crash l) ∧ Only (Foot b g v) w w' ∧ ∀ k, v'.ownBlock = some k → v.ownBlock = some k := by
  have hb := below_one' w (.cells #[.slice p m c] 23)
  have HD := Lib.hid (h.on hb)
  have HR := Lib.hid (hr.on hb)
  have HC := Lib.hid (Blk.new w #[.slice p m c] 23)
  have HO := Lib.hid (Only.of_below (S := Foot b g v) hb)
  have HM := Lib.hid hm
  have HLN := Lib.hid hlen
  clear h hr hb hlen hm
  go_enter Try.func17, Try.ntmps17
  go_wp2_with fail
  refine (dnone_at _ HD.out).mono ?_
  rintro e w2 ⟨rfl, rfl⟩
  generalize w.heap.size = pb at *
  generalize w.alloc _ = w2 at *
  go_wp2_with fail
  refine (settles_crash pb (fun i => l.getD i false) _ HD.out HLN.out (fun k W hW => crash1_walk k pb m c p l HM.out W ((hW.blk HC.out (fun e => (blk_type_ne HC.out HD.out.good (by decide)) e)).cell 0 rfl) (HR.out.only HD.out.good hW))).mono ?_
  rintro e w4 ⟨⟨u, rfl⟩, v', hD, hO, hv⟩
  have HD4 := Lib.hid hD
  have HO4 := Lib.hid (HO.out.trans hO)
  have HV4 := Lib.hid hv
  obtain ⟨z, hb, hz⟩ := hD.blk
  have c2 := hD.c2
  have c3 := hD.c3
  have f2 := hD.fr 2
  have f3 := hD.fr 3
  have HBl := Lib.hid hb
  clear hD hO hv hb hz
  go_wp2
  go_end0
  refine ⟨⟨_, rfl⟩, v', ?_, HO4.out.trans ((only2 _ b _ _ _ _).mono fun k e => .inl e), HV4.out⟩
  exact HD4.out.scal (only2 _ b _ _ _ _) z ((HBl.out.set 2 _).set 3 _) (fun f e => by cases e) (fun f e => by cases e) rfl rfl
end Go.Proofs.Ytgbahfggnbpnmaa
