import Derived.Test.YtgbahfggnbpnmaaDoorRDrbgW
/-
  The reference's Reseed and Draw with any arguments.
-/
namespace Go.Proofs.YtgbahfggnbpnmaaDoor
open Go.RowKit
theorem rreseed_any (s : DS) (ent add : List UInt8) (ka va a b : Option Addr) (kn kc vn vc n c m d : Nat) (w : World) (hkl : s.k.length = 32) (hvl : s.v.length = 32) (hK : Txt w ka kn kc s.k) (hV : Txt w va vn vc s.v) (hE : Txt w a n c ent) (hA : Txt w b m d add) :
    Calls Tryd.prog 119 #[.agg #[.slice ka kn kc, .slice va vn vc, .int .i64 s.c], .slice a n c, .slice b m d] w fun e w' => ∃ kx kxn kxc vx vxn vxc, e = .returned (.tuple #[.agg #[.slice kx kxn kxc, .slice vx vxn vxc, .int .i64 (s.reseed ent add).c], .int .i64 (mayE ent [add])]) ∧ Txt w' kx kxn kxc (s.reseed ent add).k ∧ Txt w' vx vxn vxc (s.reseed ent add).v ∧ (∀ G, G < w.heap.size → Off ka s.k G → Off kx (s.reseed ent add).k G) ∧ (∀ G, G < w.heap.size → Off va s.v G → Off vx (s.reseed ent add).v G) ∧ Below w.heap.size w w' := by
  by_cases he : mayE ent [add] = 0
  · refine (rreseed_walk s.k s.v ent add ka va a b kn kc vn vc n c m d s.c w hK hV hE hA hkl hvl he).mono ?_
    rintro e w' ⟨kx, kxn, kxc, vx, vxn, vxc, rfl, h1, h2, h3, h4, hb⟩
    refine ⟨kx, kxn, kxc, vx, vxn, vxc, ?_, ?_, ?_, fun G hG _ q o e _ => by have := h3 q o e; omega, fun G hG _ q o e _ => by have := h4 q o e; omega, hb⟩
    · unfold DS.reseed; rw [if_pos he, he]
    · unfold DS.reseed; rw [if_pos he]; exact h1
    · unfold DS.reseed; rw [if_pos he]; exact h2
  · refine (rreseed_err ent add ka va a b kn kc vn vc n c m d s.c w hE hA he).mono ?_
    rintro e w' ⟨rfl, hb⟩
    refine ⟨ka, kn, kc, va, vn, vc, ?_, ?_, ?_, ?_, ?_, hb⟩ <;> unfold DS.reseed <;> rw [if_neg he]
    · exact hK.on hb
    · exact hV.on hb
    · exact fun G _ h => h
    · exact fun G _ h => h
theorem rdraw_any (s : DS) (add : List UInt8) (n : Int) (ka va b : Option Addr) (kn kc vn vc m d : Nat) (w : World) (hc : 0 ≤ s.c) (hkl : s.k.length = 32) (hvl : s.v.length = 32) (hK : Txt w ka kn kc s.k) (hV : Txt w va vn vc s.v) (hA : Txt w b m d add) :
    Calls Tryd.prog 120 #[.agg #[.slice ka kn kc, .slice va vn vc, .int .i64 s.c], .int .i64 n, .slice b m d] w fun e w' => ∃ ao no co kx kxn kxc vx vxn vxc, e = .returned (.tuple #[.slice ao no co, .agg #[.slice kx kxn kxc, .slice vx vxn vxc, .int .i64 (s.next n add).c], .int .i64 (drawE n add.length s.c)]) ∧ Txt w' ao no co (s.outs n add) ∧ (∀ G, G < w.heap.size → Off ao (s.outs n add) G) ∧ Txt w' kx kxn kxc (s.next n add).k ∧ Txt w' vx vxn vxc (s.next n add).v ∧ (∀ G, G < w.heap.size → Off ka s.k G → Off kx (s.next n add).k G) ∧ (∀ G, G < w.heap.size → Off va s.v G → Off vx (s.next n add).v G) ∧ Below w.heap.size w w' := by
  by_cases he : drawE n add.length s.c = 0
  · have hn : 0 ≤ n := by
      unfold drawE at he
      by_cases q1 : n < 0
      · rw [if_pos q1] at he; omega
      · omega
    obtain ⟨N, rfl⟩ : ∃ N : Nat, n = N := ⟨n.toNat, by omega⟩
    refine (rdraw_walk s.k s.v add ka va b kn kc vn vc N m d s.c w hK hV hA hkl hvl hc he).mono ?_
    rintro e w' ⟨ao, co, kx, kxn, kxc, vx, vxn, vxc, rfl, h0, h1, h2, h5, h3, h4, hb⟩
    refine ⟨ao, N, co, kx, kxn, kxc, vx, vxn, vxc, ?_, ?_, fun G hG q o e _ => by have := h5 q o e; omega, ?_, ?_, fun G hG _ q o e _ => by have := h3 q o e; omega, fun G hG _ q o e _ => by have := h4 q o e; omega, hb⟩
    · unfold DS.next; rw [if_pos he, he]
    · unfold DS.outs; rw [if_pos he, Int.toNat_natCast]; exact h0
    · unfold DS.next; rw [if_pos he, Int.toNat_natCast]; exact h1
    · unfold DS.next; rw [if_pos he, Int.toNat_natCast]; exact h2
  · refine (rdraw_err ka va b kn kc vn vc m d s.c n w (by rw [hA.len]; exact he)).mono ?_
    rintro e w' ⟨rfl, hb⟩
    refine ⟨none, 0, 0, ka, kn, kc, va, vn, vc, ?_, ?_, fun G _ q o e => (by cases e), ?_, ?_, ?_, ?_, hb⟩
    · unfold DS.next; rw [if_neg he, hA.len]
    · unfold DS.outs; rw [if_neg he]; exact Txt.nil _ 0
    · unfold DS.next; rw [if_neg he]; exact hK.on hb
    · unfold DS.next; rw [if_neg he]; exact hV.on hb
    · unfold DS.next; rw [if_neg he]; exact fun G _ h => h
    · unfold DS.next; rw [if_neg he]; exact fun G _ h => h
end Go.Proofs.YtgbahfggnbpnmaaDoor
