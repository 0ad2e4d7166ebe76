import Derived.Test.YtgbahfggnbpnmaaDoorLive5W
/-
  Reseed and Draw with any arguments; a state as one value.
-/
namespace Go.Proofs.YtgbahfggnbpnmaaDoor
open Go.RowKit
structure DS where
  k : List UInt8
  v : List UInt8
  c : Int
def DS.At (s : DS) (w : World) (G : Nat) : Prop := DAt w G s.k s.v s.c ∧ 0 ≤ s.c ∧ s.c ≤ 1025
theorem DS.At.on {s : DS} {w w' : World} {G : Nat} (h : s.At w G) (hb : Below w.heap.size w w') : s.At w' G := ⟨h.1.on hb, h.2⟩
theorem DS.At.grown {s : DS} {w w' : World} {G : Nat} {r : Option Nat} (h : s.At w G) (hg : w.grownBy w' r) (hr : some G ≠ r) : s.At w' G := ⟨h.1.grown hg hr, h.2⟩
def DS.reseed (s : DS) (ent add : List UInt8) : DS := if mayE ent [add] = 0 then ⟨updK s.k s.v (ent ++ add), updV s.k s.v (ent ++ add), 1⟩ else s
def DS.next (s : DS) (n : Int) (add : List UInt8) : DS := if drawE n add.length s.c = 0 then ⟨nextK s.k s.v add n.toNat, nextV s.k s.v add n.toNat, s.c + 1⟩ else s
def DS.outs (s : DS) (n : Int) (add : List UInt8) : List UInt8 := if drawE n add.length s.c = 0 then drawO s.k s.v add n.toNat else []
theorem reseed_any (s : DS) (G : Nat) (ent add : List UInt8) (a b : Option Addr) (n c m d : Nat) (w : World) (hD : s.At w G) (hE : Txt w a n c ent) (hA : Txt w b m d add) (fE : Off a ent G) (fA : Off b add G) (hT : Two w) (h1 : G ≠ 0 ∧ G ≠ 1) :
    Calls Tryd.prog 61 #[.pointer (some ⟨G, 0, none⟩), .slice a n c, .slice b m d] w fun e w' => e = .returned (.int .i64 (mayE ent [add])) ∧ w.grownBy w' (some G) ∧ (s.reseed ent add).At w' G := by
  by_cases he : mayE ent [add] = 0
  · refine (reseed_walk s.k s.v s.c G ent add a b n c m d w hD.1 hE hA fE fA hT h1.1 h1.2 he).mono ?_
    rintro e w' ⟨rfl, hg, h⟩
    refine ⟨by rw [he], hg, ?_⟩
    unfold DS.reseed; rw [if_pos he]
    exact ⟨h, by show (0 : Int) ≤ 1; omega, by show (1 : Int) ≤ 1025; omega⟩
  · refine (reseed_err s.k s.v s.c G ent add a b n c m d w hD.1 hE hA he).mono ?_
    rintro e w' ⟨rfl, hb⟩
    refine ⟨rfl, grownBy_of_below hb, ?_⟩
    unfold DS.reseed; rw [if_neg he]
    exact hD.on hb
theorem draw_any (s : DS) (G : Nat) (add : List UInt8) (b : Option Addr) (n : Int) (m d : Nat) (w : World) (hD : s.At w G) (hA : Txt w b m d add) (fA : Off b add G) (hT : Two w) (h1 : G ≠ 0 ∧ G ≠ 1) :
    Calls Tryd.prog 63 #[.pointer (some ⟨G, 0, none⟩), .int .i64 n, .slice b m d] w fun e w' => ∃ a' n' c', e = .returned (.tuple #[.slice a' n' c', .int .i64 (drawE n add.length s.c)]) ∧ Txt w' a' n' c' (s.outs n add) ∧ (∀ b o, a' = some ⟨b, o, none⟩ → w.heap.size ≤ b) ∧ w.grownBy w' (some G) ∧ (s.next n add).At w' G := by
  by_cases he : drawE n add.length s.c = 0
  · have hn : 0 ≤ n ∧ s.c ≤ 1024 := by
      unfold drawE at he
      by_cases q1 : n < 0
      · rw [if_pos q1] at he; omega
      · rw [if_neg q1] at he
        by_cases q2 : 65536 < n ∨ 4096 < add.length
        · rw [if_pos q2] at he; omega
        · rw [if_neg q2] at he
          by_cases q3 : 1024 < s.c
          · rw [if_pos q3] at he; omega
          · omega
    obtain ⟨N, rfl⟩ : ∃ N : Nat, n = N := ⟨n.toNat, by omega⟩
    refine (draw_walk s.k s.v s.c G add b N m d w hD.1 hA fA hT h1.1 h1.2 hD.2.1 he).mono ?_
    rintro e w' ⟨a', c', rfl, ht, hf, hg, h⟩
    refine ⟨a', N, c', by rw [he], ?_, hf, hg, ?_⟩
    · unfold DS.outs; rw [if_pos he, Int.toNat_natCast]; exact ht
    · unfold DS.next; rw [if_pos he, Int.toNat_natCast]
      exact ⟨h, by have := hD.2.1; show (0 : Int) ≤ s.c + 1; omega, by show s.c + 1 ≤ (1025 : Int); omega⟩
  · have hl := hA.len
    refine (draw_err s.k s.v s.c G b n m d w hD.1 (by rw [hl]; exact he)).mono ?_
    rintro e w' ⟨rfl, rfl⟩
    refine ⟨none, 0, 0, by rw [hl], ?_, fun _ _ e => (by cases e), World.grownBy.refl _ _, ?_⟩
    · unfold DS.outs; rw [if_neg he]; exact Txt.nil _ 0
    · unfold DS.next; rw [if_neg he]; exact hD
theorem Txt.offG {w : World} {a : Option Addr} {n c G : Nat} {l : List UInt8} (h : Txt w a n c l) (hG : w.heap.size ≤ G) : Off a l G := fun b o e h0 => by have := h.old b o e h0; omega
theorem dnew_any (ent nonce person : List UInt8) (a b c0 : Option Addr) (n c m d p q : Nat) (w : World) (hE : Txt w a n c ent) (hN : Txt w b m d nonce) (hP : Txt w c0 p q person) (hT : Two w) (he : mayE ent [nonce, person] = 0) :
    Calls Tryd.prog 58 #[.slice a n c, .slice b m d, .slice c0 p q] w fun e w' => ∃ G, e = .returned (.tuple #[.pointer (some ⟨G, 0, none⟩), .int .i64 0]) ∧ w.heap.size ≤ G ∧ (DS.mk (updK z32 (ones 32) (ent ++ (nonce ++ person))) (updV z32 (ones 32) (ent ++ (nonce ++ person))) 1).At w' G ∧ Below w.heap.size w w' :=
  (dnew_walk ent nonce person a b c0 n c m d p q w hE hN hP hT he).mono fun e w' ⟨G, h1, h2, h3, h4⟩ => ⟨G, h1, h2, ⟨h3, by show (0 : Int) ≤ 1; omega, by show (1 : Int) ≤ 1025; omega⟩, h4⟩
end Go.Proofs.YtgbahfggnbpnmaaDoor
