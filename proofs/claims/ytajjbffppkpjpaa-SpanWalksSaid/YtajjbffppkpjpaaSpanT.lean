import Derived.Test.YtajjbffppkpjpaaSpanW
import Derived.Shelf.SlSortCmp.WholeK
/-
  slices.SortFunc at ranges: the shelf's contract at this program (laid as plain text; the numbers are seat T's), and span.lower.
-/
namespace Go.Proofs.Ytajjbffppkpjpaa
open Go.Shelf
def sortRg_ren : Go.Shelf.Ren := ⟨fun | 6 => 111 | 15 => 120 | 14 => 119 | 28 => 129 | 29 => 130 | 20 => 121 | 21 => 122 | 22 => 123 | 23 => 124 | 24 => 125 | 25 => 126 | 26 => 127 | 27 => 128 | 46 => 131 | 47 => 132 | 48 => 133 | 49 => 134 | 50 => 135 | 57 => 136 | n => n, fun | 22 => 22 | 24 => 25 | 25 => 127 | 3 => 3 | 39 => 85 | 0 => 0 | 53 => 143 | 55 => 23 | 4 => 4 | 46 => 136 | 45 => 135 | 50 => 140 | 5 => 5 | 9 => 9 | 66 => 145 | 70 => 149 | 76 => 151 | 77 => 152 | n => n, fun | n => n⟩
theorem sortRg : Go.Proofs.SlLaysF0.n6 Try.prog sortRg_ren := {
  mixed := by kernel_rfl
  f6 := ⟨Try.f111.name, by decide, Try.func111.trans (congrArg some (by kernel_rfl))⟩
  f14 := ⟨Try.f119.name, by decide, Try.func119.trans (congrArg some (by kernel_rfl))⟩
  f15 := Try.func120.trans (congrArg some (by kernel_rfl))
  f20 := ⟨Try.f121.name, by decide, Try.func121.trans (congrArg some (by kernel_rfl))⟩
  f21 := ⟨Try.f122.name, by decide, Try.func122.trans (congrArg some (by kernel_rfl))⟩
  f22 := ⟨Try.f123.name, by decide, Try.func123.trans (congrArg some (by kernel_rfl))⟩
  f23 := ⟨Try.f124.name, by decide, Try.func124.trans (congrArg some (by kernel_rfl))⟩
  f24 := ⟨Try.f125.name, by decide, Try.func125.trans (congrArg some (by kernel_rfl))⟩
  f25 := ⟨Try.f126.name, by decide, Try.func126.trans (congrArg some (by kernel_rfl))⟩
  f26 := ⟨Try.f127.name, by decide, Try.func127.trans (congrArg some (by kernel_rfl))⟩
  f27 := ⟨Try.f128.name, by decide, Try.func128.trans (congrArg some (by kernel_rfl))⟩
  f28 := Try.func129.trans (congrArg some (by kernel_rfl))
  f29 := Try.func130.trans (congrArg some (by kernel_rfl))
  f46 := ⟨Try.f131.name, by decide, Try.func131.trans (congrArg some (by kernel_rfl))⟩
  f47 := Try.func132.trans (congrArg some (by kernel_rfl))
  f48 := Try.func133.trans (congrArg some (by kernel_rfl))
  f49 := ⟨Try.f134.name, by decide, Try.func134.trans (congrArg some (by kernel_rfl))⟩
  f50 := ⟨Try.f135.name, by decide, Try.func135.trans (congrArg some (by kernel_rfl))⟩
  f57 := ⟨Try.f136.name, by decide, Try.func136.trans (congrArg some (by kernel_rfl))⟩
  t0 := Try.underlying0
  a0 := Try.isAgg0
  z0 := Try.sizeOf0
  v0 := Try.zeroValue0
  t3 := Try.underlying3
  a3 := Try.isAgg3
  z3 := Try.sizeOf3
  v3 := Try.zeroValue3
  t4 := Try.underlying4
  a4 := Try.isAgg4
  z4 := Try.sizeOf4
  v4 := Try.zeroValue4
  t5 := Try.underlying5
  a5 := Try.isAgg5
  z5 := Try.sizeOf5
  v5 := Try.zeroValue5
  t9 := Try.underlying9
  a9 := Try.isAgg9
  z9 := Try.sizeOf9
  v9 := Try.zeroValue9
  t22 := Try.underlying22
  a22 := Try.isAgg22
  z22 := Try.sizeOf22
  v22 := Try.zeroValue22
  t25 := Try.underlying127
  a25 := Try.isAgg127
  z25 := Try.sizeOf127
  v25 := Try.zeroValue127
  t39 := Try.underlying85
  a39 := Try.isAgg85
  z39 := Try.sizeOf85
  v39 := Try.zeroValue85
  t45 := Try.underlying135
  a45 := Try.isAgg135
  z45 := Try.sizeOf135
  v45 := Try.zeroValue135
  t46 := Try.underlying136
  a46 := Try.isAgg136
  z46 := Try.sizeOf136
  v46 := Try.zeroValue136
  t50 := Try.underlying140
  a50 := Try.isAgg140
  z50 := Try.sizeOf140
  v50 := Try.zeroValue140
  t53 := Try.underlying143
  a53 := Try.isAgg143
  z53 := Try.sizeOf143
  v53 := Try.zeroValue143
  t55 := Try.underlying23
  a55 := Try.isAgg23
  z55 := Try.sizeOf23
  v55 := Try.zeroValue23
  t66 := Try.underlying145
  a66 := Try.isAgg145
  z66 := Try.sizeOf145
  v66 := Try.zeroValue145
  t70 := Try.underlying149
  a70 := Try.isAgg149
  z70 := Try.sizeOf149
  v70 := Try.zeroValue149
  t76 := Try.underlying151
  a76 := Try.isAgg151
  z76 := Try.sizeOf151
  v76 := Try.zeroValue151
  t77 := Try.underlying152
  a77 := Try.isAgg152
  z77 := Try.sizeOf152
  v77 := Try.zeroValue152 }
end Go.Proofs.Ytajjbffppkpjpaa
namespace Go.Proofs.Ytajjbffppkpjpaa
open Go.Shelf Go.RowKit Go.Lib Go.Sort
instance : Inhabited Rg := ⟨⟨0, 0⟩⟩
def lowC (x y : Rg) : Int := if x.lo < y.lo then -1 else if y.lo < x.lo then 1 else 0
theorem lowC_lt (x y : Rg) : ltOf lowC x y = decide (x.lo < y.lo) := by
  unfold ltOf lowC
  by_cases h1 : x.lo < y.lo
  · simp [h1]
  · by_cases h2 : y.lo < x.lo <;> simp [h1, h2]
theorem lowC_swo : SWO (ltOf lowC) where
  irrefl x := by rw [lowC_lt]; simp
  trans x y z h1 h2 := by rw [lowC_lt] at *; simp at *; omega
  ntrans x y z h1 h2 := by rw [lowC_lt] at *; simp at *; omega
set_option maxRecDepth 100000 in
theorem lower_walk (x y : Rg) (W : World) : Calls Try.prog 112 #[rag x, rag y] W fun e w' => e = .returned (.int .i64 (lowC x y)) ∧ ∃ q os', w' = grow (W.drewN q) os' := by
  by_cases h1 : x.lo < y.lo
  · rw [show lowC x y = -1 by unfold lowC; rw [if_pos h1]]
    have g1 : (x.lo : Int) < (y.lo : Int) := by omega
    go_enter Try.func112, Try.ntmps112
    go_wp2
    go_ret
    exact ⟨rfl, 0, _, by rw [alloc_eq_grow, alloc_eq_grow, grow_grow]; rfl⟩
  · by_cases h2 : y.lo < x.lo
    · rw [show lowC x y = 1 by unfold lowC; rw [if_neg h1, if_pos h2]]
      have g1 : ¬ (x.lo : Int) < (y.lo : Int) := by omega
      have g2 : (y.lo : Int) < (x.lo : Int) := by omega
      go_enter Try.func112, Try.ntmps112
      go_wp2
      go_ret
      exact ⟨rfl, 0, _, by rw [alloc_eq_grow, alloc_eq_grow, grow_grow]; rfl⟩
    · rw [show lowC x y = 0 by unfold lowC; rw [if_neg h1, if_neg h2]]
      have g1 : ¬ (x.lo : Int) < (y.lo : Int) := by omega
      have g2 : ¬ (y.lo : Int) < (x.lo : Int) := by omega
      go_enter Try.func112, Try.ntmps112
      go_wp2
      go_ret
      exact ⟨rfl, 0, _, by rw [alloc_eq_grow, alloc_eq_grow, grow_grow]; rfl⟩
theorem lower_lays (blk off size : Nat) (w : World) : CmpLays Try.prog 112 #[] rcl 2 lowC blk off size w :=
  fun _ _ _ _ x y => lower_walk x y _
end Go.Proofs.Ytajjbffppkpjpaa
