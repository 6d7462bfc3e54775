/- tableauref20: Target, field, effect. -/
import Derived.Test.YtabpheanbomibaaGreatDoorVer3
import Derived.Test.YtabpheanbomibaaGreatDoorVerE
namespace Go.Proofs.YtabpheanbomibaaGreatDoor
open Go.RowKit
set_option linter.unusedVariables false

set_option maxRecDepth 100000 in
theorem target20_any (x : Ins) (w : World) : Calls Tryz.prog 41 #[.agg x.cells] w fun e w' => e = .returned (.int .i64 ((targetV x).getD (-1))) ∧ w.alloc (.cells x.cells 100) = w' := by
  obtain ⟨xa, xo, xA, xB, xC⟩ := x
  unfold targetV Ins.cells
  by_cases h30 : xo = 30
  · subst h30
    go_enter Tryz.func41, Tryz.ntmps41
    go_wp2
    go_ret
    exact ⟨rfl, rfl⟩
  by_cases h31 : xo = 31
  · subst h31
    go_enter Tryz.func41, Tryz.ntmps41
    go_wp2
    go_ret
    exact ⟨rfl, rfl⟩
  by_cases h33 : xo = 33
  · subst h33
    go_enter Tryz.func41, Tryz.ntmps41
    go_wp2
    go_ret
    exact ⟨rfl, rfl⟩
  by_cases h32 : xo = 32
  · subst h32
    go_enter Tryz.func41, Tryz.ntmps41
    go_wp2
    go_ret
    exact ⟨rfl, rfl⟩
  have b30 : (xo == 30) = false := by simpa using h30
  have b31 : (xo == 31) = false := by simpa using h31
  have b33 : (xo == 33) = false := by simpa using h33
  have b32 : (xo == 32) = false := by simpa using h32
  have e1 : (if xo = 30 ∨ xo = 31 ∨ xo = 33 then some xA else if xo = 32 then some xC else none) = none := by
    rw [if_neg (by omega), if_neg h32]
  simp only [e1]
  go_enter Tryz.func41, Tryz.ntmps41
  go_wp2
  go_ret
  exact ⟨rfl, rfl⟩
set_option maxRecDepth 100000 in
set_option maxHeartbeats 4000000 in
theorem field20_any (k : Int) (h0 : 0 ≤ k) (h1 : k ≤ 12) (w : World) : Calls Tryz.prog 122 #[.int .i64 k] w fun e w' => e = .returned (.tuple #[.int .i8 (fieldR k).1, .int .i8 (fieldR k).2]) ∧ w = w' := by
  have : k = 0 ∨ k = 1 ∨ k = 2 ∨ k = 3 ∨ k = 4 ∨ k = 5 ∨ k = 6 ∨ k = 7 ∨ k = 8 ∨ k = 9 ∨ k = 10 ∨ k = 11 ∨ k = 12 := by omega
  rcases this with rfl | rfl | rfl | rfl | rfl | rfl | rfl | rfl | rfl | rfl | rfl | rfl | rfl
  all_goals
    go_enter Tryz.func122, Tryz.ntmps122
    go_wp2
    go_ret2
    exact ⟨rfl, rfl⟩
set_option maxRecDepth 100000 in
set_option maxHeartbeats 4000000 in
theorem effect20_any (k : Int) (h0 : 0 ≤ k) (h1 : k ≤ 8) (w : World) : Calls Tryz.prog 123 #[.int .i64 k] w fun e w' => e = .returned (.slice (some ⟨w.heap.size, 0, none⟩) (effectR k).length (effectR k).length) ∧ w.alloc (.cells ((effectR k).map (Value.int .i8)).toArray 82) = w' := by
  have : k = 0 ∨ k = 1 ∨ k = 2 ∨ k = 3 ∨ k = 4 ∨ k = 5 ∨ k = 6 ∨ k = 7 ∨ k = 8 := by omega
  rcases this with rfl | rfl | rfl | rfl | rfl | rfl | rfl | rfl | rfl
  all_goals
    go_enter Tryz.func123, Tryz.ntmps123
    go_wp2
    go_ret
    exact ⟨rfl, rfl⟩
end Go.Proofs.YtabpheanbomibaaGreatDoor
