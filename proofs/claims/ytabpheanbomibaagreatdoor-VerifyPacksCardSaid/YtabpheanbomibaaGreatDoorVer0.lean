/- verify: at, target, limits. -/
import Derived.Test.YtabpheanbomibaaGreatDoorAll
import Derived.Test.YtabpheanbomibaaGreatDoorBits
import Derived.Test.YtabpheanbomibaaGreatDoorHeap2
namespace Go.Proofs.YtabpheanbomibaaGreatDoor
open Go.RowKit
set_option linter.unusedVariables false

theorem vat_any (e o : Int) (w : World) : Calls Tryz.prog 81 #[.int .i64 e, .int .i64 o] w fun r w' => r = .returned (.pointer (some ⟨w.heap.size, 0, none⟩)) ∧ w.alloc (.cells #[.int .i64 e, .int .i64 o, .int .i64 0, .int .i64 0] 102) = w' := by
  go_enter Tryz.func81, Tryz.ntmps81
  go_wp2
  go_ret
  exact ⟨rfl, rfl⟩
set_option maxRecDepth 100000 in
theorem target_any (x : Ins) (w : World) : Calls Tryz.prog 82 #[.agg x.cells] w fun e w' => e = .returned (.tuple #[.int .i64 ((targetV x).getD 0), .bool (targetV x).isSome]) ∧ w.alloc (.cells x.cells 100) = w' := by
  obtain ⟨xa, xo, xA, xB, xC⟩ := x
  unfold targetV Ins.cells
  by_cases h30 : xo = 30
  · subst h30
    go_enter Tryz.func82, Tryz.ntmps82
    go_wp2
    go_ret2
    exact ⟨rfl, rfl⟩
  by_cases h31 : xo = 31
  · subst h31
    go_enter Tryz.func82, Tryz.ntmps82
    go_wp2
    go_ret2
    exact ⟨rfl, rfl⟩
  by_cases h33 : xo = 33
  · subst h33
    go_enter Tryz.func82, Tryz.ntmps82
    go_wp2
    go_ret2
    exact ⟨rfl, rfl⟩
  by_cases h32 : xo = 32
  · subst h32
    go_enter Tryz.func82, Tryz.ntmps82
    go_wp2
    go_ret2
    exact ⟨rfl, rfl⟩
  have b30 : (xo == 30) = false := by simpa using h30
  have b31 : (xo == 31) = false := by simpa using h31
  have b33 : (xo == 33) = false := by simpa using h33
  have b32 : (xo == 32) = false := by simpa using h32
  have e1 : (if xo = 30 ∨ xo = 31 ∨ xo = 33 then some xA else if xo = 32 then some xC else none) = none := by
    rw [if_neg (by omega), if_neg h32]
  simp only [e1]
  go_enter Tryz.func82, Tryz.ntmps82
  go_wp2
  go_ret2
  exact ⟨rfl, rfl⟩
theorem badK_any (k : Int) (w : World) : Calls Tryz.prog 77 #[.int .i8 k] w fun e w' => e = .returned (.bool (decide (k < 1) || decide (6 < k))) ∧ w = w' := by
  by_cases h1 : k < 1
  · have hb : decide (k < 1) = true := by simpa using h1
    go_enter Tryz.func77, Tryz.ntmps77
    go_wp2
    go_ret
    exact ⟨by simp [h1], rfl⟩
  · have hb : decide (k < 1) = false := by simpa using h1
    go_enter Tryz.func77, Tryz.ntmps77
    go_wp2
    go_ret
    all_goals exact ⟨by simp, rfl⟩
end Go.Proofs.YtabpheanbomibaaGreatDoor
