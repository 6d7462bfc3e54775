/- rows.NewHeap[int]; verify.Code's parts. -/
import Derived.Test.YtabpheanbomibaaGreatDoorVer9
namespace Go.Proofs.YtabpheanbomibaaGreatDoor
open Go.RowKit
set_option linter.unusedVariables false

theorem newheap_any (w : World) : Calls Tryz.prog 28 #[.func (.func 29) #[] #[]] w fun e w' => e = .returned (.pointer (some ⟨w.heap.size, 0, none⟩)) ∧ w.alloc (.cells #[.func (.func 29) #[] #[], .slice none 0 0, .int .i64 0] 140) = w' := by
  go_enter Tryz.func28, Tryz.ntmps28
  go_wp2
  go_ret
  exact ⟨rfl, rfl⟩
theorem byat_any (a b : Int) (v u : Value) (w : World) (ha : 0 ≤ a ∧ a ≤ 100000) (hb : 0 ≤ b ∧ b ≤ 100000) : Calls Tryz.prog 35 #[.agg #[.int .i64 a, v], .agg #[.int .i64 b, u]] w fun e w' => e = .returned (.int .i64 (a - b)) ∧ Below w.heap.size w w' := by
  obtain ⟨ha0, ha1⟩ := ha
  obtain ⟨hb0, hb1⟩ := hb
  have hw : IntKind.i64.wrap (a - b) = a - b := by rw [IntKind.wrap_i64]; omega
  have hbl : Below w.heap.size w ((w.alloc (.cells #[.int .i64 a, v] 69)).alloc (.cells #[.int .i64 b, u] 69)) := ((Below.refl _ _).alloc (Nat.le_refl _) _).alloc (by simp) _
  have HBL := Lib.hid hbl
  clear hbl
  go_enter Tryz.func35, Tryz.ntmps35
  go_wp2_with fail
  go_ret
  exact ⟨rfl, HBL.out⟩
end Go.Proofs.YtabpheanbomibaaGreatDoor
