/- tableaulaw20: beyond; two faults compared. -/
import Derived.Laws.StructEq
import Derived.Test.YtabpheanbomibaaGreatDoorBits
namespace Go.Proofs.YtabpheanbomibaaGreatDoor
open Go.RowKit
set_option linter.unusedVariables false

theorem eq_fault (a b c d p q r s : Int) (w : World) : (Op.equalIn 10000 32 (.agg #[.int .i64 a, .int .i64 b, .int .i64 c, .int .i64 d]) (.agg #[.int .i64 p, .int .i64 q, .int .i64 r, .int .i64 s])).run Tryz.prog w = .ok (a == p && (b == q && (c == r && d == s))) w := by
  have hS : Tryz.prog.underlying 32 = some (.struct (Tryz.prog.fieldsOf 32)) := by kernel_rfl
  have hp : Tryz.prog.stoodInHeld 32 = false := by kernel_rfl
  rw [show (10000 : Nat) = 9999 + 1 from rfl, run_equalIn_agg w 9999 32 _ _ hS hp]
  simp only [Program.fieldsOf, Tryz.underlying32]
  go_simp
  by_cases h1 : a = p <;> by_cases h2 : b = q <;> by_cases h3 : c = r <;> by_cases h4 : d = s <;> simp [h1, h2, h3, h4]
theorem neq_fault (a b c d p q r s : Int) (w : World) : (binOp .neq 32 (.agg #[.int .i64 a, .int .i64 b, .int .i64 c, .int .i64 d]) (.agg #[.int .i64 p, .int .i64 q, .int .i64 r, .int .i64 s])).run Tryz.prog w = .ok (.bool (!(a == p && (b == q && (c == r && d == s))))) w := by
  rw [run_neq_struct, eq_fault]
  rfl
theorem beyond20_any (BA SA : Option Addr) (nb bc ns sc : Nat) (ints texts : Int) (w : World) : Calls Tryz.prog 5 #[.agg #[.slice BA nb bc, .slice SA ns sc, .int .i64 ints, .int .i64 texts]] w fun e w' => e = .returned (.bool (decide ((16777216 : Int) < nb) || decide ((16777216 : Int) < ns))) ∧ Below w.heap.size w w' := by
  have hb : Below w.heap.size w (w.alloc (.cells #[.slice BA nb bc, .slice SA ns sc, .int .i64 ints, .int .i64 texts] 25)) := (Below.refl _ _).alloc (Nat.le_refl _) _
  have HB := Lib.hid hb
  clear hb
  obtain ⟨q1, h1⟩ : ∃ q, decide ((16777216 : Int) < nb) = q := ⟨_, rfl⟩
  obtain ⟨q2, h2⟩ : ∃ q, decide ((16777216 : Int) < ns) = q := ⟨_, rfl⟩
  rw [h1, h2]
  have l1 := fun w => long_any nb w
  have l2 := fun w => long_any ns w
  simp only [h1] at l1
  simp only [h2] at l2
  have HL1 := Lib.hid l1
  have HL2 := Lib.hid l2
  clear l1 l2 h1 h2
  go_enter Tryz.func5, Tryz.ntmps5
  go_wp2_with fail
  refine (HL1.out _).mono ?_
  rintro e w1 ⟨rfl, rfl⟩
  cases q1 with
  | true =>
    go_wp2_with fail
    go_ret
    exact ⟨rfl, HB.out⟩
  | false =>
    go_wp2_with fail
    refine (HL2.out _).mono ?_
    rintro e w1 ⟨rfl, rfl⟩
    go_wp2_with fail
    go_ret
    exact ⟨rfl, HB.out⟩
end Go.Proofs.YtabpheanbomibaaGreatDoor
