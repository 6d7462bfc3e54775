/- tableauref00: the bag's other lists are none: Bag.Apart. Written by gen_bag3.py. -/
import Derived.Handy
import Derived.Test.YtabpheanbomibaaGreatDoorBag2
namespace Go.Proofs.YtabpheanbomibaaGreatDoor
open Go.RowKit
set_option linter.unusedVariables false

section
variable (w : World) (gb : Nat) (v : Value)
set_option maxRecDepth 100000 in
set_option maxHeartbeats 2000000 in
theorem apartBytes_nil (hb : Blk w gb 66 (bagA v)) : Calls Tryz.prog 43 #[.pointer (some ⟨gb, 0, none⟩)] w fun e w' => e = .returned (.bool true) ∧ w = w' := by
  have c0 : w.cell? ⟨gb, 0, none⟩ = some (.slice none 0 0) := hb.cell 0
  clear hb
  go_enter Tryz.func43, Tryz.ntmps43
  go_wp2_with fail
  go_rounds 1
  go_rounds 1
  go_rounds 1
  go_ret
  exact ⟨rfl, rfl⟩
set_option maxRecDepth 100000 in
set_option maxHeartbeats 2000000 in
theorem apartInts_nil (hb : Blk w gb 66 (bagA v)) : Calls Tryz.prog 44 #[.pointer (some ⟨gb, 0, none⟩)] w fun e w' => e = .returned (.bool true) ∧ w = w' := by
  have c1 : w.cell? ⟨gb, 1, none⟩ = some (.slice none 0 0) := hb.cell 1
  clear hb
  go_enter Tryz.func44, Tryz.ntmps44
  go_wp2_with fail
  go_rounds 1
  go_rounds 1
  go_rounds 1
  go_ret
  exact ⟨rfl, rfl⟩
set_option maxRecDepth 100000 in
set_option maxHeartbeats 2000000 in
theorem apartLongs_nil (hb : Blk w gb 66 (bagA v)) : Calls Tryz.prog 45 #[.pointer (some ⟨gb, 0, none⟩)] w fun e w' => e = .returned (.bool true) ∧ w = w' := by
  have c2 : w.cell? ⟨gb, 2, none⟩ = some (.slice none 0 0) := hb.cell 2
  clear hb
  go_enter Tryz.func45, Tryz.ntmps45
  go_wp2_with fail
  go_rounds 1
  go_rounds 1
  go_rounds 1
  go_ret
  exact ⟨rfl, rfl⟩
set_option maxRecDepth 100000 in
set_option maxHeartbeats 2000000 in
theorem apartWords_nil (hb : Blk w gb 66 (bagA v)) : Calls Tryz.prog 46 #[.pointer (some ⟨gb, 0, none⟩)] w fun e w' => e = .returned (.bool true) ∧ w = w' := by
  have c3 : w.cell? ⟨gb, 3, none⟩ = some (.slice none 0 0) := hb.cell 3
  clear hb
  go_enter Tryz.func46, Tryz.ntmps46
  go_wp2_with fail
  go_rounds 1
  go_rounds 1
  go_rounds 1
  go_ret
  exact ⟨rfl, rfl⟩
set_option maxRecDepth 100000 in
set_option maxHeartbeats 2000000 in
theorem apartFloats_nil (hb : Blk w gb 66 (bagA v)) : Calls Tryz.prog 47 #[.pointer (some ⟨gb, 0, none⟩)] w fun e w' => e = .returned (.bool true) ∧ w = w' := by
  have c4 : w.cell? ⟨gb, 4, none⟩ = some (.slice none 0 0) := hb.cell 4
  clear hb
  go_enter Tryz.func47, Tryz.ntmps47
  go_wp2_with fail
  go_rounds 1
  go_rounds 1
  go_rounds 1
  go_ret
  exact ⟨rfl, rfl⟩
set_option maxRecDepth 100000 in
set_option maxHeartbeats 2000000 in
theorem apartTexts_nil (hb : Blk w gb 66 (bagA v)) : Calls Tryz.prog 49 #[.pointer (some ⟨gb, 0, none⟩)] w fun e w' => e = .returned (.bool true) ∧ w = w' := by
  have c6 : w.cell? ⟨gb, 6, none⟩ = some (.slice none 0 0) := hb.cell 6
  clear hb
  go_enter Tryz.func49, Tryz.ntmps49
  go_wp2_with fail
  go_rounds 1
  go_rounds 1
  go_rounds 1
  go_ret
  exact ⟨rfl, rfl⟩
set_option maxRecDepth 100000 in
set_option maxHeartbeats 2000000 in
theorem apartPlayers_nil (hb : Blk w gb 66 (bagA v)) : Calls Tryz.prog 50 #[.pointer (some ⟨gb, 0, none⟩)] w fun e w' => e = .returned (.bool true) ∧ w = w' := by
  have c7 : w.cell? ⟨gb, 7, none⟩ = some (.slice none 0 0) := hb.cell 7
  clear hb
  go_enter Tryz.func50, Tryz.ntmps50
  go_wp2_with fail
  go_rounds 1
  go_rounds 1
  go_rounds 1
  go_ret
  exact ⟨rfl, rfl⟩
set_option maxRecDepth 100000 in
set_option maxHeartbeats 2000000 in
theorem apartCards_nil (hb : Blk w gb 66 (bagA v)) : Calls Tryz.prog 51 #[.pointer (some ⟨gb, 0, none⟩)] w fun e w' => e = .returned (.bool true) ∧ w = w' := by
  have c8 : w.cell? ⟨gb, 8, none⟩ = some (.slice none 0 0) := hb.cell 8
  clear hb
  go_enter Tryz.func51, Tryz.ntmps51
  go_wp2_with fail
  go_rounds 1
  go_rounds 1
  go_rounds 1
  go_ret
  exact ⟨rfl, rfl⟩
set_option maxRecDepth 100000 in
set_option maxHeartbeats 2000000 in
theorem apartTokens_nil (hb : Blk w gb 66 (bagA v)) : Calls Tryz.prog 52 #[.pointer (some ⟨gb, 0, none⟩)] w fun e w' => e = .returned (.bool true) ∧ w = w' := by
  have c9 : w.cell? ⟨gb, 9, none⟩ = some (.slice none 0 0) := hb.cell 9
  clear hb
  go_enter Tryz.func52, Tryz.ntmps52
  go_wp2_with fail
  go_rounds 1
  go_rounds 1
  go_rounds 1
  go_ret
  exact ⟨rfl, rfl⟩
set_option maxRecDepth 100000 in
set_option maxHeartbeats 2000000 in
theorem apartNodes_nil (hb : Blk w gb 66 (bagA v)) : Calls Tryz.prog 53 #[.pointer (some ⟨gb, 0, none⟩)] w fun e w' => e = .returned (.bool true) ∧ w = w' := by
  have c10 : w.cell? ⟨gb, 10, none⟩ = some (.slice none 0 0) := hb.cell 10
  clear hb
  go_enter Tryz.func53, Tryz.ntmps53
  go_wp2_with fail
  go_rounds 1
  go_rounds 1
  go_rounds 1
  go_ret
  exact ⟨rfl, rfl⟩
set_option maxRecDepth 100000 in
set_option maxHeartbeats 2000000 in
theorem apartInstrs_nil (hb : Blk w gb 66 (bagA v)) : Calls Tryz.prog 54 #[.pointer (some ⟨gb, 0, none⟩)] w fun e w' => e = .returned (.bool true) ∧ w = w' := by
  have c11 : w.cell? ⟨gb, 11, none⟩ = some (.slice none 0 0) := hb.cell 11
  clear hb
  go_enter Tryz.func54, Tryz.ntmps54
  go_wp2_with fail
  go_rounds 1
  go_rounds 1
  go_rounds 1
  go_ret
  exact ⟨rfl, rfl⟩
set_option maxRecDepth 100000 in
set_option maxHeartbeats 2000000 in
theorem apartRows_nil (hb : Blk w gb 66 (bagA v)) : Calls Tryz.prog 55 #[.pointer (some ⟨gb, 0, none⟩)] w fun e w' => e = .returned (.bool true) ∧ w = w' := by
  have c12 : w.cell? ⟨gb, 12, none⟩ = some (.slice none 0 0) := hb.cell 12
  clear hb
  go_enter Tryz.func55, Tryz.ntmps55
  go_wp2_with fail
  go_rounds 1
  go_rounds 1
  go_rounds 1
  go_ret
  exact ⟨rfl, rfl⟩
set_option maxRecDepth 100000 in
set_option maxHeartbeats 2000000 in
theorem apartShapes_nil (hb : Blk w gb 66 (bagA v)) : Calls Tryz.prog 56 #[.pointer (some ⟨gb, 0, none⟩)] w fun e w' => e = .returned (.bool true) ∧ w = w' := by
  have c13 : w.cell? ⟨gb, 13, none⟩ = some (.slice none 0 0) := hb.cell 13
  clear hb
  go_enter Tryz.func56, Tryz.ntmps56
  go_wp2_with fail
  go_rounds 1
  go_rounds 1
  go_rounds 1
  go_ret
  exact ⟨rfl, rfl⟩
set_option maxRecDepth 100000 in
set_option maxHeartbeats 2000000 in
theorem apartEvents_nil (hb : Blk w gb 66 (bagA v)) : Calls Tryz.prog 57 #[.pointer (some ⟨gb, 0, none⟩)] w fun e w' => e = .returned (.bool true) ∧ w = w' := by
  have c14 : w.cell? ⟨gb, 14, none⟩ = some (.slice none 0 0) := hb.cell 14
  clear hb
  go_enter Tryz.func57, Tryz.ntmps57
  go_wp2_with fail
  go_rounds 1
  go_rounds 1
  go_rounds 1
  go_ret
  exact ⟨rfl, rfl⟩
set_option maxRecDepth 100000 in
set_option maxHeartbeats 2000000 in
theorem apartValues_nil (hb : Blk w gb 66 (bagA v)) : Calls Tryz.prog 58 #[.pointer (some ⟨gb, 0, none⟩)] w fun e w' => e = .returned (.bool true) ∧ w = w' := by
  have c15 : w.cell? ⟨gb, 15, none⟩ = some (.slice none 0 0) := hb.cell 15
  clear hb
  go_enter Tryz.func58, Tryz.ntmps58
  go_wp2_with fail
  go_rounds 1
  go_rounds 1
  go_rounds 1
  go_ret
  exact ⟨rfl, rfl⟩
set_option maxRecDepth 100000 in
set_option maxHeartbeats 2000000 in
theorem apartAbilities_nil (hb : Blk w gb 66 (bagA v)) : Calls Tryz.prog 59 #[.pointer (some ⟨gb, 0, none⟩)] w fun e w' => e = .returned (.bool true) ∧ w = w' := by
  have c16 : w.cell? ⟨gb, 16, none⟩ = some (.slice none 0 0) := hb.cell 16
  clear hb
  go_enter Tryz.func59, Tryz.ntmps59
  go_wp2_with fail
  go_rounds 1
  go_rounds 1
  go_rounds 1
  go_ret
  exact ⟨rfl, rfl⟩
set_option maxRecDepth 100000 in
set_option maxHeartbeats 2000000 in
theorem apartDesigns_nil (hb : Blk w gb 66 (bagA v)) : Calls Tryz.prog 60 #[.pointer (some ⟨gb, 0, none⟩)] w fun e w' => e = .returned (.bool true) ∧ w = w' := by
  have c17 : w.cell? ⟨gb, 17, none⟩ = some (.slice none 0 0) := hb.cell 17
  clear hb
  go_enter Tryz.func60, Tryz.ntmps60
  go_wp2_with fail
  go_rounds 1
  go_rounds 1
  go_rounds 1
  go_ret
  exact ⟨rfl, rfl⟩
set_option maxRecDepth 100000 in
set_option maxHeartbeats 2000000 in
theorem apartEffects_nil (hb : Blk w gb 66 (bagA v)) : Calls Tryz.prog 61 #[.pointer (some ⟨gb, 0, none⟩)] w fun e w' => e = .returned (.bool true) ∧ w = w' := by
  have c18 : w.cell? ⟨gb, 18, none⟩ = some (.slice none 0 0) := hb.cell 18
  clear hb
  go_enter Tryz.func61, Tryz.ntmps61
  go_wp2_with fail
  go_rounds 1
  go_rounds 1
  go_rounds 1
  go_ret
  exact ⟨rfl, rfl⟩
set_option maxRecDepth 100000 in
set_option maxHeartbeats 2000000 in
theorem apartKinds_nil (hb : Blk w gb 66 (bagA v)) : Calls Tryz.prog 62 #[.pointer (some ⟨gb, 0, none⟩)] w fun e w' => e = .returned (.bool true) ∧ w = w' := by
  have c19 : w.cell? ⟨gb, 19, none⟩ = some (.slice none 0 0) := hb.cell 19
  clear hb
  go_enter Tryz.func62, Tryz.ntmps62
  go_wp2_with fail
  go_rounds 1
  go_rounds 1
  go_rounds 1
  go_ret
  exact ⟨rfl, rfl⟩
set_option maxRecDepth 100000 in
set_option maxHeartbeats 2000000 in
theorem apartStates_nil (hb : Blk w gb 66 (bagA v)) : Calls Tryz.prog 63 #[.pointer (some ⟨gb, 0, none⟩)] w fun e w' => e = .returned (.bool true) ∧ w = w' := by
  have c20 : w.cell? ⟨gb, 20, none⟩ = some (.slice none 0 0) := hb.cell 20
  clear hb
  go_enter Tryz.func63, Tryz.ntmps63
  go_wp2_with fail
  go_rounds 1
  go_rounds 1
  go_rounds 1
  go_ret
  exact ⟨rfl, rfl⟩
set_option maxRecDepth 100000 in
set_option maxHeartbeats 4000000 in
theorem apart_any (C N rc : Nat) (A : Option Addr) (L : List Lst) (hb : Blk w gb 66 (bagA (.slice A N rc))) (ho : w.ownsRow C 23 1 (.slice A N rc) N (lstVals L)) (hN : L.length = N) (hN4 : N ≤ 400) (hC : C ≤ w.heap.size) (hLn : ∀ x ∈ L, x.n ≤ 16777216) (hlone : LoneL L) (hown : ∀ (k : Nat) (x : Lst), L[k]? = some x → ∃ xs, Own8 w C x xs) :
    Calls Tryz.prog 17 #[.pointer (some ⟨gb, 0, none⟩)] w fun e w' => e = .returned (.bool true) ∧ Frm C [82] w w' := by
  have hsm := apartSmalls_any w C gb N rc A L hb ho hN hN4 hC hLn hlone hown
  have HB := Lib.hid hb
  have HSM := Lib.hid hsm
  clear hb ho hlone hown hLn hsm hN
  go_enter Tryz.func17, Tryz.ntmps17
  go_wp2_with fail
  refine (apartBytes_nil _ gb _ HB.out).mono ?_
  rintro e w9 ⟨rfl, rfl⟩
  go_wp2_with fail
  refine (apartInts_nil _ gb _ HB.out).mono ?_
  rintro e w9 ⟨rfl, rfl⟩
  go_wp2_with fail
  refine (apartLongs_nil _ gb _ HB.out).mono ?_
  rintro e w9 ⟨rfl, rfl⟩
  go_wp2_with fail
  refine (apartWords_nil _ gb _ HB.out).mono ?_
  rintro e w9 ⟨rfl, rfl⟩
  go_wp2_with fail
  refine (apartFloats_nil _ gb _ HB.out).mono ?_
  rintro e w9 ⟨rfl, rfl⟩
  go_wp2_with fail
  refine HSM.out.mono ?_
  rintro e w1 ⟨rfl, hf⟩
  have HF := Lib.hid hf
  have HB1 := Lib.hid (hf.blk HB.out (by decide))
  clear hf
  go_wp2_with fail
  refine (apartTexts_nil _ gb _ HB1.out).mono ?_
  rintro e w9 ⟨rfl, rfl⟩
  go_wp2_with fail
  refine (apartPlayers_nil _ gb _ HB1.out).mono ?_
  rintro e w9 ⟨rfl, rfl⟩
  go_wp2_with fail
  refine (apartCards_nil _ gb _ HB1.out).mono ?_
  rintro e w9 ⟨rfl, rfl⟩
  go_wp2_with fail
  refine (apartTokens_nil _ gb _ HB1.out).mono ?_
  rintro e w9 ⟨rfl, rfl⟩
  go_wp2_with fail
  refine (apartNodes_nil _ gb _ HB1.out).mono ?_
  rintro e w9 ⟨rfl, rfl⟩
  go_wp2_with fail
  refine (apartInstrs_nil _ gb _ HB1.out).mono ?_
  rintro e w9 ⟨rfl, rfl⟩
  go_wp2_with fail
  refine (apartRows_nil _ gb _ HB1.out).mono ?_
  rintro e w9 ⟨rfl, rfl⟩
  go_wp2_with fail
  refine (apartShapes_nil _ gb _ HB1.out).mono ?_
  rintro e w9 ⟨rfl, rfl⟩
  go_wp2_with fail
  refine (apartEvents_nil _ gb _ HB1.out).mono ?_
  rintro e w9 ⟨rfl, rfl⟩
  go_wp2_with fail
  refine (apartValues_nil _ gb _ HB1.out).mono ?_
  rintro e w9 ⟨rfl, rfl⟩
  go_wp2_with fail
  refine (apartAbilities_nil _ gb _ HB1.out).mono ?_
  rintro e w9 ⟨rfl, rfl⟩
  go_wp2_with fail
  refine (apartDesigns_nil _ gb _ HB1.out).mono ?_
  rintro e w9 ⟨rfl, rfl⟩
  go_wp2_with fail
  refine (apartEffects_nil _ gb _ HB1.out).mono ?_
  rintro e w9 ⟨rfl, rfl⟩
  go_wp2_with fail
  refine (apartKinds_nil _ gb _ HB1.out).mono ?_
  rintro e w9 ⟨rfl, rfl⟩
  go_wp2_with fail
  refine (apartStates_nil _ gb _ HB1.out).mono ?_
  rintro e w9 ⟨rfl, rfl⟩
  go_wp2_with fail
  go_ret
  exact ⟨rfl, HF.out⟩
end
end Go.Proofs.YtabpheanbomibaaGreatDoor
