/- tableauref20.Takes. verify.Code's loop takes the offsets in rising order: it is the loop that asks for the least one each time. No program in sight. verify.Code is the code that asks for the least offset each time (the document's way). No program in sight. tableauref20: what has been found so far, in memory. tableauref20.Code, in plain steps: the scan, the jumps, the look's rounds, the shapes. No program in sight. -/
import Derived.Test.YtabpheanbomibaaGreatDoorAll
import Derived.Test.YtabpheanbomibaaGreatDoorCopyV
import Derived.Test.YtabpheanbomibaaGreatDoorEqS
import Derived.Test.YtabpheanbomibaaGreatDoorHeap0
import Derived.Test.YtabpheanbomibaaGreatDoorR20a
import Derived.Test.YtabpheanbomibaaGreatDoorVer3
import Derived.Test.YtabpheanbomibaaGreatDoorVer5
import Derived.Test.YtabpheanbomibaaGreatDoorVer7
namespace Go.Proofs.YtabpheanbomibaaGreatDoor
open Go.RowKit
set_option linter.unusedVariables false

section
variable (w : World) (xa xA xB xC : Int) (SA : Option Addr) (ns sc : Nat)
set_option maxRecDepth 100000 in
set_option maxHeartbeats 2000000 in
theorem takes20_1 : Calls Tryz.prog 93 #[.agg #[.int .i64 xa, .int .u8 1, .int .i64 xA, .int .i64 xB, .int .i64 xC], .slice SA ns sc] w fun e w' => TakesOk w w' e ([], [1]) := by
  go_enter Tryz.func93, Tryz.ntmps93
  go_wp2_with fail
  go_ret2
  exact takes_ns w _ [1] 1 rfl
set_option maxRecDepth 100000 in
set_option maxHeartbeats 2000000 in
theorem takes20_2 : Calls Tryz.prog 93 #[.agg #[.int .i64 xa, .int .u8 2, .int .i64 xA, .int .i64 xB, .int .i64 xC], .slice SA ns sc] w fun e w' => TakesOk w w' e ([], [2]) := by
  go_enter Tryz.func93, Tryz.ntmps93
  go_wp2_with fail
  go_ret2
  exact takes_ns w _ [2] 1 rfl
set_option maxRecDepth 100000 in
set_option maxHeartbeats 2000000 in
theorem takes20_3 : Calls Tryz.prog 93 #[.agg #[.int .i64 xa, .int .u8 3, .int .i64 xA, .int .i64 xB, .int .i64 xC], .slice SA ns sc] w fun e w' => TakesOk w w' e ([], [2]) := by
  go_enter Tryz.func93, Tryz.ntmps93
  go_wp2_with fail
  go_ret2
  exact takes_ns w _ [2] 1 rfl
set_option maxRecDepth 100000 in
set_option maxHeartbeats 2000000 in
theorem takes20_10 : Calls Tryz.prog 93 #[.agg #[.int .i64 xa, .int .u8 10, .int .i64 xA, .int .i64 xB, .int .i64 xC], .slice SA ns sc] w fun e w' => TakesOk w w' e ([1, 1], [1]) := by
  go_enter Tryz.func93, Tryz.ntmps93
  go_wp2_with fail
  go_ret2
  exact takes_ss w _ [1, 1] [1] 2 1 rfl rfl
set_option maxRecDepth 100000 in
set_option maxHeartbeats 2000000 in
theorem takes20_11 : Calls Tryz.prog 93 #[.agg #[.int .i64 xa, .int .u8 11, .int .i64 xA, .int .i64 xB, .int .i64 xC], .slice SA ns sc] w fun e w' => TakesOk w w' e ([1, 1], [1]) := by
  go_enter Tryz.func93, Tryz.ntmps93
  go_wp2_with fail
  go_ret2
  exact takes_ss w _ [1, 1] [1] 2 1 rfl rfl
set_option maxRecDepth 100000 in
set_option maxHeartbeats 2000000 in
theorem takes20_12 : Calls Tryz.prog 93 #[.agg #[.int .i64 xa, .int .u8 12, .int .i64 xA, .int .i64 xB, .int .i64 xC], .slice SA ns sc] w fun e w' => TakesOk w w' e ([1, 1], [1]) := by
  go_enter Tryz.func93, Tryz.ntmps93
  go_wp2_with fail
  go_ret2
  exact takes_ss w _ [1, 1] [1] 2 1 rfl rfl
set_option maxRecDepth 100000 in
set_option maxHeartbeats 2000000 in
theorem takes20_13 : Calls Tryz.prog 93 #[.agg #[.int .i64 xa, .int .u8 13, .int .i64 xA, .int .i64 xB, .int .i64 xC], .slice SA ns sc] w fun e w' => TakesOk w w' e ([1, 1], [1]) := by
  go_enter Tryz.func93, Tryz.ntmps93
  go_wp2_with fail
  go_ret2
  exact takes_ss w _ [1, 1] [1] 2 1 rfl rfl
set_option maxRecDepth 100000 in
set_option maxHeartbeats 2000000 in
theorem takes20_14 : Calls Tryz.prog 93 #[.agg #[.int .i64 xa, .int .u8 14, .int .i64 xA, .int .i64 xB, .int .i64 xC], .slice SA ns sc] w fun e w' => TakesOk w w' e ([1, 1], [1]) := by
  go_enter Tryz.func93, Tryz.ntmps93
  go_wp2_with fail
  go_ret2
  exact takes_ss w _ [1, 1] [1] 2 1 rfl rfl
set_option maxRecDepth 100000 in
set_option maxHeartbeats 2000000 in
theorem takes20_15 : Calls Tryz.prog 93 #[.agg #[.int .i64 xa, .int .u8 15, .int .i64 xA, .int .i64 xB, .int .i64 xC], .slice SA ns sc] w fun e w' => TakesOk w w' e ([1], [1]) := by
  go_enter Tryz.func93, Tryz.ntmps93
  go_wp2_with fail
  go_ret2
  exact takes_ss w _ [1] [1] 1 1 rfl rfl
set_option maxRecDepth 100000 in
set_option maxHeartbeats 2000000 in
theorem takes20_16 : Calls Tryz.prog 93 #[.agg #[.int .i64 xa, .int .u8 16, .int .i64 xA, .int .i64 xB, .int .i64 xC], .slice SA ns sc] w fun e w' => TakesOk w w' e ([1], [1]) := by
  go_enter Tryz.func93, Tryz.ntmps93
  go_wp2_with fail
  go_ret2
  exact takes_ss w _ [1] [1] 1 1 rfl rfl
set_option maxRecDepth 100000 in
set_option maxHeartbeats 2000000 in
theorem takes20_17 : Calls Tryz.prog 93 #[.agg #[.int .i64 xa, .int .u8 17, .int .i64 xA, .int .i64 xB, .int .i64 xC], .slice SA ns sc] w fun e w' => TakesOk w w' e ([1, 1], [1]) := by
  go_enter Tryz.func93, Tryz.ntmps93
  go_wp2_with fail
  go_ret2
  exact takes_ss w _ [1, 1] [1] 2 1 rfl rfl
set_option maxRecDepth 100000 in
set_option maxHeartbeats 2000000 in
theorem takes20_18 : Calls Tryz.prog 93 #[.agg #[.int .i64 xa, .int .u8 18, .int .i64 xA, .int .i64 xB, .int .i64 xC], .slice SA ns sc] w fun e w' => TakesOk w w' e ([1, 1], [1]) := by
  go_enter Tryz.func93, Tryz.ntmps93
  go_wp2_with fail
  go_ret2
  exact takes_ss w _ [1, 1] [1] 2 1 rfl rfl
set_option maxRecDepth 100000 in
set_option maxHeartbeats 2000000 in
theorem takes20_19 : Calls Tryz.prog 93 #[.agg #[.int .i64 xa, .int .u8 19, .int .i64 xA, .int .i64 xB, .int .i64 xC], .slice SA ns sc] w fun e w' => TakesOk w w' e ([1, 1], [2]) := by
  go_enter Tryz.func93, Tryz.ntmps93
  go_wp2_with fail
  go_ret2
  exact takes_ss w _ [1, 1] [2] 2 1 rfl rfl
set_option maxRecDepth 100000 in
set_option maxHeartbeats 2000000 in
theorem takes20_20 : Calls Tryz.prog 93 #[.agg #[.int .i64 xa, .int .u8 20, .int .i64 xA, .int .i64 xB, .int .i64 xC], .slice SA ns sc] w fun e w' => TakesOk w w' e ([1, 1], [2]) := by
  go_enter Tryz.func93, Tryz.ntmps93
  go_wp2_with fail
  go_ret2
  exact takes_ss w _ [1, 1] [2] 2 1 rfl rfl
set_option maxRecDepth 100000 in
set_option maxHeartbeats 2000000 in
theorem takes20_21 : Calls Tryz.prog 93 #[.agg #[.int .i64 xa, .int .u8 21, .int .i64 xA, .int .i64 xB, .int .i64 xC], .slice SA ns sc] w fun e w' => TakesOk w w' e ([1, 1], [2]) := by
  go_enter Tryz.func93, Tryz.ntmps93
  go_wp2_with fail
  go_ret2
  exact takes_ss w _ [1, 1] [2] 2 1 rfl rfl
set_option maxRecDepth 100000 in
set_option maxHeartbeats 2000000 in
theorem takes20_22 : Calls Tryz.prog 93 #[.agg #[.int .i64 xa, .int .u8 22, .int .i64 xA, .int .i64 xB, .int .i64 xC], .slice SA ns sc] w fun e w' => TakesOk w w' e ([1, 1], [2]) := by
  go_enter Tryz.func93, Tryz.ntmps93
  go_wp2_with fail
  go_ret2
  exact takes_ss w _ [1, 1] [2] 2 1 rfl rfl
set_option maxRecDepth 100000 in
set_option maxHeartbeats 2000000 in
theorem takes20_23 : Calls Tryz.prog 93 #[.agg #[.int .i64 xa, .int .u8 23, .int .i64 xA, .int .i64 xB, .int .i64 xC], .slice SA ns sc] w fun e w' => TakesOk w w' e ([2], [2]) := by
  go_enter Tryz.func93, Tryz.ntmps93
  go_wp2_with fail
  go_ret2
  exact takes_ss w _ [2] [2] 1 1 rfl rfl
set_option maxRecDepth 100000 in
set_option maxHeartbeats 2000000 in
theorem takes20_31 : Calls Tryz.prog 93 #[.agg #[.int .i64 xa, .int .u8 31, .int .i64 xA, .int .i64 xB, .int .i64 xC], .slice SA ns sc] w fun e w' => TakesOk w w' e ([2], []) := by
  go_enter Tryz.func93, Tryz.ntmps93
  go_wp2_with fail
  go_ret2
  exact takes_sn w _ [2] 1 rfl
set_option maxRecDepth 100000 in
set_option maxHeartbeats 2000000 in
theorem takes20_32 : Calls Tryz.prog 93 #[.agg #[.int .i64 xa, .int .u8 32, .int .i64 xA, .int .i64 xB, .int .i64 xC], .slice SA ns sc] w fun e w' => TakesOk w w' e ([], [3]) := by
  go_enter Tryz.func93, Tryz.ntmps93
  go_wp2_with fail
  go_ret2
  exact takes_ns w _ [3] 1 rfl
set_option maxRecDepth 100000 in
set_option maxHeartbeats 2000000 in
theorem takes20_33 : Calls Tryz.prog 93 #[.agg #[.int .i64 xa, .int .u8 33, .int .i64 xA, .int .i64 xB, .int .i64 xC], .slice SA ns sc] w fun e w' => TakesOk w w' e ([6], [3]) := by
  go_enter Tryz.func93, Tryz.ntmps93
  go_wp2_with fail
  go_ret2
  exact takes_ss w _ [6] [3] 1 1 rfl rfl
set_option maxRecDepth 100000 in
set_option maxHeartbeats 2000000 in
theorem takes20_40 : Calls Tryz.prog 93 #[.agg #[.int .i64 xa, .int .u8 40, .int .i64 xA, .int .i64 xB, .int .i64 xC], .slice SA ns sc] w fun e w' => TakesOk w w' e ([4], [4]) := by
  go_enter Tryz.func93, Tryz.ntmps93
  go_wp2_with fail
  go_ret2
  exact takes_ss w _ [4] [4] 1 1 rfl rfl
set_option maxRecDepth 100000 in
set_option maxHeartbeats 2000000 in
theorem takes20_41 : Calls Tryz.prog 93 #[.agg #[.int .i64 xa, .int .u8 41, .int .i64 xA, .int .i64 xB, .int .i64 xC], .slice SA ns sc] w fun e w' => TakesOk w w' e ([4], [5]) := by
  go_enter Tryz.func93, Tryz.ntmps93
  go_wp2_with fail
  go_ret2
  exact takes_ss w _ [4] [5] 1 1 rfl rfl
set_option maxRecDepth 100000 in
set_option maxHeartbeats 2000000 in
theorem takes20_42 : Calls Tryz.prog 93 #[.agg #[.int .i64 xa, .int .u8 42, .int .i64 xA, .int .i64 xB, .int .i64 xC], .slice SA ns sc] w fun e w' => TakesOk w w' e ([1], [1]) := by
  go_enter Tryz.func93, Tryz.ntmps93
  go_wp2_with fail
  go_ret2
  exact takes_ss w _ [1] [1] 1 1 rfl rfl
set_option maxRecDepth 100000 in
set_option maxHeartbeats 2000000 in
theorem takes20_43 : Calls Tryz.prog 93 #[.agg #[.int .i64 xa, .int .u8 43, .int .i64 xA, .int .i64 xB, .int .i64 xC], .slice SA ns sc] w fun e w' => TakesOk w w' e ([5], [3]) := by
  go_enter Tryz.func93, Tryz.ntmps93
  go_wp2_with fail
  go_ret2
  exact takes_ss w _ [5] [3] 1 1 rfl rfl
set_option maxRecDepth 100000 in
set_option maxHeartbeats 2000000 in
theorem takes20_44 : Calls Tryz.prog 93 #[.agg #[.int .i64 xa, .int .u8 44, .int .i64 xA, .int .i64 xB, .int .i64 xC], .slice SA ns sc] w fun e w' => TakesOk w w' e ([6, 3], [2]) := by
  go_enter Tryz.func93, Tryz.ntmps93
  go_wp2_with fail
  go_ret2
  exact takes_ss w _ [6, 3] [2] 2 1 rfl rfl
set_option maxRecDepth 100000 in
set_option maxHeartbeats 2000000 in
theorem takes20_45 : Calls Tryz.prog 93 #[.agg #[.int .i64 xa, .int .u8 45, .int .i64 xA, .int .i64 xB, .int .i64 xC], .slice SA ns sc] w fun e w' => TakesOk w w' e ([3], [2]) := by
  go_enter Tryz.func93, Tryz.ntmps93
  go_wp2_with fail
  go_ret2
  exact takes_ss w _ [3] [2] 1 1 rfl rfl
set_option maxRecDepth 100000 in
set_option maxHeartbeats 2000000 in
theorem takes20_24 : Calls Tryz.prog 93 #[.agg #[.int .i64 xa, .int .u8 24, .int .i64 xA, .int .i64 xB, .int .i64 xC], .slice SA ns sc] w fun e w' => TakesOk w w' e ([IntKind.i8.wrap xA, IntKind.i8.wrap xA], [2]) := by
  go_enter Tryz.func93, Tryz.ntmps93
  go_wp2_with fail
  go_ret2
  exact takes_ss w _ [IntKind.i8.wrap xA, IntKind.i8.wrap xA] [2] 2 1 rfl rfl
set_option maxRecDepth 100000 in
set_option maxHeartbeats 2000000 in
theorem takes20_46 (h0 : 0 ≤ xA) (h1 : xA ≤ 12) : Calls Tryz.prog 93 #[.agg #[.int .i64 xa, .int .u8 46, .int .i64 xA, .int .i64 xB, .int .i64 xC], .slice SA ns sc] w fun e w' => TakesOk w w' e ([(fieldR xA).1], [(fieldR xA).2]) := by
  go_enter Tryz.func93, Tryz.ntmps93
  go_wp2_with fail
  refine (field20_any xA h0 h1 _).mono ?_
  rintro e w5 ⟨rfl, rfl⟩
  go_wp2_with fail
  go_ret2
  exact takes_ss w _ [(fieldR xA).1] [(fieldR xA).2] 1 1 rfl rfl
set_option maxRecDepth 100000 in
set_option maxHeartbeats 2000000 in
theorem takes20_60 (h0 : 0 ≤ xA) (h1 : xA ≤ 8) : Calls Tryz.prog 93 #[.agg #[.int .i64 xa, .int .u8 60, .int .i64 xA, .int .i64 xB, .int .i64 xC], .slice SA ns sc] w fun e w' => TakesOk w w' e (effectR xA, []) := by
  go_enter Tryz.func93, Tryz.ntmps93
  go_wp2_with fail
  refine (effect20_any xA h0 h1 _).mono ?_
  rintro e w5 ⟨rfl, rfl⟩
  go_wp2_with fail
  go_ret2
  have h := takes_sn w (.cells #[.int .i64 xa, .int .u8 60, .int .i64 xA, .int .i64 xB, .int .i64 xC] 100) (effectR xA) _ rfl
  simpa using h
set_option maxRecDepth 100000 in
set_option maxHeartbeats 4000000 in
theorem takes20_4 (slots : List Int) (hS : SmallsAt w SA slots) (hs : slots.length ≤ 1000) (h0 : 0 ≤ xA) (h1 : xA < slots.length) :
    Calls Tryz.prog 93 #[.agg #[.int .i64 xa, .int .u8 4, .int .i64 xA, .int .i64 xB, .int .i64 xC], .slice SA slots.length sc] w fun e w' => TakesOk w w' e ([], [slots.getD xA.toNat 0]) := by
  obtain ⟨b, o, rfl, hbl, hc⟩ := hS xA.toNat _ (List.getElem?_eq_getElem (by omega))
  have hv : slots.getD xA.toNat 0 = slots[xA.toNat] := by rw [List.getD_eq_getElem?_getD, List.getElem?_eq_getElem (by omega)]; rfl
  rw [← hv] at hc
  obtain ⟨v, hv2⟩ : ∃ v, slots.getD xA.toNat 0 = v := ⟨_, rfl⟩
  rw [hv2] at hc ⊢
  obtain ⟨n, hn⟩ : ∃ n, slots.length = n := ⟨_, rfl⟩
  rw [hn] at hs h1 ⊢
  clear hv hv2 hn hS
  go_enter Tryz.func93, Tryz.ntmps93
  go_wp2_with fail
  obtain ⟨W, hW⟩ : ∃ W, W = w.alloc (.cells #[.int .i64 xa, .int .u8 4, .int .i64 xA, .int .i64 xB, .int .i64 xC] 100) := ⟨_, rfl⟩
  have hbW : Below w.heap.size w W := by rw [hW]; exact (Below.refl _ _).alloc (Nat.le_refl _) _
  have i2 : W.cell? ⟨w.heap.size, 2, none⟩ = some (.int .i64 xA) := by rw [hW]; exact (Blk.new w _ _).cell 2
  have hA : W.cell? ⟨b, o + xA.toNat, none⟩ = some (.int .i8 v) := (hbW.cell (p := ⟨b, _, none⟩) hbl).trans hc
  have hzW : W.heap.size = w.heap.size + 1 := by rw [hW]; simp
  have z1 : w.heap.size < W.heap.size := by omega
  have z3 : b < W.heap.size := by omega
  rw [← hW]
  have HBW := Lib.hid hbW
  clear hbW hc hW
  refine wp_region_text2 (by kernel_rfl) (by kernel_rfl) ?_
  go_wp2_with fail
  refine Only.normal ?_
  go_wp2_with fail
  go_ret2
  exact ⟨none, 0, _, 1, rfl, Nat.le_refl _, Nat.le_refl _, smalls_none _, smalls_blk (l := [v]) (by have h := (Blk.new W 82 #[.int .i8 v]).drew; rw [hzW] at h; exact h), (HBW.out.alloc (by omega) _).drew⟩
set_option maxRecDepth 100000 in
set_option maxHeartbeats 4000000 in
theorem takes20_5 (slots : List Int) (hS : SmallsAt w SA slots) (hs : slots.length ≤ 1000) (h0 : 0 ≤ xA) (h1 : xA < slots.length) :
    Calls Tryz.prog 93 #[.agg #[.int .i64 xa, .int .u8 5, .int .i64 xA, .int .i64 xB, .int .i64 xC], .slice SA slots.length sc] w fun e w' => TakesOk w w' e ([slots.getD xA.toNat 0], []) := by
  obtain ⟨b, o, rfl, hbl, hc⟩ := hS xA.toNat _ (List.getElem?_eq_getElem (by omega))
  have hv : slots.getD xA.toNat 0 = slots[xA.toNat] := by rw [List.getD_eq_getElem?_getD, List.getElem?_eq_getElem (by omega)]; rfl
  rw [← hv] at hc
  obtain ⟨v, hv2⟩ : ∃ v, slots.getD xA.toNat 0 = v := ⟨_, rfl⟩
  rw [hv2] at hc ⊢
  obtain ⟨n, hn⟩ : ∃ n, slots.length = n := ⟨_, rfl⟩
  rw [hn] at hs h1 ⊢
  clear hv hv2 hn hS
  go_enter Tryz.func93, Tryz.ntmps93
  go_wp2_with fail
  obtain ⟨W, hW⟩ : ∃ W, W = w.alloc (.cells #[.int .i64 xa, .int .u8 5, .int .i64 xA, .int .i64 xB, .int .i64 xC] 100) := ⟨_, rfl⟩
  have hbW : Below w.heap.size w W := by rw [hW]; exact (Below.refl _ _).alloc (Nat.le_refl _) _
  have i2 : W.cell? ⟨w.heap.size, 2, none⟩ = some (.int .i64 xA) := by rw [hW]; exact (Blk.new w _ _).cell 2
  have hA : W.cell? ⟨b, o + xA.toNat, none⟩ = some (.int .i8 v) := (hbW.cell (p := ⟨b, _, none⟩) hbl).trans hc
  have hzW : W.heap.size = w.heap.size + 1 := by rw [hW]; simp
  have z1 : w.heap.size < W.heap.size := by omega
  have z3 : b < W.heap.size := by omega
  rw [← hW]
  have HBW := Lib.hid hbW
  clear hbW hc hW
  go_ret2
  exact ⟨_, 1, none, 0, rfl, Nat.le_refl _, Nat.le_refl _, smalls_blk (l := [v]) (by have h := Blk.new W 82 #[.int .i8 v]; rw [hzW] at h; exact h), smalls_none _, HBW.out.alloc (by omega) _⟩
set_option maxRecDepth 100000 in
set_option maxHeartbeats 4000000 in
theorem takes20_else (xo : Int) (h1 : xo ≠ 1) (h2 : xo ≠ 2) (h3 : xo ≠ 3) (h4 : xo ≠ 4) (h5 : xo ≠ 5) (h10 : xo ≠ 10) (h11 : xo ≠ 11) (h12 : xo ≠ 12) (h13 : xo ≠ 13) (h14 : xo ≠ 14) (h17 : xo ≠ 17) (h18 : xo ≠ 18) (h15 : xo ≠ 15) (h16 : xo ≠ 16) (h42 : xo ≠ 42) (h19 : xo ≠ 19) (h20 : xo ≠ 20) (h21 : xo ≠ 21) (h22 : xo ≠ 22) (h23 : xo ≠ 23) (h24 : xo ≠ 24) (h31 : xo ≠ 31) (h32 : xo ≠ 32) (h33 : xo ≠ 33) (h40 : xo ≠ 40) (h41 : xo ≠ 41) (h43 : xo ≠ 43) (h44 : xo ≠ 44) (h45 : xo ≠ 45) (h46 : xo ≠ 46) (h60 : xo ≠ 60) : Calls Tryz.prog 93 #[.agg #[.int .i64 xa, .int .u8 xo, .int .i64 xA, .int .i64 xB, .int .i64 xC], .slice SA ns sc] w fun e w' => TakesOk w w' e ([], []) := by
  have b1 : (xo == 1) = false := beq_false_of h1
  have b2 : (xo == 2) = false := beq_false_of h2
  have b3 : (xo == 3) = false := beq_false_of h3
  have b4 : (xo == 4) = false := beq_false_of h4
  have b5 : (xo == 5) = false := beq_false_of h5
  have b10 : (xo == 10) = false := beq_false_of h10
  have b11 : (xo == 11) = false := beq_false_of h11
  have b12 : (xo == 12) = false := beq_false_of h12
  have b13 : (xo == 13) = false := beq_false_of h13
  have b14 : (xo == 14) = false := beq_false_of h14
  have b17 : (xo == 17) = false := beq_false_of h17
  have b18 : (xo == 18) = false := beq_false_of h18
  have b15 : (xo == 15) = false := beq_false_of h15
  have b16 : (xo == 16) = false := beq_false_of h16
  have b42 : (xo == 42) = false := beq_false_of h42
  have b19 : (xo == 19) = false := beq_false_of h19
  have b20 : (xo == 20) = false := beq_false_of h20
  have b21 : (xo == 21) = false := beq_false_of h21
  have b22 : (xo == 22) = false := beq_false_of h22
  have b23 : (xo == 23) = false := beq_false_of h23
  have b24 : (xo == 24) = false := beq_false_of h24
  have b31 : (xo == 31) = false := beq_false_of h31
  have b32 : (xo == 32) = false := beq_false_of h32
  have b33 : (xo == 33) = false := beq_false_of h33
  have b40 : (xo == 40) = false := beq_false_of h40
  have b41 : (xo == 41) = false := beq_false_of h41
  have b43 : (xo == 43) = false := beq_false_of h43
  have b44 : (xo == 44) = false := beq_false_of h44
  have b45 : (xo == 45) = false := beq_false_of h45
  have b46 : (xo == 46) = false := beq_false_of h46
  have b60 : (xo == 60) = false := beq_false_of h60
  go_enter Tryz.func93, Tryz.ntmps93
  go_wp2_with fail
  go_ret2
  exact takes_nn w _
theorem takes20_any (x : Ins) (slots : List Int) (ints texts : Int) (hS : SmallsAt w SA slots) (hs : slots.length ≤ 1000) (h0 : 0 ≤ x.a) (hn : numbersV slots ints texts x = 0) :
    Calls Tryz.prog 93 #[.agg x.cells, .slice SA slots.length sc] w fun e w' => TakesOk w w' e (takesV slots x) := by
  obtain ⟨xa, xo, xA, xB, xC⟩ := x
  simp only at h0
  unfold Ins.cells
  simp only
  by_cases c1 : xo = 1
  · subst c1; exact takes20_1 w xa xA xB xC SA slots.length sc
  by_cases c2 : xo = 2
  · subst c2; exact takes20_2 w xa xA xB xC SA slots.length sc
  by_cases c3 : xo = 3
  · subst c3; exact takes20_3 w xa xA xB xC SA slots.length sc
  by_cases c4 : xo = 4
  · subst c4
    have h1 : xA < slots.length := by
      unfold numbersV at hn
      simp at hn
      omega
    exact takes20_4 w xa xA xB xC SA sc slots hS hs h0 h1
  by_cases c5 : xo = 5
  · subst c5
    have h1 : xA < slots.length := by
      unfold numbersV at hn
      simp at hn
      omega
    exact takes20_5 w xa xA xB xC SA sc slots hS hs h0 h1
  by_cases c10 : xo = 10
  · subst c10; exact takes20_10 w xa xA xB xC SA slots.length sc
  by_cases c11 : xo = 11
  · subst c11; exact takes20_11 w xa xA xB xC SA slots.length sc
  by_cases c12 : xo = 12
  · subst c12; exact takes20_12 w xa xA xB xC SA slots.length sc
  by_cases c13 : xo = 13
  · subst c13; exact takes20_13 w xa xA xB xC SA slots.length sc
  by_cases c14 : xo = 14
  · subst c14; exact takes20_14 w xa xA xB xC SA slots.length sc
  by_cases c17 : xo = 17
  · subst c17; exact takes20_17 w xa xA xB xC SA slots.length sc
  by_cases c18 : xo = 18
  · subst c18; exact takes20_18 w xa xA xB xC SA slots.length sc
  by_cases c15 : xo = 15
  · subst c15; exact takes20_15 w xa xA xB xC SA slots.length sc
  by_cases c16 : xo = 16
  · subst c16; exact takes20_16 w xa xA xB xC SA slots.length sc
  by_cases c42 : xo = 42
  · subst c42; exact takes20_42 w xa xA xB xC SA slots.length sc
  by_cases c19 : xo = 19
  · subst c19; exact takes20_19 w xa xA xB xC SA slots.length sc
  by_cases c20 : xo = 20
  · subst c20; exact takes20_20 w xa xA xB xC SA slots.length sc
  by_cases c21 : xo = 21
  · subst c21; exact takes20_21 w xa xA xB xC SA slots.length sc
  by_cases c22 : xo = 22
  · subst c22; exact takes20_22 w xa xA xB xC SA slots.length sc
  by_cases c23 : xo = 23
  · subst c23; exact takes20_23 w xa xA xB xC SA slots.length sc
  by_cases c24 : xo = 24
  · subst c24; exact takes20_24 w xa xA xB xC SA slots.length sc
  by_cases c31 : xo = 31
  · subst c31; exact takes20_31 w xa xA xB xC SA slots.length sc
  by_cases c32 : xo = 32
  · subst c32; exact takes20_32 w xa xA xB xC SA slots.length sc
  by_cases c33 : xo = 33
  · subst c33; exact takes20_33 w xa xA xB xC SA slots.length sc
  by_cases c40 : xo = 40
  · subst c40; exact takes20_40 w xa xA xB xC SA slots.length sc
  by_cases c41 : xo = 41
  · subst c41; exact takes20_41 w xa xA xB xC SA slots.length sc
  by_cases c43 : xo = 43
  · subst c43; exact takes20_43 w xa xA xB xC SA slots.length sc
  by_cases c44 : xo = 44
  · subst c44; exact takes20_44 w xa xA xB xC SA slots.length sc
  by_cases c45 : xo = 45
  · subst c45; exact takes20_45 w xa xA xB xC SA slots.length sc
  by_cases c46 : xo = 46
  · subst c46
    have h1 : xA < 13 := by
      unfold numbersV poolV at hn
      simp at hn
      omega
    have e : takesV slots ⟨xa, 46, xA, xB, xC⟩ = ([(fieldR xA).1], [(fieldR xA).2]) := by
      obtain ⟨q1, q2⟩ := field_ref xA.toNat (by omega)
      rw [show ((xA.toNat : Nat) : Int) = xA by omega] at q1 q2
      unfold takesV
      simp
      exact ⟨by simpa using q1, by simpa using q2⟩
    rw [e]
    exact takes20_46 w xa xA xB xC SA slots.length sc h0 (by omega)
  by_cases c60 : xo = 60
  · subst c60
    have h1 : xA < 9 := by
      unfold numbersV poolV at hn
      simp at hn
      omega
    have e : takesV slots ⟨xa, 60, xA, xB, xC⟩ = (effectR xA, []) := by
      have q1 := effect_ref xA.toNat (by omega)
      rw [show ((xA.toNat : Nat) : Int) = xA by omega] at q1
      unfold takesV
      simp
      simpa using q1
    rw [e]
    exact takes20_60 w xa xA xB xC SA slots.length sc h0 (by omega)
  have e : takesV slots ⟨xa, xo, xA, xB, xC⟩ = ([], []) := by
    unfold takesV
    simp [c1, c2, c3, c4, c5, c10, c11, c12, c13, c14, c17, c18, c15, c16, c42, c19, c20, c21, c22, c23, c24, c31, c32, c33, c40, c41, c43, c44, c45, c46, c60]
  rw [e]
  exact takes20_else w xa xA xB xC SA slots.length sc xo c1 c2 c3 c4 c5 c10 c11 c12 c13 c14 c17 c18 c15 c16 c42 c19 c20 c21 c22 c23 c24 c31 c32 c33 c40 c41 c43 c44 c45 c46 c60
end
end Go.Proofs.YtabpheanbomibaaGreatDoor
namespace Go.Proofs.YtabpheanbomibaaGreatDoor
open Go.RowKit
set_option linter.unusedVariables false

def seenV (seen : Int → Bool) (o : Int) : Int → Bool := fun y => if y = o then true else seen y
/-- The least offset that has a shape and was not looked at. -/
def leastR (len : Nat) (st : Int → Option (List Int)) (seen : Int → Bool) : Option Nat := (List.range len).find? fun o => (st (o : Int)).isSome && !seen (o : Int)
def lookS (len : Nat) (slots : List Int) (x : Ins) (st : Int → Option (List Int)) : (Int → Option (List Int)) × Option (Int × Int) := ((lookV len slots x ⟨st, [], 0⟩).1.stacks, (lookV len slots x ⟨st, [], 0⟩).2)
def loopR (len : Nat) (slots : List Int) (l : List Ins) : Nat → (Int → Option (List Int)) → (Int → Bool) → (Int → Option (List Int)) × Option (Int × Int)
  | 0, st, _ => (st, none)
  | f + 1, st, seen => match leastR len st seen with
    | none => (st, none)
    | some o => match (lookS len slots ((insAt l (o : Int)).getD ins0) st).2 with
      | some e => ((lookS len slots ((insAt l (o : Int)).getD ins0) st).1, some e)
      | none => loopR len slots l f (lookS len slots ((insAt l (o : Int)).getD ins0) st).1 (seenV seen o)
theorem give_free (len : Nat) (frm tg : Int) (s : List Int) (v w : VS) (h : v.stacks = w.stacks) : (giveV len frm tg s v).1.stacks = (giveV len frm tg s w).1.stacks ∧ (giveV len frm tg s v).2 = (giveV len frm tg s w).2 := by
  unfold giveV
  by_cases h1 : (len : Int) ≤ tg
  · rw [if_pos h1, if_pos h1]; exact ⟨h, rfl⟩
  · rw [if_neg h1, if_neg h1, h]
    cases w.stacks tg with
    | some t =>
      simp only
      by_cases h2 : t = s
      · rw [if_pos h2, if_pos h2]; exact ⟨h, rfl⟩
      · rw [if_neg h2, if_neg h2]; exact ⟨h, rfl⟩
    | none => exact ⟨rfl, rfl⟩
theorem look_free (len : Nat) (slots : List Int) (x : Ins) (v w : VS) (h : v.stacks = w.stacks) : (lookV len slots x v).1.stacks = (lookV len slots x w).1.stacks ∧ (lookV len slots x v).2 = (lookV len slots x w).2 := by
  unfold lookV
  simp only
  rw [h]
  split
  · exact ⟨h, rfl⟩
  split
  · exact ⟨h, rfl⟩
  split
  · exact ⟨h, rfl⟩
  split
  · exact ⟨h, rfl⟩
  · have hr : ∀ (c : Prop) [Decidable c] (y : List Int), (if c then (v, none) else giveV len x.at_ (x.at_ + sizeI x.op) y v).1.stacks = (if c then (w, none) else giveV len x.at_ (x.at_ + sizeI x.op) y w).1.stacks ∧ (if c then (v, none) else giveV len x.at_ (x.at_ + sizeI x.op) y v).2 = (if c then (w, none) else giveV len x.at_ (x.at_ + sizeI x.op) y w).2 := by
      intro c _ y
      by_cases hc : c
      · rw [if_pos hc, if_pos hc]; exact ⟨h, rfl⟩
      · rw [if_neg hc, if_neg hc]; exact give_free len _ _ y v w h
    have hr1 := hr (x.op = 30) (List.take (((w.stacks x.at_).getD []).length - (takesV slots x).1.length) ((w.stacks x.at_).getD []) ++ (takesV slots x).2)
    generalize (if x.op = 30 then (v, none) else giveV len x.at_ (x.at_ + sizeI x.op) (List.take (((w.stacks x.at_).getD []).length - (takesV slots x).1.length) ((w.stacks x.at_).getD []) ++ (takesV slots x).2) v) = r1 at hr1 ⊢
    generalize (if x.op = 30 then (w, none) else giveV len x.at_ (x.at_ + sizeI x.op) (List.take (((w.stacks x.at_).getD []).length - (takesV slots x).1.length) ((w.stacks x.at_).getD []) ++ (takesV slots x).2) w) = r2 at hr1 ⊢
    obtain ⟨h1, h2⟩ := hr1
    rw [h2]
    cases r2.2 with
    | some f => exact ⟨h1, rfl⟩
    | none =>
      simp only
      cases targetV x with
      | none => exact ⟨h1, rfl⟩
      | some tg => exact give_free len _ _ _ _ _ h1
theorem look_S (len : Nat) (slots : List Int) (x : Ins) (v : VS) : (lookV len slots x v).1.stacks = (lookS len slots x v.stacks).1 ∧ (lookV len slots x v).2 = (lookS len slots x v.stacks).2 :=
  look_free len slots x v ⟨v.stacks, [], 0⟩ rfl
structure HInv (len : Nat) (v : VS) (seen : Int → Bool) : Prop where
  heap : IsHeap v.heap
  one : ∀ x, v.heap.count x ≤ 1
  same : ∀ o c c', (o, c) ∈ v.heap → (o, c') ∈ v.heap → c = c'
  has : ∀ o, (∃ c, (o, c) ∈ v.heap) ↔ ((v.stacks o).isSome = true ∧ seen o = false)
  rng : ∀ o, (v.stacks o).isSome = true → 0 ≤ o ∧ o < len
  sn : ∀ o, seen o = true → (v.stacks o).isSome = true
theorem mem_put (l : List HEnt) (e x : HEnt) : x ∈ putH l e ↔ x ∈ l ∨ x = e := by
  rw [← List.count_pos_iff, ← List.count_pos_iff, count_put]
  unfold isH
  by_cases h : e = x
  · rw [if_pos h]; exact ⟨fun _ => .inr h.symm, fun _ => by omega⟩
  · rw [if_neg h]
    exact ⟨fun k => .inl (by omega), fun k => by
      rcases k with k | k
      · omega
      · exact absurd k.symm h⟩
theorem give_inv {len : Nat} {frm tg : Int} {s : List Int} {v : VS} {seen : Int → Bool} (h : HInv len v seen) (ht : 0 ≤ tg) : HInv len (giveV len frm tg s v).1 seen := by
  unfold giveV
  by_cases h1 : (len : Int) ≤ tg
  · rw [if_pos h1]; exact h
  · rw [if_neg h1]
    cases hs : v.stacks tg with
    | some t =>
      simp only
      by_cases h2 : t = s
      · rw [if_pos h2]; exact h
      · rw [if_neg h2]; exact h
    | none =>
      simp only
      have hno : ∀ c, (tg, c) ∉ v.heap := by
        intro c hc
        have := ((h.has tg).1 ⟨c, hc⟩).1
        rw [hs] at this
        cases this
      have hst : ∀ o, (setV v.stacks tg s o).isSome = true ↔ o = tg ∨ (v.stacks o).isSome = true := by
        intro o
        unfold setV
        by_cases ho : o = tg
        · rw [if_pos ho]; exact ⟨fun _ => .inl ho, fun _ => rfl⟩
        · rw [if_neg ho]; exact ⟨fun k => .inr k, fun k => k.resolve_left ho⟩
      have hsn : seen tg = false := by
        cases hb : seen tg with
        | false => rfl
        | true =>
          have := h.sn tg hb
          rw [hs] at this
          cases this
      refine ⟨put_heap _ h.heap, ?_, ?_, ?_, ?_, ?_⟩
      · intro x
        show (putH v.heap (tg, v.came)).count x ≤ 1
        rw [count_put]
        unfold isH
        by_cases hx : (tg, v.came) = x
        · rw [if_pos hx, ← hx]
          have : v.heap.count (tg, v.came) = 0 := List.count_eq_zero.2 (hno _)
          omega
        · rw [if_neg hx]
          have := h.one x
          omega
      · intro o c c' h3 h4
        have h3' := (mem_put _ _ _).1 h3
        have h4' := (mem_put _ _ _).1 h4
        rcases h3' with h3' | h3'
        · rcases h4' with h4' | h4'
          · exact h.same o c c' h3' h4'
          · injection h4' with e1 e2
            rw [e1] at h3'
            exact absurd h3' (hno c)
        · rcases h4' with h4' | h4'
          · injection h3' with e1 e2
            rw [e1] at h4'
            exact absurd h4' (hno c')
          · injection h3' with e1 e2
            injection h4' with e3 e4
            rw [e2, e4]
      · intro o
        show (∃ c, (o, c) ∈ putH v.heap (tg, v.came)) ↔ ((setV v.stacks tg s o).isSome = true ∧ seen o = false)
        rw [hst]
        constructor
        · rintro ⟨c, hc⟩
          rcases (mem_put _ _ _).1 hc with hc | hc
          · have := (h.has o).1 ⟨c, hc⟩
            exact ⟨.inr this.1, this.2⟩
          · injection hc with e1 e2
            exact ⟨.inl e1, by rw [e1]; exact hsn⟩
        · rintro ⟨hc | hc, hf⟩
          · exact ⟨v.came, (mem_put _ _ _).2 (.inr (by rw [hc]))⟩
          · obtain ⟨c, hm⟩ := (h.has o).2 ⟨hc, hf⟩
            exact ⟨c, (mem_put _ _ _).2 (.inl hm)⟩
      · intro o ho
        rcases (hst o).1 ho with e | k
        · rw [e]; omega
        · exact h.rng o k
      · intro o ho
        exact (hst o).2 (.inr (h.sn o ho))
/-- What a jump and a next instruction are. -/
def Pos (x : Ins) : Prop := 0 ≤ x.at_ + sizeI x.op ∧ ∀ tg, targetV x = some tg → 0 ≤ tg
theorem look_inv {len : Nat} {slots : List Int} {x : Ins} {v : VS} {seen : Int → Bool} (h : HInv len v seen) (hx : Pos x) : HInv len (lookV len slots x v).1 seen := by
  unfold lookV
  simp only
  split
  · exact h
  split
  · exact h
  split
  · exact h
  split
  · exact h
  · have hr : ∀ (c : Prop) [Decidable c] (y : List Int), HInv len (if c then (v, none) else giveV len x.at_ (x.at_ + sizeI x.op) y v).1 seen := by
      intro c _ y
      by_cases hc : c
      · rw [if_pos hc]; exact h
      · rw [if_neg hc]; exact give_inv h hx.1
    have hr1 := hr (x.op = 30) (List.take (((v.stacks x.at_).getD []).length - (takesV slots x).1.length) ((v.stacks x.at_).getD []) ++ (takesV slots x).2)
    generalize (if x.op = 30 then (v, none) else giveV len x.at_ (x.at_ + sizeI x.op) (List.take (((v.stacks x.at_).getD []).length - (takesV slots x).1.length) ((v.stacks x.at_).getD []) ++ (takesV slots x).2) v) = r1 at hr1 ⊢
    cases r1.2 with
    | some f => exact hr1
    | none =>
      simp only
      cases ht : targetV x with
      | none => exact hr1
      | some tg => exact give_inv hr1 (hx.2 tg ht)
theorem find_least {p : Nat → Bool} {n k : Nat} (hk : k < n) (hp : p k = true) (hl : ∀ j, j < k → p j = false) : (List.range n).find? p = some k := by
  rw [List.find?_range_eq_some]
  exact ⟨hp, by simpa using hk, fun j hj => by simp [hl j hj]⟩
theorem least_none {len : Nat} {v : VS} {seen : Int → Bool} (h : HInv len v seen) (he : v.heap = []) : leastR len v.stacks seen = none := by
  unfold leastR
  rw [List.find?_eq_none]
  intro o _ hp
  simp only [Bool.and_eq_true, Bool.not_eq_true'] at hp
  obtain ⟨c, hc⟩ := (h.has (o : Int)).2 hp
  rw [he] at hc
  cases hc
theorem head_mem {l : List HEnt} (h : l ≠ []) : atH l 0 ∈ l := by
  have h0 : 0 < l.length := List.length_pos_iff.2 h
  rw [atH_eq h0]
  exact List.getElem_mem h0
theorem least_some {len : Nat} {v : VS} {seen : Int → Bool} (h : HInv len v seen) (he : v.heap ≠ []) : ∃ o : Nat, (atH v.heap 0).1 = o ∧ leastR len v.stacks seen = some o := by
  obtain ⟨e, hee⟩ : ∃ e, atH v.heap 0 = e := ⟨_, rfl⟩
  have hm := head_mem he
  rw [hee] at hm ⊢
  obtain ⟨o, c⟩ := e
  have hh := (h.has o).1 ⟨c, hm⟩
  have hr := h.rng o hh.1
  obtain ⟨k, hk⟩ := Int.eq_ofNat_of_zero_le hr.1
  subst hk
  refine ⟨k, rfl, ?_⟩
  unfold leastR
  refine find_least (by omega) (by simp [hh.1, hh.2]) ?_
  intro j hj
  cases hb : ((v.stacks (j : Int)).isSome && !seen (j : Int)) with
  | false => rfl
  | true =>
    simp only [Bool.and_eq_true, Bool.not_eq_true'] at hb
    obtain ⟨c', hc'⟩ := (h.has (j : Int)).2 hb
    have := heap_mem_least h.heap hc'
    rw [hee] at this
    unfold LeH at this
    simp only at this
    omega
theorem take_inv {len : Nat} {v : VS} {seen : Int → Bool} (h : HInv len v seen) (he : v.heap ≠ []) : HInv len ⟨v.stacks, takeH v.heap, v.came⟩ (seenV seen (atH v.heap 0).1) := by
  have hm := head_mem he
  have hct := fun x => count_take he x
  obtain ⟨e, hee⟩ : ∃ e, atH v.heap 0 = e := ⟨_, rfl⟩
  simp only [hee] at hm hct ⊢
  have hmem : ∀ x, x ∈ takeH v.heap ↔ x ∈ v.heap ∧ x ≠ e := by
    intro x
    rw [← List.count_pos_iff, ← List.count_pos_iff]
    have h1 := hct x
    have h2 := h.one x
    unfold isH at h1
    by_cases hx : e = x
    · rw [if_pos hx] at h1
      exact ⟨fun k => by omega, fun k => absurd hx.symm k.2⟩
    · rw [if_neg hx] at h1
      exact ⟨fun k => ⟨by omega, fun k2 => hx k2.symm⟩, fun k => by omega⟩
  refine ⟨take_heap h.heap, ?_, ?_, ?_, h.rng, ?_⟩
  · intro x
    show (takeH v.heap).count x ≤ 1
    have h1 := hct x
    have h2 := h.one x
    omega
  · intro o c c' h1 h2
    exact h.same o c c' ((hmem _).1 h1).1 ((hmem _).1 h2).1
  · intro o
    show (∃ c, (o, c) ∈ takeH v.heap) ↔ ((v.stacks o).isSome = true ∧ seenV seen e.1 o = false)
    unfold seenV
    constructor
    · rintro ⟨c, hc⟩
      obtain ⟨h1, h2⟩ := (hmem _).1 hc
      have h3 := (h.has o).1 ⟨c, h1⟩
      refine ⟨h3.1, ?_⟩
      have hne : o ≠ e.1 := by
        intro ho
        refine h2 ?_
        have h4 : (o, e.2) ∈ v.heap := by rw [ho]; exact hm
        have h5 := h.same o c e.2 h1 h4
        rw [h5, ho]
      rw [if_neg hne]
      exact h3.2
    · rintro ⟨h1, h2⟩
      by_cases ho : o = e.1
      · rw [if_pos ho] at h2; cases h2
      · rw [if_neg ho] at h2
        obtain ⟨c, hc⟩ := (h.has o).2 ⟨h1, h2⟩
        exact ⟨c, (hmem _).2 ⟨hc, fun k => ho (by rw [← k])⟩⟩
  · intro o ho
    unfold seenV at ho
    by_cases hoe : o = e.1
    · rw [hoe]
      exact ((h.has e.1).1 ⟨e.2, hm⟩).1
    · rw [if_neg hoe] at ho
      exact h.sn o ho
theorem loop_ref (len : Nat) (slots : List Int) (l : List Ins) (hl : ∀ o, Pos ((insAt l o).getD ins0)) : ∀ f v seen, HInv len v seen → loopR len slots l f v.stacks seen = ((loopV len slots l f v).1.stacks, (loopV len slots l f v).2)
  | 0, v, seen, _ => rfl
  | f + 1, v, seen, h => by
    rw [loopR, loopV]
    by_cases he : v.heap = []
    · rw [if_pos he, least_none h he]
    · rw [if_neg he]
      obtain ⟨o, ho, hle⟩ := least_some h he
      have ht := take_inv h he
      rw [hle]
      simp only
      rw [ho] at ht ⊢
      obtain ⟨x, hx⟩ : ∃ x, (insAt l (o : Int)).getD ins0 = x := ⟨_, rfl⟩
      have hp := hl (o : Int)
      rw [hx] at hp ⊢
      obtain ⟨h1, h2⟩ := look_S len slots x ⟨v.stacks, takeH v.heap, v.came⟩
      have hi := look_inv (slots := slots) ht hp
      simp only at h1 h2
      rw [← h2, ← h1]
      obtain ⟨r, hr⟩ : ∃ r, lookV len slots x ⟨v.stacks, takeH v.heap, v.came⟩ = r := ⟨_, rfl⟩
      rw [hr] at hi ⊢
      cases r.2 with
      | some e => rfl
      | none => exact loop_ref len slots l hl f r.1 _ hi
theorem start_inv {len : Nat} (h : 0 < len) : HInv len startV (fun _ => false) := by
  have hs : ∀ o, (startV.stacks o).isSome = true ↔ o = 0 := by
    intro o
    show (setV (fun _ => none) 0 [] o).isSome = true ↔ o = 0
    unfold setV
    by_cases ho : o = 0
    · rw [if_pos ho]; exact ⟨fun _ => ho, fun _ => rfl⟩
    · rw [if_neg ho]; exact ⟨fun k => absurd k (by simp), fun k => absurd k ho⟩
  refine ⟨?_, ?_, ?_, ?_, ?_, ?_⟩
  · intro i i0 il
    have : i < 1 := il
    omega
  · intro x
    show [(((0 : Int), (0 : Int)) : HEnt)].count x ≤ 1
    exact Nat.le_trans List.count_le_length (by simp)
  · intro o c c' h1 h2
    simp only [startV, List.mem_singleton] at h1 h2
    injection h1 with _ e1
    injection h2 with _ e2
    rw [e1, e2]
  · intro o
    rw [hs]
    constructor
    · rintro ⟨c, hc⟩
      simp only [startV, List.mem_singleton] at hc
      injection hc with e1 _
      exact ⟨e1, rfl⟩
    · rintro ⟨e, _⟩
      exact ⟨0, by simp [startV, e]⟩
  · intro o ho
    rw [(hs o).1 ho]
    omega
  · intro o ho
    cases ho
end Go.Proofs.YtabpheanbomibaaGreatDoor
namespace Go.Proofs.YtabpheanbomibaaGreatDoor
open Go.RowKit
set_option linter.unusedVariables false

def codeR (b slots : List Int) (ints texts : Int) : List (Int × List Int) × Int × Int × Int :=
  if limitsV b slots ints texts ≠ 0 then ([], 0, limitsV b slots ints texts, 0)
  else match scanV b slots ints texts b.length 0 [] with
    | .inr (e, o) => ([], 0, e, o)
    | .inl l => match jumpsV l l with
      | some (e, o) => ([], 0, e, o)
      | none => match loopR b.length slots l b.length startV.stacks (fun _ => false) with
        | (_, some (e, o)) => ([], 0, e, o)
        | (st, none) => (shapesV b.length st, highV (shapesV b.length st), 0, 0)
theorem code_ref {b slots : List Int} {ints texts : Int} (hb : ∀ x ∈ b, 0 ≤ x ∧ x ≤ 255) : codeR b slots ints texts = codeV b slots ints texts := by
  unfold codeR codeV
  by_cases c1 : limitsV b slots ints texts ≠ 0
  · rw [if_pos c1, if_pos c1]
  rw [if_neg c1, if_neg c1]
  have hlim : limitsV b slots ints texts = 0 := by omega
  have hpos : 0 < b.length := (limits_pos hlim).2.2.2.2.2.2.2.2.2.2
  cases hs : scanV b slots ints texts b.length 0 [] with
  | inr p => rfl
  | inl l =>
    have hl := scan_ok hb _ _ _ _ (by simp) hs
    simp only
    cases hj : jumpsV l l with
    | some p => rfl
    | none =>
      simp only
      have hp : ∀ o, Pos ((insAt l o).getD ins0) := fun o => ⟨(at_ok hl hpos o).next, (at_ok hl hpos o).tg⟩
      rw [loop_ref b.length slots l hp b.length startV (fun _ => false) (start_inv hpos)]
      obtain ⟨r, hr⟩ : ∃ r, loopV b.length slots l b.length startV = r := ⟨_, rfl⟩
      rw [hr]
      obtain ⟨v, e⟩ := r
      cases e with
      | none => rfl
      | some p => rfl
/-- How many offsets were not looked at. -/
def cntU : Nat → (Int → Bool) → Nat
  | 0, _ => 0
  | n + 1, s => cntU n s + (if s (n : Int) then 0 else 1)
theorem cntU_all : ∀ n, cntU n (fun _ => false) = n
  | 0 => rfl
  | n + 1 => by rw [cntU, cntU_all n]; rfl
theorem cntU_le (s : Int → Bool) (o : Int) : ∀ n, cntU n (seenV s o) ≤ cntU n s
  | 0 => Nat.le_refl _
  | n + 1 => by
    rw [cntU, cntU]
    have h := cntU_le s o n
    by_cases ho : (n : Int) = o
    · have e : seenV s o (n : Int) = true := by unfold seenV; rw [if_pos ho]
      rw [e]
      simp only [if_true]
      omega
    · have e : seenV s o (n : Int) = s (n : Int) := by unfold seenV; rw [if_neg ho]
      rw [e]
      omega
theorem cntU_lt {s : Int → Bool} {o : Nat} (hs : s (o : Int) = false) : ∀ n, o < n → cntU n (seenV s o) + 1 ≤ cntU n s
  | 0, h => by omega
  | n + 1, h => by
    rw [cntU, cntU]
    by_cases ho : n = o
    · subst ho
      have e : seenV s (n : Int) (n : Int) = true := by unfold seenV; rw [if_pos rfl]
      rw [e, hs]
      have := cntU_le s (n : Int) n
      simp
      omega
    · have e : seenV s (o : Int) (n : Int) = s (n : Int) := by unfold seenV; rw [if_neg (by omega)]
      rw [e]
      have := cntU_lt hs n (by omega)
      omega
/-- The rounds that are left, where so many offsets are not looked at. -/
def RestR (len : Nat) (slots : List Int) (l : List Ins) (st : Int → Option (List Int)) (seen : Int → Bool) (T : (Int → Option (List Int)) × Option (Int × Int)) : Prop := ∃ f, cntU len seen ≤ f ∧ loopR len slots l f st seen = T
theorem rest_start (len : Nat) (slots : List Int) (l : List Ins) : RestR len slots l startV.stacks (fun _ => false) (loopR len slots l len startV.stacks (fun _ => false)) := ⟨len, by rw [cntU_all]; exact Nat.le_refl _, rfl⟩
theorem rest_end {len : Nat} {slots : List Int} {l : List Ins} {st : Int → Option (List Int)} {seen : Int → Bool} {T : (Int → Option (List Int)) × Option (Int × Int)} (h : RestR len slots l st seen T)
    (hn : ∀ j : Nat, j < len → ((st (j : Int)).isSome && !seen (j : Int)) = false) : T = (st, none) := by
  obtain ⟨f, _, rfl⟩ := h
  cases f with
  | zero => rfl
  | succ f =>
    rw [loopR]
    have e : leastR len st seen = none := by
      unfold leastR
      rw [List.find?_eq_none]
      intro j hj hp
      rw [hn j (by simpa using hj)] at hp
      cases hp
    rw [e]
theorem rest_step {len : Nat} {slots : List Int} {l : List Ins} {st : Int → Option (List Int)} {seen : Int → Bool} {T : (Int → Option (List Int)) × Option (Int × Int)} {o : Nat} (h : RestR len slots l st seen T)
    (ho : o < len) (hp : (st (o : Int)).isSome = true) (hs : seen (o : Int) = false) (hn : ∀ j : Nat, j < o → ((st (j : Int)).isSome && !seen (j : Int)) = false) {x : Ins} (hx : insAt l (o : Int) = some x) :
    (∀ e, (lookS len slots x st).2 = some e → T = ((lookS len slots x st).1, some e)) ∧ ((lookS len slots x st).2 = none → RestR len slots l (lookS len slots x st).1 (seenV seen o) T) := by
  obtain ⟨f, hf, rfl⟩ := h
  have hc := cntU_lt hs len ho
  cases f with
  | zero => omega
  | succ f =>
    have e : leastR len st seen = some o := find_least ho (by simp [hp, hs]) hn
    have er : loopR len slots l (f + 1) st seen = match (lookS len slots x st).2 with
        | some e => ((lookS len slots x st).1, some e)
        | none => loopR len slots l f (lookS len slots x st).1 (seenV seen o) := by
      rw [loopR, e]
      simp only
      rw [hx]
      rfl
    rw [er]
    constructor
    · intro e2 h2
      rw [h2]
    · intro h2
      rw [h2]
      exact ⟨f, by omega, rfl⟩
end Go.Proofs.YtabpheanbomibaaGreatDoor
namespace Go.Proofs.YtabpheanbomibaaGreatDoor
open Go.RowKit
set_option linter.unusedVariables false

def fnA (n : Nat) (g : Nat → Value) : Array Value := ((List.range n).map g).toArray
theorem fnA_get {n i : Nat} {g : Nat → Value} (h : i < n) : (fnA n g)[i]? = some (g i) := by
  unfold fnA
  rw [List.getElem?_toArray, List.getElem?_map, List.getElem?_range h]
  rfl
theorem fnA_set (n : Nat) (g : Nat → Value) (i : Nat) (v : Value) : (fnA n g).setIfInBounds i v = fnA n (fun j => if j = i then v else g j) := by
  unfold fnA
  rw [List.setIfInBounds_toArray]
  congr 1
  apply List.ext_getElem?
  intro j
  rw [List.getElem?_set, List.getElem?_map, List.getElem?_map]
  by_cases hj : j < n
  · rw [List.getElem?_range hj, List.length_map, List.length_range]
    by_cases hij : i = j
    · rw [if_pos hij, if_pos (by omega)]
      simp [hij]
    · rw [if_neg hij]
      simp [show ¬ j = i by omega]
  · have hn : (List.range n)[j]? = none := List.getElem?_eq_none (by rw [List.length_range]; omega)
    rw [hn, List.length_map, List.length_range]
    by_cases hij : i = j
    · rw [if_pos hij, if_neg (by omega)]; rfl
    · rw [if_neg hij]; rfl
theorem fnA_made (z : Value) (n : Nat) : madeCells #[z] n = fnA n (fun _ => z) := by
  have := toList_madeCells_one z n
  rw [← Array.toArray_toList (xs := madeCells #[z] n), this]
  unfold fnA
  congr 1
  rw [List.map_const', List.length_range]
theorem info_boolR : (Tryz.prog.info? 4).map (fun i => (i.zero, i.size, i.bytes)) = some (some (.bool false), 1, 1) := by kernel_rfl
theorem info_intR : (Tryz.prog.info? 3).map (fun i => (i.zero, i.size, i.bytes)) = some (some (.int .i64 0), 1, 8) := by kernel_rfl
theorem info_rowR : (Tryz.prog.info? 23).map (fun i => (i.zero, i.size, i.bytes)) = some (some (.slice none 0 0), 1, 24) := by kernel_rfl
theorem make_bools (n : Nat) (hn : n ≤ 100000) (w : World) : (Instr.makeSlice 114 (.int .i64 n) (.int .i64 n)).run Tryz.prog w = .ok (.slice (some ⟨w.heap.size, 0, none⟩) n n) (w.alloc (.cells (fnA n fun _ => .bool false) 4)) := by
  have h := run_make_row' (P := Tryz.prog) 114 4 (.bool false) 1 Tryz.underlying114 info_boolR rfl .i64 .i64 n (by omega) (by omega) w
  rw [fnA_made] at h
  exact h
theorem make_ints (n : Nat) (hn : n ≤ 100000) (w : World) : (Instr.makeSlice 107 (.int .i64 n) (.int .i64 n)).run Tryz.prog w = .ok (.slice (some ⟨w.heap.size, 0, none⟩) n n) (w.alloc (.cells (fnA n fun _ => .int .i64 0) 3)) := by
  have h := run_make_row' (P := Tryz.prog) 107 3 (.int .i64 0) 8 Tryz.underlying107 info_intR rfl .i64 .i64 n (by omega) (by omega) w
  rw [fnA_made] at h
  exact h
theorem make_rows (n : Nat) (hn : n ≤ 100000) (w : World) : (Instr.makeSlice 49 (.int .i64 n) (.int .i64 n)).run Tryz.prog w = .ok (.slice (some ⟨w.heap.size, 0, none⟩) n n) (w.alloc (.cells (fnA n fun _ => .slice none 0 0) 23)) := by
  have h := run_make_row' (P := Tryz.prog) 49 23 (.slice none 0 0) 24 Tryz.underlying49 info_rowR rfl .i64 .i64 n (by omega) (by omega) w
  rw [fnA_made] at h
  exact h
def TL : List TypeId := [4, 23]
def stkC (F : Int → Option Addr × Nat) (st : Int → Option (List Int)) (o : Nat) : Value := match st (o : Int) with
  | none => .slice none 0 0
  | some s => .slice (F (o : Int)).1 s.length (F (o : Int)).2
/-- The look: has, stack, seen, each a block of its own. -/
structure LkAt (w : World) (B kb hb tb eb n : Nat) (sv : Value) (st : Int → Option (List Int)) (seen : Int → Bool) : Prop where
  ck : Blk w kb 116 #[.int .i64 n, sv, .slice (some ⟨hb, 0, none⟩) n n, .slice (some ⟨tb, 0, none⟩) n n, .slice (some ⟨eb, 0, none⟩) n n]
  hkb : B ≤ kb
  hhb : B ≤ hb
  htb : B ≤ tb
  heb : B ≤ eb
  ne : hb ≠ eb
  has : Blk w hb 4 (fnA n fun o => .bool (st (o : Int)).isSome)
  seen : Blk w eb 4 (fnA n fun o => .bool (seen (o : Int)))
  stk : ∃ F, Blk w tb 23 (fnA n (stkC F st)) ∧ ∀ o s, st o = some s → w.ownsRow B 82 1 (.slice (F o).1 s.length (F o).2) s.length (s.map (Value.int .i8))
section
variable {w w' w2 : World} {B kb hb tb eb n : Nat} {sv : Value} {st : Int → Option (List Int)} {seen : Int → Bool}
theorem LkAt.keep {C : Nat} (h : LkAt w B kb hb tb eb n sv st seen) (hf : Frm C [] w w') : LkAt w' B kb hb tb eb n sv st seen := by
  obtain ⟨h1, h2, h3, h4, h5, h6, h7, h8, F, h9, h10⟩ := h
  exact ⟨hf.blk h1 (by simp), h2, h3, h4, h5, h6, hf.blk h7 (by simp), hf.blk h8 (by simp), F, hf.blk h9 (by simp), fun o s ho => hf.own (h10 o s ho) (by simp)⟩
theorem LkAt.below (h : LkAt w B kb hb tb eb n sv st seen) (hb' : Below w.heap.size w w') : LkAt w' B kb hb tb eb n sv st seen := h.keep (Frm.of_below (T := []) hb' (Nat.zero_le _) : Frm 0 [] w w')
theorem LkAt.cells (h : LkAt w B kb hb tb eb n sv st seen) : w.cell? ⟨kb, 0, none⟩ = some (.int .i64 n) ∧ w.cell? ⟨kb, 1, none⟩ = some sv ∧ w.cell? ⟨kb, 2, none⟩ = some (.slice (some ⟨hb, 0, none⟩) n n) ∧ w.cell? ⟨kb, 3, none⟩ = some (.slice (some ⟨tb, 0, none⟩) n n) ∧ w.cell? ⟨kb, 4, none⟩ = some (.slice (some ⟨eb, 0, none⟩) n n) :=
  ⟨h.ck.cell 0, h.ck.cell 1, h.ck.cell 2, h.ck.cell 3, h.ck.cell 4⟩
theorem LkAt.at_ (h : LkAt w B kb hb tb eb n sv st seen) {o : Nat} (ho : o < n) : w.cell? ⟨hb, o, none⟩ = some (.bool (st (o : Int)).isSome) ∧ w.cell? ⟨eb, o, none⟩ = some (.bool (seen (o : Int))) ∧
    ∃ A c, w.cell? ⟨tb, o, none⟩ = some (.slice A ((st (o : Int)).getD []).length c) ∧ w.ownsRow B 82 1 (.slice A ((st (o : Int)).getD []).length c) ((st (o : Int)).getD []).length (((st (o : Int)).getD []).map (Value.int .i8)) := by
  obtain ⟨F, h9, h10⟩ := h.stk
  refine ⟨by rw [h.has.cell, fnA_get ho], by rw [h.seen.cell, fnA_get ho], ?_⟩
  have hc := h9.cell o
  rw [fnA_get ho] at hc
  unfold stkC at hc
  cases hs : st (o : Int) with
  | none =>
    rw [hs] at hc
    exact ⟨none, 0, hc, World.ownsRow_nil _ _ _ _⟩
  | some s =>
    rw [hs] at hc
    exact ⟨_, _, hc, h10 _ _ hs⟩
theorem LkAt.mark (h : LkAt w B kb hb tb eb n sv st seen) (o : Nat) : LkAt (w.setCell ⟨eb, o, none⟩ (.bool true)) B kb hb tb eb n sv st (seenV seen (o : Int)) ∧ Frm B TL w (w.setCell ⟨eb, o, none⟩ (.bool true)) := by
  have hf : Frm B TL w (w.setCell ⟨eb, o, none⟩ (.bool true)) := (Frm.refl B TL w).set_ (i := o) h.seen h.heb (by decide) (.bool true)
  obtain ⟨h1, h2, h3, h4, h5, h6, h7, h8, F, h9, h10⟩ := h
  refine ⟨⟨hf.blk h1 (by decide), h2, h3, h4, h5, h6, h7.far (p := ⟨eb, o, none⟩) h6 _, ?_, F, h9.far (p := ⟨eb, o, none⟩) (h9.ne_ h8 (by decide)) _, fun y s hy => hf.own (h10 y s hy) (by decide)⟩, hf⟩
  have hs := h8.set_ o (.bool true)
  rw [fnA_set] at hs
  have e : (fun j => if j = o then Value.bool true else Value.bool (seen (j : Int))) = fun j : Nat => Value.bool (seenV seen (o : Int) (j : Int)) := by
    funext j
    unfold seenV
    by_cases hj : j = o
    · rw [if_pos hj, if_pos (by omega)]
    · rw [if_neg hj, if_neg (by omega)]
  rw [e] at hs
  exact hs
theorem LkAt.lay (h : LkAt w B kb hb tb eb n sv st seen) {tg : Nat} {s : List Int} {A : Option Addr} {c : Nat} (hB : B ≤ w.heap.size) (hb2 : Below w.heap.size (w.setCell ⟨hb, tg, none⟩ (.bool true)) w2) (ho : w2.ownsRow B 82 1 (.slice A s.length c) s.length (s.map (Value.int .i8))) :
    LkAt (w2.setCell ⟨tb, tg, none⟩ (.slice A s.length c)) B kb hb tb eb n sv (setV st (tg : Int) s) seen ∧ Frm B TL w (w2.setCell ⟨tb, tg, none⟩ (.slice A s.length c)) := by
  have hf1 : Frm B TL w (w.setCell ⟨hb, tg, none⟩ (.bool true)) := (Frm.refl B TL w).set_ (i := tg) h.has h.hhb (by decide) (.bool true)
  have hz1 : (w.setCell ⟨hb, tg, none⟩ (.bool true)).heap.size = w.heap.size := by simp [World.setCell]
  have hf2 : Frm B TL w w2 := hf1.trans (Frm.of_below (T := TL) (by rw [hz1]; exact hb2) (by omega))
  have hf20 : Frm 0 [] (w.setCell ⟨hb, tg, none⟩ (.bool true)) w2 := Frm.of_below (by rw [hz1]; exact hb2) (Nat.zero_le _)
  obtain ⟨h1, h2, h3, h4, h5, h6, h7, h8, F, h9, h10⟩ := h
  have hth : tb ≠ hb := h9.ne_ h7 (by decide)
  have hte : tb ≠ eb := h9.ne_ h8 (by decide)
  have b9 := hf20.blk (h9.far (p := ⟨hb, tg, none⟩) hth (.bool true)) (by simp)
  have b7 := hf20.blk (h7.set_ tg (.bool true)) (by simp)
  have b8 := hf20.blk (h8.far (p := ⟨hb, tg, none⟩) (Ne.symm h6) (.bool true)) (by simp)
  have hf3 := hf2.set_ (i := tg) b9 h4 (by decide) (.slice A s.length c)
  refine ⟨⟨hf3.blk h1 (by decide), h2, h3, h4, h5, h6, ?_, b8.far (p := ⟨tb, tg, none⟩) (Ne.symm hte) _, fun o => if o = (tg : Int) then (A, c) else F o, ?_, fun y s' hy => ?_⟩, hf3⟩
  · have hs := b7.far (p := ⟨tb, tg, none⟩) (Ne.symm hth) (.slice A s.length c)
    rw [fnA_set] at hs
    have e : (fun j => if j = tg then Value.bool true else Value.bool (st (j : Int)).isSome) = fun j : Nat => Value.bool (setV st (tg : Int) s (j : Int)).isSome := by
      funext j
      unfold setV
      by_cases hj : j = tg
      · rw [if_pos hj, if_pos (by omega)]; rfl
      · rw [if_neg hj, if_neg (by omega)]
    rw [e] at hs
    exact hs
  · have hs := b9.set_ tg (.slice A s.length c)
    rw [fnA_set] at hs
    have e : (fun j => if j = tg then Value.slice A s.length c else stkC F st j) = stkC (fun o => if o = (tg : Int) then (A, c) else F o) (setV st (tg : Int) s) := by
      funext j
      unfold stkC setV
      by_cases hj : j = tg
      · rw [if_pos hj]
        simp only [hj, if_true]
      · rw [if_neg hj]
        simp only [show ¬ (j : Int) = (tg : Int) by omega, if_false]
    rw [e] at hs
    exact hs
  · unfold setV at hy
    by_cases hyt : y = (tg : Int)
    · rw [if_pos hyt] at hy
      injection hy with hy
      subst hy
      simp only [if_pos hyt]
      exact own_setCell ho (own_blk_ne ho b9 (by decide)) _
    · rw [if_neg hyt] at hy
      simp only [if_neg hyt]
      exact hf3.own (h10 y s' hy) (by decide)
end
def faultV : Option (Int × Int) → Value
  | none => .agg #[.int .i64 0, .int .i64 0, .int .i64 0, .int .i64 0]
  | some (e, o) => .agg #[.int .i64 e, .int .i64 o, .int .i64 0, .int .i64 0]
theorem set_same {st : Int → Option (List Int)} {tg : Int} {s : List Int} (h : st tg = some s) : setV st tg s = st := by
  funext y
  unfold setV
  by_cases hy : y = tg
  · rw [if_pos hy, hy, h]
  · rw [if_neg hy]
end Go.Proofs.YtabpheanbomibaaGreatDoor
namespace Go.Proofs.YtabpheanbomibaaGreatDoor
open Go.RowKit
set_option linter.unusedVariables false

def tailR (b slots : List Int) (l : List Ins) : List (Int × List Int) × Int × Int × Int :=
  match jumpsV l l with
  | some (e, o) => ([], 0, e, o)
  | none => match loopR b.length slots l b.length startV.stacks (fun _ => false) with
    | (_, some (e, o)) => ([], 0, e, o)
    | (st, none) => (shapesV b.length st, highV (shapesV b.length st), 0, 0)
def scanR (b slots : List Int) : List Ins ⊕ (Int × Int) → List (Int × List Int) × Int × Int × Int
  | .inr (e, o) => ([], 0, e, o)
  | .inl l => tailR b slots l
theorem codeR_scan {b slots : List Int} {ints texts : Int} (h : limitsV b slots ints texts = 0) : codeR b slots ints texts = scanR b slots (scanV b slots ints texts b.length 0 []) := by
  unfold codeR
  rw [if_neg (by omega)]
  cases scanV b slots ints texts b.length 0 [] with
  | inr p => rfl
  | inl l => rfl
section
variable {b slots : List Int} {ints texts : Int} {f o : Nat} {acc : List Ins}
theorem scan_end (h : b.length ≤ o) : scanV b slots ints texts f o acc = .inl acc := by
  cases f with
  | zero => rfl
  | succ f => rw [scanV, if_pos h]
theorem scan_bad1 (h : o < b.length) (he : (readM b (o : Nat)).2 ≠ 0) : scanV b slots ints texts (f + 1) o acc = .inr ((readM b (o : Nat)).2, (o : Int)) := by
  rw [scanV, if_neg (by omega), if_pos he]
theorem scan_bad2 (h : o < b.length) (he : (readM b (o : Nat)).2 = 0) (hn : numbersV slots ints texts (readM b (o : Nat)).1 ≠ 0) : scanV b slots ints texts (f + 1) o acc = .inr (numbersV slots ints texts (readM b (o : Nat)).1, (o : Int)) := by
  rw [scanV, if_neg (by omega), if_neg (by omega), if_pos hn]
theorem scan_go (h : o < b.length) (he : (readM b (o : Nat)).2 = 0) (hn : numbersV slots ints texts (readM b (o : Nat)).1 = 0) : scanV b slots ints texts (f + 1) o acc = scanV b slots ints texts f (o + (sizeI (readM b (o : Nat)).1.op).toNat) (acc ++ [(readM b (o : Nat)).1]) := by
  rw [scanV, if_neg (by omega), if_neg (by omega), if_neg (by omega)]
end
/-- The table of the instructions' numbers. -/
def IsOk (l : List Ins) (f : Int → Int) : Prop := ∀ o, (insAt l o = none ∧ f o = 0) ∨ ∃ (i : Nat) (x : Ins), insAt l o = some x ∧ f o = (i : Int) + 1 ∧ l[i]? = some x
theorem IsOk.nil : IsOk [] (fun _ => 0) := fun o => .inl ⟨rfl, rfl⟩
theorem IsOk.snoc {l : List Ins} {f : Int → Int} {x : Ins} (h : IsOk l f) (hr : ∀ y ∈ l, y.at_ < x.at_) : IsOk (l ++ [x]) (fun o => if o = x.at_ then (l.length : Int) + 1 else f o) := by
  intro o
  rw [insAt_snoc l x o hr]
  by_cases ho : o = x.at_
  · rw [if_pos ho]
    simp only [if_pos ho]
    exact .inr ⟨l.length, x, rfl, rfl, by simp⟩
  · rw [if_neg ho]
    simp only [if_neg ho]
    rcases h o with h | ⟨i, y, h1, h2, h3⟩
    · exact .inl h
    · exact .inr ⟨i, y, h1, h2, by rw [List.getElem?_append_left (List.getElem?_eq_some_iff.1 h3).1]; exact h3⟩
/-- What the scan keeps. -/
structure ScanAt (len : Nat) (slots : List Int) (ints texts : Int) (l : List Ins) (o : Nat) : Prop where
  ok : ∀ x ∈ l, InsOk len slots ints texts x
  lt : ∀ x ∈ l, x.at_ < o
  next : ∀ x ∈ l, x.at_ + sizeI x.op = o ∨ (insAt l (x.at_ + sizeI x.op)).isSome = true
  zero : o = 0 ∨ (insAt l 0).isSome = true
  len : l.length ≤ o
theorem ScanAt.nil (len : Nat) (slots : List Int) (ints texts : Int) : ScanAt len slots ints texts [] 0 := ⟨fun x h => by simp at h, fun x h => by simp at h, fun x h => by simp at h, .inl rfl, Nat.le_refl _⟩
theorem ScanAt.step {b slots : List Int} {ints texts : Int} {l : List Ins} {o : Nat} {x : Ins} (h : ScanAt b.length slots ints texts l o) (hb : ∀ x ∈ b, 0 ≤ x ∧ x ≤ 255) (hx : readM b (o : Nat) = (x, 0)) (hn : numbersV slots ints texts x = 0) :
    ScanAt b.length slots ints texts (l ++ [x]) (o + (sizeI x.op).toNat) ∧ x.at_ = o ∧ 1 ≤ sizeI x.op := by
  obtain ⟨hok, hat⟩ := readM_fine hb hx hn
  obtain ⟨_, _, _, hs⟩ := readM_ok hb hx
  have hlt : ∀ y ∈ l, y.at_ < x.at_ := fun y hy => by have := h.lt y hy; omega
  have hat2 : x.at_ = (o : Int) := hat
  refine ⟨⟨fun y hy => ?_, fun y hy => ?_, fun y hy => ?_, .inr ?_, ?_⟩, hat2, hs⟩
  · rcases List.mem_append.1 hy with hy | hy
    · exact h.ok y hy
    · rw [List.mem_singleton.1 hy]; exact hok
  · rcases List.mem_append.1 hy with hy | hy
    · have := h.lt y hy; omega
    · rw [List.mem_singleton.1 hy]; omega
  · rcases List.mem_append.1 hy with hy | hy
    · rcases h.next y hy with h1 | h1
      · refine .inr ?_
        rw [insAt_snoc l x _ hlt, if_pos (by omega)]
        rfl
      · exact .inr (insAt_some l x _ h1)
    · rw [List.mem_singleton.1 hy]
      left
      omega
  · rcases h.zero with h0 | h0
    · rw [insAt_snoc l x _ hlt, if_pos (by omega)]
      rfl
    · exact insAt_some l x _ h0
  · rw [List.length_append]
    have := h.len
    simp only [List.length_cons, List.length_nil]
    omega
theorem jumps_step {l r : List Ins} {x : Ins} : jumpsV l (x :: r) = match targetV x with
    | some tg => if (insAt l tg).isSome = true then jumpsV l r else some (44, x.at_)
    | none => jumpsV l r := rfl
/-- Every jump leads to an instruction. -/
def JumpsOk (l : List Ins) : Prop := ∀ x ∈ l, ∀ tg, targetV x = some tg → (insAt l tg).isSome = true
theorem jumps_ok {l : List Ins} : ∀ {r : List Ins}, jumpsV l r = none → ∀ x ∈ r, ∀ tg, targetV x = some tg → (insAt l tg).isSome = true
  | [], _, x, hx, _, _ => by simp at hx
  | y :: r, h, x, hx, tg, ht => by
    rw [jumps_step] at h
    rcases List.mem_cons.1 hx with e | hx
    · subst e
      rw [ht] at h
      simp only at h
      by_cases hs : (insAt l tg).isSome = true
      · exact hs
      · rw [if_neg hs] at h; cases h
    · cases hy : targetV y with
      | none =>
        rw [hy] at h
        exact jumps_ok h x hx tg ht
      | some t2 =>
        rw [hy] at h
        simp only at h
        by_cases hs : (insAt l t2).isSome = true
        · rw [if_pos hs] at h; exact jumps_ok h x hx tg ht
        · rw [if_neg hs] at h; cases h
theorem look_pres (P : (Int → Option (List Int)) → Prop) {len : Nat} {slots : List Int} {x : Ins} {st : Int → Option (List Int)}
    (hg : ∀ frm tg s v, s.length ≤ 256 → (tg = x.at_ + sizeI x.op ∨ targetV x = some tg) → P v.stacks → P (giveV len frm tg s v).1.stacks) (h : P st) (h256 : ((st x.at_).getD []).length ≤ 256) : P (lookS len slots x st).1 := by
  show P (lookV len slots x ⟨st, [], 0⟩).1.stacks
  unfold lookV
  simp only
  split
  · exact h
  split
  · exact h
  split
  · exact h
  split
  · exact h
  · rename_i h3 _
    have hb : (List.take (((st x.at_).getD []).length - (takesV slots x).1.length) ((st x.at_).getD [])).length ≤ 256 := by rw [List.length_take]; omega
    have hr : ∀ (c : Prop) [Decidable c], P (if c then ((⟨st, [], 0⟩ : VS), none) else giveV len x.at_ (x.at_ + sizeI x.op) (List.take (((st x.at_).getD []).length - (takesV slots x).1.length) ((st x.at_).getD []) ++ (takesV slots x).2) ⟨st, [], 0⟩).1.stacks := by
      intro c _
      by_cases hc : c
      · rw [if_pos hc]; exact h
      · rw [if_neg hc]; exact hg _ _ _ ⟨st, [], 0⟩ (by omega) (.inl rfl) h
    have hr1 := hr (x.op = 30)
    generalize (if x.op = 30 then ((⟨st, [], 0⟩ : VS), none) else giveV len x.at_ (x.at_ + sizeI x.op) (List.take (((st x.at_).getD []).length - (takesV slots x).1.length) ((st x.at_).getD []) ++ (takesV slots x).2) ⟨st, [], 0⟩) = r1 at hr1 ⊢
    cases r1.2 with
    | some f => exact hr1
    | none =>
      simp only
      cases ht : targetV x with
      | none => exact hr1
      | some tg =>
        refine hg _ _ _ _ ?_ (.inr ht) hr1
        split
        · exact hb
        · omega
/-- What the look's rounds keep. -/
structure SOk (len : Nat) (l : List Ins) (st : Int → Option (List Int)) : Prop where
  high : ∀ o s, st o = some s → s.length ≤ 256
  cov : ∀ o, (st o).isSome = true → (insAt l o).isSome = true
theorem SOk.get {len : Nat} {l : List Ins} {st : Int → Option (List Int)} (h : SOk len l st) (o : Int) : ((st o).getD []).length ≤ 256 := by
  cases hs : st o with
  | none => simp
  | some s => exact h.high o s hs
theorem SOk.start {len : Nat} {l : List Ins} (h : (insAt l 0).isSome = true) : SOk len l startV.stacks := by
  refine ⟨fun o s ho => ?_, fun o ho => ?_⟩
  · simp only [startV, setV] at ho
    split at ho
    · injection ho with ho; subst ho; simp
    · cases ho
  · simp only [startV, setV] at ho
    split at ho
    · rename_i h0; rw [h0]; exact h
    · cases ho
theorem SOk.look {len : Nat} {slots : List Int} {ints texts : Int} {l : List Ins} {o : Nat} {st : Int → Option (List Int)} {x : Ins} (h : SOk len l st) (hs : ScanAt len slots ints texts l o) (ho : len ≤ o) (hj : JumpsOk l) (hx : x ∈ l) : SOk len l (lookS len slots x st).1 := by
  refine look_pres (SOk len l) (fun frm tg s v h1 h2 h3 => ?_) h (h.get _)
  unfold giveV
  by_cases c1 : (len : Int) ≤ tg
  · rw [if_pos c1]; exact h3
  · rw [if_neg c1]
    cases hv : v.stacks tg with
    | some t =>
      simp only
      split
      · exact h3
      · exact h3
    | none =>
      refine ⟨fun y s' hy => ?_, fun y hy => ?_⟩
      · simp only [setV] at hy
        split at hy
        · injection hy with hy; subst hy; exact h1
        · exact h3.high y s' hy
      · simp only [setV] at hy
        by_cases hyt : y = tg
        · rw [hyt]
          rcases h2 with h2 | h2
          · rcases hs.next x hx with h4 | h4
            · omega
            · rw [h2]; exact h4
          · exact hj x hx tg h2
        · rw [if_neg hyt] at hy
          exact h3.cov y hy
theorem shapes_succ (n : Nat) (st : Int → Option (List Int)) : shapesV (n + 1) st = shapesV n st ++ (match st (n : Int) with | some s => [((n : Int), s)] | none => []) := by
  unfold shapesV
  rw [List.range_succ, List.filterMap_append]
  congr 1
  cases hs : st (n : Int) <;> simp [hs]
theorem high_snoc (L : List (Int × List Int)) (p : Int × List Int) : highV (L ++ [p]) = max (highV L) (p.2.length : Int) := by simp [highV]
theorem shapes_length (n : Nat) (st : Int → Option (List Int)) : (shapesV n st).length ≤ n := by
  unfold shapesV
  refine Nat.le_trans (List.length_filterMap_le _ _) ?_
  simp
def giveS (len : Nat) (frm tg : Int) (s : List Int) (st : Int → Option (List Int)) : (Int → Option (List Int)) × Option (Int × Int) := ((giveV len frm tg s ⟨st, [], 0⟩).1.stacks, (giveV len frm tg s ⟨st, [], 0⟩).2)
theorem give_S (len : Nat) (frm tg : Int) (s : List Int) (v : VS) : ((giveV len frm tg s v).1.stacks, (giveV len frm tg s v).2) = giveS len frm tg s v.stacks := by
  obtain ⟨h1, h2⟩ := give_free len frm tg s v ⟨v.stacks, [], 0⟩ rfl
  unfold giveS
  rw [h1, h2]
def endS (len : Nat) (x : Ins) (bare full : List Int) (r : (Int → Option (List Int)) × Option (Int × Int)) : (Int → Option (List Int)) × Option (Int × Int) :=
  match r.2 with
  | some f => (r.1, some f)
  | none => match targetV x with
    | none => (r.1, none)
    | some tg => giveS len x.at_ tg (if x.op = 32 ∨ x.op = 33 then bare else full) r.1
def endT (len : Nat) (a xo : Int) (bare full : List Int) (tv : Option Int) (st : Int → Option (List Int)) : (Int → Option (List Int)) × Option (Int × Int) :=
  match tv with
  | none => (st, none)
  | some tg => giveS len a tg (if xo = 32 ∨ xo = 33 then bare else full) st
theorem endS_T (len : Nat) (x : Ins) (bare full : List Int) (st : Int → Option (List Int)) : endS len x bare full (st, none) = endT len x.at_ x.op bare full (targetV x) st := rfl
theorem lookS_eq (len : Nat) (slots : List Int) (x : Ins) (st : Int → Option (List Int)) (s t1 t2 : List Int) (hs : (st x.at_).getD [] = s) (ht : takesV slots x = (t1, t2)) : lookS len slots x st =
    if s.length < t1.length then (st, some (45, x.at_)) else
    if s.drop (s.length - t1.length) ≠ t1 then (st, some (46, x.at_)) else
    if 256 < (s.take (s.length - t1.length) ++ t2).length then (st, some (47, x.at_)) else
    if x.op = 34 ∨ x.op = 35 then (st, none) else
    endS len x (s.take (s.length - t1.length)) (s.take (s.length - t1.length) ++ t2) (if x.op = 30 then (st, none) else giveS len x.at_ (x.at_ + sizeI x.op) (s.take (s.length - t1.length) ++ t2) st) := by
  unfold lookS lookV
  simp only [hs, ht]
  by_cases c1 : s.length < t1.length
  · simp only [if_pos c1]
  simp only [if_neg c1]
  by_cases c2 : s.drop (s.length - t1.length) ≠ t1
  · simp only [if_pos c2]
  simp only [if_neg c2]
  by_cases c3 : 256 < (s.take (s.length - t1.length) ++ t2).length
  · simp only [if_pos c3]
  simp only [if_neg c3]
  by_cases c4 : x.op = 34 ∨ x.op = 35
  · simp only [if_pos c4]
  simp only [if_neg c4]
  have hfin : ∀ (v : VS) (e : Option (Int × Int)) (bare full : List Int), ((match e with
      | some f => (v, some f)
      | none => match targetV x with
        | none => (v, none)
        | some tg => giveV len x.at_ tg (if x.op = 32 ∨ x.op = 33 then bare else full) v).1.stacks, (match e with
      | some f => (v, some f)
      | none => match targetV x with
        | none => (v, none)
        | some tg => giveV len x.at_ tg (if x.op = 32 ∨ x.op = 33 then bare else full) v).2) = endS len x bare full (v.stacks, e) := by
    intro v e bare full
    unfold endS
    cases e with
    | some f => rfl
    | none =>
      simp only
      cases targetV x with
      | none => rfl
      | some tg => exact give_S len x.at_ tg _ v
  by_cases c5 : x.op = 30
  · simp only [if_pos c5]
    exact hfin ⟨st, [], 0⟩ none _ _
  · simp only [if_neg c5]
    have h := hfin (giveV len x.at_ (x.at_ + sizeI x.op) (s.take (s.length - t1.length) ++ t2) ⟨st, [], 0⟩).1 (giveV len x.at_ (x.at_ + sizeI x.op) (s.take (s.length - t1.length) ++ t2) ⟨st, [], 0⟩).2 (s.take (s.length - t1.length)) (s.take (s.length - t1.length) ++ t2)
    exact h
theorem giveS_ne {len : Nat} {frm tg : Int} {s : List Int} {st : Int → Option (List Int)} {e o : Int} (h : (giveS len frm tg s st).2 = some (e, o)) : e ≠ 0 := by
  unfold giveS giveV at h
  simp only at h
  split at h
  · injection h with h; injection h with h _; omega
  · split at h
    · split at h
      · cases h
      · injection h with h; injection h with h _; omega
    · cases h
theorem giveS_high {len : Nat} {frm tg : Int} {s : List Int} {st : Int → Option (List Int)} (h : ∀ y s, st y = some s → s.length ≤ 256) (hs : s.length ≤ 256) : ∀ y s', (giveS len frm tg s st).1 y = some s' → s'.length ≤ 256 := by
  unfold giveS giveV
  simp only
  split
  · exact h
  · split
    · split
      · exact h
      · exact h
    · intro y s' hy
      simp only [setV] at hy
      split at hy
      · injection hy with hy; subst hy; exact hs
      · exact h y s' hy
end Go.Proofs.YtabpheanbomibaaGreatDoor
