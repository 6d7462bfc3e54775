/- verify: checker.takes, where it lays constants. -/
import Derived.Test.YtabpheanbomibaaGreatDoorVer3
namespace Go.Proofs.YtabpheanbomibaaGreatDoor
open Go.RowKit
set_option linter.unusedVariables false

def TakesOk (w w' : World) (e : Ending) (p : List Int × List Int) : Prop :=
  ∃ A1 c1 A2 c2, e = .returned (.tuple #[.slice A1 p.1.length c1, .slice A2 p.2.length c2]) ∧ p.1.length ≤ c1 ∧ p.2.length ≤ c2 ∧ SmallsAt w' A1 p.1 ∧ SmallsAt w' A2 p.2 ∧ Below w.heap.size w w'
theorem smalls_none (w : World) : SmallsAt w none [] := fun k x h => by simp at h
theorem take1_any (v : Value) (w : World) : Calls Tryz.prog 108 #[v] w fun e w' => e = .returned v ∧ w = w' := by
  go_enter Tryz.func108, Tryz.ntmps108
  go_wp2
  go_ret
  exact ⟨rfl, rfl⟩
theorem takes_nn (w : World) (I : Obj) : TakesOk w (w.alloc I) (.returned (.tuple #[.slice none 0 0, .slice none 0 0])) ([], []) :=
  ⟨none, 0, none, 0, rfl, Nat.le_refl _, Nat.le_refl _, smalls_none _, smalls_none _, (Below.refl _ _).alloc (Nat.le_refl _) _⟩
theorem takes_ns (w : World) (I : Obj) (l : List Int) (n : Nat) (hn : l.length = n) : TakesOk w ((w.alloc I).alloc (.cells (l.map (Value.int .i8)).toArray 82)) (.returned (.tuple #[.slice none 0 0, .slice (some ⟨w.heap.size + 1, 0, none⟩) n n])) ([], l) := by
  subst hn
  have hb := Blk.new (w.alloc I) 82 (l.map (Value.int .i8)).toArray
  rw [World.size_alloc] at hb
  exact ⟨none, 0, _, _, rfl, Nat.le_refl _, Nat.le_refl _, smalls_none _, smalls_blk hb, ((Below.refl _ _).alloc (Nat.le_refl _) _).alloc (by simp) _⟩
theorem takes_sn (w : World) (I : Obj) (l : List Int) (n : Nat) (hn : l.length = n) : TakesOk w ((w.alloc I).alloc (.cells (l.map (Value.int .i8)).toArray 82)) (.returned (.tuple #[.slice (some ⟨w.heap.size + 1, 0, none⟩) n n, .slice none 0 0])) (l, []) := by
  subst hn
  have hb := Blk.new (w.alloc I) 82 (l.map (Value.int .i8)).toArray
  rw [World.size_alloc] at hb
  exact ⟨_, _, none, 0, rfl, Nat.le_refl _, Nat.le_refl _, smalls_blk hb, smalls_none _, ((Below.refl _ _).alloc (Nat.le_refl _) _).alloc (by simp) _⟩
theorem takes_ss (w : World) (I : Obj) (l m : List Int) (n k : Nat) (hn : l.length = n) (hm : m.length = k) : TakesOk w (((w.alloc I).alloc (.cells (l.map (Value.int .i8)).toArray 82)).alloc (.cells (m.map (Value.int .i8)).toArray 82)) (.returned (.tuple #[.slice (some ⟨w.heap.size + 1, 0, none⟩) n n, .slice (some ⟨w.heap.size + 1 + 1, 0, none⟩) k k])) (l, m) := by
  subst hn hm
  have hb := (Blk.new (w.alloc I) 82 (l.map (Value.int .i8)).toArray).alloc (.cells (m.map (Value.int .i8)).toArray 82)
  have hc := Blk.new ((w.alloc I).alloc (.cells (l.map (Value.int .i8)).toArray 82)) 82 (m.map (Value.int .i8)).toArray
  simp only [World.size_alloc] at hb hc
  exact ⟨_, _, _, _, rfl, Nat.le_refl _, Nat.le_refl _, smalls_blk hb, smalls_blk hc, (((Below.refl _ _).alloc (Nat.le_refl _) _).alloc (by simp) _).alloc (by simp; omega) _⟩
section
variable (w : World) (kp : Value) (xa xA xB xC : Int)
set_option maxRecDepth 100000 in
set_option maxHeartbeats 2000000 in
theorem takes_1 : Calls Tryz.prog 86 #[kp, .agg #[.int .i64 xa, .int .u8 1, .int .i64 xA, .int .i64 xB, .int .i64 xC]] w fun e w' => TakesOk w w' e ([], [1]) := by
  go_enter Tryz.func86, Tryz.ntmps86
  go_wp2_with (go_at_call 108; refine (take1_any _ _).mono ?_; rintro e w5 ⟨rfl, rfl⟩)
  go_ret2
  exact takes_ns w _ [1] 1 rfl
set_option maxRecDepth 100000 in
set_option maxHeartbeats 2000000 in
theorem takes_2 : Calls Tryz.prog 86 #[kp, .agg #[.int .i64 xa, .int .u8 2, .int .i64 xA, .int .i64 xB, .int .i64 xC]] w fun e w' => TakesOk w w' e ([], [2]) := by
  go_enter Tryz.func86, Tryz.ntmps86
  go_wp2_with (go_at_call 108; refine (take1_any _ _).mono ?_; rintro e w5 ⟨rfl, rfl⟩)
  go_ret2
  exact takes_ns w _ [2] 1 rfl
set_option maxRecDepth 100000 in
set_option maxHeartbeats 2000000 in
theorem takes_3 : Calls Tryz.prog 86 #[kp, .agg #[.int .i64 xa, .int .u8 3, .int .i64 xA, .int .i64 xB, .int .i64 xC]] w fun e w' => TakesOk w w' e ([], [2]) := by
  go_enter Tryz.func86, Tryz.ntmps86
  go_wp2_with (go_at_call 108; refine (take1_any _ _).mono ?_; rintro e w5 ⟨rfl, rfl⟩)
  go_ret2
  exact takes_ns w _ [2] 1 rfl
set_option maxRecDepth 100000 in
set_option maxHeartbeats 2000000 in
theorem takes_10 : Calls Tryz.prog 86 #[kp, .agg #[.int .i64 xa, .int .u8 10, .int .i64 xA, .int .i64 xB, .int .i64 xC]] w fun e w' => TakesOk w w' e ([1, 1], [1]) := by
  go_enter Tryz.func86, Tryz.ntmps86
  go_wp2_with (go_at_call 108; refine (take1_any _ _).mono ?_; rintro e w5 ⟨rfl, rfl⟩)
  go_ret2
  exact takes_ss w _ [1, 1] [1] 2 1 rfl rfl
set_option maxRecDepth 100000 in
set_option maxHeartbeats 2000000 in
theorem takes_11 : Calls Tryz.prog 86 #[kp, .agg #[.int .i64 xa, .int .u8 11, .int .i64 xA, .int .i64 xB, .int .i64 xC]] w fun e w' => TakesOk w w' e ([1, 1], [1]) := by
  go_enter Tryz.func86, Tryz.ntmps86
  go_wp2_with (go_at_call 108; refine (take1_any _ _).mono ?_; rintro e w5 ⟨rfl, rfl⟩)
  go_ret2
  exact takes_ss w _ [1, 1] [1] 2 1 rfl rfl
set_option maxRecDepth 100000 in
set_option maxHeartbeats 2000000 in
theorem takes_12 : Calls Tryz.prog 86 #[kp, .agg #[.int .i64 xa, .int .u8 12, .int .i64 xA, .int .i64 xB, .int .i64 xC]] w fun e w' => TakesOk w w' e ([1, 1], [1]) := by
  go_enter Tryz.func86, Tryz.ntmps86
  go_wp2_with (go_at_call 108; refine (take1_any _ _).mono ?_; rintro e w5 ⟨rfl, rfl⟩)
  go_ret2
  exact takes_ss w _ [1, 1] [1] 2 1 rfl rfl
set_option maxRecDepth 100000 in
set_option maxHeartbeats 2000000 in
theorem takes_13 : Calls Tryz.prog 86 #[kp, .agg #[.int .i64 xa, .int .u8 13, .int .i64 xA, .int .i64 xB, .int .i64 xC]] w fun e w' => TakesOk w w' e ([1, 1], [1]) := by
  go_enter Tryz.func86, Tryz.ntmps86
  go_wp2_with (go_at_call 108; refine (take1_any _ _).mono ?_; rintro e w5 ⟨rfl, rfl⟩)
  go_ret2
  exact takes_ss w _ [1, 1] [1] 2 1 rfl rfl
set_option maxRecDepth 100000 in
set_option maxHeartbeats 2000000 in
theorem takes_14 : Calls Tryz.prog 86 #[kp, .agg #[.int .i64 xa, .int .u8 14, .int .i64 xA, .int .i64 xB, .int .i64 xC]] w fun e w' => TakesOk w w' e ([1, 1], [1]) := by
  go_enter Tryz.func86, Tryz.ntmps86
  go_wp2_with (go_at_call 108; refine (take1_any _ _).mono ?_; rintro e w5 ⟨rfl, rfl⟩)
  go_ret2
  exact takes_ss w _ [1, 1] [1] 2 1 rfl rfl
set_option maxRecDepth 100000 in
set_option maxHeartbeats 2000000 in
theorem takes_17 : Calls Tryz.prog 86 #[kp, .agg #[.int .i64 xa, .int .u8 17, .int .i64 xA, .int .i64 xB, .int .i64 xC]] w fun e w' => TakesOk w w' e ([1, 1], [1]) := by
  go_enter Tryz.func86, Tryz.ntmps86
  go_wp2_with (go_at_call 108; refine (take1_any _ _).mono ?_; rintro e w5 ⟨rfl, rfl⟩)
  go_ret2
  exact takes_ss w _ [1, 1] [1] 2 1 rfl rfl
set_option maxRecDepth 100000 in
set_option maxHeartbeats 2000000 in
theorem takes_18 : Calls Tryz.prog 86 #[kp, .agg #[.int .i64 xa, .int .u8 18, .int .i64 xA, .int .i64 xB, .int .i64 xC]] w fun e w' => TakesOk w w' e ([1, 1], [1]) := by
  go_enter Tryz.func86, Tryz.ntmps86
  go_wp2_with (go_at_call 108; refine (take1_any _ _).mono ?_; rintro e w5 ⟨rfl, rfl⟩)
  go_ret2
  exact takes_ss w _ [1, 1] [1] 2 1 rfl rfl
set_option maxRecDepth 100000 in
set_option maxHeartbeats 2000000 in
theorem takes_15 : Calls Tryz.prog 86 #[kp, .agg #[.int .i64 xa, .int .u8 15, .int .i64 xA, .int .i64 xB, .int .i64 xC]] w fun e w' => TakesOk w w' e ([1], [1]) := by
  go_enter Tryz.func86, Tryz.ntmps86
  go_wp2_with (go_at_call 108; refine (take1_any _ _).mono ?_; rintro e w5 ⟨rfl, rfl⟩)
  go_ret2
  exact takes_ss w _ [1] [1] 1 1 rfl rfl
set_option maxRecDepth 100000 in
set_option maxHeartbeats 2000000 in
theorem takes_16 : Calls Tryz.prog 86 #[kp, .agg #[.int .i64 xa, .int .u8 16, .int .i64 xA, .int .i64 xB, .int .i64 xC]] w fun e w' => TakesOk w w' e ([1], [1]) := by
  go_enter Tryz.func86, Tryz.ntmps86
  go_wp2_with (go_at_call 108; refine (take1_any _ _).mono ?_; rintro e w5 ⟨rfl, rfl⟩)
  go_ret2
  exact takes_ss w _ [1] [1] 1 1 rfl rfl
set_option maxRecDepth 100000 in
set_option maxHeartbeats 2000000 in
theorem takes_42 : Calls Tryz.prog 86 #[kp, .agg #[.int .i64 xa, .int .u8 42, .int .i64 xA, .int .i64 xB, .int .i64 xC]] w fun e w' => TakesOk w w' e ([1], [1]) := by
  go_enter Tryz.func86, Tryz.ntmps86
  go_wp2_with (go_at_call 108; refine (take1_any _ _).mono ?_; rintro e w5 ⟨rfl, rfl⟩)
  go_ret2
  exact takes_ss w _ [1] [1] 1 1 rfl rfl
set_option maxRecDepth 100000 in
set_option maxHeartbeats 2000000 in
theorem takes_19 : Calls Tryz.prog 86 #[kp, .agg #[.int .i64 xa, .int .u8 19, .int .i64 xA, .int .i64 xB, .int .i64 xC]] w fun e w' => TakesOk w w' e ([1, 1], [2]) := by
  go_enter Tryz.func86, Tryz.ntmps86
  go_wp2_with (go_at_call 108; refine (take1_any _ _).mono ?_; rintro e w5 ⟨rfl, rfl⟩)
  go_ret2
  exact takes_ss w _ [1, 1] [2] 2 1 rfl rfl
set_option maxRecDepth 100000 in
set_option maxHeartbeats 2000000 in
theorem takes_20 : Calls Tryz.prog 86 #[kp, .agg #[.int .i64 xa, .int .u8 20, .int .i64 xA, .int .i64 xB, .int .i64 xC]] w fun e w' => TakesOk w w' e ([1, 1], [2]) := by
  go_enter Tryz.func86, Tryz.ntmps86
  go_wp2_with (go_at_call 108; refine (take1_any _ _).mono ?_; rintro e w5 ⟨rfl, rfl⟩)
  go_ret2
  exact takes_ss w _ [1, 1] [2] 2 1 rfl rfl
set_option maxRecDepth 100000 in
set_option maxHeartbeats 2000000 in
theorem takes_21 : Calls Tryz.prog 86 #[kp, .agg #[.int .i64 xa, .int .u8 21, .int .i64 xA, .int .i64 xB, .int .i64 xC]] w fun e w' => TakesOk w w' e ([1, 1], [2]) := by
  go_enter Tryz.func86, Tryz.ntmps86
  go_wp2_with (go_at_call 108; refine (take1_any _ _).mono ?_; rintro e w5 ⟨rfl, rfl⟩)
  go_ret2
  exact takes_ss w _ [1, 1] [2] 2 1 rfl rfl
set_option maxRecDepth 100000 in
set_option maxHeartbeats 2000000 in
theorem takes_22 : Calls Tryz.prog 86 #[kp, .agg #[.int .i64 xa, .int .u8 22, .int .i64 xA, .int .i64 xB, .int .i64 xC]] w fun e w' => TakesOk w w' e ([1, 1], [2]) := by
  go_enter Tryz.func86, Tryz.ntmps86
  go_wp2_with (go_at_call 108; refine (take1_any _ _).mono ?_; rintro e w5 ⟨rfl, rfl⟩)
  go_ret2
  exact takes_ss w _ [1, 1] [2] 2 1 rfl rfl
set_option maxRecDepth 100000 in
set_option maxHeartbeats 2000000 in
theorem takes_23 : Calls Tryz.prog 86 #[kp, .agg #[.int .i64 xa, .int .u8 23, .int .i64 xA, .int .i64 xB, .int .i64 xC]] w fun e w' => TakesOk w w' e ([2], [2]) := by
  go_enter Tryz.func86, Tryz.ntmps86
  go_wp2_with (go_at_call 108; refine (take1_any _ _).mono ?_; rintro e w5 ⟨rfl, rfl⟩)
  go_ret2
  exact takes_ss w _ [2] [2] 1 1 rfl rfl
set_option maxRecDepth 100000 in
set_option maxHeartbeats 2000000 in
theorem takes_31 : Calls Tryz.prog 86 #[kp, .agg #[.int .i64 xa, .int .u8 31, .int .i64 xA, .int .i64 xB, .int .i64 xC]] w fun e w' => TakesOk w w' e ([2], []) := by
  go_enter Tryz.func86, Tryz.ntmps86
  go_wp2_with (go_at_call 108; refine (take1_any _ _).mono ?_; rintro e w5 ⟨rfl, rfl⟩)
  go_ret2
  exact takes_sn w _ [2] 1 rfl
set_option maxRecDepth 100000 in
set_option maxHeartbeats 2000000 in
theorem takes_32 : Calls Tryz.prog 86 #[kp, .agg #[.int .i64 xa, .int .u8 32, .int .i64 xA, .int .i64 xB, .int .i64 xC]] w fun e w' => TakesOk w w' e ([], [3]) := by
  go_enter Tryz.func86, Tryz.ntmps86
  go_wp2_with (go_at_call 108; refine (take1_any _ _).mono ?_; rintro e w5 ⟨rfl, rfl⟩)
  go_ret2
  exact takes_ns w _ [3] 1 rfl
set_option maxRecDepth 100000 in
set_option maxHeartbeats 2000000 in
theorem takes_33 : Calls Tryz.prog 86 #[kp, .agg #[.int .i64 xa, .int .u8 33, .int .i64 xA, .int .i64 xB, .int .i64 xC]] w fun e w' => TakesOk w w' e ([6], [3]) := by
  go_enter Tryz.func86, Tryz.ntmps86
  go_wp2_with (go_at_call 108; refine (take1_any _ _).mono ?_; rintro e w5 ⟨rfl, rfl⟩)
  go_ret2
  exact takes_ss w _ [6] [3] 1 1 rfl rfl
set_option maxRecDepth 100000 in
set_option maxHeartbeats 2000000 in
theorem takes_40 : Calls Tryz.prog 86 #[kp, .agg #[.int .i64 xa, .int .u8 40, .int .i64 xA, .int .i64 xB, .int .i64 xC]] w fun e w' => TakesOk w w' e ([4], [4]) := by
  go_enter Tryz.func86, Tryz.ntmps86
  go_wp2_with (go_at_call 108; refine (take1_any _ _).mono ?_; rintro e w5 ⟨rfl, rfl⟩)
  go_ret2
  exact takes_ss w _ [4] [4] 1 1 rfl rfl
set_option maxRecDepth 100000 in
set_option maxHeartbeats 2000000 in
theorem takes_41 : Calls Tryz.prog 86 #[kp, .agg #[.int .i64 xa, .int .u8 41, .int .i64 xA, .int .i64 xB, .int .i64 xC]] w fun e w' => TakesOk w w' e ([4], [5]) := by
  go_enter Tryz.func86, Tryz.ntmps86
  go_wp2_with (go_at_call 108; refine (take1_any _ _).mono ?_; rintro e w5 ⟨rfl, rfl⟩)
  go_ret2
  exact takes_ss w _ [4] [5] 1 1 rfl rfl
set_option maxRecDepth 100000 in
set_option maxHeartbeats 2000000 in
theorem takes_43 : Calls Tryz.prog 86 #[kp, .agg #[.int .i64 xa, .int .u8 43, .int .i64 xA, .int .i64 xB, .int .i64 xC]] w fun e w' => TakesOk w w' e ([5], [3]) := by
  go_enter Tryz.func86, Tryz.ntmps86
  go_wp2_with (go_at_call 108; refine (take1_any _ _).mono ?_; rintro e w5 ⟨rfl, rfl⟩)
  go_ret2
  exact takes_ss w _ [5] [3] 1 1 rfl rfl
set_option maxRecDepth 100000 in
set_option maxHeartbeats 2000000 in
theorem takes_44 : Calls Tryz.prog 86 #[kp, .agg #[.int .i64 xa, .int .u8 44, .int .i64 xA, .int .i64 xB, .int .i64 xC]] w fun e w' => TakesOk w w' e ([6, 3], [2]) := by
  go_enter Tryz.func86, Tryz.ntmps86
  go_wp2_with (go_at_call 108; refine (take1_any _ _).mono ?_; rintro e w5 ⟨rfl, rfl⟩)
  go_ret2
  exact takes_ss w _ [6, 3] [2] 2 1 rfl rfl
set_option maxRecDepth 100000 in
set_option maxHeartbeats 2000000 in
theorem takes_45 : Calls Tryz.prog 86 #[kp, .agg #[.int .i64 xa, .int .u8 45, .int .i64 xA, .int .i64 xB, .int .i64 xC]] w fun e w' => TakesOk w w' e ([3], [2]) := by
  go_enter Tryz.func86, Tryz.ntmps86
  go_wp2_with (go_at_call 108; refine (take1_any _ _).mono ?_; rintro e w5 ⟨rfl, rfl⟩)
  go_ret2
  exact takes_ss w _ [3] [2] 1 1 rfl rfl
set_option maxRecDepth 100000 in
set_option maxHeartbeats 2000000 in
theorem takes_24 : Calls Tryz.prog 86 #[kp, .agg #[.int .i64 xa, .int .u8 24, .int .i64 xA, .int .i64 xB, .int .i64 xC]] w fun e w' => TakesOk w w' e ([IntKind.i8.wrap xA, IntKind.i8.wrap xA], [2]) := by
  go_enter Tryz.func86, Tryz.ntmps86
  go_wp2_with (go_at_call 108; refine (take1_any _ _).mono ?_; rintro e w5 ⟨rfl, rfl⟩)
  go_ret2
  exact takes_ss w _ [IntKind.i8.wrap xA, IntKind.i8.wrap xA] [2] 2 1 rfl rfl
set_option maxRecDepth 100000 in
set_option maxHeartbeats 2000000 in
theorem takes_else (xo : Int) (h1 : xo ≠ 1) (h2 : xo ≠ 2) (h3 : xo ≠ 3) (h4 : xo ≠ 4) (h5 : xo ≠ 5) (h10 : xo ≠ 10) (h11 : xo ≠ 11) (h12 : xo ≠ 12) (h13 : xo ≠ 13) (h14 : xo ≠ 14) (h17 : xo ≠ 17) (h18 : xo ≠ 18) (h15 : xo ≠ 15) (h16 : xo ≠ 16) (h42 : xo ≠ 42) (h19 : xo ≠ 19) (h20 : xo ≠ 20) (h21 : xo ≠ 21) (h22 : xo ≠ 22) (h23 : xo ≠ 23) (h24 : xo ≠ 24) (h31 : xo ≠ 31) (h32 : xo ≠ 32) (h33 : xo ≠ 33) (h40 : xo ≠ 40) (h41 : xo ≠ 41) (h43 : xo ≠ 43) (h44 : xo ≠ 44) (h45 : xo ≠ 45) (h46 : xo ≠ 46) (h60 : xo ≠ 60) : Calls Tryz.prog 86 #[kp, .agg #[.int .i64 xa, .int .u8 xo, .int .i64 xA, .int .i64 xB, .int .i64 xC]] w fun e w' => TakesOk w w' e ([], []) := by
  have b1 : (xo == 1) = false := beq_false_of h1
  have b2 : (xo == 2) = false := beq_false_of h2
  have b3 : (xo == 3) = false := beq_false_of h3
  have b4 : (xo == 4) = false := beq_false_of h4
  have b5 : (xo == 5) = false := beq_false_of h5
  have b10 : (xo == 10) = false := beq_false_of h10
  have b11 : (xo == 11) = false := beq_false_of h11
  have b12 : (xo == 12) = false := beq_false_of h12
  have b13 : (xo == 13) = false := beq_false_of h13
  have b14 : (xo == 14) = false := beq_false_of h14
  have b17 : (xo == 17) = false := beq_false_of h17
  have b18 : (xo == 18) = false := beq_false_of h18
  have b15 : (xo == 15) = false := beq_false_of h15
  have b16 : (xo == 16) = false := beq_false_of h16
  have b42 : (xo == 42) = false := beq_false_of h42
  have b19 : (xo == 19) = false := beq_false_of h19
  have b20 : (xo == 20) = false := beq_false_of h20
  have b21 : (xo == 21) = false := beq_false_of h21
  have b22 : (xo == 22) = false := beq_false_of h22
  have b23 : (xo == 23) = false := beq_false_of h23
  have b24 : (xo == 24) = false := beq_false_of h24
  have b31 : (xo == 31) = false := beq_false_of h31
  have b32 : (xo == 32) = false := beq_false_of h32
  have b33 : (xo == 33) = false := beq_false_of h33
  have b40 : (xo == 40) = false := beq_false_of h40
  have b41 : (xo == 41) = false := beq_false_of h41
  have b43 : (xo == 43) = false := beq_false_of h43
  have b44 : (xo == 44) = false := beq_false_of h44
  have b45 : (xo == 45) = false := beq_false_of h45
  have b46 : (xo == 46) = false := beq_false_of h46
  have b60 : (xo == 60) = false := beq_false_of h60
  go_enter Tryz.func86, Tryz.ntmps86
  go_wp2_with fail
  go_ret2
  exact takes_nn w _
end
end Go.Proofs.YtabpheanbomibaaGreatDoor
