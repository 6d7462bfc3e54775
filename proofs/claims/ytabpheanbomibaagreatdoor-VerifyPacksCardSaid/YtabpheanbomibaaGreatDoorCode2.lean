/- code: sizes, readers of operands. -/
import Derived.Test.YtabpheanbomibaaGreatDoorCode
namespace Go.Proofs.YtabpheanbomibaaGreatDoor
open Go.RowKit
set_option linter.unusedVariables false

def sizeK (k : Int) : Int := if k = 1 then 1 else if k = 2 then 2 else if k = 3 then 4 else 0
set_option maxHeartbeats 400000 in
theorem size_any (k : Int) (w : World) : Calls Tryz.prog 107 #[.int .i64 k] w fun e w' => e = .returned (.int .i64 (sizeK k)) ∧ w = w' := by
  unfold sizeK
  by_cases h1 : k = 1
  · subst h1
    go_enter Tryz.func107, Tryz.ntmps107
    go_wp2
    go_ret
    exact ⟨rfl, rfl⟩
  have q1 : (k == 1) = false := beq_false_of h1
  by_cases h2 : k = 2
  · subst h2
    go_enter Tryz.func107, Tryz.ntmps107
    go_wp2
    go_ret
    exact ⟨rfl, rfl⟩
  have q2 : (k == 2) = false := beq_false_of h2
  by_cases h3 : k = 3
  · subst h3
    go_enter Tryz.func107, Tryz.ntmps107
    go_wp2
    go_ret
    exact ⟨rfl, rfl⟩
  have q3 : (k == 3) = false := beq_false_of h3
  rw [if_neg h1, if_neg h2, if_neg h3]
  clear h1 h2 h3
  go_enter Tryz.func107, Tryz.ntmps107
  go_wp2
  go_ret
  exact ⟨rfl, rfl⟩

theorem read0_any (v : Value) (w : World) : Calls Tryz.prog 136 #[v] w fun e w' => e = .returned (.tuple #[.int .i64 0, .int .i64 0, .int .i64 0]) ∧ w = w' := by
  go_enter Tryz.func136, Tryz.ntmps136
  go_wp2
  go_ret3
  exact ⟨rfl, rfl⟩
theorem read1_any (b off n c : Nat) (x : Int) (w : World) (hn : 1 ≤ n) (h0 : 0 ≤ x) (h1 : x ≤ 255) (hc : w.cell? ⟨b, off, none⟩ = some (.int .u8 x)) :
    Calls Tryz.prog 137 #[.slice (some ⟨b, off, none⟩) n c] w fun e w' => e = .returned (.tuple #[.int .i64 x, .int .i64 0, .int .i64 0]) ∧ w = w' := by
  have hnI : (0 : Int) < n := by omega
  go_enter Tryz.func137, Tryz.ntmps137
  go_wp2
  go_ret3
  exact ⟨rfl, rfl⟩
theorem or_two (x y : Int) (h0 : 0 ≤ x) (h1 : x ≤ 255) (h2 : 0 ≤ y) (h3 : y ≤ 255) : bits .or .i64 (x * 256) y = x * 256 + y := by
  obtain ⟨a, rfl⟩ := Int.eq_ofNat_of_zero_le h0
  obtain ⟨b, rfl⟩ := Int.eq_ofNat_of_zero_le h2
  have e : ((a : Int) * 256) = ((a * 256 : Nat) : Int) := by omega
  rw [e]
  show IntKind.i64.wrap ((BitVec.ofInt 64 ((a * 256 : Nat) : Int) ||| BitVec.ofInt 64 (b : Int)).toNat : Int) = _
  rw [BitVec.toNat_or, BitVec.ofInt_natCast, BitVec.ofInt_natCast, BitVec.toNat_ofNat, BitVec.toNat_ofNat, Nat.mod_eq_of_lt (by omega), Nat.mod_eq_of_lt (by omega)]
  have h := Nat.two_pow_add_eq_or_of_lt (i := 8) (b := b) (by omega) a
  have e2 : a * 256 ||| b = a * 256 + b := by
    have e3 : (2 ^ 8 * a : Nat) = a * 256 := by omega
    rw [e3] at h
    exact h.symm
  rw [e2, IntKind.wrap_i64]
  omega
theorem two_any (b off n c : Nat) (x y : Int) (w : World) (hn : 2 ≤ n) (h0 : 0 ≤ x) (h1 : x ≤ 255) (h2 : 0 ≤ y) (h3 : y ≤ 255) (hc : w.cell? ⟨b, off, none⟩ = some (.int .u8 x)) (hd : w.cell? ⟨b, off + 1, none⟩ = some (.int .u8 y)) :
    Calls Tryz.prog 139 #[.slice (some ⟨b, off, none⟩) n c] w fun e w' => e = .returned (.int .i64 (x * 256 + y)) ∧ ∃ k, w' = w.drewN k := by
  have hnI : (1 : Int) < n := by omega
  have hnI0 : (0 : Int) < n := by omega
  go_enter Tryz.func139, Tryz.ntmps139
  go_wp2_with fail
  go_quiet (fail)
  go_wp2
  go_ret
  exact ⟨by simp [or_two x y h0 h1 h2 h3], _, rfl⟩

theorem read2_any (b off n c : Nat) (x y : Int) (w : World) (hn : 2 ≤ n) (h0 : 0 ≤ x) (h1 : x ≤ 255) (h2 : 0 ≤ y) (h3 : y ≤ 255) (hc : w.cell? ⟨b, off, none⟩ = some (.int .u8 x)) (hd : w.cell? ⟨b, off + 1, none⟩ = some (.int .u8 y)) :
    Calls Tryz.prog 138 #[.slice (some ⟨b, off, none⟩) n c] w fun e w' => e = .returned (.tuple #[.int .i64 (x * 256 + y), .int .i64 0, .int .i64 0]) ∧ ∃ k, w' = w.drewN k := by
  go_enter Tryz.func138, Tryz.ntmps138
  go_wp2_with fail
  refine (two_any b off n c x y w hn h0 h1 h2 h3 hc hd).mono ?_
  rintro e w1 ⟨rfl, k, rfl⟩
  go_wp2_with fail
  go_ret3
  exact ⟨rfl, _, rfl⟩
set_option maxHeartbeats 800000 in
theorem read4_any (b off n c : Nat) (x0 x1 x y : Int) (w : World) (hn : 4 ≤ n) (hnc : n ≤ c) (g0 : 0 ≤ x0) (g1 : x0 ≤ 255) (g2 : 0 ≤ x1) (g3 : x1 ≤ 255) (h0 : 0 ≤ x) (h1 : x ≤ 255) (h2 : 0 ≤ y) (h3 : y ≤ 255)
    (hc0 : w.cell? ⟨b, off, none⟩ = some (.int .u8 x0)) (hc1 : w.cell? ⟨b, off + 1, none⟩ = some (.int .u8 x1)) (hc : w.cell? ⟨b, off + 2, none⟩ = some (.int .u8 x)) (hd : w.cell? ⟨b, off + 3, none⟩ = some (.int .u8 y)) :
    Calls Tryz.prog 140 #[.slice (some ⟨b, off, none⟩) n c] w fun e w' => e = .returned (.tuple #[.int .i64 x0, .int .i64 x1, .int .i64 (x * 256 + y)]) ∧ ∃ k, w' = w.drewN k := by
  have hnI : (1 : Int) < n := by omega
  have hnI0 : (0 : Int) < n := by omega
  have hnN : 1 < n := by omega
  have hnN0 : 0 < n := by omega
  have hnN2 : 2 ≤ n := by omega
  have hnI2 : (2 : Int) ≤ n := by omega
  have hcI : (n : Int) ≤ c := by omega
  have hcI2 : (2 : Int) ≤ c := by omega
  have hcN2 : 2 < c := by omega
  have hcN3 : ¬ c = 2 := by omega
  have hw0 : IntKind.i64.wrap x0 = x0 := by rw [IntKind.wrap_i64]; (try unfold wrap64); omega
  have hw1 : IntKind.i64.wrap x1 = x1 := by rw [IntKind.wrap_i64]; (try unfold wrap64); omega
  have HC := Lib.hid hc
  have HD := Lib.hid hd
  clear hc hd
  go_enter Tryz.func140, Tryz.ntmps140
  go_wp2_with fail
  go_region_held3 (fun w' => w'.cell? ⟨b, off, none⟩ = some (.int .u8 x0) ∧ w'.cell? ⟨b, off + 1, none⟩ = some (.int .u8 x1)) (first | exact ⟨hc0, hc1⟩ | go_keep) ((first | (go_at_call 139; refine (two_any b (off + 2) (n - 2) (c - 2) x y w.drew (by omega) h0 h1 h2 h3 HC.out HD.out).mono ?_; rintro e w5 ⟨rfl, k, rfl⟩)))
  all_goals go_wp2_with fail
  all_goals go_ret3
  all_goals exact ⟨by rfl, _, rfl⟩
end Go.Proofs.YtabpheanbomibaaGreatDoor
