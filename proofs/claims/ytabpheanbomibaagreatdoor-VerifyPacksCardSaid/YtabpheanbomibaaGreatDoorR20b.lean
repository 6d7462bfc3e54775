/- tableauref20.numbers. -/
import Derived.Test.YtabpheanbomibaaGreatDoorR20a
namespace Go.Proofs.YtabpheanbomibaaGreatDoor
open Go.RowKit
set_option linter.unusedVariables false

section
variable (slots : List Int) (ints texts xa xA xB xC : Int)
theorem num_45 {xo : Int} (h : xo = 4 ∨ xo = 5) : numbersV slots ints texts ⟨xa, xo, xA, xB, xC⟩ = if (slots.length : Int) ≤ xA then 43 else 0 := by
  unfold numbersV
  rw [if_pos h]
theorem num_32 : numbersV slots ints texts ⟨xa, 32, xA, xB, xC⟩ = if (slots.length : Int) ≤ xA ∨ (slots.length : Int) ≤ xB then 43 else if slots.getD xA.toNat 0 ≠ 6 ∨ slots.getD xB.toNat 0 ≠ 1 then 46 else 0 := rfl
theorem num_24 : numbersV slots ints texts ⟨xa, 24, xA, xB, xC⟩ = if xA < 1 ∨ 5 < xA then 42 else 0 := rfl
theorem num_1 : numbersV slots ints texts ⟨xa, 1, xA, xB, xC⟩ = if ints ≤ xA then 42 else 0 := rfl
theorem num_is : numbersV slots ints texts ⟨xa, 45, xA, xB, xC⟩ = if texts ≤ xA then 42 else 0 := rfl
theorem num_41 : numbersV slots ints texts ⟨xa, 41, xA, xB, xC⟩ = if 4 ≤ xA then 42 else 0 := rfl
theorem num_46 : numbersV slots ints texts ⟨xa, 46, xA, xB, xC⟩ = if 13 ≤ xA then 42 else 0 := rfl
theorem num_60 : numbersV slots ints texts ⟨xa, 60, xA, xB, xC⟩ = if 9 ≤ xA then 42 else 0 := rfl
theorem num_no {xo : Int} (h4 : xo ≠ 4) (h5 : xo ≠ 5) (h32 : xo ≠ 32) (h24 : xo ≠ 24) (h1 : xo ≠ 1) (h45 : xo ≠ 45) (h41 : xo ≠ 41) (h46 : xo ≠ 46) (h60 : xo ≠ 60) : numbersV slots ints texts ⟨xa, xo, xA, xB, xC⟩ = 0 := by
  unfold numbersV poolV
  simp [h4, h5, h32, h24, h1, h45, h41, h46, h60]
end
section
variable (w : World) (SA : Option Addr) (slots : List Int) (sc : Nat) (ints texts : Int) (x : Ins)
set_option maxRecDepth 100000 in
set_option maxHeartbeats 40000000 in
theorem numbers20_any (hS : SmallsAt w SA slots) (hs : slots.length ≤ 1000) (ha : 0 ≤ x.a) (hbb : 0 ≤ x.b) :
    Calls Tryz.prog 39 #[.agg x.cells, .slice SA slots.length sc, .int .i64 ints, .int .i64 texts] w fun e w' => e = .returned (.int .i64 (numbersV slots ints texts x)) ∧ Below w.heap.size w w' := by
  obtain ⟨xa, xo, xA, xB, xC⟩ := x
  simp only at ha hbb
  have hBW : Below w.heap.size w (w.alloc (.cells #[.int .i64 xa, .int .u8 xo, .int .i64 xA, .int .i64 xB, .int .i64 xC] 100)) := (Below.refl _ _).alloc (Nat.le_refl _) _
  have hcell : ∀ z : Int, 0 ≤ z → z < (slots.length : Int) → ∃ b off, SA = some ⟨b, off, none⟩ ∧ b < w.heap.size ∧ w.cell? ⟨b, off + z.toNat, none⟩ = some (.int .i8 (slots.getD z.toNat 0)) := fun z h0 h1 => by
    obtain ⟨b, off, h2, h3, h4⟩ := hS z.toNat _ (List.getElem?_eq_getElem (by omega))
    exact ⟨b, off, h2, h3, by rw [h4, List.getD_eq_getElem?_getD, List.getElem?_eq_getElem (by omega)]; rfl⟩
  obtain ⟨R, hR⟩ : ∃ R, R = numbersV slots ints texts ⟨xa, xo, xA, xB, xC⟩ := ⟨_, rfl⟩
  rw [← hR]
  have HBW := Lib.hid hBW
  have HC := Lib.hid hcell
  have HR := Lib.hid hR
  obtain ⟨n, hn⟩ : ∃ n, slots.length = n := ⟨_, rfl⟩
  have HN := Lib.hid hn
  rw [hn] at hs ⊢
  clear hBW hcell hR hS hn
  unfold Ins.cells
  by_cases c4 : xo = 4
  · subst c4
    by_cases q : (n : Int) ≤ xA
    · have hd : decide ((n : Int) ≤ xA) = true := by simpa using q
      have hr : R = 43 := by rw [HR.out, num_45 slots ints texts xa xA xB xC (by omega), HN.out, if_pos q]
      have HR3 := Lib.hid hr
      clear hr
      go_enter Tryz.func39, Tryz.ntmps39
      go_wp2_with fail
      go_ret
      exact ⟨ret_i64 HR3.out.symm, HBW.out⟩
    · have hd : decide ((n : Int) ≤ xA) = false := by simpa using q
      have hr : R = 0 := by rw [HR.out, num_45 slots ints texts xa xA xB xC (by omega), HN.out, if_neg q]
      have HR3 := Lib.hid hr
      clear hr
      go_enter Tryz.func39, Tryz.ntmps39
      go_wp2_with fail
      go_ret
      exact ⟨ret_i64 HR3.out.symm, HBW.out⟩
  by_cases c5 : xo = 5
  · subst c5
    by_cases q : (n : Int) ≤ xA
    · have hd : decide ((n : Int) ≤ xA) = true := by simpa using q
      have hr : R = 43 := by rw [HR.out, num_45 slots ints texts xa xA xB xC (by omega), HN.out, if_pos q]
      have HR3 := Lib.hid hr
      clear hr
      go_enter Tryz.func39, Tryz.ntmps39
      go_wp2_with fail
      go_ret
      exact ⟨ret_i64 HR3.out.symm, HBW.out⟩
    · have hd : decide ((n : Int) ≤ xA) = false := by simpa using q
      have hr : R = 0 := by rw [HR.out, num_45 slots ints texts xa xA xB xC (by omega), HN.out, if_neg q]
      have HR3 := Lib.hid hr
      clear hr
      go_enter Tryz.func39, Tryz.ntmps39
      go_wp2_with fail
      go_ret
      exact ⟨ret_i64 HR3.out.symm, HBW.out⟩
  by_cases c32 : xo = 32
  · subst c32
    by_cases q1 : (n : Int) ≤ xA
    · have hd : decide ((n : Int) ≤ xA) = true := by simpa using q1
      have hr : R = 43 := by rw [HR.out, num_32, HN.out, if_pos (.inl q1)]
      have HR3 := Lib.hid hr
      clear hr
      go_enter Tryz.func39, Tryz.ntmps39
      go_wp2_with fail
      go_ret
      exact ⟨ret_i64 HR3.out.symm, HBW.out⟩
    by_cases q2 : (n : Int) ≤ xB
    · have hd : decide ((n : Int) ≤ xA) = false := by simpa using q1
      have hd2 : decide ((n : Int) ≤ xB) = true := by simpa using q2
      have hr : R = 43 := by rw [HR.out, num_32, HN.out, if_pos (.inr q2)]
      have HR3 := Lib.hid hr
      clear hr
      go_enter Tryz.func39, Tryz.ntmps39
      go_wp2_with fail
      go_ret
      exact ⟨ret_i64 HR3.out.symm, HBW.out⟩
    have hd : decide ((n : Int) ≤ xA) = false := by simpa using q1
    have hd2 : decide ((n : Int) ≤ xB) = false := by simpa using q2
    obtain ⟨b, off, rfl, hb1, hc1⟩ := HC.out xA ha (by rw [HN.out]; omega)
    obtain ⟨b', off', e', hb2, hc2⟩ := HC.out xB hbb (by rw [HN.out]; omega)
    obtain ⟨rfl, rfl⟩ : b = b' ∧ off = off' := by injection e' with e'; injection e' with e1 e2; exact ⟨e1, e2⟩
    clear e'
    have hr0 : R = if slots.getD xA.toNat 0 ≠ 6 ∨ slots.getD xB.toNat 0 ≠ 1 then 46 else 0 := by rw [HR.out, num_32, HN.out, if_neg (by omega)]
    obtain ⟨u, hu⟩ : ∃ u, slots.getD xA.toNat 0 = u := ⟨_, rfl⟩
    obtain ⟨v, hv⟩ : ∃ v, slots.getD xB.toNat 0 = v := ⟨_, rfl⟩
    rw [hu] at hc1 hr0
    rw [hv] at hc2 hr0
    have HR0 := Lib.hid hr0
    clear hr0 hu hv
    have i1 : xA < n := by omega
    have i2 : xB < n := by omega
    by_cases q3 : u = 6
    · subst q3
      by_cases q4 : v = 1
      · subst q4
        have hr : R = 0 := by rw [HR0.out, if_neg (by omega)]
        have HR3 := Lib.hid hr
        clear hr
        go_enter Tryz.func39, Tryz.ntmps39
        go_wp2_with fail
        go_ret
        exact ⟨ret_i64 HR3.out.symm, HBW.out⟩
      · have hd4 : (v != 1) = true := by simpa using q4
        have hr : R = 46 := by rw [HR0.out, if_pos (.inr q4)]
        have HR3 := Lib.hid hr
        clear hr
        go_enter Tryz.func39, Tryz.ntmps39
        go_wp2_with fail
        go_ret
        exact ⟨ret_i64 HR3.out.symm, HBW.out⟩
    · have hd3 : (u != 6) = true := by simpa using q3
      have hr : R = 46 := by rw [HR0.out, if_pos (.inl q3)]
      have HR3 := Lib.hid hr
      clear hr
      go_enter Tryz.func39, Tryz.ntmps39
      go_wp2_with fail
      go_ret
      exact ⟨ret_i64 HR3.out.symm, HBW.out⟩
  by_cases c1 : xo = 1
  · subst c1
    by_cases q : ints ≤ xA
    · have hd : decide (ints ≤ xA) = true := by simp; omega
      have hr : R = 42 := by rw [HR.out, num_1, if_pos q]
      have HR3 := Lib.hid hr
      clear hr
      go_enter Tryz.func39, Tryz.ntmps39
      go_wp2_with fail
      go_ret
      exact ⟨ret_i64 HR3.out.symm, HBW.out⟩
    · have hd : decide (ints ≤ xA) = false := by simp; omega
      have hr : R = 0 := by rw [HR.out, num_1, if_neg q]
      have HR3 := Lib.hid hr
      clear hr
      go_enter Tryz.func39, Tryz.ntmps39
      go_wp2_with fail
      go_ret
      exact ⟨ret_i64 HR3.out.symm, HBW.out⟩
  by_cases c45 : xo = 45
  · subst c45
    by_cases q : texts ≤ xA
    · have hd : decide (texts ≤ xA) = true := by simp; omega
      have hr : R = 42 := by rw [HR.out, num_is, if_pos q]
      have HR3 := Lib.hid hr
      clear hr
      go_enter Tryz.func39, Tryz.ntmps39
      go_wp2_with fail
      go_ret
      exact ⟨ret_i64 HR3.out.symm, HBW.out⟩
    · have hd : decide (texts ≤ xA) = false := by simp; omega
      have hr : R = 0 := by rw [HR.out, num_is, if_neg q]
      have HR3 := Lib.hid hr
      clear hr
      go_enter Tryz.func39, Tryz.ntmps39
      go_wp2_with fail
      go_ret
      exact ⟨ret_i64 HR3.out.symm, HBW.out⟩
  by_cases c41 : xo = 41
  · subst c41
    by_cases q : 4 ≤ xA
    · have hd : decide (3 < xA) = true := by simp; omega
      have hr : R = 42 := by rw [HR.out, num_41, if_pos q]
      have HR3 := Lib.hid hr
      clear hr
      go_enter Tryz.func39, Tryz.ntmps39
      go_wp2_with fail
      go_ret
      exact ⟨ret_i64 HR3.out.symm, HBW.out⟩
    · have hd : decide (3 < xA) = false := by simp; omega
      have hr : R = 0 := by rw [HR.out, num_41, if_neg q]
      have HR3 := Lib.hid hr
      clear hr
      go_enter Tryz.func39, Tryz.ntmps39
      go_wp2_with fail
      go_ret
      exact ⟨ret_i64 HR3.out.symm, HBW.out⟩
  by_cases c46 : xo = 46
  · subst c46
    by_cases q : 13 ≤ xA
    · have hd : decide (12 < xA) = true := by simp; omega
      have hr : R = 42 := by rw [HR.out, num_46, if_pos q]
      have HR3 := Lib.hid hr
      clear hr
      go_enter Tryz.func39, Tryz.ntmps39
      go_wp2_with fail
      go_ret
      exact ⟨ret_i64 HR3.out.symm, HBW.out⟩
    · have hd : decide (12 < xA) = false := by simp; omega
      have hr : R = 0 := by rw [HR.out, num_46, if_neg q]
      have HR3 := Lib.hid hr
      clear hr
      go_enter Tryz.func39, Tryz.ntmps39
      go_wp2_with fail
      go_ret
      exact ⟨ret_i64 HR3.out.symm, HBW.out⟩
  by_cases c60 : xo = 60
  · subst c60
    by_cases q : 9 ≤ xA
    · have hd : decide (8 < xA) = true := by simp; omega
      have hr : R = 42 := by rw [HR.out, num_60, if_pos q]
      have HR3 := Lib.hid hr
      clear hr
      go_enter Tryz.func39, Tryz.ntmps39
      go_wp2_with fail
      go_ret
      exact ⟨ret_i64 HR3.out.symm, HBW.out⟩
    · have hd : decide (8 < xA) = false := by simp; omega
      have hr : R = 0 := by rw [HR.out, num_60, if_neg q]
      have HR3 := Lib.hid hr
      clear hr
      go_enter Tryz.func39, Tryz.ntmps39
      go_wp2_with fail
      go_ret
      exact ⟨ret_i64 HR3.out.symm, HBW.out⟩
  by_cases c24 : xo = 24
  · subst c24
    by_cases q1 : xA < 1
    · have hd : decide (xA < 1) = true := by simpa using q1
      have hr : R = 42 := by rw [HR.out, num_24, if_pos (.inl q1)]
      have HR3 := Lib.hid hr
      clear hr
      go_enter Tryz.func39, Tryz.ntmps39
      go_wp2_with fail
      go_ret
      exact ⟨ret_i64 HR3.out.symm, HBW.out⟩
    by_cases q2 : 5 < xA
    · have hd : decide (xA < 1) = false := by simpa using q1
      have hd2 : decide (5 < xA) = true := by simpa using q2
      have hr : R = 42 := by rw [HR.out, num_24, if_pos (.inr q2)]
      have HR3 := Lib.hid hr
      clear hr
      go_enter Tryz.func39, Tryz.ntmps39
      go_wp2_with fail
      go_ret
      exact ⟨ret_i64 HR3.out.symm, HBW.out⟩
    · have hd : decide (xA < 1) = false := by simpa using q1
      have hd2 : decide (5 < xA) = false := by simpa using q2
      have hr : R = 0 := by rw [HR.out, num_24, if_neg (by omega)]
      have HR3 := Lib.hid hr
      clear hr
      go_enter Tryz.func39, Tryz.ntmps39
      go_wp2_with fail
      go_ret
      exact ⟨ret_i64 HR3.out.symm, HBW.out⟩
  have b4 : (xo == 4) = false := by simpa using c4
  have b5 : (xo == 5) = false := by simpa using c5
  have b32 : (xo == 32) = false := by simpa using c32
  have b1 : (xo == 1) = false := by simpa using c1
  have b45 : (xo == 45) = false := by simpa using c45
  have b41 : (xo == 41) = false := by simpa using c41
  have b46 : (xo == 46) = false := by simpa using c46
  have b60 : (xo == 60) = false := by simpa using c60
  have b24 : (xo == 24) = false := by simpa using c24
  have hr : R = 0 := by rw [HR.out, num_no slots ints texts xa xA xB xC c4 c5 c32 c24 c1 c45 c41 c46 c60]
  have HR3 := Lib.hid hr
  clear hr
  go_enter Tryz.func39, Tryz.ntmps39
  go_wp2_with fail
  go_ret
  exact ⟨ret_i64 HR3.out.symm, HBW.out⟩
end
end Go.Proofs.YtabpheanbomibaaGreatDoor
