/- Welford's mean and spread, where they are exact. No program in sight. -/
import Derived.Test.YtocekmgjhdlkgaaGreatDoorFloatE
namespace Go.Proofs.YtocekmgjhdlkgaaGreatDoor
open Go.RowKit
set_option linter.unusedVariables false

theorem zz : fop .sub (some 0) (some 0) = some 0 ∧ fop .add (some 0) (some 0) = some 0 ∧ fop .mul (some 0) (some 0) = some 0 := by decide
/-- The first of them. -/
theorem step_first {b : Nat} {s : Bool} {k : Nat} {P : Int} (h : dbl.read b = .number s k P) (hk : k ≠ 0) : welStep (some 0, some 0) 0 b = (some (cw s k P), some 0) := by
  have hr := read_cw (neg := s) (read_canon h)
  unfold welStep
  simp only
  rw [show (((0 : Nat) : Int) + 1) = 1 from rfl, sub_zero h hk, quo_one hr hk, add_zero_l hr hk, sub_self h hr]
  obtain ⟨t, e⟩ := mul_zero_r hr
  rw [e, add_zz]
theorem step_next {b : Nat} {s : Bool} {k : Nat} {P : Int} (h : dbl.read b = .number s k P) (hk : k ≠ 0) (i : Nat) (hi : i < 100000) : welStep (some (cw s k P), some 0) i b = (some (cw s k P), some 0) := by
  have hr := read_cw (neg := s) (read_canon h)
  have hq := quo_zero (n := i + 1) (by omega) (by omega)
  unfold welStep
  simp only
  rw [show ((i : Int) + 1) = ((i + 1 : Nat) : Int) by omega, sub_self h hr, hq, add_zero_r hr hk, sub_self h hr, zz.2.2, zz.2.1]
theorem step_zero (i : Nat) (hi : i < 100000) : welStep (some 0, some 0) i 0 = (some 0, some 0) := by
  have hq := quo_zero (n := i + 1) (by omega) (by omega)
  unfold welStep
  simp only
  rw [show ((i : Int) + 1) = ((i + 1 : Nat) : Int) by omega, zz.1, hq, zz.2.1, zz.1, zz.2.2, zz.2.1]
/-- Equal numbers. -/
theorem wel_same {l : List Nat} {b : Nat} {s : Bool} {k : Nat} {P : Int} (h : dbl.read b = .number s k P) (hk : k ≠ 0) (hl : ∀ i, i < l.length → l.getD i 0 = b) (h0 : 0 < l.length) (h1 : l.length < 100000) : welM l = (some (cw s k P), some 0) := by
  have key : ∀ j, j < l.length → welTo l (j + 1) = (some (cw s k P), some 0) := by
    intro j
    induction j with
    | zero =>
      intro hj
      rw [welTo, welTo, hl 0 hj]
      exact step_first h hk
    | succ j ih =>
      intro hj
      rw [welTo, ih (by omega), hl (j + 1) hj]
      exact step_next h hk (j + 1) (by omega)
  obtain ⟨j, hj⟩ : ∃ j, l.length = j + 1 := ⟨l.length - 1, by omega⟩
  unfold welM
  rw [if_neg (by intro e; rw [e] at h0; simp at h0), hj, key j (by omega)]
  simp only
  rw [quo_zero (n := j + 1) (by omega) (by omega)]
theorem wel_zero {l : List Nat} (hl : ∀ i, i < l.length → l.getD i 0 = 0) (h0 : 0 < l.length) (h1 : l.length < 100000) : welM l = (some 0, some 0) := by
  have key : ∀ j, j < l.length → welTo l (j + 1) = (some 0, some 0) := by
    intro j
    induction j with
    | zero =>
      intro hj
      rw [welTo, welTo, hl 0 hj]
      exact step_zero 0 (by omega)
    | succ j ih =>
      intro hj
      rw [welTo, ih (by omega), hl (j + 1) hj]
      exact step_zero (j + 1) (by omega)
  obtain ⟨j, hj⟩ : ∃ j, l.length = j + 1 := ⟨l.length - 1, by omega⟩
  unfold welM
  rw [if_neg (by intro e; rw [e] at h0; simp at h0), hj, key j (by omega)]
  simp only
  rw [quo_zero (n := j + 1) (by omega) (by omega)]
/-- Of an integer: it is its own mean. -/
theorem wel_int {l : List Nat} (x : Int) (hx : x.natAbs < 9007199254740992) (hl : ∀ i, i < l.length → l.getD i 0 = ofI x) (h0 : 0 < l.length) (h1 : l.length < 100000) : ∃ m, welM l = (some m, some 0) ∧ dbl.order m (ofI x) = some .eq := by
  by_cases hz : x = 0
  · subst hz
    have e : ofI 0 = 0 := by decide
    rw [e] at hl ⊢
    exact ⟨0, wel_zero hl h0 h1, by decide⟩
  · obtain ⟨k, P, hc, hk, e⟩ := nearest_int (neg := decide (x < 0)) (m := x.natAbs) (by omega) hx
    have e2 : ofI x = cw (decide (x < 0)) k P := e
    have hr : dbl.read (ofI x) = .number (decide (x < 0)) k P := by rw [e2]; exact read_cw hc
    exact ⟨_, wel_same hr hk hl h0 h1, order_same (read_cw hc) hr⟩
theorem sub_zero0 {b : Nat} {s : Bool} {P : Int} (h : dbl.read b = .number s 0 P) : fop .sub (some b) (some 0) = some (dbl.word s 0) := by
  have hP := (read_canon h).norm (by decide)
  subst hP
  show ((dbl.read b).sum (dbl.read 0).opposite).map dbl.write = _
  rw [h, read_zero]
  cases s <;> decide
/-- A number alone. -/
theorem wel_alone {b : Nat} {s : Bool} {k : Nat} {P : Int} (h : dbl.read b = .number s k P) : ∃ m, welM [b] = (some m, some 0) ∧ dbl.order m b = some .eq := by
  by_cases hk : k = 0
  · subst hk
    have h1 := sub_zero0 h
    refine ⟨0, ?_, ?_⟩
    · show ((welStep (some 0, some 0) 0 b).1, fop .quo (welStep (some 0, some 0) 0 b).2 (some (ofI (([b] : List Nat).length : Nat)))) = _
      have hst : welStep (some 0, some 0) 0 b = (some 0, some 0) := by
        unfold welStep
        simp only
        rw [h1]
        have e1 : fop .add (some 0) (fop .quo (some (dbl.word s 0)) (some (ofI (((0 : Nat) : Int) + 1)))) = some 0 := by cases s <;> decide
        rw [e1, h1]
        have e2 : fop .add (some 0) (fop .mul (some (dbl.word s 0)) (some (dbl.word s 0))) = some 0 := by cases s <;> decide
        rw [e2]
      rw [hst]
      show (some 0, fop .quo (some 0) (some (ofI ((1 : Nat) : Int)))) = _
      rw [quo_zero (by decide) (by decide)]
    · have hP := (read_canon h).norm (by decide)
      subst hP
      show (dbl.read 0).order (dbl.read b) = some .eq
      rw [h, read_zero]
      cases s <;> decide
  · have hl : ∀ i, i < ([b] : List Nat).length → ([b] : List Nat).getD i 0 = b := fun i hi => by
      have : i = 0 := by simp at hi; omega
      subst this
      rfl
    exact ⟨_, wel_same h hk hl (by simp) (by simp), order_same (read_cw (read_canon h)) h⟩
theorem sub_nan {b : Nat} (h : dbl.order b b = none) : welM [b] = (none, none) := by
  have h1 : fop .sub (some b) (some 0) = none := nan_left (.inr (.inl rfl)) h
  show ((welStep (some 0, some 0) 0 b).1, fop .quo (welStep (some 0, some 0) 0 b).2 (some (ofI (([b] : List Nat).length : Nat)))) = _
  have hst : welStep (some 0, some 0) 0 b = (none, none) := by
    unfold welStep
    simp only
    rw [h1]
    rfl
  rw [hst]
  rfl
theorem inf_self {b : Nat} {s : Bool} (h : dbl.read b = .infinity s) : fop .sub (some b) (some b) = none := by
  show ((dbl.read b).sum (dbl.read b).opposite).map dbl.write = _
  rw [h]
  cases s <;> rfl
end Go.Proofs.YtocekmgjhdlkgaaGreatDoor
