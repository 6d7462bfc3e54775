/- Floats: what is exact. No program in sight. -/
import Derived.Test.YtocekmgjhdlkgaaGreatDoorFloat
namespace Go.Proofs.YtocekmgjhdlkgaaGreatDoor
open Go.RowKit
set_option linter.unusedVariables false

/-- A magnitude and its place as a word has them. -/
structure Canon (k : Nat) (P : Int) : Prop where
  lt : k < 9007199254740992
  lo : -1074 ≤ P
  hi : P ≤ 971
  norm : k < 4503599627370496 → P = -1074
def cw (neg : Bool) (k : Nat) (P : Int) : Nat := dbl.word neg ((P + 1074).toNat * 4503599627370496 + k)
theorem dbl_lp : dbl.leastPlace = -1074 := by decide
theorem dbl_bin : dbl.binade = 4503599627370496 := rfl
theorem dbl_inf : dbl.infRung = 9218868437227405312 := rfl
theorem dbl_sw : dbl.signWeight = 9223372036854775808 := rfl
theorem dbl_fb : dbl.fractionBits = 52 := rfl
theorem read_lit (b : Nat) : dbl.read b = (if b % 9223372036854775808 < 4503599627370496 then .number (b / 9223372036854775808 % 2 == 1) (b % 9223372036854775808) (-1074)
    else if b % 9223372036854775808 < 9218868437227405312 then .number (b / 9223372036854775808 % 2 == 1) (4503599627370496 + b % 9223372036854775808 % 4503599627370496) (-1074 + ((b % 9223372036854775808 / 4503599627370496 - 1 : Nat) : Int))
    else if b % 9223372036854775808 = 9218868437227405312 then .infinity (b / 9223372036854775808 % 2 == 1) else .nan (b / 9223372036854775808 % 2 == 1) (b % 9223372036854775808 - 9218868437227405312)) := by
  have h : dbl.read b = (if b % dbl.signWeight < dbl.binade then .number (b / dbl.signWeight % 2 == 1) (b % dbl.signWeight) dbl.leastPlace
    else if b % dbl.signWeight < dbl.infRung then .number (b / dbl.signWeight % 2 == 1) (dbl.binade + b % dbl.signWeight % dbl.binade) (dbl.leastPlace + ((b % dbl.signWeight / dbl.binade - 1 : Nat) : Int))
    else if b % dbl.signWeight = dbl.infRung then .infinity (b / dbl.signWeight % 2 == 1) else .nan (b / dbl.signWeight % 2 == 1) (b % dbl.signWeight - dbl.infRung)) := rfl
  rw [h, dbl_lp]
  rfl
theorem word_read (neg : Bool) (r : Nat) (h : r < 9223372036854775808) : (dbl.word neg r / 9223372036854775808 % 2 == 1) = neg ∧ dbl.word neg r % 9223372036854775808 = r := by
  unfold Ieee.Format.word
  rw [dbl_sw]
  cases neg with
  | false =>
    simp only [Bool.false_eq_true, if_false]
    refine ⟨?_, by omega⟩
    have : r / 9223372036854775808 = 0 := by omega
    rw [this]; rfl
  | true =>
    simp only [if_true]
    refine ⟨?_, by omega⟩
    have : (9223372036854775808 + r) / 9223372036854775808 = 1 := by omega
    rw [this]; rfl
theorem read_cw {neg : Bool} {k : Nat} {P : Int} (h : Canon k P) : dbl.read (cw neg k P) = .number neg k P := by
  obtain ⟨h1, h2, h3, h4⟩ := h
  obtain ⟨e, rfl⟩ : ∃ e : Nat, P = (e : Int) - 1074 := ⟨(P + 1074).toNat, by omega⟩
  have he : ((e : Int) - 1074 + 1074).toNat = e := by omega
  unfold cw
  rw [he]
  obtain ⟨q1, q2⟩ := word_read neg (e * 4503599627370496 + k) (by omega)
  rw [read_lit, q1, q2]
  clear q1 q2 he
  by_cases hk : k < 4503599627370496
  · have := h4 hk
    have e0 : e = 0 := by omega
    have e1 : e * 4503599627370496 + k = k := by omega
    have e2 : ((e : Int) - 1074) = -1074 := by omega
    rw [e1, e2, if_pos hk]
  · rw [if_neg (by omega), if_pos (by omega)]
    have hd : (e * 4503599627370496 + k) / 4503599627370496 = e + 1 := by omega
    have hm : (e * 4503599627370496 + k) % 4503599627370496 = k - 4503599627370496 := by omega
    have e1 : 4503599627370496 + (k - 4503599627370496) = k := by omega
    have e2 : (-1074 + ((e + 1 - 1 : Nat) : Int)) = (e : Int) - 1074 := by omega
    rw [hd, hm, e1, e2]
theorem log2_shift {k j : Nat} (hk : k ≠ 0) : (k <<< j).log2 = k.log2 + j := by
  rw [Nat.shiftLeft_eq]
  have h1 := Nat.log2_self_le hk
  have h2 := Nat.lt_log2_self (n := k)
  have hp : 0 < 2 ^ j := Nat.two_pow_pos j
  have hne : k * 2 ^ j ≠ 0 := Nat.mul_ne_zero hk (by omega)
  apply Nat.le_antisymm
  · apply Nat.le_of_lt_succ
    rw [Nat.log2_lt hne, show (k.log2 + j).succ = (k.log2 + 1) + j by omega, Nat.pow_add]
    exact Nat.mul_lt_mul_of_pos_right h2 hp
  · rw [Nat.le_log2 hne, Nat.pow_add]
    exact Nat.mul_le_mul_right _ h1
theorem log2_canon {k : Nat} {P : Int} (h : Canon k P) (hk : k ≠ 0) : k.log2 ≤ 52 ∧ (max (P + (k.log2 : Int) - 52) (-1074) : Int) = P := by
  have h1 : k.log2 < 53 := (Nat.log2_lt hk).2 (by have := h.lt; omega)
  by_cases q : k < 4503599627370496
  · have h2 := h.norm q
    have h3 : k.log2 < 52 := (Nat.log2_lt hk).2 (by omega)
    exact ⟨by omega, by omega⟩
  · have h3 : 52 ≤ k.log2 := (Nat.le_log2 hk).2 (by omega)
    have := h.lo
    exact ⟨by omega, by omega⟩
theorem cut_exact (neg : Bool) (k j : Nat) (hj : j ≤ (k <<< j).log2 + 2) : Ieee.Toward.even.cut neg (k <<< j) j = k := by
  unfold Ieee.Toward.cut
  simp only
  rw [Nat.min_eq_left hj, Nat.shiftLeft_eq, Nat.shiftLeft_eq, Nat.one_mul]
  have hp : 0 < 2 ^ j := Nat.two_pow_pos j
  rw [Nat.mul_div_cancel _ hp, Nat.mul_mod_left]
  have h1 : decide (2 ^ j < 2 * 0) = false := decide_eq_false (by omega)
  have h2 : ((2 ^ j : Nat) == 2 * 0) = false := by simp
  rw [h1, h2]
  rfl
/-- A number that the format has. -/
theorem nearest_cw {neg : Bool} {k j : Nat} {P : Int} (h : Canon k P) (hk : k ≠ 0) : dbl.nearest neg (k <<< j) (P - j) = cw neg k P := by
  have hne : k <<< j ≠ 0 := by
    rw [Nat.shiftLeft_eq]
    exact Nat.mul_ne_zero hk (by have := Nat.two_pow_pos j; omega)
  obtain ⟨h1, h2⟩ := log2_canon h hk
  unfold Ieee.Format.nearest
  rw [if_neg hne]
  simp only [dbl_fb, dbl_lp, dbl_bin, dbl_inf]
  have hlast : max (P - (j : Int) + ((k <<< j).log2 : Int) - ((52 : Nat) : Int)) (-1074) = P := by
    rw [log2_shift hk]
    rw [← h2]
    congr 1
    omega
  rw [hlast, show (P - (j : Int) - P).toNat = 0 by omega, show (P - (P - (j : Int))).toNat = j by omega, Nat.shiftLeft_zero, cut_exact neg k j (by rw [log2_shift hk]; omega)]
  have h3 := h.lt
  have h4 := h.hi
  have h5 := h.lo
  unfold cw
  rw [show P - -1074 = P + 1074 by omega, Nat.min_eq_left (by omega)]
theorem nearest_zero (neg : Bool) (p : Int) : dbl.nearest neg 0 p = dbl.word neg 0 := by
  unfold Ieee.Format.nearest
  rw [if_pos rfl]
/-- An integer. -/
theorem nearest_int {neg : Bool} {m : Nat} (h0 : m ≠ 0) (h1 : m < 9007199254740992) : ∃ k P, Canon k P ∧ k ≠ 0 ∧ dbl.nearest neg m 0 = cw neg k P := by
  have hL : m.log2 < 53 := (Nat.log2_lt h0).2 (by omega)
  obtain ⟨d, hd⟩ : ∃ d, d = 52 - m.log2 := ⟨_, rfl⟩
  have hlo := Nat.log2_self_le h0
  have hhi := Nat.lt_log2_self (n := m)
  have hk0 : m <<< d ≠ 0 := by
    rw [Nat.shiftLeft_eq]
    exact Nat.mul_ne_zero h0 (by have := Nat.two_pow_pos d; omega)
  have hlog : (m <<< d).log2 = 52 := by rw [log2_shift h0]; omega
  have hk1 : 4503599627370496 ≤ m <<< d := by have := Nat.log2_self_le hk0; rw [hlog] at this; omega
  have hk2 : m <<< d < 9007199254740992 := by have := Nat.lt_log2_self (n := m <<< d); rw [hlog] at this; omega
  have hc : Canon (m <<< d) (-(d : Int)) := ⟨hk2, by omega, by omega, fun h => by omega⟩
  refine ⟨m <<< d, -(d : Int), hc, hk0, ?_⟩
  unfold Ieee.Format.nearest
  rw [if_neg h0]
  simp only [dbl_fb, dbl_lp, dbl_bin, dbl_inf]
  have hlast : max ((0 : Int) + (m.log2 : Int) - ((52 : Nat) : Int)) (-1074) = -(d : Int) := by omega
  have hc0 := cut_exact neg (m <<< d) 0 (by omega)
  rw [Nat.shiftLeft_zero] at hc0
  rw [hlast, show ((0 : Int) - -(d : Int)).toNat = d by omega, show (-(d : Int) - 0).toNat = 0 by omega, hc0]
  unfold cw
  rw [show -(d : Int) - -1074 = -(d : Int) + 1074 by omega, Nat.min_eq_left (by omega)]
/-- What a word stands for, where it is finite. -/
theorem read_canon {b : Nat} {s : Bool} {k : Nat} {P : Int} (h : dbl.read b = .number s k P) : Canon k P := by
  rw [read_lit] at h
  by_cases q1 : b % 9223372036854775808 < 4503599627370496
  · rw [if_pos q1] at h
    injection h with _ h2 h3
    exact ⟨by omega, by omega, by omega, fun _ => h3.symm⟩
  · rw [if_neg q1] at h
    by_cases q2 : b % 9223372036854775808 < 9218868437227405312
    · rw [if_pos q2] at h
      injection h with _ h2 h3
      exact ⟨by omega, by omega, by omega, fun q => by omega⟩
    · rw [if_neg q2] at h
      by_cases q : b % 9223372036854775808 = 9218868437227405312
      · rw [if_pos q] at h; cases h
      · rw [if_neg q] at h; cases h
section
variable {b c : Nat} {s t : Bool} {k : Nat} {P : Int}
theorem read_zero : dbl.read 0 = .number false 0 (-1074) := by decide
theorem word_false : dbl.word false 0 = 0 := rfl
theorem sum_z (hc : Canon k P) (hk : k ≠ 0) : (Ieee.Datum.number s k P).sum (.number t 0 (-1074)) = some (.number s (k <<< (P + 1074).toNat) (-1074)) ∧ (Ieee.Datum.number t 0 (-1074)).sum (.number s k P) = some (.number s (k <<< (P + 1074).toNat) (-1074)) := by
  have h1 := hc.lo
  obtain ⟨n, hn⟩ : ∃ n, n = (P + 1074).toNat := ⟨_, rfl⟩
  have hne : k <<< n ≠ 0 := by
    rw [Nat.shiftLeft_eq]
    exact Nat.mul_ne_zero hk (by have := Nat.two_pow_pos n; omega)
  have hb : min P (-1074) = -1074 := by omega
  have hb2 : min (-1074) P = -1074 := by omega
  have z : ∀ (t : Bool) (n : Nat), Ieee.signed t 0 n = 0 := fun t n => by unfold Ieee.signed; cases t <;> simp
  have e1 : (P - -1074).toNat = n := by omega
  unfold Ieee.Datum.sum
  simp only [hb, hb2, z, e1, Int.add_zero, Int.zero_add, ← hn]
  obtain ⟨q, hq⟩ : ∃ q, k <<< n = q := ⟨_, rfl⟩
  rw [hq] at hne
  unfold Ieee.signed
  rw [hq]
  cases s with
  | false =>
    simp only [Bool.false_eq_true, if_false]
    have g1 : ((q : Nat) : Int) ≠ 0 := by omega
    have g2 : decide (((q : Nat) : Int) < 0) = false := decide_eq_false (by omega)
    simp only [if_neg g1, g2, Int.natAbs_natCast]
    refine ⟨?_, ?_⟩ <;> first | rfl | trivial
  | true =>
    simp only [if_true]
    have g1 : -((q : Nat) : Int) ≠ 0 := by omega
    have g2 : decide (-((q : Nat) : Int) < 0) = true := decide_eq_true (by omega)
    simp only [if_neg g1, g2, Int.natAbs_neg, Int.natAbs_natCast]
    refine ⟨?_, ?_⟩ <;> first | rfl | trivial
theorem write_z (hc : Canon k P) (hk : k ≠ 0) : dbl.write (.number s (k <<< (P + 1074).toNat) (-1074)) = cw s k P := by
  have h1 := hc.lo
  have := nearest_cw (neg := s) (j := (P + 1074).toNat) hc hk
  rw [show P - (((P + 1074).toNat : Nat) : Int) = -1074 by omega] at this
  exact this
theorem sub_zero (h : dbl.read b = .number s k P) (hk : k ≠ 0) : fop .sub (some b) (some 0) = some (cw s k P) := by
  have hc := read_canon h
  show ((dbl.read b).sum (dbl.read 0).opposite).map dbl.write = _
  rw [h, read_zero]
  show ((Ieee.Datum.number s k P).sum (.number true 0 (-1074))).map dbl.write = _
  rw [(sum_z hc hk).1]
  exact congrArg some (write_z hc hk)
theorem add_zero_l (h : dbl.read b = .number s k P) (hk : k ≠ 0) : fop .add (some 0) (some b) = some (cw s k P) := by
  have hc := read_canon h
  show ((dbl.read 0).sum (dbl.read b)).map dbl.write = _
  rw [h, read_zero, (sum_z hc hk).2]
  exact congrArg some (write_z hc hk)
theorem add_zero_r (h : dbl.read b = .number s k P) (hk : k ≠ 0) : fop .add (some b) (some 0) = some (cw s k P) := by
  have hc := read_canon h
  show ((dbl.read b).sum (dbl.read 0)).map dbl.write = _
  rw [h, read_zero, (sum_z hc hk).1]
  exact congrArg some (write_z hc hk)
theorem sub_self (h : dbl.read b = .number s k P) (h2 : dbl.read c = .number s k P) : fop .sub (some b) (some c) = some 0 := by
  show ((dbl.read b).sum (dbl.read c).opposite).map dbl.write = _
  rw [h, h2]
  show ((Ieee.Datum.number s k P).sum (.number (!s) k P)).map dbl.write = _
  unfold Ieee.Datum.sum
  simp only
  have e : Ieee.signed s k (P - min P P).toNat + Ieee.signed (!s) k (P - min P P).toNat = 0 := by
    unfold Ieee.signed
    cases s <;> simp <;> omega
  rw [e]
  simp only [if_true, Option.map_some]
  have e2 : (s && !s) = false := by cases s <;> rfl
  rw [e2]
  exact congrArg some (nearest_zero false _)
theorem quo_one (h : dbl.read b = .number s k P) (hk : k ≠ 0) : fop .quo (some b) (some (ofI 1)) = some (cw s k P) := by
  have hc := read_canon h
  have h1 : dbl.read (ofI 1) = .number false 4503599627370496 (-52) := by decide
  obtain ⟨hl, _⟩ := log2_canon hc hk
  show ((dbl.read b).quotient (dbl.fractionBits + 2) (dbl.read (ofI 1))).map dbl.write = _
  rw [h, h1]
  unfold Ieee.Datum.quotient
  simp only [dbl_fb]
  rw [if_neg (by decide)]
  have hlog : (4503599627370496 : Nat).log2 = 52 := by decide
  rw [hlog]
  obtain ⟨e, he⟩ : ∃ e, 52 + 2 + 52 - k.log2 = 52 + e := ⟨54 - k.log2, by omega⟩
  rw [he]
  have hd : k <<< (52 + e) = (k <<< e) * 4503599627370496 := by
    rw [Nat.shiftLeft_eq, Nat.shiftLeft_eq, Nat.pow_add, Nat.mul_comm (2 ^ 52), ← Nat.mul_assoc]
    
  rw [hd, Nat.mul_div_cancel _ (by decide), Nat.mul_mod_left]
  have hs : (s ^^ false) = s := by cases s <;> rfl
  rw [hs]
  have hm : 2 * (k <<< e) + ((0 : Nat) != 0).toNat = k <<< (e + 1) := by
    rw [Nat.shiftLeft_eq, Nat.shiftLeft_eq, Nat.pow_succ]
    simp
    rw [← Nat.mul_assoc, Nat.mul_comm 2, Nat.mul_assoc, Nat.mul_comm 2 (2 ^ e)]
  rw [hm]
  have hp : P - -52 - ((52 + e : Nat) : Int) - 1 = P - ((e + 1 : Nat) : Int) := by omega
  simp only [Option.map_some]
  rw [hp]
  exact congrArg some (nearest_cw hc hk)
theorem quo_zero {n : Nat} (h0 : n ≠ 0) (h1 : n < 9007199254740992) : fop .quo (some 0) (some (ofI n)) = some 0 := by
  obtain ⟨k, P, hc, hk, e⟩ := nearest_int (neg := false) h0 h1
  have h2 : ofI (n : Int) = cw false k P := by
    rw [← e]
    show dbl.nearest (decide ((n : Int) < 0)) (n : Int).natAbs 0 = _
    rw [decide_eq_false (by omega), Int.natAbs_natCast]
  show ((dbl.read 0).quotient (dbl.fractionBits + 2) (dbl.read (ofI n))).map dbl.write = _
  rw [h2, read_cw hc, read_zero]
  unfold Ieee.Datum.quotient
  simp only
  rw [if_neg hk]
  simp only [Option.map_some, Nat.zero_shiftLeft, Nat.zero_div, Nat.zero_mod]
  exact congrArg some (nearest_zero _ _)
theorem mul_zero_r (h : dbl.read b = .number s k P) : ∃ t, fop .mul (some b) (some 0) = some (dbl.word t 0) := by
  refine ⟨s ^^ false, ?_⟩
  show ((dbl.read b).product (dbl.read 0)).map dbl.write = _
  rw [h, read_zero]
  unfold Ieee.Datum.product
  simp only [Option.map_some, Nat.mul_zero]
  exact congrArg some (nearest_zero _ _)
theorem add_zz (t : Bool) : fop .add (some 0) (some (dbl.word t 0)) = some 0 := by
  cases t <;> decide
theorem order_same (h : dbl.read b = .number s k P) (h2 : dbl.read c = .number s k P) : dbl.order b c = some .eq := by
  show (dbl.read b).order (dbl.read c) = some .eq
  rw [h, h2]
  unfold Ieee.Datum.order
  simp
end
end Go.Proofs.YtocekmgjhdlkgaaGreatDoor
