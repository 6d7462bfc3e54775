/- verify.limits. -/
import Derived.Test.YtabpheanbomibaaGreatDoorVer0
namespace Go.Proofs.YtabpheanbomibaaGreatDoor
open Go.RowKit
set_option linter.unusedVariables false

def badK (k : Int) : Bool := decide (k < 1) || decide (6 < k)
def idxP (p : Int → Bool) : List Int → Int → Int
  | [], _ => -1
  | x :: l, i => if p x = true then i else idxP p l (i + 1)
theorem idxP_any (p : Int → Bool) : ∀ (l : List Int) (i : Int), 0 ≤ i → decide (0 ≤ idxP p l i) = l.any p
  | [], i, _ => by simp [idxP]
  | x :: l, i, h => by
    rw [idxP, List.any_cons]
    cases hp : p x with
    | true => rw [if_pos rfl, Bool.true_or]; simpa using h
    | false => rw [if_neg (by decide), Bool.false_or]; exact idxP_any p l (i + 1) (by omega)
set_option maxRecDepth 100000 in
set_option maxHeartbeats 800000 in
theorem indexBad_any (A : Option Addr) (l : List Int) (n c : Nat) (w : World) (hn : l.length = n) (hl : n ≤ 281474976710656) (hS : SmallsAt w A l) :
    Calls Tryz.prog 105 #[.slice A n c, .func (.func 77) #[] #[]] w fun e w' => e = .returned (.int .i64 (idxP badK l 0)) ∧ w = w' := by
  obtain ⟨R, hR⟩ : ∃ R, R = idxP badK l 0 := ⟨_, rfl⟩
  rw [← hR]
  have HR := Lib.hid hR
  have HN := Lib.hid hn
  have HS := Lib.hid hS
  clear hR hn hS
  go_enter Tryz.func105, Tryz.ntmps105
  go_wp2_with fail
  go_loop [5, 8] (fun _ iv => ∃ k : Nat, k ≤ n ∧ iv = .int .i64 k ∧ Hid (R = idxP badK (l.drop k) k)) (fun _ iv => n - (intOf iv).toNat)
  case atStart => exact ⟨0, by omega, rfl, HR⟩
  case round =>
    obtain ⟨k, hkn, rfl, H⟩ := hrel
    by_cases hlt : k < n
    · obtain ⟨x, hx⟩ : ∃ x, l[k]? = some x := ⟨_, List.getElem?_eq_getElem (by rw [HN.out]; exact hlt)⟩
      obtain ⟨b, o, rfl, hb, hc⟩ := HS.out k x hx
      have hd : l.drop k = x :: l.drop (k + 1) := by
        obtain ⟨h1, h2⟩ := List.getElem?_eq_some_iff.1 hx
        rw [List.drop_eq_getElem_cons h1, h2]
      have hs : R = if badK x = true then (k : Int) else idxP badK (l.drop (k + 1)) (k + 1) := by rw [H.out, hd, idxP]
      have hbk := badK_any x w
      obtain ⟨d, hdd⟩ : ∃ d, badK x = d := ⟨_, rfl⟩
      have hdd' : (decide (x < 1) || decide (6 < x)) = d := hdd
      rw [hdd'] at hbk
      rw [hdd] at hs
      have HS2 := Lib.hid hs
      have HB := Lib.hid hbk
      have hkI : (k : Int) < n := by omega
      clear hs hd hx hdd hdd' hbk
      cases d with
      | true =>
        go_wp2_with fail
        refine HB.out.mono ?_
        rintro e w' ⟨rfl, rfl⟩
        go_wp2_with fail
        go_ret
        exact ⟨ret_i64 (by have := HS2.out; simpa using this.symm), rfl⟩
      | false =>
        go_wp2_with fail
        refine HB.out.mono ?_
        rintro e w' ⟨rfl, rfl⟩
        go_wp2_with fail
        go_round
        case rel => exact ⟨k + 1, by omega, by go_num, Lib.hid (by have := HS2.out; simpa using this)⟩
        case measure => (simp [intOf]; try omega)
    · have hs : R = -1 := by rw [H.out, List.drop_of_length_le (by rw [HN.out]; omega), idxP]
      have HS2 := Lib.hid hs
      clear hs
      go_wp2_with fail
      go_ret
      exact ⟨ret_i64 HS2.out.symm, rfl⟩
set_option maxRecDepth 100000 in
theorem containsBad_any (A : Option Addr) (l : List Int) (n c : Nat) (w : World) (hn : l.length = n) (hl : n ≤ 281474976710656) (hS : SmallsAt w A l) :
    Calls Tryz.prog 78 #[.slice A n c, .func (.func 77) #[] #[]] w fun e w' => e = .returned (.bool (l.any badK)) ∧ w = w' := by
  have h := indexBad_any A l n c w hn hl hS
  have ha := idxP_any badK l 0 (by omega)
  obtain ⟨q, hq⟩ : ∃ q, idxP badK l 0 = q := ⟨_, rfl⟩
  rw [hq] at h ha
  rw [← ha]
  have H := Lib.hid h
  clear h ha hq hS hn
  go_enter Tryz.func78, Tryz.ntmps78
  go_wp2_with fail
  refine H.out.mono ?_
  rintro e w' ⟨rfl, rfl⟩
  go_wp2_with fail
  go_ret
  all_goals exact ⟨by simp, rfl⟩
section
variable (BA SA : Option Addr) (b slots : List Int) (bc sc : Nat) (ints texts : Int) (w : World)
set_option maxRecDepth 100000 in
set_option maxHeartbeats 4000000 in
theorem limits_any (hb : b.length ≤ 281474976710656) (hs : slots.length ≤ 281474976710656) (hS : SmallsAt w SA slots) :
    Calls Tryz.prog 27 #[.slice BA b.length bc, .slice SA slots.length sc, .int .i64 ints, .int .i64 texts] w fun e w' => e = .returned (.int .i64 (limitsV b slots ints texts)) ∧ w = w' := by
  obtain ⟨R, hR⟩ : ∃ R, R = limitsV b slots ints texts := ⟨_, rfl⟩
  rw [← hR]
  unfold limitsV at hR
  have hcb := containsBad_any SA slots slots.length sc w rfl hs hS
  obtain ⟨X, hX⟩ : ∃ X, slots.any badK = X := ⟨_, rfl⟩
  have hX' : (slots.any fun k => decide (k < 1) || decide (6 < k)) = X := hX
  rw [hX'] at hR
  rw [hX] at hcb
  obtain ⟨n, hn⟩ : ∃ n, b.length = n := ⟨_, rfl⟩
  obtain ⟨ns, hns⟩ : ∃ n, slots.length = n := ⟨_, rfl⟩
  have hz0 : 2 ≤ slots.length → ∃ x, slots[0]? = some x ∧ slots.getD 0 0 = x := fun h => ⟨_, List.getElem?_eq_getElem (by omega), by rw [List.getD_eq_getElem?_getD, List.getElem?_eq_getElem (by omega)]; rfl⟩
  have hz1 : 2 ≤ slots.length → ∃ x, slots[1]? = some x ∧ slots.getD 1 0 = x := fun h => ⟨_, List.getElem?_eq_getElem (by omega), by rw [List.getD_eq_getElem?_getD, List.getElem?_eq_getElem (by omega)]; rfl⟩
  rw [hn] at hR hb ⊢
  rw [hns] at hR hcb hs hz0 hz1 ⊢
  have HR := Lib.hid hR
  have HC := Lib.hid hcb
  have HS := Lib.hid hS
  have HZ0 := Lib.hid hz0
  have HZ1 := Lib.hid hz1
  clear hR hcb hS hz0 hz1 hX hX' hn hns
  by_cases c0 : 65535 < n
  · have hd0 : decide (65535 < (n : Int)) = true := by simp; omega
    have hr : R = 56 := by rw [HR.out, if_pos (by omega)]
    have HR2 := Lib.hid hr
    clear hr
    go_enter Tryz.func27, Tryz.ntmps27
    go_wp2_with fail
    go_ret
    exact ⟨ret_i64 HR2.out.symm, rfl⟩
  have hd0 : decide (65535 < (n : Int)) = false := by simp; omega
  by_cases c1 : 32 < ns
  · have hd1 : decide (32 < (ns : Int)) = true := by simp; omega
    have hr : R = 56 := by rw [HR.out, if_pos (by omega)]
    have HR2 := Lib.hid hr
    clear hr
    go_enter Tryz.func27, Tryz.ntmps27
    go_wp2_with fail
    go_ret
    exact ⟨ret_i64 HR2.out.symm, rfl⟩
  have hd1 : decide (32 < (ns : Int)) = false := by simp; omega
  cases X with
  | true =>
    have hr : R = 56 := by rw [HR.out, if_pos (by simp)]
    have HR2 := Lib.hid hr
    clear hr
    go_enter Tryz.func27, Tryz.ntmps27
    go_wp2_with fail
    refine HC.out.mono ?_
    rintro e w' ⟨rfl, rfl⟩
    go_wp2_with fail
    go_ret
    exact ⟨ret_i64 HR2.out.symm, rfl⟩
  | false =>
  by_cases c3 : ints < 0
  · have hd3 : decide (ints < 0) = true := by simp; omega
    have hr : R = 56 := by rw [HR.out, if_pos (by omega)]
    have HR2 := Lib.hid hr
    clear hr
    go_enter Tryz.func27, Tryz.ntmps27
    go_wp2_with fail
    refine HC.out.mono ?_
    rintro e w' ⟨rfl, rfl⟩
    go_wp2_with fail
    go_ret
    exact ⟨ret_i64 HR2.out.symm, rfl⟩
  have hd3 : decide (ints < 0) = false := by simp; omega
  by_cases c4 : 4096 < ints
  · have hd4 : decide (4096 < ints) = true := by simp; omega
    have hr : R = 56 := by rw [HR.out, if_pos (by omega)]
    have HR2 := Lib.hid hr
    clear hr
    go_enter Tryz.func27, Tryz.ntmps27
    go_wp2_with fail
    refine HC.out.mono ?_
    rintro e w' ⟨rfl, rfl⟩
    go_wp2_with fail
    go_ret
    exact ⟨ret_i64 HR2.out.symm, rfl⟩
  have hd4 : decide (4096 < ints) = false := by simp; omega
  by_cases c5 : texts < 0
  · have hd5 : decide (texts < 0) = true := by simp; omega
    have hr : R = 56 := by rw [HR.out, if_pos (by omega)]
    have HR2 := Lib.hid hr
    clear hr
    go_enter Tryz.func27, Tryz.ntmps27
    go_wp2_with fail
    refine HC.out.mono ?_
    rintro e w' ⟨rfl, rfl⟩
    go_wp2_with fail
    go_ret
    exact ⟨ret_i64 HR2.out.symm, rfl⟩
  have hd5 : decide (texts < 0) = false := by simp; omega
  by_cases c6 : 4096 < texts
  · have hd6 : decide (4096 < texts) = true := by simp; omega
    have hr : R = 56 := by rw [HR.out, if_pos (by omega)]
    have HR2 := Lib.hid hr
    clear hr
    go_enter Tryz.func27, Tryz.ntmps27
    go_wp2_with fail
    refine HC.out.mono ?_
    rintro e w' ⟨rfl, rfl⟩
    go_wp2_with fail
    go_ret
    exact ⟨ret_i64 HR2.out.symm, rfl⟩
  have hd6 : decide (4096 < texts) = false := by simp; omega
  have hr1 : R = if ns < 2 ∨ slots.getD 0 0 ≠ 3 ∨ slots.getD 1 0 ≠ 4 then 43 else if n = 0 then 49 else 0 := by
    rw [HR.out, if_neg (by simp; omega)]
  have HR1 := Lib.hid hr1
  clear hr1 HR
  by_cases q0 : ns < 2
  · have e0 : decide ((ns : Int) < 2) = true := by simp; omega
    have hr : R = 43 := by rw [HR1.out, if_pos (.inl q0)]
    have HR2 := Lib.hid hr
    clear hr
    go_enter Tryz.func27, Tryz.ntmps27
    go_wp2_with fail
    refine HC.out.mono ?_
    rintro e w' ⟨rfl, rfl⟩
    go_wp2_with fail
    go_ret
    exact ⟨ret_i64 HR2.out.symm, rfl⟩
  have e0 : decide ((ns : Int) < 2) = false := by simp; omega
  obtain ⟨x0, hx0, hg0⟩ := HZ0.out (by omega)
  obtain ⟨x1, hx1, hg1⟩ := HZ1.out (by omega)
  obtain ⟨sb, so, rfl, _, hc0⟩ := HS.out 0 x0 hx0
  obtain ⟨sb2, so2, e9, _, hc1⟩ := HS.out 1 x1 hx1
  injection e9 with e9
  injection e9 with e91 e92
  subst e91 e92
  simp only [Nat.add_zero] at hc0
  have hr2 := HR1.out
  rw [hg0, hg1] at hr2
  have HR3 := Lib.hid hr2
  have i0 : (0 : Int) < ns := by omega
  have i1 : (1 : Int) < ns := by omega
  have j0 : 0 < ns := by omega
  have j1 : 1 < ns := by omega
  clear hx0 hx1 hg0 hg1 hr2 HR1 HZ0 HZ1
  by_cases q1 : x0 = 3
  case neg =>
    have b0 : (x0 != 3) = true := by simpa using q1
    have hr : R = 43 := by rw [HR3.out, if_pos (.inr (.inl q1))]
    have HR2 := Lib.hid hr
    clear hr
    go_enter Tryz.func27, Tryz.ntmps27
    go_wp2_with fail
    refine HC.out.mono ?_
    rintro e w' ⟨rfl, rfl⟩
    go_wp2_with fail
    go_ret
    exact ⟨ret_i64 HR2.out.symm, rfl⟩
  have b0 : (x0 != 3) = false := by simpa using q1
  by_cases q2 : x1 = 4
  case neg =>
    have b1 : (x1 != 4) = true := by simpa using q2
    have hr : R = 43 := by rw [HR3.out, if_pos (.inr (.inr q2))]
    have HR2 := Lib.hid hr
    clear hr
    go_enter Tryz.func27, Tryz.ntmps27
    go_wp2_with fail
    refine HC.out.mono ?_
    rintro e w' ⟨rfl, rfl⟩
    go_wp2_with fail
    go_ret
    exact ⟨ret_i64 HR2.out.symm, rfl⟩
  have b1 : (x1 != 4) = false := by simpa using q2
  by_cases q3 : n = 0
  · subst q3
    have hr : R = 49 := by rw [HR3.out, if_neg (by omega), if_pos rfl]
    have HR2 := Lib.hid hr
    clear hr
    go_enter Tryz.func27, Tryz.ntmps27
    go_wp2_with fail
    refine HC.out.mono ?_
    rintro e w' ⟨rfl, rfl⟩
    go_wp2_with fail
    go_ret
    exact ⟨ret_i64 HR2.out.symm, rfl⟩
  have b2 : ((n : Int) == 0) = false := by simp; omega
  have hr : R = 0 := by rw [HR3.out, if_neg (by omega), if_neg q3]
  have HR2 := Lib.hid hr
  clear hr
  go_enter Tryz.func27, Tryz.ntmps27
  go_wp2_with fail
  refine HC.out.mono ?_
  rintro e w' ⟨rfl, rfl⟩
  go_wp2_with fail
  go_ret
  exact ⟨ret_i64 HR2.out.symm, rfl⟩
end
end Go.Proofs.YtabpheanbomibaaGreatDoor
