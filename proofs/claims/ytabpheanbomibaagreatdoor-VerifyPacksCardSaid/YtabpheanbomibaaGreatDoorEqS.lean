/- tableauref00: EqSmalls. -/
import Derived.Test.YtabpheanbomibaaGreatDoorSmall
namespace Go.Proofs.YtabpheanbomibaaGreatDoor
open Go.RowKit
set_option linter.unusedVariables false

set_option maxHeartbeats 400000 in
/-- EqSmalls. -/
theorem eqSmalls_any (A B : Option Addr) (c d : Nat) (l m : List Int) (w : World) (hl : l.length ≤ 1099511627776) (hm : m.length ≤ 1099511627776)
    (h1 : ∀ k x, l[k]? = some x → ∃ b off, A = some ⟨b, off, none⟩ ∧ w.cell? ⟨b, off + k, none⟩ = some (.int .i8 x)) (h2 : ∀ k x, m[k]? = some x → ∃ b off, B = some ⟨b, off, none⟩ ∧ w.cell? ⟨b, off + k, none⟩ = some (.int .i8 x)) :
    Calls Tryz.prog 13 #[.slice A l.length c, .slice B m.length d] w fun e w' => e = .returned (.bool (decide (l = m))) ∧ ∃ n, w' = w.drewN n := by
  by_cases hne : l.length = m.length
  · obtain ⟨len, hlen⟩ : ∃ len, l.length = len := ⟨_, rfl⟩
    rw [← hne, hlen]
    have HL := Lib.hid hlen
    have HN := Lib.hid hne
    have H1 := Lib.hid h1
    have H2 := Lib.hid h2
    rw [hlen] at hl
    clear h1 h2 hm hne hlen
    have hb : ((len : Int) != (len : Int)) = false := by simp
    go_enter Tryz.func13, Tryz.ntmps13
    go_wp2
    go_loopw [5] (fun i wr => ∃ k : Nat, k ≤ len ∧ i = .int .i64 k ∧ Hid (l.take k = m.take k) ∧ ∃ n, wr = w.drewN n) (fun i _ => len - (intOf i).toNat)
    case atStart => exact ⟨0, by omega, rfl, rfl, 0, rfl⟩
    case round =>
      obtain ⟨k, hk, rfl, H, n, rfl⟩ := hrel
      by_cases hlt : k < len
      · have hk1 : k < l.length := by rw [HL.out]; exact hlt
        have hk2 : k < m.length := by rw [← HN.out, HL.out]; exact hlt
        obtain ⟨x, hx⟩ : ∃ x, l[k]? = some x := ⟨_, List.getElem?_eq_getElem hk1⟩
        obtain ⟨y, hy⟩ : ∃ y, m[k]? = some y := ⟨_, List.getElem?_eq_getElem hk2⟩
        obtain ⟨b1, o1, rfl, c1⟩ := H1.out k x hx
        obtain ⟨b2, o2, rfl, c2⟩ := H2.out k y hy
        have HX := Lib.hid hx
        have HY := Lib.hid hy
        clear hx hy hk1 hk2
        by_cases hv : x = y
        · have hvb : (x != y) = false := by simp [hv]
          have HV := Lib.hid hv
          clear hv
          go_wp2_with fail
          go_quiet (fail)
          go_wp2
          go_roundw
          case rel =>
            refine ⟨k + 1, by omega, by go_num, ?_, _, rfl⟩
            unfold Hid
            rw [List.take_add_one, List.take_add_one, H.out, HX.out, HY.out, HV.out]
          case measure => (simp [intOf]; try omega)
        · have hvb : (x != y) = true := by simp [hv]
          have hf : decide (l = m) = false := by
            simp only [decide_eq_false_iff_not]
            rintro rfl
            have := HX.out.symm.trans HY.out
            exact hv (by injection this)
          have HF := Lib.hid hf
          clear hf hv
          go_wp2_with fail
          go_quiet (fail)
          go_wp2
          go_ret
          exact ⟨ret_bool HF.out.symm, n + nq, by rw [World.drewN_drewN]⟩
      · have hf : decide (l = m) = true := by
          have := H.out
          rw [List.take_of_length_le (by rw [HL.out]; omega), List.take_of_length_le (by rw [← HN.out, HL.out]; omega)] at this
          simp [this]
        have HF := Lib.hid hf
        clear hf
        go_wp2
        go_ret
        exact ⟨ret_bool HF.out.symm, _, rfl⟩
  · have hb : ((l.length : Int) != (m.length : Int)) = true := by simp; omega
    have hf : decide (l = m) = false := by
      simp only [decide_eq_false_iff_not]
      rintro rfl
      exact hne rfl
    have HF := Lib.hid hf
    clear h1 h2 hf
    have hne' : ¬ ((l.length : Int) = (m.length : Int)) := by omega
    go_enter Tryz.func13, Tryz.ntmps13
    go_wp2
    go_ret
    exact ⟨ret_bool HF.out.symm, 0, rfl⟩
end Go.Proofs.YtabpheanbomibaaGreatDoor
