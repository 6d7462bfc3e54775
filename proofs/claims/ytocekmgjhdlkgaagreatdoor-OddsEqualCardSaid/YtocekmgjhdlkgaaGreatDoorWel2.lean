/- Welford's mean and spread: the document's. -/
import Derived.Test.YtocekmgjhdlkgaaGreatDoorWel1
namespace Go.Proofs.YtocekmgjhdlkgaaGreatDoor
open Go.RowKit
set_option linter.unusedVariables false

section
variable (A : Option Addr) (l : List Nat) (n c : Nat) (w : World)
set_option maxRecDepth 100000 in
set_option maxHeartbeats 4000000 in
theorem welRef_some (hn : l.length = n) (h0 : 0 < n) (h1 : n ≤ 100000000) (hF : FloatsAt w A l) :
    Calls Tryz.prog 8 #[.slice A n c] w fun e w' => ∃ m s, e = .returned (.tuple #[.float .f64 m, .float .f64 s]) ∧ Rep m (welM l).1 ∧ Rep s (welM l).2 ∧ ∃ k, w' = w.drewN k := by
  have q1 := runF.add
  have q2 := runF.sub
  have q3 := runF.mul
  have q4 := runF.quo
  have c1 := fwor_cell
  have c2 := fwor_size
  have HN := Lib.hid hn
  have HF := Lib.hid hF
  clear hF hn
  have hz : ((n : Int) == 0) = false := by simp; omega
  go_enter Tryz.func8, Tryz.ntmps8
  go_wp2_with fail
  go_loopw [4, 5, 6, 7, 8, 9, 10] (fun mv sv iv _ _ _ _ wr => ∃ k m s : Nat, k ≤ n ∧ iv = .int .i64 k ∧ mv = .float .f64 m ∧ sv = .float .f64 s ∧ Hid (Rep m (welTo l k).1) ∧ Hid (Rep s (welTo l k).2) ∧ ∃ j, wr = w.drewN j) (fun _ _ iv _ _ _ _ _ => n - (intOf iv).toNat)
  case atStart => exact ⟨0, 0, 0, by omega, rfl, rfl, rfl, rep_self 0, rep_self 0, 0, rfl⟩
  case round =>
    obtain ⟨k, m, s, hk, rfl, rfl, rfl, HM, HS, j, hw⟩ := hrel
    have HW := Lib.hid hw
    by_cases hlt : k < n
    · obtain ⟨x, hx⟩ : ∃ x, l[k]? = some x := ⟨_, List.getElem?_eq_getElem (by rw [HN.out]; exact hlt)⟩
      obtain ⟨b, off, rfl, hbl, hc⟩ := HF.out k x hx
      have hcw : wr.cell? ⟨b, off + k, none⟩ = some (.float .f64 x) := by rw [hw]; exact hc
      have hbw : b < wr.heap.size := by rw [hw]; exact hbl
      have hnx := welTo_next hx
      have HX := Lib.hid hnx
      clear hw hx hc hnx
      go_wp2_with fail
      go_roundw
      case rel =>
        refine ⟨k + 1, _, _, by omega, by go_num, rfl, rfl, ?_, ?_, ?_⟩
        · rw [HX.out]
          exact rep_res aAdd _ HM.out (rep_res aQuo _ (rep_res aSub _ (rep_self x) HM.out) (rep_self _))
        · rw [HX.out]
          exact rep_res aAdd _ HS.out (rep_res aMul _ (rep_res aSub _ (rep_self x) HM.out) (rep_res aSub _ (rep_self x) (rep_res aAdd _ HM.out (rep_res aQuo _ (rep_res aSub _ (rep_self x) HM.out) (rep_self _)))))
        · repeat' (first | exact ⟨_, HW.out⟩ | refine drw ?_)
      case measure => (simp [intOf]; try omega)
    · have he : k = l.length := by rw [HN.out]; omega
      have hne : l ≠ [] := by
        intro e
        have := HN.out
        rw [e] at this
        simp at this
        omega
      have hwm : welM l = ((welTo l k).1, fop .quo (welTo l k).2 (some (ofI n))) := by
        unfold welM
        rw [if_neg hne, he, HN.out]
      have HWM := Lib.hid hwm
      clear hwm he hne hw
      go_wp2_with fail
      go_ret2
      refine ⟨_, _, rfl, ?_, ?_, ?_⟩
      · rw [HWM.out]; exact HM.out
      · rw [HWM.out]; exact rep_res aQuo _ HS.out (rep_self _)
      · exact drw ⟨_, HW.out⟩
set_option maxRecDepth 100000 in
set_option maxHeartbeats 4000000 in
theorem welRef_nil (hn : l = []) :
    Calls Tryz.prog 8 #[.slice A 0 c] w fun e w' => ∃ m s, e = .returned (.tuple #[.float .f64 m, .float .f64 s]) ∧ Rep m (welM l).1 ∧ Rep s (welM l).2 ∧ ∃ k, w' = w.drewN k := by
  subst hn
  go_enter Tryz.func8, Tryz.ntmps8
  go_wp2_with fail
  refine (nan_ref _).mono ?_
  rintro e w1 ⟨r1, rfl, h1, k1, rfl⟩
  have H1 := Lib.hid h1
  clear h1
  go_wp2_with fail
  refine (nan_ref _).mono ?_
  rintro e w2 ⟨r2, rfl, h2, k2, hw⟩
  have H2 := Lib.hid h2
  have HW := Lib.hid hw
  clear h2 hw
  go_wp2_with fail
  go_ret2
  exact ⟨_, _, rfl, H1.out, H2.out, k1 + k2, by rw [HW.out, World.drewN_drewN]⟩
theorem welRef_any (hn : l.length = n) (h1 : n ≤ 100000000) (hF : FloatsAt w A l) :
    Calls Tryz.prog 8 #[.slice A n c] w fun e w' => ∃ m s, e = .returned (.tuple #[.float .f64 m, .float .f64 s]) ∧ Rep m (welM l).1 ∧ Rep s (welM l).2 ∧ ∃ k, w' = w.drewN k := by
  by_cases h0 : n = 0
  · subst h0
    exact welRef_nil A l c w (List.length_eq_zero_iff.1 hn)
  · exact welRef_some A l n c w hn (by omega) h1 hF
end
end Go.Proofs.YtocekmgjhdlkgaaGreatDoor
