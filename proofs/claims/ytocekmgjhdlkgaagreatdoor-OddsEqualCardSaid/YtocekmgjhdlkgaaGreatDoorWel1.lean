/- Welford's mean and spread: the program's and the document's. -/
import Derived.Test.YtocekmgjhdlkgaaGreatDoorFloat
import Derived.Test.YtocekmgjhdlkgaaGreatDoorProg
import Derived.IntWalk
import Derived.Lib.Hide
import Derived.Deep.QuietTactic
import Derived.BigQuiet
namespace Go.Proofs.YtocekmgjhdlkgaaGreatDoor
open Go.RowKit
set_option linter.unusedVariables false

/-- A list of floats that came in. -/
def FloatsAt (w : World) (A : Option Addr) (l : List Nat) : Prop := ∀ k x, l[k]? = some x → ∃ b off, A = some ⟨b, off, none⟩ ∧ b < w.heap.size ∧ w.cell? ⟨b, off + k, none⟩ = some (.float .f64 x)
theorem FloatsAt.below {w w' : World} {A : Option Addr} {l : List Nat} (h : FloatsAt w A l) (hb : Below w.heap.size w w') : FloatsAt w' A l := by
  intro k x hk
  obtain ⟨b, off, h1, h2, h3⟩ := h k x hk
  exact ⟨b, off, h1, Nat.lt_of_lt_of_le h2 hb.size, (hb.cell (p := ⟨b, _, none⟩) h2).trans h3⟩
/-- The four operations on floats, as the walk takes them. -/
structure RunF : Prop where
  add : ∀ t x y w, (binOp .add t (.float .f64 x) (.float .f64 y)).run Tryz.prog w = .ok (.float .f64 (fres .add x y w)) (fwor .add x y w)
  sub : ∀ t x y w, (binOp .sub t (.float .f64 x) (.float .f64 y)).run Tryz.prog w = .ok (.float .f64 (fres .sub x y w)) (fwor .sub x y w)
  mul : ∀ t x y w, (binOp .mul t (.float .f64 x) (.float .f64 y)).run Tryz.prog w = .ok (.float .f64 (fres .mul x y w)) (fwor .mul x y w)
  quo : ∀ t x y w, (binOp .quo t (.float .f64 x) (.float .f64 y)).run Tryz.prog w = .ok (.float .f64 (fres .quo x y w)) (fwor .quo x y w)
theorem runF : RunF := ⟨fun t x y w => run_f (.inl rfl) t x y w, fun t x y w => run_f (.inr (.inl rfl)) t x y w, fun t x y w => run_f (.inr (.inr (.inl rfl))) t x y w, fun t x y w => run_f (.inr (.inr (.inr rfl))) t x y w⟩
theorem aAdd : Arith .add := .inl rfl
theorem aSub : Arith .sub := .inr (.inl rfl)
theorem aMul : Arith .mul := .inr (.inr (.inl rfl))
theorem aQuo : Arith .quo := .inr (.inr (.inr rfl))
theorem welTo_next {l : List Nat} {k x : Nat} (h : l[k]? = some x) : welTo l (k + 1) = welStep (welTo l k) k x := by
  rw [welTo, List.getD_eq_getElem?_getD, h]
  rfl
theorem drw {op : BinOp} {x y : Nat} {w W : World} (h : ∃ j, W = w.drewN j) : ∃ j, fwor op x y W = w.drewN j := by
  obtain ⟨j, rfl⟩ := h
  obtain ⟨n, hn⟩ := fwor_draw op x y (w.drewN j)
  exact ⟨j + n, by rw [hn, World.drewN_drewN]⟩
theorem nan_ref (w : World) : Calls Tryz.prog 16 #[] w fun e w' => ∃ r, e = .returned (.float .f64 r) ∧ Rep r none ∧ ∃ n, w' = w.drewN n := by
  have h4 := runF.quo
  have hr := rep_res aQuo w (rep_self 0) (rep_self 0)
  obtain ⟨n, hn⟩ := fwor_draw .quo 0 0 w
  have e : fop .quo (some 0) (some 0) = none := by decide
  rw [e] at hr
  have HR := Lib.hid hr
  have HN := Lib.hid hn
  clear hr hn e
  go_enter Tryz.func16, Tryz.ntmps16
  go_wp2
  go_ret
  exact ⟨_, rfl, HR.out, n, HN.out⟩
set_option maxRecDepth 100000 in
theorem nan_go (w : World) : Calls Tryz.prog 15 #[] w fun e w' => ∃ r, e = .returned (.float .f64 r) ∧ Rep r none ∧ ∃ n, w' = w.drewN n := by
  have hx : ∀ w : World, (callFunc 19 #[.int .u64 9221120237041090561]).run Tryz.prog w = .ok (.value (.float .f64 9221120237041090561)) w := fun w => by kernel_rfl
  have hr : Rep 9221120237041090561 none := .inr ⟨rfl, by decide⟩
  have HR := Lib.hid hr
  clear hr
  go_enter Tryz.func15, Tryz.ntmps15
  go_wp2
  go_ret
  exact ⟨_, rfl, HR.out, 0, rfl⟩
section
variable (A : Option Addr) (l : List Nat) (n c : Nat) (w : World)
set_option maxRecDepth 100000 in
set_option maxHeartbeats 4000000 in
theorem welGo_some (hn : l.length = n) (h0 : 0 < n) (h1 : n ≤ 100000000) (hF : FloatsAt w A l) :
    Calls Tryz.prog 7 #[.slice A n c] w fun e w' => ∃ m s, e = .returned (.tuple #[.float .f64 m, .float .f64 s]) ∧ Rep m (welM l).1 ∧ Rep s (welM l).2 ∧ ∃ k, w' = w.drewN k := by
  have q1 := runF.add
  have q2 := runF.sub
  have q3 := runF.mul
  have q4 := runF.quo
  have c1 := fwor_cell
  have c2 := fwor_size
  have HN := Lib.hid hn
  have HF := Lib.hid hF
  clear hF hn
  have hz : ((n : Int) == 0) = false := by simp; omega
  go_enter Tryz.func7, Tryz.ntmps7
  go_wp2_with fail
  go_loopw [2, 4, 5, 6, 7, 15] (fun mv sv _ _ _ iv wr => ∃ k m s : Nat, k ≤ n ∧ iv = .int .i64 k ∧ mv = .float .f64 m ∧ sv = .float .f64 s ∧ Hid (Rep m (welTo l k).1) ∧ Hid (Rep s (welTo l k).2) ∧ ∃ j, wr = w.drewN j) (fun _ _ _ _ _ iv _ => n - (intOf iv).toNat)
  case atStart => exact ⟨0, 0, 0, by omega, rfl, rfl, rfl, rep_self 0, rep_self 0, 0, rfl⟩
  case round =>
    obtain ⟨k, m, s, hk, rfl, rfl, rfl, HM, HS, j, hw⟩ := hrel
    have HW := Lib.hid hw
    by_cases hlt : k < n
    · obtain ⟨x, hx⟩ : ∃ x, l[k]? = some x := ⟨_, List.getElem?_eq_getElem (by rw [HN.out]; exact hlt)⟩
      obtain ⟨b, off, rfl, hbl, hc⟩ := HF.out k x hx
      have hcw : wr.cell? ⟨b, off + k, none⟩ = some (.float .f64 x) := by rw [hw]; exact hc
      have hbw : b < wr.heap.size := by rw [hw]; exact hbl
      have hnx := welTo_next hx
      have HX := Lib.hid hnx
      clear hw hx hc hnx
      go_wp2_with fail
      go_roundw
      case rel =>
        refine ⟨k + 1, _, _, by omega, by go_num, rfl, rfl, ?_, ?_, ?_⟩
        · rw [HX.out]
          exact rep_res aAdd _ HM.out (rep_res aQuo _ (rep_res aSub _ (rep_self x) HM.out) (rep_self _))
        · rw [HX.out]
          exact rep_res aAdd _ HS.out (rep_res aMul _ (rep_res aSub _ (rep_self x) HM.out) (rep_res aSub _ (rep_self x) (rep_res aAdd _ HM.out (rep_res aQuo _ (rep_res aSub _ (rep_self x) HM.out) (rep_self _)))))
        · repeat' (first | exact ⟨_, HW.out⟩ | refine drw ?_)
      case measure => (simp [intOf]; try omega)
    · have he : k = l.length := by rw [HN.out]; omega
      have hne : l ≠ [] := by
        intro e
        have := HN.out
        rw [e] at this
        simp at this
        omega
      have hwm : welM l = ((welTo l k).1, fop .quo (welTo l k).2 (some (ofI n))) := by
        unfold welM
        rw [if_neg hne, he, HN.out]
      have HWM := Lib.hid hwm
      clear hwm he hne hw
      go_wp2_with fail
      go_ret2
      refine ⟨_, _, rfl, ?_, ?_, ?_⟩
      · rw [HWM.out]; exact HM.out
      · rw [HWM.out]; exact rep_res aQuo _ HS.out (rep_self _)
      · exact drw ⟨_, HW.out⟩
set_option maxRecDepth 100000 in
set_option maxHeartbeats 4000000 in
theorem welGo_nil (hn : l = []) :
    Calls Tryz.prog 7 #[.slice A 0 c] w fun e w' => ∃ m s, e = .returned (.tuple #[.float .f64 m, .float .f64 s]) ∧ Rep m (welM l).1 ∧ Rep s (welM l).2 ∧ ∃ k, w' = w.drewN k := by
  subst hn
  go_enter Tryz.func7, Tryz.ntmps7
  go_wp2_with fail
  refine (nan_go _).mono ?_
  rintro e w1 ⟨r1, rfl, h1, k1, rfl⟩
  have H1 := Lib.hid h1
  clear h1
  go_wp2_with fail
  refine (nan_go _).mono ?_
  rintro e w2 ⟨r2, rfl, h2, k2, hw⟩
  have H2 := Lib.hid h2
  have HW := Lib.hid hw
  clear h2 hw
  go_wp2_with fail
  go_ret2
  exact ⟨_, _, rfl, H1.out, H2.out, k1 + k2, by rw [HW.out, World.drewN_drewN]⟩
theorem welGo_any (hn : l.length = n) (h1 : n ≤ 100000000) (hF : FloatsAt w A l) :
    Calls Tryz.prog 7 #[.slice A n c] w fun e w' => ∃ m s, e = .returned (.tuple #[.float .f64 m, .float .f64 s]) ∧ Rep m (welM l).1 ∧ Rep s (welM l).2 ∧ ∃ k, w' = w.drewN k := by
  by_cases h0 : n = 0
  · subst h0
    exact welGo_nil A l c w (List.length_eq_zero_iff.1 hn)
  · exact welGo_some A l n c w hn (by omega) h1 hF
end
end Go.Proofs.YtocekmgjhdlkgaaGreatDoor
