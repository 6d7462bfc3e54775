/- OddsEqual, walked. -/
import Derived.Test.YtocekmgjhdlkgaaGreatDoorWel5
namespace Go.Proofs.YtocekmgjhdlkgaaGreatDoor
open Go.RowKit
set_option linter.unusedVariables false

theorem rep_fres_sub (y : Nat) (w : World) : Rep (fres .sub y y w) (fop .sub (some y) (some y)) := rep_res aSub w (rep_self y) (rep_self y)
theorem getD_rep (n x i : Nat) (h : i < (List.replicate n x).length) : (List.replicate n x).getD i 0 = x := by
  rw [List.length_replicate] at h
  rw [List.getD_eq_getElem?_getD, List.getElem?_replicate, if_pos h]
  rfl
/-- What the law asks of the second pair, of y and of y - y. -/
def Fits (y o z r : Nat) : Prop :=
  ((dbl.order r 0 != some .eq) = true ∧ (dbl.order y y == some .eq) = true) ∨
  ((dbl.order r 0 != some .eq) = true ∧ (dbl.order y y == some .eq) = false ∧ (dbl.order o o != some .eq) = true) ∨
  ((dbl.order r 0 != some .eq) = false ∧ (dbl.order o y == some .eq) = true ∧ z = 0 ∧ (dbl.order y y == some .eq) = true)
theorem order_nan_l {b c : Nat} (h : dbl.order b b = none) : dbl.order b c = none := by
  obtain ⟨s, f, e⟩ := nan_read h
  show (dbl.read b).order (dbl.read c) = none
  rw [e]
  cases dbl.read c <;> rfl
theorem fits {y o z r : Nat} (ho : Rep o (welM [y]).1) (hz : Rep z (welM [y]).2) (hr : Rep r (fop .sub (some y) (some y))) : Fits y o z r := by
  cases hd : dbl.read y with
  | nan s f =>
    have hn : dbl.order y y = none := by
      show (dbl.read y).order (dbl.read y) = none
      rw [hd]; rfl
    rw [sub_nan hn] at ho
    have e : fop .sub (some y) (some y) = none := nan_left aSub hn
    rw [e] at hr
    rcases hr with hr | ⟨_, hr⟩
    · cases hr
    · refine .inr (.inl ⟨by rw [order_nan_l hr]; rfl, by rw [hn]; rfl, rep_none ho⟩)
  | infinity s =>
    rw [inf_self hd] at hr
    rcases hr with hr | ⟨_, hr⟩
    · cases hr
    · refine .inl ⟨by rw [order_nan_l hr]; rfl, ?_⟩
      have : dbl.order y y = some .eq := by
        show (dbl.read y).order (dbl.read y) = some .eq
        rw [hd]; cases s <;> rfl
      rw [this]; rfl
  | number s k P =>
    obtain ⟨m, hm, hme⟩ := wel_alone hd
    rw [hm] at ho hz
    obtain rfl := rep_some ho
    obtain rfl := rep_some hz
    rw [sub_self hd hd] at hr
    obtain rfl := rep_some hr
    exact .inr (.inr ⟨by decide, by rw [hme]; rfl, rfl, by rw [order_same hd hd]; rfl⟩)
set_option maxRecDepth 100000 in
set_option maxHeartbeats 8000000 in
theorem oddsEqual_any (x : Int) (n : Nat) (y : Nat) (w : World) (hx0 : -2147483648 ≤ x) (hx1 : x ≤ 2147483647) (hn : n ≤ 255) :
    Calls Tryz.prog 4 #[.int .i32 x, .int .u8 n, .float .f64 y] w fun e w' => e = .returned (.bool true) ∧ Below w.heap.size w w' := by
  have hxc : floatOfInt .f64 x = ofI x := rfl
  obtain ⟨X, hX⟩ : ∃ X, ofI x = X := ⟨_, rfl⟩
  have hmean := wel_int (l := List.replicate (n + 1) X) x (by omega) (by rw [hX]; exact getD_rep (n + 1) X) (by simp) (by simp; omega)
  rw [hX] at hxc hmean
  have HMEAN := Lib.hid hmean
  have HX := Lib.hid hX
  clear hmean hX
  go_enter Tryz.func4, Tryz.ntmps4
  go_wp2_with fail
  go_loopw [7, 8] (fun lv iv wr => ∃ i : Nat, i ≤ n + 1 ∧ iv = .int .i64 i ∧ Hid (wr.ownsRow w.heap.size 25 1 lv i (floatVals (List.replicate i X))) ∧ Hid (Below w.heap.size w wr)) (fun _ iv _ => n + 1 - (intOf iv).toNat)
  case atStart => exact ⟨0, by omega, rfl, Lib.hid (World.ownsRow_nil _ _ _ _), Lib.hid (Below.refl _ _)⟩
  case round =>
    obtain ⟨i, hi, rfl, HO, HB⟩ := hrel
    by_cases hlt : i < n + 1
    · have hii : (i : Int) ≤ n := by omega
      have hbs := HB.out.size
      go_wp2_with (at_builtin; go_loud (refine wpList_append1 float_el rfl _ _ rfl w.heap.size wr [.float .f64 X] rfl _ i _ rfl HO.out rfl rfl (by simp [Value.oneCell']) (by unfold maxLen; omega) (by omega) hbs ?_; intro v2 w2 hown2 hg2; have HOWN2 := Lib.hid hown2; have HG2 := Lib.hid hg2; clear hown2 hg2))
      go_roundw
      case rel =>
        refine ⟨i + 1, by omega, by go_num, Lib.hid ?_, Lib.hid (Below.of_own HB.out HO.out HG2.out (Nat.le_refl _) hbs)⟩
        have := HOWN2.out
        rw [List.replicate_succ']
        unfold floatVals at this ⊢
        rw [List.map_append]
        exact this
      case measure => (simp [intOf]; try omega)
    · obtain rfl : i = n + 1 := by omega
      have hii : ¬ ((n : Int) + 1 ≤ n) := by omega
      obtain ⟨A, c, rfl, hF, hl, _⟩ := own_floatV HO.out
      have HF := Lib.hid hF
      have HL := Lib.hid hl
      clear hF hl
      go_wp2_with fail
      refine (welGo_any _ _ _ _ _ HL.out (by omega) HF.out).mono ?_
      rintro e w3 ⟨m, s, rfl, hm, hs, k3, hw3⟩
      obtain ⟨m', hwm, hmx⟩ := HMEAN.out
      rw [hwm] at hm hs
      obtain rfl := rep_some hm
      obtain rfl := rep_some hs
      have hne : (dbl.order m X != some .eq) = false := by rw [hmx]; rfl
      have h00 : (dbl.order 0 0 != some .eq) = false := by decide
      have h01 : (dbl.order 0 0 == some .eq) = true := by decide
      have HB3 : Hid (Below w.heap.size w w3) := Lib.hid (by rw [hw3]; exact below_drewF HB.out _)
      have HB4 := Lib.hid (HB3.out.alloc HB3.out.size (.cells #[.float .f64 y] 25))
      have hb4 := Blk.new w3 25 #[.float .f64 y]
      have hF4 : FloatsAt (w3.alloc (.cells #[.float .f64 y] 25)) (some ⟨w3.heap.size, 0, none⟩) [y] := floatsAt_blk hb4 (m := [y]) (fun _ _ => rfl)
      have h5 := welGo_any (some ⟨w3.heap.size, 0, none⟩) [y] 1 1 _ rfl (by decide) hF4
      have H5 := Lib.hid h5
      clear hm hs hw3 hwm hmx hb4 hF4 h5
      go_wp2_with fail
      refine H5.out.mono ?_
      rintro e w5 ⟨o, z, rfl, ho, hz, k5, hw5⟩
      have HB5 : Hid (Below w.heap.size w w5) := Lib.hid (by rw [hw5]; exact below_drewF HB4.out _)
      have hfit := fits ho hz (rep_fres_sub y w5)
      have HB6 : Hid (Below w.heap.size w (fwor .sub y y w5)) := Lib.hid (below_fwor HB5.out _ _ _)
      have q2 := runF.sub
      clear ho hz hw5
      rcases hfit with ⟨f1, f2⟩ | ⟨f1, f2, f3⟩ | ⟨f1, f2, rfl, f3⟩
      · go_wp2_with fail
        refine (works29_any _).mono ?_
        rintro e w11 ⟨rfl, hb11⟩
        have HB11 := Lib.hid (HB6.out.trans (hb11.mono HB6.out.size))
        clear hb11
        go_wp2_with fail
        go_ret
        exact ⟨rfl, HB11.out⟩
      · go_wp2_with fail
        refine (works29_any _).mono ?_
        rintro e w11 ⟨rfl, hb11⟩
        have HB11 := Lib.hid (HB6.out.trans (hb11.mono HB6.out.size))
        clear hb11
        go_wp2_with fail
        go_ret
        exact ⟨rfl, HB11.out⟩
      · go_wp2_with fail
        refine (works29_any _).mono ?_
        rintro e w11 ⟨rfl, hb11⟩
        have HB11 := Lib.hid (HB6.out.trans (hb11.mono HB6.out.size))
        clear hb11
        go_wp2_with fail
        go_ret
        exact ⟨rfl, HB11.out⟩
end Go.Proofs.YtocekmgjhdlkgaaGreatDoor
