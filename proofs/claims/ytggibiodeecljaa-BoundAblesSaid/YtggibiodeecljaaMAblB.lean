/- tableauref13.Able, no condition. Written by gen_able13.py. tableauref13.Able, a condition and a block. Written by gen_able13.py. tableauref13.Able, a condition and a block. Written by gen_able13.py. -/
import Derived.Test.YtggibiodeecljaaMStmAll
import Derived.Deep.RegionWith
namespace Go.Proofs.Ytggibiodeecljaa
open Go.RowKit
theorem ZLE:0≤1:=by decide
set_option linter.unusedVariables false
set_option maxRecDepth 100000 in
set_option maxHeartbeats 2000000 in
theorem able13_plain_good (on : Int) (SA : Option Addr) (slots : List Int) (sn sc tb toff tc : Nat) (ts : List Node) (w : World) (h0 : 0 ≤ on) (h1 : on ≤ 4) (h2 : sn ≤ 32) (hsn : slots.length = sn) (h3 : ts.length ≤ 2000) (htb : tb < w.heap.size) (hn : NodesAt w tb toff ts) (hS : SmallsAt w SA slots) (htxt : ∀ y ∈ ts, y.text.size ≤ 1099511627776) (hrng : ∀ y ∈ ts, I64 y.n ∧ I64 y.m) (hpos : 0 < ts.length)
  (hb : behind ts 0 = ts.length) (hbad : ((sbM ts (ts.length + 1)).2 0 look0).bad = false) (hlen : ((sbM ts (ts.length + 1)).2 0 look0).slots.length ≤ 100000) :
  Calls Try.prog 48 #[.agg #[.int .i64 on, .slice SA sn sc, .bool false, .slice (some ⟨tb, toff, none⟩) ts.length tc]] w fun e w' => e = .returned (.bool (decide (((sbM ts (ts.length + 1)).2 0 look0).slots = slots))) ∧ Below w.heap.size w w' := by
 have hl : ts.length ≤ 100000 := by omega
 have ne0 : ((ts.length : Int) == 0) = false := beq_false_of (by omega)
 have hb1 := fun nq => drewN_below ((Below.refl w.heap.size w).alloc (Nat.le_refl _) (.cells #[.int .i64 on, .slice SA sn sc, .bool false, .slice (some ⟨tb, toff, none⟩) ts.length tc] 25)) nq
 have hAC := fun nq => look13_made w _ #[.int .i64 on, .slice SA sn sc, .bool false, .slice (some ⟨tb, toff, none⟩) ts.length tc] (hb1 nq) (by simp) (Blk.new w _ _) (cap := tc) hn htb
 have hN1 := fun nq => hn.below (hb1 nq) htb
 have HAC := Lh hAC
 have HB1 := Lh hb1
 have HN1 := Lh hN1
 have A3 : (w.alloc (.cells #[.int .i64 on, .slice SA sn sc, .bool false, .slice (some ⟨tb, toff, none⟩) ts.length tc] 25)).cell? ⟨w.heap.size, 3, none⟩ = some (.slice (some ⟨tb, toff, none⟩) ts.length tc) := (Blk.new w _ _).cell 3
 have HS := Lh hS
 have HT := Lh htxt
 have HRG := Lh hrng
 have HP := Lh hpos
 have HSN := Lh hsn
 have hb0 := fun k wx (hx : NodesAt wx tb toff ts) => behind9_all tb toff tc ts k wx hl hx
 have HB0 := Lh hb0
 have hge : decide (ts = []) = false := decide_eq_false (fun h => by rw [h] at hpos; exact absurd hpos (by simp))
 have hbb : (behind ts 0 != (ts.length : Int)) = false := by rw [hb]; simp
 have HB := Lh hb
 clear hb
 have HBAD := Lh hbad
 clear hbad
 have HLEN := Lh hlen
 obtain ⟨SL, hSL⟩ : ∃ SL, ((sbM ts (ts.length + 1)).2 0 look0).slots = SL := ⟨_, rfl⟩
 rw [hSL]
 have HSL := Lh hSL
 clear hlen hSL
 clear hS htxt hrng hpos hb0 hb1 hAC hN1 hn hsn
 go_enter Try.func48, Try.ntmps48
 go_wp2_with fail
 go_quiet ((go_at_call 51; exact quiet_eqA (HB0.out 0 _ (HN1.out _))))
 have AC := Lh (HAC.out nq)
 all_goals go_wp2_with fail
 refine ((sb13_any AC.out.tbB h3 HT.out HRG.out (ts.length + 1) (0) (by omega) HP.out (by rw [HB.out]; omega)).2 vars0 (look0) _ (fun _ => (by decide)) (AC.out).lk (AC.out).nodes).mono ?_
 rintro e w6 ⟨rfl, h6, f6⟩
 rw [if_neg (by rw [show look0.bad = false from rfl]; decide)] at h6
 have AC6 := Lh ((AC.out).step (by simp) h6 f6)
 clear A3 h6 f6
 obtain ⟨A0, A1, A2, A3⟩ := AC6.out.cells
 obtain ⟨kx0, kx3, _⟩ := AC6.out.lk.cells
 rw [HBAD.out] at kx3
 obtain ⟨sl, hrk, hgd⟩ := AC6.out.lk
 obtain ⟨hsl, _⟩ := hgd HBAD.out
 have hlen := HLEN.out
 rw [← hsl] at hlen
 obtain rfl : sl = SL := hsl.trans HSL.out
 clear hsl
 clear hgd
 obtain ⟨sv, vv, _, hb3, hown, _⟩ := hrk
 have hown : w6.ownsRow w.heap.size 40 1 sv sl.length (sl.map (Value.int .i8)) := hown
 obtain ⟨Af, cf, rfl⟩ := own_form hown
 have hsm := own_small hown
 obtain ⟨ln, hln⟩ : ∃ ln, sl.length = ln := ⟨_, rfl⟩
 rw [hln] at hlen
 have kx1 : w6.cell? ⟨w.heap.size + 1 + 1, 1, none⟩ = some (.slice Af ln cf) := by rw [← hln]; exact hb3.cell 1
 have HSM := Lh hsm
 have HLN := Lh hln
 clear hb3 hown hsm hln
 by_cases q : ln = sn
 ·have qb : ((ln : Int) != (sn : Int)) = false := by simp [q]
  have Q := Lh q
  clear q
  go_wp2_with fail
  refine wp_region_text (by kernel_rfl) (by kernel_rfl) ?_
  go_wp2_with fail
  refine Only.normal ?_
  go_wp2_with fail
  go_loopw [2, 5] (fun _ iv wr => ∃ k : Nat, k ≤ ln ∧ iv = .int .i64 k ∧ Hid (sl.take k = slots.take k) ∧ ∃ m, wr = w6.drewN m) (fun _ iv _ => ln - (intOf iv).toNat)
  case atStart => exact ⟨0, by omega, rfl, rfl, 1, rfl⟩
  case round =>
   obtain ⟨k, hk, rfl, H, n, rfl⟩ := hrel
   by_cases hlt : k < ln
   ·have hlt2 : k < sn := by have := Q.out; omega
    obtain ⟨x, hx⟩ : ∃ x, sl[k]? = some x := ⟨_, List.getElem?_eq_getElem (by rw [HLN.out]; exact hlt)⟩
    obtain ⟨y, hy⟩ : ∃ y, slots[k]? = some y := ⟨_, List.getElem?_eq_getElem (by rw [HSN.out]; exact hlt2)⟩
    obtain ⟨b1, o1, rfl, c1⟩ := HSM.out k x hx
    obtain ⟨b2, o2, rfl, hb2, c2⟩ := HS.out k y hy
    have c2 := (AC6.out.fr.below.cell (p := ⟨b2, o2 + k, none⟩) hb2).trans c2
    have HX := Lh hx
    have HY := Lh hy
    clear hx hy
    by_cases hv : y = x
    ·have hvb : (y != x) = false := by simp [hv]
     have HV := Lh hv
     clear hv
     go_wp2_with fail
     go_quiet (fail)
     go_wp2
     go_roundw
     case rel =>
      refine ⟨k + 1, by omega, by go_num, ?_, _, rfl⟩
      unfold Hid
      rw [List.take_add_one, List.take_add_one, H.out, HX.out, HY.out, HV.out]
     case measure => (simp [intOf]; try omega)
    ·have hvb : (y != x) = true := by simp [hv]
     have hf : decide (sl = slots) = false := by
      simp only [decide_eq_false_iff_not]
      rintro rfl
      have := HX.out.symm.trans HY.out
      exact hv (by injection this with this; exact this.symm)
     have HF := Lh hf
     clear hf hv
     go_wp2_with fail
     go_quiet (fail)
     go_wp2
     go_ret
     exact ⟨ret_bool HF.out.symm, drewN_below (drewN_below AC6.out.fr.below _) _⟩
   ·have hf : decide (sl = slots) = true := by
     have := H.out
     rw [List.take_of_length_le (by rw [HLN.out]; omega), List.take_of_length_le (by rw [HSN.out, ← Q.out]; omega)] at this
     simp [this]
    have HF := Lh hf
    have hge : ¬ k < sn := by have := Q.out; omega
    clear hf
    go_wp2_with fail
    go_ret
    exact ⟨ret_bool HF.out.symm, drewN_below AC6.out.fr.below _⟩
 ·have qb : ((ln : Int) != (sn : Int)) = true := by simp; omega
  have hf : decide (sl = slots) = false := by
   simp only [decide_eq_false_iff_not]
   rintro rfl
   exact q (by rw [← HLN.out, HSN.out])
  have HF := Lh hf
  clear hf q
  go_wp2_with fail
  refine wp_region_text (by kernel_rfl) (by kernel_rfl) ?_
  go_wp2_with fail
  refine Only.normal ?_
  go_wp2_with fail
  go_ret
  exact ⟨ret_bool HF.out.symm, AC6.out.fr.below.drew⟩
end Go.Proofs.Ytggibiodeecljaa
namespace Go.Proofs.Ytggibiodeecljaa
open Go.RowKit
set_option linter.unusedVariables false
set_option maxRecDepth 100000 in
set_option maxHeartbeats 2000000 in
theorem able13_when_good (on : Int) (SA : Option Addr) (slots : List Int) (sn sc tb toff tc : Nat) (ts : List Node) (w : World) (h0 : 0 ≤ on) (h1 : on ≤ 4) (h2 : sn ≤ 32) (hsn : slots.length = sn) (h3 : ts.length ≤ 2000) (htb : tb < w.heap.size) (hn : NodesAt w tb toff ts) (hS : SmallsAt w SA slots) (htxt : ∀ y ∈ ts, y.text.size ≤ 1099511627776) (hrng : ∀ y ∈ ts, I64 y.n ∧ I64 y.m) (hpos : 0 < ts.length)
  (m : Nat) (hm : behind ts 0 = m) (hml : m < ts.length) (hb : behind ts m = ts.length) (hv1 : (valueF ts 0 2 ⟨[3, 4], seen0, false⟩).bad = false) (hbad : ((sbM ts (ts.length + 1)).2 m (valueF ts 0 2 ⟨[3, 4], seen0, false⟩)).bad = false) (hlen : ((sbM ts (ts.length + 1)).2 m (valueF ts 0 2 ⟨[3, 4], seen0, false⟩)).slots.length ≤ 100000) :
  Calls Try.prog 48 #[.agg #[.int .i64 on, .slice SA sn sc, .bool true, .slice (some ⟨tb, toff, none⟩) ts.length tc]] w fun e w' => e = .returned (.bool (decide (((sbM ts (ts.length + 1)).2 m (valueF ts 0 2 ⟨[3, 4], seen0, false⟩)).slots = slots))) ∧ Below w.heap.size w w' := by
 have hl : ts.length ≤ 100000 := by omega
 have ne0 : ((ts.length : Int) == 0) = false := beq_false_of (by omega)
 have hb1 := fun nq => drewN_below ((Below.refl w.heap.size w).alloc (Nat.le_refl _) (.cells #[.int .i64 on, .slice SA sn sc, .bool true, .slice (some ⟨tb, toff, none⟩) ts.length tc] 25)) nq
 have hAC := fun nq => look13_made w _ #[.int .i64 on, .slice SA sn sc, .bool true, .slice (some ⟨tb, toff, none⟩) ts.length tc] (hb1 nq) (by simp) (Blk.new w _ _) (cap := tc) hn htb
 have hN1 := fun nq => hn.below (hb1 nq) htb
 have HAC := Lh hAC
 have HB1 := Lh hb1
 have HN1 := Lh hN1
 have A3 : (w.alloc (.cells #[.int .i64 on, .slice SA sn sc, .bool true, .slice (some ⟨tb, toff, none⟩) ts.length tc] 25)).cell? ⟨w.heap.size, 3, none⟩ = some (.slice (some ⟨tb, toff, none⟩) ts.length tc) := (Blk.new w _ _).cell 3
 have HS := Lh hS
 have HT := Lh htxt
 have HRG := Lh hrng
 have HP := Lh hpos
 have HSN := Lh hsn
 have hb0 := fun k wx (hx : NodesAt wx tb toff ts) => behind9_all tb toff tc ts k wx hl hx
 have HB0 := Lh hb0
 have HNB := Lh (hn.below ((Below.refl w.heap.size w).alloc (Nat.le_refl _) (.cells #[.int .i64 on, .slice SA sn sc, .bool true, .slice (some ⟨tb, toff, none⟩) ts.length tc] 25)) htb)
 have HM := Lh hm
 clear hm
 have hge : decide (ts.length ≤ m) = false := decide_eq_false (by omega)
 have hm0 : decide ((m : Int) < 0) = false := decide_eq_false (by omega)
 have hbb : (behind ts m != (ts.length : Int)) = false := by rw [hb]; simp
 have HB := Lh hb
 clear hb
 have HV1 := Lh hv1
 clear hv1
 have HBAD := Lh hbad
 clear hbad
 have HLEN := Lh hlen
 obtain ⟨SL, hSL⟩ : ∃ SL, ((sbM ts (ts.length + 1)).2 m (valueF ts 0 2 ⟨[3, 4], seen0, false⟩)).slots = SL := ⟨_, rfl⟩
 rw [hSL]
 have HSL := Lh hSL
 clear hlen hSL
 clear hS htxt hrng hpos hb0 hb1 hAC hN1 hn hsn
 have z0:0≤1:=ZLE
 have z1:0≤1:=ZLE
 have z2:0≤1:=ZLE
 have z3:0≤1:=ZLE
 have z4:0≤1:=ZLE
 have z5:0≤1:=ZLE
 have z6:0≤1:=ZLE
 have z7:0≤1:=ZLE
 have z8:0≤1:=ZLE
 have z9:0≤1:=ZLE
 have z10:0≤1:=ZLE
 have z11:0≤1:=ZLE
 have z12:0≤1:=ZLE
 go_enter Try.func48, Try.ntmps48
 go_wp2_with fail
 refine (HB0.out 0 _ HNB.out).mono ?_
 rintro e w5 ⟨rfl, rfl⟩
 rw [HM.out]
 go_wp2_with fail
 go_quiet ((go_at_call 51; exact quiet_eqA (HB0.out m _ (HN1.out _))))
 have AC := Lh (HAC.out nq)
 all_goals go_wp2_with fail
 refine (value13_any w.heap.size (w.heap.size + 1 + 1) tb toff tc ts hl htb HT.out 0 2 [3, 4] vars0 seen0 _ HP.out (by rw [HM.out]; omega) (by decide) AC.out.lk AC.out.nodes).mono ?_
 rintro e w5 ⟨rfl, h5, f5⟩
 have AC5 := Lh (AC.out.step (by simp) h5 f5)
 clear A3 h5 f5
 obtain ⟨A0, A1, A2, A3⟩ := AC5.out.cells
 obtain ⟨ky0, ky3, _⟩ := AC5.out.lk.cells
 have hv1 := HV1.out
 rw [hv1] at ky3
 clear hv1
 go_wp2_with fail
 refine ((sb13_any AC5.out.tbB h3 HT.out HRG.out (ts.length + 1) (m) (by omega) hml (by rw [HB.out]; omega)).2 vars0 ((valueF ts 0 2 ⟨[3, 4], seen0, false⟩)) _ (fun _ => (by show 2 ≤ _; omega)) (AC5.out).lk (AC5.out).nodes).mono ?_
 rintro e w6 ⟨rfl, h6, f6⟩
 rw [if_neg (by rw [HV1.out]; decide)] at h6
 have AC6 := Lh ((AC5.out).step (by simp) h6 f6)
 clear A0 A1 A2 A3 h6 f6 ky0 ky3
 obtain ⟨A0, A1, A2, A3⟩ := AC6.out.cells
 obtain ⟨kx0, kx3, _⟩ := AC6.out.lk.cells
 rw [HBAD.out] at kx3
 obtain ⟨sl, hrk, hgd⟩ := AC6.out.lk
 obtain ⟨hsl, _⟩ := hgd HBAD.out
 have hlen := HLEN.out
 rw [← hsl] at hlen
 obtain rfl : sl = SL := hsl.trans HSL.out
 clear hsl
 clear hgd
 obtain ⟨sv, vv, _, hb3, hown, _⟩ := hrk
 have hown : w6.ownsRow w.heap.size 40 1 sv sl.length (sl.map (Value.int .i8)) := hown
 obtain ⟨Af, cf, rfl⟩ := own_form hown
 have hsm := own_small hown
 obtain ⟨ln, hln⟩ : ∃ ln, sl.length = ln := ⟨_, rfl⟩
 rw [hln] at hlen
 have kx1 : w6.cell? ⟨w.heap.size + 1 + 1, 1, none⟩ = some (.slice Af ln cf) := by rw [← hln]; exact hb3.cell 1
 have HSM := Lh hsm
 have HLN := Lh hln
 clear hb3 hown hsm hln
 by_cases q : ln = sn
 ·have qb : ((ln : Int) != (sn : Int)) = false := by simp [q]
  have Q := Lh q
  clear q
  go_wp2_with fail
  refine wp_region_text (by kernel_rfl) (by kernel_rfl) ?_
  go_wp2_with fail
  refine Only.normal ?_
  go_wp2_with fail
  go_loopw [2, 5] (fun _ iv wr => ∃ k : Nat, k ≤ ln ∧ iv = .int .i64 k ∧ Hid (sl.take k = slots.take k) ∧ ∃ m, wr = w6.drewN m) (fun _ iv _ => ln - (intOf iv).toNat)
  case atStart => exact ⟨0, by omega, rfl, rfl, 1, rfl⟩
  case round =>
   obtain ⟨k, hk, rfl, H, n, rfl⟩ := hrel
   by_cases hlt : k < ln
   ·have hlt2 : k < sn := by have := Q.out; omega
    obtain ⟨x, hx⟩ : ∃ x, sl[k]? = some x := ⟨_, List.getElem?_eq_getElem (by rw [HLN.out]; exact hlt)⟩
    obtain ⟨y, hy⟩ : ∃ y, slots[k]? = some y := ⟨_, List.getElem?_eq_getElem (by rw [HSN.out]; exact hlt2)⟩
    obtain ⟨b1, o1, rfl, c1⟩ := HSM.out k x hx
    obtain ⟨b2, o2, rfl, hb2, c2⟩ := HS.out k y hy
    have c2 := (AC6.out.fr.below.cell (p := ⟨b2, o2 + k, none⟩) hb2).trans c2
    have HX := Lh hx
    have HY := Lh hy
    clear hx hy
    by_cases hv : y = x
    ·have hvb : (y != x) = false := by simp [hv]
     have HV := Lh hv
     clear hv
     go_wp2_with fail
     go_quiet (fail)
     go_wp2
     go_roundw
     case rel =>
      refine ⟨k + 1, by omega, by go_num, ?_, _, rfl⟩
      unfold Hid
      rw [List.take_add_one, List.take_add_one, H.out, HX.out, HY.out, HV.out]
     case measure => (simp [intOf]; try omega)
    ·have hvb : (y != x) = true := by simp [hv]
     have hf : decide (sl = slots) = false := by
      simp only [decide_eq_false_iff_not]
      rintro rfl
      have := HX.out.symm.trans HY.out
      exact hv (by injection this with this; exact this.symm)
     have HF := Lh hf
     clear hf hv
     go_wp2_with fail
     go_quiet (fail)
     go_wp2
     go_ret
     exact ⟨ret_bool HF.out.symm, drewN_below (drewN_below AC6.out.fr.below _) _⟩
   ·have hf : decide (sl = slots) = true := by
     have := H.out
     rw [List.take_of_length_le (by rw [HLN.out]; omega), List.take_of_length_le (by rw [HSN.out, ← Q.out]; omega)] at this
     simp [this]
    have HF := Lh hf
    have hge : ¬ k < sn := by have := Q.out; omega
    clear hf
    go_wp2_with fail
    go_ret
    exact ⟨ret_bool HF.out.symm, drewN_below AC6.out.fr.below _⟩
 ·have qb : ((ln : Int) != (sn : Int)) = true := by simp; omega
  have hf : decide (sl = slots) = false := by
   simp only [decide_eq_false_iff_not]
   rintro rfl
   exact q (by rw [← HLN.out, HSN.out])
  have HF := Lh hf
  clear hf q
  go_wp2_with fail
  refine wp_region_text (by kernel_rfl) (by kernel_rfl) ?_
  go_wp2_with fail
  refine Only.normal ?_
  go_wp2_with fail
  go_ret
  exact ⟨ret_bool HF.out.symm, AC6.out.fr.below.drew⟩
end Go.Proofs.Ytggibiodeecljaa
namespace Go.Proofs.Ytggibiodeecljaa
open Go.RowKit
set_option linter.unusedVariables false
set_option maxRecDepth 100000 in
set_option maxHeartbeats 2000000 in
theorem able13_when_bad (on : Int) (SA : Option Addr) (slots : List Int) (sn sc tb toff tc : Nat) (ts : List Node) (w : World) (h0 : 0 ≤ on) (h1 : on ≤ 4) (h2 : sn ≤ 32) (hsn : slots.length = sn) (h3 : ts.length ≤ 2000) (htb : tb < w.heap.size) (hn : NodesAt w tb toff ts) (hS : SmallsAt w SA slots) (htxt : ∀ y ∈ ts, y.text.size ≤ 1099511627776) (hrng : ∀ y ∈ ts, I64 y.n ∧ I64 y.m) (hpos : 0 < ts.length)
  (m : Nat) (hm : behind ts 0 = m) (hml : m < ts.length) (hb : behind ts m = ts.length) (hv1 : (valueF ts 0 2 ⟨[3, 4], seen0, false⟩).bad = false) (hbad : ((sbM ts (ts.length + 1)).2 m (valueF ts 0 2 ⟨[3, 4], seen0, false⟩)).bad = true) :
  Calls Try.prog 48 #[.agg #[.int .i64 on, .slice SA sn sc, .bool true, .slice (some ⟨tb, toff, none⟩) ts.length tc]] w fun e w' => e = .returned (.bool false) ∧ Below w.heap.size w w' := by
 have hl : ts.length ≤ 100000 := by omega
 have ne0 : ((ts.length : Int) == 0) = false := beq_false_of (by omega)
 have hb1 := fun nq => drewN_below ((Below.refl w.heap.size w).alloc (Nat.le_refl _) (.cells #[.int .i64 on, .slice SA sn sc, .bool true, .slice (some ⟨tb, toff, none⟩) ts.length tc] 25)) nq
 have hAC := fun nq => look13_made w _ #[.int .i64 on, .slice SA sn sc, .bool true, .slice (some ⟨tb, toff, none⟩) ts.length tc] (hb1 nq) (by simp) (Blk.new w _ _) (cap := tc) hn htb
 have hN1 := fun nq => hn.below (hb1 nq) htb
 have HAC := Lh hAC
 have HB1 := Lh hb1
 have HN1 := Lh hN1
 have A3 : (w.alloc (.cells #[.int .i64 on, .slice SA sn sc, .bool true, .slice (some ⟨tb, toff, none⟩) ts.length tc] 25)).cell? ⟨w.heap.size, 3, none⟩ = some (.slice (some ⟨tb, toff, none⟩) ts.length tc) := (Blk.new w _ _).cell 3
 have HS := Lh hS
 have HT := Lh htxt
 have HRG := Lh hrng
 have HP := Lh hpos
 have HSN := Lh hsn
 have hb0 := fun k wx (hx : NodesAt wx tb toff ts) => behind9_all tb toff tc ts k wx hl hx
 have HB0 := Lh hb0
 have HNB := Lh (hn.below ((Below.refl w.heap.size w).alloc (Nat.le_refl _) (.cells #[.int .i64 on, .slice SA sn sc, .bool true, .slice (some ⟨tb, toff, none⟩) ts.length tc] 25)) htb)
 have HM := Lh hm
 clear hm
 have hge : decide (ts.length ≤ m) = false := decide_eq_false (by omega)
 have hm0 : decide ((m : Int) < 0) = false := decide_eq_false (by omega)
 have hbb : (behind ts m != (ts.length : Int)) = false := by rw [hb]; simp
 have HB := Lh hb
 clear hb
 have HV1 := Lh hv1
 clear hv1
 have HBAD := Lh hbad
 clear hbad
 clear hS htxt hrng hpos hb0 hb1 hAC hN1 hn hsn
 have z0:0≤1:=ZLE
 have z1:0≤1:=ZLE
 have z2:0≤1:=ZLE
 have z3:0≤1:=ZLE
 have z4:0≤1:=ZLE
 have z5:0≤1:=ZLE
 have z6:0≤1:=ZLE
 have z7:0≤1:=ZLE
 have z8:0≤1:=ZLE
 have z9:0≤1:=ZLE
 have z10:0≤1:=ZLE
 have z11:0≤1:=ZLE
 have z12:0≤1:=ZLE
 have z13:0≤1:=ZLE
 have z14:0≤1:=ZLE
 have z15:0≤1:=ZLE
 have z16:0≤1:=ZLE
 have z17:0≤1:=ZLE
 have z18:0≤1:=ZLE
 have z19:0≤1:=ZLE
 have z20:0≤1:=ZLE
 have z21:0≤1:=ZLE
 have z22:0≤1:=ZLE
 have z23:0≤1:=ZLE
 have z24:0≤1:=ZLE
 have z25:0≤1:=ZLE
 go_enter Try.func48, Try.ntmps48
 go_wp2_with fail
 refine (HB0.out 0 _ HNB.out).mono ?_
 rintro e w5 ⟨rfl, rfl⟩
 rw [HM.out]
 go_wp2_with fail
 go_quiet ((go_at_call 51; exact quiet_eqA (HB0.out m _ (HN1.out _))))
 have AC := Lh (HAC.out nq)
 all_goals go_wp2_with fail
 refine (value13_any w.heap.size (w.heap.size + 1 + 1) tb toff tc ts hl htb HT.out 0 2 [3, 4] vars0 seen0 _ HP.out (by rw [HM.out]; omega) (by decide) AC.out.lk AC.out.nodes).mono ?_
 rintro e w5 ⟨rfl, h5, f5⟩
 have AC5 := Lh (AC.out.step (by simp) h5 f5)
 clear A3 h5 f5
 obtain ⟨A0, A1, A2, A3⟩ := AC5.out.cells
 obtain ⟨ky0, ky3, _⟩ := AC5.out.lk.cells
 have hv1 := HV1.out
 rw [hv1] at ky3
 clear hv1
 go_wp2_with fail
 refine ((sb13_any AC5.out.tbB h3 HT.out HRG.out (ts.length + 1) (m) (by omega) hml (by rw [HB.out]; omega)).2 vars0 ((valueF ts 0 2 ⟨[3, 4], seen0, false⟩)) _ (fun _ => (by show 2 ≤ _; omega)) (AC5.out).lk (AC5.out).nodes).mono ?_
 rintro e w6 ⟨rfl, h6, f6⟩
 rw [if_neg (by rw [HV1.out]; decide)] at h6
 have AC6 := Lh ((AC5.out).step (by simp) h6 f6)
 clear A0 A1 A2 A3 h6 f6 ky0 ky3
 obtain ⟨A0, A1, A2, A3⟩ := AC6.out.cells
 obtain ⟨kx0, kx3, _⟩ := AC6.out.lk.cells
 rw [HBAD.out] at kx3
 go_wp2_with fail
 refine wp_region_text (by kernel_rfl) (by kernel_rfl) ?_
 go_wp2_with fail
 refine Only.normal ?_
 go_wp2_with fail
 go_ret
 exact ⟨rfl, AC6.out.fr.below.drew⟩
end Go.Proofs.Ytggibiodeecljaa
