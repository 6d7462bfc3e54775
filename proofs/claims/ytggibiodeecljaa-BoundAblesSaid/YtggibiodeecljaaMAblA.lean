/- tableauref13.Able, no condition, and something behind the block. Written by gen_able13.py. tableauref13.Able, no condition. Written by gen_able13.py. tableauref13.Able, a condition that is not whole. Written by gen_able13.py. tableauref13.Able, a condition, and no block behind it, or too much. Written by gen_able13.py. tableauref13.Able, a condition that is none. Written by gen_able13.py. tableauref13.Able, a condition, and something behind the block. Written by gen_able13.py. -/
import Derived.Test.YtggibiodeecljaaMStmAll
import Derived.Deep.RegionWith
namespace Go.Proofs.Ytggibiodeecljaa
open Go.RowKit
theorem ZLD:0≤1:=by decide
set_option linter.unusedVariables false
set_option maxRecDepth 100000 in
set_option maxHeartbeats 2000000 in
theorem able13_plain_no (on : Int) (SA : Option Addr) (slots : List Int) (sn sc tb toff tc : Nat) (ts : List Node) (w : World) (h0 : 0 ≤ on) (h1 : on ≤ 4) (h2 : sn ≤ 32) (hsn : slots.length = sn) (h3 : ts.length ≤ 2000) (htb : tb < w.heap.size) (hn : NodesAt w tb toff ts) (hS : SmallsAt w SA slots) (htxt : ∀ y ∈ ts, y.text.size ≤ 1099511627776) (hrng : ∀ y ∈ ts, I64 y.n ∧ I64 y.m) (hpos : 0 < ts.length)
  (hb : ¬ behind ts 0 = ts.length) :
  Calls Try.prog 48 #[.agg #[.int .i64 on, .slice SA sn sc, .bool false, .slice (some ⟨tb, toff, none⟩) ts.length tc]] w fun e w' => e = .returned (.bool false) ∧ Below w.heap.size w w' := by
 have hl : ts.length ≤ 100000 := by omega
 have ne0 : ((ts.length : Int) == 0) = false := beq_false_of (by omega)
 have hb1 := fun nq => drewN_below ((Below.refl w.heap.size w).alloc (Nat.le_refl _) (.cells #[.int .i64 on, .slice SA sn sc, .bool false, .slice (some ⟨tb, toff, none⟩) ts.length tc] 25)) nq
 have hAC := fun nq => look13_made w _ #[.int .i64 on, .slice SA sn sc, .bool false, .slice (some ⟨tb, toff, none⟩) ts.length tc] (hb1 nq) (by simp) (Blk.new w _ _) (cap := tc) hn htb
 have hN1 := fun nq => hn.below (hb1 nq) htb
 have HAC := Lh hAC
 have HB1 := Lh hb1
 have HN1 := Lh hN1
 have A3 : (w.alloc (.cells #[.int .i64 on, .slice SA sn sc, .bool false, .slice (some ⟨tb, toff, none⟩) ts.length tc] 25)).cell? ⟨w.heap.size, 3, none⟩ = some (.slice (some ⟨tb, toff, none⟩) ts.length tc) := (Blk.new w _ _).cell 3
 have HS := Lh hS
 have HT := Lh htxt
 have HRG := Lh hrng
 have HP := Lh hpos
 have HSN := Lh hsn
 have hb0 := fun k wx (hx : NodesAt wx tb toff ts) => behind9_all tb toff tc ts k wx hl hx
 have HB0 := Lh hb0
 have hge : decide (ts = []) = false := decide_eq_false (fun h => by rw [h] at hpos; exact absurd hpos (by simp))
 have hbb : (behind ts 0 != (ts.length : Int)) = true := by rw [bne_iff_ne]; exact hb
 clear hb
 clear hS htxt hrng hpos hb0 hb1 hAC hN1 hn hsn
 go_enter Try.func48, Try.ntmps48
 go_wp2_with fail
 go_quiet ((go_at_call 51; exact quiet_eqA (HB0.out 0 _ (HN1.out _))))
 all_goals go_wp2_with fail
 all_goals go_ret
 all_goals exact ⟨rfl, HB1.out _⟩
end Go.Proofs.Ytggibiodeecljaa
namespace Go.Proofs.Ytggibiodeecljaa
open Go.RowKit
set_option linter.unusedVariables false
set_option maxRecDepth 100000 in
set_option maxHeartbeats 2000000 in
theorem able13_plain_bad (on : Int) (SA : Option Addr) (slots : List Int) (sn sc tb toff tc : Nat) (ts : List Node) (w : World) (h0 : 0 ≤ on) (h1 : on ≤ 4) (h2 : sn ≤ 32) (hsn : slots.length = sn) (h3 : ts.length ≤ 2000) (htb : tb < w.heap.size) (hn : NodesAt w tb toff ts) (hS : SmallsAt w SA slots) (htxt : ∀ y ∈ ts, y.text.size ≤ 1099511627776) (hrng : ∀ y ∈ ts, I64 y.n ∧ I64 y.m) (hpos : 0 < ts.length)
  (hb : behind ts 0 = ts.length) (hbad : ((sbM ts (ts.length + 1)).2 0 look0).bad = true) :
  Calls Try.prog 48 #[.agg #[.int .i64 on, .slice SA sn sc, .bool false, .slice (some ⟨tb, toff, none⟩) ts.length tc]] w fun e w' => e = .returned (.bool false) ∧ Below w.heap.size w w' := by
 have hl : ts.length ≤ 100000 := by omega
 have ne0 : ((ts.length : Int) == 0) = false := beq_false_of (by omega)
 have hb1 := fun nq => drewN_below ((Below.refl w.heap.size w).alloc (Nat.le_refl _) (.cells #[.int .i64 on, .slice SA sn sc, .bool false, .slice (some ⟨tb, toff, none⟩) ts.length tc] 25)) nq
 have hAC := fun nq => look13_made w _ #[.int .i64 on, .slice SA sn sc, .bool false, .slice (some ⟨tb, toff, none⟩) ts.length tc] (hb1 nq) (by simp) (Blk.new w _ _) (cap := tc) hn htb
 have hN1 := fun nq => hn.below (hb1 nq) htb
 have HAC := Lh hAC
 have HB1 := Lh hb1
 have HN1 := Lh hN1
 have A3 : (w.alloc (.cells #[.int .i64 on, .slice SA sn sc, .bool false, .slice (some ⟨tb, toff, none⟩) ts.length tc] 25)).cell? ⟨w.heap.size, 3, none⟩ = some (.slice (some ⟨tb, toff, none⟩) ts.length tc) := (Blk.new w _ _).cell 3
 have HS := Lh hS
 have HT := Lh htxt
 have HRG := Lh hrng
 have HP := Lh hpos
 have HSN := Lh hsn
 have hb0 := fun k wx (hx : NodesAt wx tb toff ts) => behind9_all tb toff tc ts k wx hl hx
 have HB0 := Lh hb0
 have hge : decide (ts = []) = false := decide_eq_false (fun h => by rw [h] at hpos; exact absurd hpos (by simp))
 have hbb : (behind ts 0 != (ts.length : Int)) = false := by rw [hb]; simp
 have HB := Lh hb
 clear hb
 have HBAD := Lh hbad
 clear hbad
 clear hS htxt hrng hpos hb0 hb1 hAC hN1 hn hsn
 have z0:0≤1:=ZLD
 have z1:0≤1:=ZLD
 have z2:0≤1:=ZLD
 have z3:0≤1:=ZLD
 have z4:0≤1:=ZLD
 have z5:0≤1:=ZLD
 have z6:0≤1:=ZLD
 have z7:0≤1:=ZLD
 have z8:0≤1:=ZLD
 have z9:0≤1:=ZLD
 have z10:0≤1:=ZLD
 have z11:0≤1:=ZLD
 have z12:0≤1:=ZLD
 go_enter Try.func48, Try.ntmps48
 go_wp2_with fail
 go_quiet ((go_at_call 51; exact quiet_eqA (HB0.out 0 _ (HN1.out _))))
 have AC := Lh (HAC.out nq)
 all_goals go_wp2_with fail
 refine ((sb13_any AC.out.tbB h3 HT.out HRG.out (ts.length + 1) (0) (by omega) HP.out (by rw [HB.out]; omega)).2 vars0 (look0) _ (fun _ => (by decide)) (AC.out).lk (AC.out).nodes).mono ?_
 rintro e w6 ⟨rfl, h6, f6⟩
 rw [if_neg (by rw [show look0.bad = false from rfl]; decide)] at h6
 have AC6 := Lh ((AC.out).step (by simp) h6 f6)
 clear A3 h6 f6
 obtain ⟨A0, A1, A2, A3⟩ := AC6.out.cells
 obtain ⟨kx0, kx3, _⟩ := AC6.out.lk.cells
 rw [HBAD.out] at kx3
 go_wp2_with fail
 refine wp_region_text (by kernel_rfl) (by kernel_rfl) ?_
 go_wp2_with fail
 refine Only.normal ?_
 go_wp2_with fail
 go_ret
 exact ⟨rfl, AC6.out.fr.below.drew⟩
end Go.Proofs.Ytggibiodeecljaa
namespace Go.Proofs.Ytggibiodeecljaa
open Go.RowKit
set_option linter.unusedVariables false
set_option maxRecDepth 100000 in
set_option maxHeartbeats 2000000 in
theorem able13_when_neg (on : Int) (SA : Option Addr) (slots : List Int) (sn sc tb toff tc : Nat) (ts : List Node) (w : World) (h0 : 0 ≤ on) (h1 : on ≤ 4) (h2 : sn ≤ 32) (hsn : slots.length = sn) (h3 : ts.length ≤ 2000) (htb : tb < w.heap.size) (hn : NodesAt w tb toff ts) (hS : SmallsAt w SA slots) (htxt : ∀ y ∈ ts, y.text.size ≤ 1099511627776) (hrng : ∀ y ∈ ts, I64 y.n ∧ I64 y.m) (hpos : 0 < ts.length)
  (hb : behind ts 0 < 0) :
  Calls Try.prog 48 #[.agg #[.int .i64 on, .slice SA sn sc, .bool true, .slice (some ⟨tb, toff, none⟩) ts.length tc]] w fun e w' => e = .returned (.bool false) ∧ Below w.heap.size w w' := by
 have hl : ts.length ≤ 100000 := by omega
 have ne0 : ((ts.length : Int) == 0) = false := beq_false_of (by omega)
 have hb1 := fun nq => drewN_below ((Below.refl w.heap.size w).alloc (Nat.le_refl _) (.cells #[.int .i64 on, .slice SA sn sc, .bool true, .slice (some ⟨tb, toff, none⟩) ts.length tc] 25)) nq
 have hAC := fun nq => look13_made w _ #[.int .i64 on, .slice SA sn sc, .bool true, .slice (some ⟨tb, toff, none⟩) ts.length tc] (hb1 nq) (by simp) (Blk.new w _ _) (cap := tc) hn htb
 have hN1 := fun nq => hn.below (hb1 nq) htb
 have HAC := Lh hAC
 have HB1 := Lh hb1
 have HN1 := Lh hN1
 have A3 : (w.alloc (.cells #[.int .i64 on, .slice SA sn sc, .bool true, .slice (some ⟨tb, toff, none⟩) ts.length tc] 25)).cell? ⟨w.heap.size, 3, none⟩ = some (.slice (some ⟨tb, toff, none⟩) ts.length tc) := (Blk.new w _ _).cell 3
 have HS := Lh hS
 have HT := Lh htxt
 have HRG := Lh hrng
 have HP := Lh hpos
 have HSN := Lh hsn
 have hb0 := fun k wx (hx : NodesAt wx tb toff ts) => behind9_all tb toff tc ts k wx hl hx
 have HB0 := Lh hb0
 have HB := Lh hb
 have HM1 := Lh (behind_minus hb)
 have HNB := Lh (hn.below ((Below.refl w.heap.size w).alloc (Nat.le_refl _) (.cells #[.int .i64 on, .slice SA sn sc, .bool true, .slice (some ⟨tb, toff, none⟩) ts.length tc] 25)) htb)
 clear hb
 clear hS htxt hrng hpos hb0 hb1 hAC hN1 hn hsn
 have z0:0≤1:=ZLD
 have z1:0≤1:=ZLD
 have z2:0≤1:=ZLD
 have z3:0≤1:=ZLD
 have z4:0≤1:=ZLD
 have z5:0≤1:=ZLD
 have z6:0≤1:=ZLD
 have z7:0≤1:=ZLD
 have z8:0≤1:=ZLD
 have z9:0≤1:=ZLD
 have z10:0≤1:=ZLD
 have z11:0≤1:=ZLD
 have z12:0≤1:=ZLD
 have z13:0≤1:=ZLD
 have z14:0≤1:=ZLD
 have z15:0≤1:=ZLD
 have z16:0≤1:=ZLD
 have z17:0≤1:=ZLD
 have z18:0≤1:=ZLD
 have z19:0≤1:=ZLD
 have z20:0≤1:=ZLD
 have z21:0≤1:=ZLD
 have z22:0≤1:=ZLD
 have z23:0≤1:=ZLD
 have z24:0≤1:=ZLD
 have z25:0≤1:=ZLD
 go_enter Try.func48, Try.ntmps48
 go_wp2_with fail
 refine (HB0.out 0 _ HNB.out).mono ?_
 rintro e w5 ⟨rfl, rfl⟩
 rw [HM1.out]
 go_wp2_with fail
 go_quiet (fail)
 all_goals go_wp2_with fail
 all_goals go_ret
 all_goals exact ⟨rfl, drewN_below ((Below.refl _ _).alloc (Nat.le_refl _) _) _⟩
end Go.Proofs.Ytggibiodeecljaa
namespace Go.Proofs.Ytggibiodeecljaa
open Go.RowKit
set_option linter.unusedVariables false
set_option maxRecDepth 100000 in
set_option maxHeartbeats 2000000 in
theorem able13_when_out (on : Int) (SA : Option Addr) (slots : List Int) (sn sc tb toff tc : Nat) (ts : List Node) (w : World) (h0 : 0 ≤ on) (h1 : on ≤ 4) (h2 : sn ≤ 32) (hsn : slots.length = sn) (h3 : ts.length ≤ 2000) (htb : tb < w.heap.size) (hn : NodesAt w tb toff ts) (hS : SmallsAt w SA slots) (htxt : ∀ y ∈ ts, y.text.size ≤ 1099511627776) (hrng : ∀ y ∈ ts, I64 y.n ∧ I64 y.m) (hpos : 0 < ts.length)
  (m : Nat) (hm : behind ts 0 = m) (hb : ts.length ≤ m) :
  Calls Try.prog 48 #[.agg #[.int .i64 on, .slice SA sn sc, .bool true, .slice (some ⟨tb, toff, none⟩) ts.length tc]] w fun e w' => e = .returned (.bool false) ∧ Below w.heap.size w w' := by
 have hl : ts.length ≤ 100000 := by omega
 have ne0 : ((ts.length : Int) == 0) = false := beq_false_of (by omega)
 have hb1 := fun nq => drewN_below ((Below.refl w.heap.size w).alloc (Nat.le_refl _) (.cells #[.int .i64 on, .slice SA sn sc, .bool true, .slice (some ⟨tb, toff, none⟩) ts.length tc] 25)) nq
 have hAC := fun nq => look13_made w _ #[.int .i64 on, .slice SA sn sc, .bool true, .slice (some ⟨tb, toff, none⟩) ts.length tc] (hb1 nq) (by simp) (Blk.new w _ _) (cap := tc) hn htb
 have hN1 := fun nq => hn.below (hb1 nq) htb
 have HAC := Lh hAC
 have HB1 := Lh hb1
 have HN1 := Lh hN1
 have A3 : (w.alloc (.cells #[.int .i64 on, .slice SA sn sc, .bool true, .slice (some ⟨tb, toff, none⟩) ts.length tc] 25)).cell? ⟨w.heap.size, 3, none⟩ = some (.slice (some ⟨tb, toff, none⟩) ts.length tc) := (Blk.new w _ _).cell 3
 have HS := Lh hS
 have HT := Lh htxt
 have HRG := Lh hrng
 have HP := Lh hpos
 have HSN := Lh hsn
 have hb0 := fun k wx (hx : NodesAt wx tb toff ts) => behind9_all tb toff tc ts k wx hl hx
 have HB0 := Lh hb0
 have HNB := Lh (hn.below ((Below.refl w.heap.size w).alloc (Nat.le_refl _) (.cells #[.int .i64 on, .slice SA sn sc, .bool true, .slice (some ⟨tb, toff, none⟩) ts.length tc] 25)) htb)
 have HM := Lh hm
 clear hm
 have hm0 : decide ((m : Int) < 0) = false := decide_eq_false (by omega)
 have hge : decide (ts.length ≤ m) = true := decide_eq_true (by omega)
 clear hb
 clear hS htxt hrng hpos hb0 hb1 hAC hN1 hn hsn
 have z0:0≤1:=ZLD
 have z1:0≤1:=ZLD
 have z2:0≤1:=ZLD
 have z3:0≤1:=ZLD
 have z4:0≤1:=ZLD
 have z5:0≤1:=ZLD
 have z6:0≤1:=ZLD
 have z7:0≤1:=ZLD
 have z8:0≤1:=ZLD
 have z9:0≤1:=ZLD
 have z10:0≤1:=ZLD
 have z11:0≤1:=ZLD
 have z12:0≤1:=ZLD
 have z13:0≤1:=ZLD
 have z14:0≤1:=ZLD
 have z15:0≤1:=ZLD
 have z16:0≤1:=ZLD
 have z17:0≤1:=ZLD
 have z18:0≤1:=ZLD
 have z19:0≤1:=ZLD
 have z20:0≤1:=ZLD
 have z21:0≤1:=ZLD
 have z22:0≤1:=ZLD
 have z23:0≤1:=ZLD
 have z24:0≤1:=ZLD
 have z25:0≤1:=ZLD
 have z26:0≤1:=ZLD
 have z27:0≤1:=ZLD
 have z28:0≤1:=ZLD
 have z29:0≤1:=ZLD
 have z30:0≤1:=ZLD
 have z31:0≤1:=ZLD
 have z32:0≤1:=ZLD
 have z33:0≤1:=ZLD
 have z34:0≤1:=ZLD
 have z35:0≤1:=ZLD
 have z36:0≤1:=ZLD
 have z37:0≤1:=ZLD
 have z38:0≤1:=ZLD
 go_enter Try.func48, Try.ntmps48
 go_wp2_with fail
 refine (HB0.out 0 _ HNB.out).mono ?_
 rintro e w5 ⟨rfl, rfl⟩
 rw [HM.out]
 go_wp2_with fail
 go_quiet (fail)
 all_goals go_wp2_with fail
 all_goals go_ret
 all_goals exact ⟨rfl, drewN_below ((Below.refl _ _).alloc (Nat.le_refl _) _) _⟩
end Go.Proofs.Ytggibiodeecljaa
namespace Go.Proofs.Ytggibiodeecljaa
open Go.RowKit
set_option linter.unusedVariables false
set_option maxRecDepth 100000 in
set_option maxHeartbeats 2000000 in
theorem able13_when_bad1 (on : Int) (SA : Option Addr) (slots : List Int) (sn sc tb toff tc : Nat) (ts : List Node) (w : World) (h0 : 0 ≤ on) (h1 : on ≤ 4) (h2 : sn ≤ 32) (hsn : slots.length = sn) (h3 : ts.length ≤ 2000) (htb : tb < w.heap.size) (hn : NodesAt w tb toff ts) (hS : SmallsAt w SA slots) (htxt : ∀ y ∈ ts, y.text.size ≤ 1099511627776) (hrng : ∀ y ∈ ts, I64 y.n ∧ I64 y.m) (hpos : 0 < ts.length)
  (m : Nat) (hm : behind ts 0 = m) (hml : m < ts.length) (hb : behind ts m = ts.length) (hv1 : (valueF ts 0 2 ⟨[3, 4], seen0, false⟩).bad = true) :
  Calls Try.prog 48 #[.agg #[.int .i64 on, .slice SA sn sc, .bool true, .slice (some ⟨tb, toff, none⟩) ts.length tc]] w fun e w' => e = .returned (.bool false) ∧ Below w.heap.size w w' := by
 have hl : ts.length ≤ 100000 := by omega
 have ne0 : ((ts.length : Int) == 0) = false := beq_false_of (by omega)
 have hb1 := fun nq => drewN_below ((Below.refl w.heap.size w).alloc (Nat.le_refl _) (.cells #[.int .i64 on, .slice SA sn sc, .bool true, .slice (some ⟨tb, toff, none⟩) ts.length tc] 25)) nq
 have hAC := fun nq => look13_made w _ #[.int .i64 on, .slice SA sn sc, .bool true, .slice (some ⟨tb, toff, none⟩) ts.length tc] (hb1 nq) (by simp) (Blk.new w _ _) (cap := tc) hn htb
 have hN1 := fun nq => hn.below (hb1 nq) htb
 have HAC := Lh hAC
 have HB1 := Lh hb1
 have HN1 := Lh hN1
 have A3 : (w.alloc (.cells #[.int .i64 on, .slice SA sn sc, .bool true, .slice (some ⟨tb, toff, none⟩) ts.length tc] 25)).cell? ⟨w.heap.size, 3, none⟩ = some (.slice (some ⟨tb, toff, none⟩) ts.length tc) := (Blk.new w _ _).cell 3
 have HS := Lh hS
 have HT := Lh htxt
 have HRG := Lh hrng
 have HP := Lh hpos
 have HSN := Lh hsn
 have hb0 := fun k wx (hx : NodesAt wx tb toff ts) => behind9_all tb toff tc ts k wx hl hx
 have HB0 := Lh hb0
 have HNB := Lh (hn.below ((Below.refl w.heap.size w).alloc (Nat.le_refl _) (.cells #[.int .i64 on, .slice SA sn sc, .bool true, .slice (some ⟨tb, toff, none⟩) ts.length tc] 25)) htb)
 have HM := Lh hm
 clear hm
 have hge : decide (ts.length ≤ m) = false := decide_eq_false (by omega)
 have hm0 : decide ((m : Int) < 0) = false := decide_eq_false (by omega)
 have hbb : (behind ts m != (ts.length : Int)) = false := by rw [hb]; simp
 have HB := Lh hb
 clear hb
 have HV1 := Lh hv1
 clear hv1
 clear hS htxt hrng hpos hb0 hb1 hAC hN1 hn hsn
 have z0:0≤1:=ZLD
 have z1:0≤1:=ZLD
 have z2:0≤1:=ZLD
 have z3:0≤1:=ZLD
 have z4:0≤1:=ZLD
 have z5:0≤1:=ZLD
 have z6:0≤1:=ZLD
 have z7:0≤1:=ZLD
 have z8:0≤1:=ZLD
 have z9:0≤1:=ZLD
 have z10:0≤1:=ZLD
 have z11:0≤1:=ZLD
 have z12:0≤1:=ZLD
 have z13:0≤1:=ZLD
 have z14:0≤1:=ZLD
 have z15:0≤1:=ZLD
 have z16:0≤1:=ZLD
 have z17:0≤1:=ZLD
 have z18:0≤1:=ZLD
 have z19:0≤1:=ZLD
 have z20:0≤1:=ZLD
 have z21:0≤1:=ZLD
 have z22:0≤1:=ZLD
 have z23:0≤1:=ZLD
 have z24:0≤1:=ZLD
 have z25:0≤1:=ZLD
 have z26:0≤1:=ZLD
 have z27:0≤1:=ZLD
 have z28:0≤1:=ZLD
 have z29:0≤1:=ZLD
 have z30:0≤1:=ZLD
 have z31:0≤1:=ZLD
 have z32:0≤1:=ZLD
 have z33:0≤1:=ZLD
 have z34:0≤1:=ZLD
 have z35:0≤1:=ZLD
 have z36:0≤1:=ZLD
 have z37:0≤1:=ZLD
 have z38:0≤1:=ZLD
 have z39:0≤1:=ZLD
 have z40:0≤1:=ZLD
 have z41:0≤1:=ZLD
 have z42:0≤1:=ZLD
 have z43:0≤1:=ZLD
 have z44:0≤1:=ZLD
 have z45:0≤1:=ZLD
 have z46:0≤1:=ZLD
 have z47:0≤1:=ZLD
 have z48:0≤1:=ZLD
 have z49:0≤1:=ZLD
 have z50:0≤1:=ZLD
 have z51:0≤1:=ZLD
 go_enter Try.func48, Try.ntmps48
 go_wp2_with fail
 refine (HB0.out 0 _ HNB.out).mono ?_
 rintro e w5 ⟨rfl, rfl⟩
 rw [HM.out]
 go_wp2_with fail
 go_quiet ((go_at_call 51; exact quiet_eqA (HB0.out m _ (HN1.out _))))
 have AC := Lh (HAC.out nq)
 all_goals go_wp2_with fail
 refine (value13_any w.heap.size (w.heap.size + 1 + 1) tb toff tc ts hl htb HT.out 0 2 [3, 4] vars0 seen0 _ HP.out (by rw [HM.out]; omega) (by decide) AC.out.lk AC.out.nodes).mono ?_
 rintro e w5 ⟨rfl, h5, f5⟩
 have AC5 := Lh (AC.out.step (by simp) h5 f5)
 clear A3 h5 f5
 obtain ⟨A0, A1, A2, A3⟩ := AC5.out.cells
 obtain ⟨ky0, ky3, _⟩ := AC5.out.lk.cells
 have hv1 := HV1.out
 rw [hv1] at ky3
 clear hv1
 go_wp2_with fail
 refine wp_region_text (by kernel_rfl) (by kernel_rfl) ?_
 go_wp2_with fail
 refine Only.normal ?_
 go_wp2_with fail
 go_ret
 exact ⟨rfl, AC5.out.fr.below.drew⟩
end Go.Proofs.Ytggibiodeecljaa
namespace Go.Proofs.Ytggibiodeecljaa
open Go.RowKit
set_option linter.unusedVariables false
set_option maxRecDepth 100000 in
set_option maxHeartbeats 2000000 in
theorem able13_when_no (on : Int) (SA : Option Addr) (slots : List Int) (sn sc tb toff tc : Nat) (ts : List Node) (w : World) (h0 : 0 ≤ on) (h1 : on ≤ 4) (h2 : sn ≤ 32) (hsn : slots.length = sn) (h3 : ts.length ≤ 2000) (htb : tb < w.heap.size) (hn : NodesAt w tb toff ts) (hS : SmallsAt w SA slots) (htxt : ∀ y ∈ ts, y.text.size ≤ 1099511627776) (hrng : ∀ y ∈ ts, I64 y.n ∧ I64 y.m) (hpos : 0 < ts.length)
  (m : Nat) (hm : behind ts 0 = m) (hml : m < ts.length) (hb : ¬ behind ts m = ts.length) :
  Calls Try.prog 48 #[.agg #[.int .i64 on, .slice SA sn sc, .bool true, .slice (some ⟨tb, toff, none⟩) ts.length tc]] w fun e w' => e = .returned (.bool false) ∧ Below w.heap.size w w' := by
 have hl : ts.length ≤ 100000 := by omega
 have ne0 : ((ts.length : Int) == 0) = false := beq_false_of (by omega)
 have hb1 := fun nq => drewN_below ((Below.refl w.heap.size w).alloc (Nat.le_refl _) (.cells #[.int .i64 on, .slice SA sn sc, .bool true, .slice (some ⟨tb, toff, none⟩) ts.length tc] 25)) nq
 have hAC := fun nq => look13_made w _ #[.int .i64 on, .slice SA sn sc, .bool true, .slice (some ⟨tb, toff, none⟩) ts.length tc] (hb1 nq) (by simp) (Blk.new w _ _) (cap := tc) hn htb
 have hN1 := fun nq => hn.below (hb1 nq) htb
 have HAC := Lh hAC
 have HB1 := Lh hb1
 have HN1 := Lh hN1
 have A3 : (w.alloc (.cells #[.int .i64 on, .slice SA sn sc, .bool true, .slice (some ⟨tb, toff, none⟩) ts.length tc] 25)).cell? ⟨w.heap.size, 3, none⟩ = some (.slice (some ⟨tb, toff, none⟩) ts.length tc) := (Blk.new w _ _).cell 3
 have HS := Lh hS
 have HT := Lh htxt
 have HRG := Lh hrng
 have HP := Lh hpos
 have HSN := Lh hsn
 have hb0 := fun k wx (hx : NodesAt wx tb toff ts) => behind9_all tb toff tc ts k wx hl hx
 have HB0 := Lh hb0
 have HNB := Lh (hn.below ((Below.refl w.heap.size w).alloc (Nat.le_refl _) (.cells #[.int .i64 on, .slice SA sn sc, .bool true, .slice (some ⟨tb, toff, none⟩) ts.length tc] 25)) htb)
 have HM := Lh hm
 clear hm
 have hge : decide (ts.length ≤ m) = false := decide_eq_false (by omega)
 have hm0 : decide ((m : Int) < 0) = false := decide_eq_false (by omega)
 have hbb : (behind ts m != (ts.length : Int)) = true := by rw [bne_iff_ne]; exact hb
 clear hb
 clear hS htxt hrng hpos hb0 hb1 hAC hN1 hn hsn
 have z0:0≤1:=ZLD
 have z1:0≤1:=ZLD
 have z2:0≤1:=ZLD
 have z3:0≤1:=ZLD
 have z4:0≤1:=ZLD
 have z5:0≤1:=ZLD
 have z6:0≤1:=ZLD
 have z7:0≤1:=ZLD
 have z8:0≤1:=ZLD
 have z9:0≤1:=ZLD
 have z10:0≤1:=ZLD
 have z11:0≤1:=ZLD
 have z12:0≤1:=ZLD
 have z13:0≤1:=ZLD
 have z14:0≤1:=ZLD
 have z15:0≤1:=ZLD
 have z16:0≤1:=ZLD
 have z17:0≤1:=ZLD
 have z18:0≤1:=ZLD
 have z19:0≤1:=ZLD
 have z20:0≤1:=ZLD
 have z21:0≤1:=ZLD
 have z22:0≤1:=ZLD
 have z23:0≤1:=ZLD
 have z24:0≤1:=ZLD
 have z25:0≤1:=ZLD
 have z26:0≤1:=ZLD
 have z27:0≤1:=ZLD
 have z28:0≤1:=ZLD
 have z29:0≤1:=ZLD
 have z30:0≤1:=ZLD
 have z31:0≤1:=ZLD
 have z32:0≤1:=ZLD
 have z33:0≤1:=ZLD
 have z34:0≤1:=ZLD
 have z35:0≤1:=ZLD
 have z36:0≤1:=ZLD
 have z37:0≤1:=ZLD
 have z38:0≤1:=ZLD
 have z39:0≤1:=ZLD
 have z40:0≤1:=ZLD
 have z41:0≤1:=ZLD
 have z42:0≤1:=ZLD
 have z43:0≤1:=ZLD
 have z44:0≤1:=ZLD
 have z45:0≤1:=ZLD
 have z46:0≤1:=ZLD
 have z47:0≤1:=ZLD
 have z48:0≤1:=ZLD
 have z49:0≤1:=ZLD
 have z50:0≤1:=ZLD
 have z51:0≤1:=ZLD
 have z52:0≤1:=ZLD
 have z53:0≤1:=ZLD
 have z54:0≤1:=ZLD
 have z55:0≤1:=ZLD
 have z56:0≤1:=ZLD
 have z57:0≤1:=ZLD
 have z58:0≤1:=ZLD
 have z59:0≤1:=ZLD
 have z60:0≤1:=ZLD
 have z61:0≤1:=ZLD
 have z62:0≤1:=ZLD
 have z63:0≤1:=ZLD
 have z64:0≤1:=ZLD
 go_enter Try.func48, Try.ntmps48
 go_wp2_with fail
 refine (HB0.out 0 _ HNB.out).mono ?_
 rintro e w5 ⟨rfl, rfl⟩
 rw [HM.out]
 go_wp2_with fail
 go_quiet ((go_at_call 51; exact quiet_eqA (HB0.out m _ (HN1.out _))))
 all_goals go_wp2_with fail
 all_goals go_ret
 all_goals exact ⟨rfl, HB1.out _⟩
end Go.Proofs.Ytggibiodeecljaa
