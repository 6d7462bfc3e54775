/- check.Able, no condition, and something behind the block. Written by gen_able.py. check.Able, no condition. Written by gen_able.py. check.Able, no condition. Written by gen_able.py. check.Able, a condition that is not whole. Written by gen_able.py. check.Able, a condition, and no block behind it, or too much. Written by gen_able.py. -/
import Derived.Test.YtggibiodeecljaaMAble0
import Derived.Deep.RegionWith
namespace Go.Proofs.Ytggibiodeecljaa
open Go.RowKit
theorem ZLA:0≤1:=by decide
set_option linter.unusedVariables false
set_option maxRecDepth 100000 in
set_option maxHeartbeats 1000000 in
theorem able_plain_no (on : Int) (SA : Option Addr) (slots : List Int) (sc tb toff tc : Nat) (ts : List Node) (w : World) (h0 : 0 ≤ on) (h1 : on ≤ 4) (h2 : slots.length ≤ 32) (h3 : ts.length ≤ 2000) (htb : tb < w.heap.size) (hn : NodesAt w tb toff ts) (hS : SmallsAt w SA slots) (htxt : ∀ y ∈ ts, y.text.size ≤ 1099511627776) (hpos : 0 < ts.length)
    (hb : ¬ behind ts 0 = ts.length) :
    Calls Try.prog 37 #[.agg #[.int .i64 on, .slice SA slots.length sc, .bool false, .slice (some ⟨tb, toff, none⟩) ts.length tc]] w fun e w' => e = .returned (.bool false) ∧ Below w.heap.size w w' := by
  have hl : ts.length ≤ 100000 := by omega
  obtain ⟨n, hn2⟩ : ∃ n, ts.length = n := ⟨_, rfl⟩
  have hn3 : n ≤ 2000 := by omega
  have hmm := @run_makeMap Try.prog
  obtain ⟨w3, w4, hr1, hr2, hC⟩ := look_made w #[.int .i64 on, .slice SA slots.length sc, .bool false, .slice (some ⟨tb, toff, none⟩) ts.length tc]
  have AC := Lib.hid (hC.1 (.slice (some ⟨tb, toff, none⟩) ts.length tc) hn htb rfl)
  obtain ⟨A0, A1, A2, A3⟩ := AC.out.cells
  have HS := Lib.hid hS
  have HT := Lib.hid htxt
  have HP := Lib.hid hpos
  have HN2 := Lib.hid hn2
  have hb0 := fun k (hk : k < ts.length) wx (hx : NodesAt wx tb toff ts) => behind_in tb toff tc ts k wx hl hx hk
  have HB0 := Lib.hid hb0
  have hbb : (behind ts 0 != (ts.length : Int)) = true := by rw [bne_iff_ne]; exact hb
  clear hb
  clear hC hS htxt hpos hb0 hn2
  go_enter Try.func37, Try.ntmps37
  go_wp2_with fail
  go_region_held3 (fun w' => w'.cell? ⟨w.heap.size, 3, none⟩ = some (.slice (some ⟨tb, toff, none⟩) ts.length tc)) (first | exact A3) ((first | (go_at_call 77; refine (HB0.out 0 HP.out _ (AC.out.drew).nodes).mono ?_; rintro e w5 ⟨rfl, rfl⟩; skip)))
  all_goals go_wp2_with fail
  all_goals go_ret
  all_goals exact ⟨rfl, AC.out.fr.below.drew⟩
end Go.Proofs.Ytggibiodeecljaa
namespace Go.Proofs.Ytggibiodeecljaa
open Go.RowKit
set_option linter.unusedVariables false
set_option maxRecDepth 100000 in
set_option maxHeartbeats 1000000 in
theorem able_plain_good (on : Int) (SA : Option Addr) (slots : List Int) (sc tb toff tc : Nat) (ts : List Node) (w : World) (h0 : 0 ≤ on) (h1 : on ≤ 4) (h2 : slots.length ≤ 32) (h3 : ts.length ≤ 2000) (htb : tb < w.heap.size) (hn : NodesAt w tb toff ts) (hS : SmallsAt w SA slots) (htxt : ∀ y ∈ ts, y.text.size ≤ 1099511627776) (hpos : 0 < ts.length)
    (hb : behind ts 0 = ts.length) (hbad : ((sbM ts (ts.length + 1)).2 0 look0).bad = false) (hlen : ((sbM ts (ts.length + 1)).2 0 look0).slots.length ≤ 1099511627776) :
    Calls Try.prog 37 #[.agg #[.int .i64 on, .slice SA slots.length sc, .bool false, .slice (some ⟨tb, toff, none⟩) ts.length tc]] w fun e w' => e = .returned (.bool (decide (((sbM ts (ts.length + 1)).2 0 look0).slots = slots))) ∧ Below w.heap.size w w' := by
  have hl : ts.length ≤ 100000 := by omega
  obtain ⟨n, hn2⟩ : ∃ n, ts.length = n := ⟨_, rfl⟩
  have hn3 : n ≤ 2000 := by omega
  have hmm := @run_makeMap Try.prog
  obtain ⟨w3, w4, hr1, hr2, hC⟩ := look_made w #[.int .i64 on, .slice SA slots.length sc, .bool false, .slice (some ⟨tb, toff, none⟩) ts.length tc]
  have AC := Lib.hid (hC.1 (.slice (some ⟨tb, toff, none⟩) ts.length tc) hn htb rfl)
  obtain ⟨A0, A1, A2, A3⟩ := AC.out.cells
  have HS := Lib.hid hS
  have HT := Lib.hid htxt
  have HP := Lib.hid hpos
  have HN2 := Lib.hid hn2
  have hb0 := fun k (hk : k < ts.length) wx (hx : NodesAt wx tb toff ts) => behind_in tb toff tc ts k wx hl hx hk
  have HB0 := Lib.hid hb0
  have hbb : (behind ts 0 != (ts.length : Int)) = false := by rw [hb]; simp
  have HB := Lib.hid hb
  clear hb
  have HBAD := Lib.hid hbad
  clear hbad
  have HLEN := Lib.hid hlen
  clear hlen
  clear hC hS htxt hpos hb0 hn2
  have z0:0≤1:=ZLA
  have z1:0≤1:=ZLA
  have z2:0≤1:=ZLA
  have z3:0≤1:=ZLA
  have z4:0≤1:=ZLA
  have z5:0≤1:=ZLA
  have z6:0≤1:=ZLA
  have z7:0≤1:=ZLA
  have z8:0≤1:=ZLA
  have z9:0≤1:=ZLA
  have z10:0≤1:=ZLA
  have z11:0≤1:=ZLA
  go_enter Try.func37, Try.ntmps37
  go_wp2_with fail
  go_region_held3 (fun w' => w'.cell? ⟨w.heap.size, 3, none⟩ = some (.slice (some ⟨tb, toff, none⟩) ts.length tc)) (first | exact A3) ((first | (go_at_call 77; refine (HB0.out 0 HP.out _ (AC.out.drew).nodes).mono ?_; rintro e w5 ⟨rfl, rfl⟩; skip)))
  all_goals go_wp2_with fail
  refine ((sb_any AC.out.tbB hl HT.out (ts.length + 1) (0) (by omega) HP.out (by rw [HB.out]; omega)).2 (look0) _ rfl good0 (by decide) (AC.out.drew).lk (AC.out.drew).nodes).mono ?_
  rintro e w6 ⟨rfl, h6, f6⟩
  have AC6 := Lib.hid ((AC.out.drew).step (by simp) h6 f6)
  clear A0 A1 A2 A3 h6 f6
  obtain ⟨A0, A1, A2, A3⟩ := AC6.out.cells
  obtain ⟨kx0, kx3⟩ := AC6.out.lk.cells
  rw [HBAD.out] at kx3
  obtain ⟨svf, mbf, _, kx1, _, _, ownf, _⟩ := AC6.out.lk.parts
  obtain ⟨Af, cf, rfl⟩ := own_form ownf
  have hq : Calls Try.prog 80 #[.slice Af (((sbM ts (ts.length + 1)).2 0 look0)).slots.length cf, .slice SA slots.length sc] w6.drew fun e w' => e = .returned (.bool (decide ((((sbM ts (ts.length + 1)).2 0 look0)).slots = slots))) ∧ ∃ n, w' = w6.drew.drewN n :=
    equal8_any Af SA cf sc (((sbM ts (ts.length + 1)).2 0 look0)).slots slots w6.drew HLEN.out (by omega) (own_small ownf) (fun q x hx => by
      obtain ⟨b, off, r1, r2, r3⟩ := HS.out q x hx
      exact ⟨b, off, r1, (AC6.out.fr.below.cell (p := ⟨b, _, none⟩) r2).trans r3⟩)
  have HQ := Lib.hid hq
  clear ownf hq
  go_wp2_with fail
  refine wp_region_text (by kernel_rfl) (by kernel_rfl) ?_
  go_wp2_with fail
  refine HQ.out.mono ?_
  rintro e wz ⟨rfl, nz, rfl⟩
  go_wp2_with fail
  refine Only.normal ?_
  go_wp2_with fail
  go_ret
  exact ⟨rfl, (AC6.out.fr.drewN (1 + nz)).below⟩
end Go.Proofs.Ytggibiodeecljaa
namespace Go.Proofs.Ytggibiodeecljaa
open Go.RowKit
set_option linter.unusedVariables false
set_option maxRecDepth 100000 in
set_option maxHeartbeats 1000000 in
theorem able_plain_bad (on : Int) (SA : Option Addr) (slots : List Int) (sc tb toff tc : Nat) (ts : List Node) (w : World) (h0 : 0 ≤ on) (h1 : on ≤ 4) (h2 : slots.length ≤ 32) (h3 : ts.length ≤ 2000) (htb : tb < w.heap.size) (hn : NodesAt w tb toff ts) (hS : SmallsAt w SA slots) (htxt : ∀ y ∈ ts, y.text.size ≤ 1099511627776) (hpos : 0 < ts.length)
    (hb : behind ts 0 = ts.length) (hbad : ((sbM ts (ts.length + 1)).2 0 look0).bad = true) :
    Calls Try.prog 37 #[.agg #[.int .i64 on, .slice SA slots.length sc, .bool false, .slice (some ⟨tb, toff, none⟩) ts.length tc]] w fun e w' => e = .returned (.bool false) ∧ Below w.heap.size w w' := by
  have hl : ts.length ≤ 100000 := by omega
  obtain ⟨n, hn2⟩ : ∃ n, ts.length = n := ⟨_, rfl⟩
  have hn3 : n ≤ 2000 := by omega
  have hmm := @run_makeMap Try.prog
  obtain ⟨w3, w4, hr1, hr2, hC⟩ := look_made w #[.int .i64 on, .slice SA slots.length sc, .bool false, .slice (some ⟨tb, toff, none⟩) ts.length tc]
  have AC := Lib.hid (hC.1 (.slice (some ⟨tb, toff, none⟩) ts.length tc) hn htb rfl)
  obtain ⟨A0, A1, A2, A3⟩ := AC.out.cells
  have HS := Lib.hid hS
  have HT := Lib.hid htxt
  have HP := Lib.hid hpos
  have HN2 := Lib.hid hn2
  have hb0 := fun k (hk : k < ts.length) wx (hx : NodesAt wx tb toff ts) => behind_in tb toff tc ts k wx hl hx hk
  have HB0 := Lib.hid hb0
  have hbb : (behind ts 0 != (ts.length : Int)) = false := by rw [hb]; simp
  have HB := Lib.hid hb
  clear hb
  have HBAD := Lib.hid hbad
  clear hbad
  clear hC hS htxt hpos hb0 hn2
  have z0:0≤1:=ZLA
  have z1:0≤1:=ZLA
  have z2:0≤1:=ZLA
  have z3:0≤1:=ZLA
  have z4:0≤1:=ZLA
  have z5:0≤1:=ZLA
  have z6:0≤1:=ZLA
  have z7:0≤1:=ZLA
  have z8:0≤1:=ZLA
  have z9:0≤1:=ZLA
  have z10:0≤1:=ZLA
  have z11:0≤1:=ZLA
  have z12:0≤1:=ZLA
  have z13:0≤1:=ZLA
  have z14:0≤1:=ZLA
  have z15:0≤1:=ZLA
  have z16:0≤1:=ZLA
  have z17:0≤1:=ZLA
  have z18:0≤1:=ZLA
  have z19:0≤1:=ZLA
  have z20:0≤1:=ZLA
  have z21:0≤1:=ZLA
  have z22:0≤1:=ZLA
  have z23:0≤1:=ZLA
  go_enter Try.func37, Try.ntmps37
  go_wp2_with fail
  go_region_held3 (fun w' => w'.cell? ⟨w.heap.size, 3, none⟩ = some (.slice (some ⟨tb, toff, none⟩) ts.length tc)) (first | exact A3) ((first | (go_at_call 77; refine (HB0.out 0 HP.out _ (AC.out.drew).nodes).mono ?_; rintro e w5 ⟨rfl, rfl⟩; skip)))
  all_goals go_wp2_with fail
  refine ((sb_any AC.out.tbB hl HT.out (ts.length + 1) (0) (by omega) HP.out (by rw [HB.out]; omega)).2 (look0) _ rfl good0 (by decide) (AC.out.drew).lk (AC.out.drew).nodes).mono ?_
  rintro e w6 ⟨rfl, h6, f6⟩
  have AC6 := Lib.hid ((AC.out.drew).step (by simp) h6 f6)
  clear A0 A1 A2 A3 h6 f6
  obtain ⟨A0, A1, A2, A3⟩ := AC6.out.cells
  obtain ⟨kx0, kx3⟩ := AC6.out.lk.cells
  rw [HBAD.out] at kx3
  go_wp2_with fail
  refine wp_region_text (by kernel_rfl) (by kernel_rfl) ?_
  go_wp2_with fail
  refine Only.normal ?_
  go_wp2_with fail
  go_ret
  exact ⟨rfl, AC6.out.fr.below.drew⟩
end Go.Proofs.Ytggibiodeecljaa
namespace Go.Proofs.Ytggibiodeecljaa
open Go.RowKit
set_option linter.unusedVariables false
set_option maxRecDepth 100000 in
set_option maxHeartbeats 1000000 in
theorem able_when_neg (on : Int) (SA : Option Addr) (slots : List Int) (sc tb toff tc : Nat) (ts : List Node) (w : World) (h0 : 0 ≤ on) (h1 : on ≤ 4) (h2 : slots.length ≤ 32) (h3 : ts.length ≤ 2000) (htb : tb < w.heap.size) (hn : NodesAt w tb toff ts) (hS : SmallsAt w SA slots) (htxt : ∀ y ∈ ts, y.text.size ≤ 1099511627776) (hpos : 0 < ts.length)
    (hb : behind ts 0 < 0) :
    Calls Try.prog 37 #[.agg #[.int .i64 on, .slice SA slots.length sc, .bool true, .slice (some ⟨tb, toff, none⟩) ts.length tc]] w fun e w' => e = .returned (.bool false) ∧ Below w.heap.size w w' := by
  have hl : ts.length ≤ 100000 := by omega
  obtain ⟨n, hn2⟩ : ∃ n, ts.length = n := ⟨_, rfl⟩
  have hn3 : n ≤ 2000 := by omega
  have hmm := @run_makeMap Try.prog
  obtain ⟨w3, w4, hr1, hr2, hC⟩ := look_made w #[.int .i64 on, .slice SA slots.length sc, .bool true, .slice (some ⟨tb, toff, none⟩) ts.length tc]
  have AC := Lib.hid (hC.1 (.slice (some ⟨tb, toff, none⟩) ts.length tc) hn htb rfl)
  obtain ⟨A0, A1, A2, A3⟩ := AC.out.cells
  have HS := Lib.hid hS
  have HT := Lib.hid htxt
  have HP := Lib.hid hpos
  have HN2 := Lib.hid hn2
  have hbf := fun k (hk : k < ts.length) wx (hx : NodesAt wx tb toff ts) => behind_in tb toff tc ts k wx hl hx hk
  have HB0 := Lib.hid hbf
  have HB := Lib.hid hb
  have HM1 := Lib.hid (behind_minus hb)
  clear hb
  clear hC hS htxt hpos hbf hn2
  have z0:0≤1:=ZLA
  have z1:0≤1:=ZLA
  have z2:0≤1:=ZLA
  have z3:0≤1:=ZLA
  have z4:0≤1:=ZLA
  have z5:0≤1:=ZLA
  have z6:0≤1:=ZLA
  have z7:0≤1:=ZLA
  have z8:0≤1:=ZLA
  have z9:0≤1:=ZLA
  have z10:0≤1:=ZLA
  have z11:0≤1:=ZLA
  have z12:0≤1:=ZLA
  have z13:0≤1:=ZLA
  have z14:0≤1:=ZLA
  have z15:0≤1:=ZLA
  have z16:0≤1:=ZLA
  have z17:0≤1:=ZLA
  have z18:0≤1:=ZLA
  have z19:0≤1:=ZLA
  have z20:0≤1:=ZLA
  have z21:0≤1:=ZLA
  have z22:0≤1:=ZLA
  have z23:0≤1:=ZLA
  have z24:0≤1:=ZLA
  have z25:0≤1:=ZLA
  have z26:0≤1:=ZLA
  have z27:0≤1:=ZLA
  have z28:0≤1:=ZLA
  have z29:0≤1:=ZLA
  have z30:0≤1:=ZLA
  have z31:0≤1:=ZLA
  have z32:0≤1:=ZLA
  have z33:0≤1:=ZLA
  have z34:0≤1:=ZLA
  have z35:0≤1:=ZLA
  go_enter Try.func37, Try.ntmps37
  go_wp2_with fail
  refine (HB0.out 0 HP.out _ AC.out.nodes).mono ?_
  rintro e w5 ⟨rfl, rfl⟩
  rw [HM1.out]
  go_wp2_with fail
  go_quiet (fail)
  all_goals go_wp2_with fail
  all_goals go_ret
  all_goals exact ⟨rfl, drewN_below AC.out.fr.below _⟩
end Go.Proofs.Ytggibiodeecljaa
namespace Go.Proofs.Ytggibiodeecljaa
open Go.RowKit
set_option linter.unusedVariables false
set_option maxRecDepth 100000 in
set_option maxHeartbeats 1000000 in
theorem able_when_no (on : Int) (SA : Option Addr) (slots : List Int) (sc tb toff tc : Nat) (ts : List Node) (w : World) (h0 : 0 ≤ on) (h1 : on ≤ 4) (h2 : slots.length ≤ 32) (h3 : ts.length ≤ 2000) (htb : tb < w.heap.size) (hn : NodesAt w tb toff ts) (hS : SmallsAt w SA slots) (htxt : ∀ y ∈ ts, y.text.size ≤ 1099511627776) (hpos : 0 < ts.length)
    (m : Nat) (hm : behind ts 0 = m) (hb : ¬ behind ts m = ts.length) :
    Calls Try.prog 37 #[.agg #[.int .i64 on, .slice SA slots.length sc, .bool true, .slice (some ⟨tb, toff, none⟩) ts.length tc]] w fun e w' => e = .returned (.bool false) ∧ Below w.heap.size w w' := by
  have hl : ts.length ≤ 100000 := by omega
  obtain ⟨n, hn2⟩ : ∃ n, ts.length = n := ⟨_, rfl⟩
  have hn3 : n ≤ 2000 := by omega
  have hmm := @run_makeMap Try.prog
  obtain ⟨w3, w4, hr1, hr2, hC⟩ := look_made w #[.int .i64 on, .slice SA slots.length sc, .bool true, .slice (some ⟨tb, toff, none⟩) ts.length tc]
  have AC := Lib.hid (hC.1 (.slice (some ⟨tb, toff, none⟩) ts.length tc) hn htb rfl)
  obtain ⟨A0, A1, A2, A3⟩ := AC.out.cells
  have HS := Lib.hid hS
  have HT := Lib.hid htxt
  have HP := Lib.hid hpos
  have HN2 := Lib.hid hn2
  have hb0 := fun k (hk : k < ts.length) wx (hx : NodesAt wx tb toff ts) => behind_in tb toff tc ts k wx hl hx hk
  have HB0 := Lib.hid hb0
  have HM := Lib.hid hm
  clear hm
  have hbb : (behind ts m != (ts.length : Int)) = true := by rw [bne_iff_ne]; exact hb
  clear hb
  have hbh := fun wx (hx : NodesAt wx tb toff ts) => behind_all tb toff tc ts m wx hl hx
  have HBH := Lib.hid hbh
  clear hbh
  clear hC hS htxt hpos hb0 hn2
  have z0:0≤1:=ZLA
  have z1:0≤1:=ZLA
  have z2:0≤1:=ZLA
  have z3:0≤1:=ZLA
  have z4:0≤1:=ZLA
  have z5:0≤1:=ZLA
  have z6:0≤1:=ZLA
  have z7:0≤1:=ZLA
  have z8:0≤1:=ZLA
  have z9:0≤1:=ZLA
  have z10:0≤1:=ZLA
  have z11:0≤1:=ZLA
  have z12:0≤1:=ZLA
  have z13:0≤1:=ZLA
  have z14:0≤1:=ZLA
  have z15:0≤1:=ZLA
  have z16:0≤1:=ZLA
  have z17:0≤1:=ZLA
  have z18:0≤1:=ZLA
  have z19:0≤1:=ZLA
  have z20:0≤1:=ZLA
  have z21:0≤1:=ZLA
  have z22:0≤1:=ZLA
  have z23:0≤1:=ZLA
  have z24:0≤1:=ZLA
  have z25:0≤1:=ZLA
  have z26:0≤1:=ZLA
  have z27:0≤1:=ZLA
  have z28:0≤1:=ZLA
  have z29:0≤1:=ZLA
  have z30:0≤1:=ZLA
  have z31:0≤1:=ZLA
  have z32:0≤1:=ZLA
  have z33:0≤1:=ZLA
  have z34:0≤1:=ZLA
  have z35:0≤1:=ZLA
  have z36:0≤1:=ZLA
  have z37:0≤1:=ZLA
  have z38:0≤1:=ZLA
  have z39:0≤1:=ZLA
  have z40:0≤1:=ZLA
  have z41:0≤1:=ZLA
  have z42:0≤1:=ZLA
  have z43:0≤1:=ZLA
  have z44:0≤1:=ZLA
  have z45:0≤1:=ZLA
  have z46:0≤1:=ZLA
  have z47:0≤1:=ZLA
  go_enter Try.func37, Try.ntmps37
  go_wp2_with fail
  refine (HB0.out 0 HP.out _ AC.out.nodes).mono ?_
  rintro e w5 ⟨rfl, rfl⟩
  rw [HM.out]
  go_wp2_with fail
  go_region_held3 (fun w' => w'.cell? ⟨w.heap.size, 3, none⟩ = some (.slice (some ⟨tb, toff, none⟩) ts.length tc)) (first | exact A3) ((first | (go_at_call 77; refine (HBH.out _ (AC.out.drew).nodes).mono ?_; rintro e w5 ⟨rfl, rfl⟩; skip)))
  all_goals go_wp2_with fail
  all_goals go_ret
  all_goals exact ⟨rfl, AC.out.fr.below.drew⟩
end Go.Proofs.Ytggibiodeecljaa
