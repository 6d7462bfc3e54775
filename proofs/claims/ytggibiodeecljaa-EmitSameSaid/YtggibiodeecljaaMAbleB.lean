/- check.Able, a condition that is none. Written by gen_able.py. check.Able, a condition and a block. Written by gen_able.py. check.Able, a condition and a block. Written by gen_able.py. check.Able, of no nodes. Written by gen_able.py. check.Able, of no nodes, with a condition. Written by gen_able.py. -/
import Derived.Test.YtggibiodeecljaaMAble0
import Derived.Deep.RegionWith
namespace Go.Proofs.Ytggibiodeecljaa
open Go.RowKit
theorem ZLB:0≤1:=by decide
set_option linter.unusedVariables false
set_option maxRecDepth 100000 in
set_option maxHeartbeats 1000000 in
theorem able_when_bad1 (on : Int) (SA : Option Addr) (slots : List Int) (sc tb toff tc : Nat) (ts : List Node) (w : World) (h0 : 0 ≤ on) (h1 : on ≤ 4) (h2 : slots.length ≤ 32) (h3 : ts.length ≤ 2000) (htb : tb < w.heap.size) (hn : NodesAt w tb toff ts) (hS : SmallsAt w SA slots) (htxt : ∀ y ∈ ts, y.text.size ≤ 1099511627776) (hpos : 0 < ts.length)
    (m : Nat) (hm : behind ts 0 = m) (hml : m < ts.length) (hb : behind ts m = ts.length) (hv1 : (valueF ts 0 2 look0).bad = true) :
    Calls Try.prog 37 #[.agg #[.int .i64 on, .slice SA slots.length sc, .bool true, .slice (some ⟨tb, toff, none⟩) ts.length tc]] w fun e w' => e = .returned (.bool false) ∧ Below w.heap.size w w' := by
  have hl : ts.length ≤ 100000 := by omega
  obtain ⟨n, hn2⟩ : ∃ n, ts.length = n := ⟨_, rfl⟩
  have hn3 : n ≤ 2000 := by omega
  have hmm := @run_makeMap Try.prog
  obtain ⟨w3, w4, hr1, hr2, hC⟩ := look_made w #[.int .i64 on, .slice SA slots.length sc, .bool true, .slice (some ⟨tb, toff, none⟩) ts.length tc]
  have AC := Lib.hid (hC.1 (.slice (some ⟨tb, toff, none⟩) ts.length tc) hn htb rfl)
  obtain ⟨A0, A1, A2, A3⟩ := AC.out.cells
  have HS := Lib.hid hS
  have HT := Lib.hid htxt
  have HP := Lib.hid hpos
  have HN2 := Lib.hid hn2
  have hb0 := fun k (hk : k < ts.length) wx (hx : NodesAt wx tb toff ts) => behind_in tb toff tc ts k wx hl hx hk
  have HB0 := Lib.hid hb0
  have HM := Lib.hid hm
  clear hm
  have hbb : (behind ts m != (ts.length : Int)) = false := by rw [hb]; simp
  have HB := Lib.hid hb
  clear hb
  have HV1 := Lib.hid hv1
  clear hv1
  clear hC hS htxt hpos hb0 hn2
  go_enter Try.func37, Try.ntmps37
  go_wp2_with fail
  refine (HB0.out 0 HP.out _ AC.out.nodes).mono ?_
  rintro e w5 ⟨rfl, rfl⟩
  rw [HM.out]
  go_wp2_with fail
  go_region_held3 (fun w' => w'.cell? ⟨w.heap.size, 3, none⟩ = some (.slice (some ⟨tb, toff, none⟩) ts.length tc)) (first | exact A3) ((first | (go_at_call 77; refine (HB0.out m hml _ (AC.out.drew).nodes).mono ?_; rintro e w5 ⟨rfl, rfl⟩; skip)))
  all_goals go_wp2_with fail
  refine (value_any w.heap.size w4.heap.size tb toff tc ts hl AC.out.tbB HT.out 0 2 look0 _ HP.out good0 AC.out.drew.lk AC.out.drew.nodes).mono ?_
  rintro e w5 ⟨rfl, h5, f5⟩
  have AC5 := Lib.hid (AC.out.drew.step (by simp) h5 f5)
  clear A0 A1 A2 A3 h5 f5
  obtain ⟨A0, A1, A2, A3⟩ := AC5.out.cells
  obtain ⟨ky0, ky3⟩ := AC5.out.lk.cells
  rw [HV1.out] at ky3
  go_wp2_with fail
  refine wp_region_text (by kernel_rfl) (by kernel_rfl) ?_
  go_wp2_with fail
  refine Only.normal ?_
  go_wp2_with fail
  go_ret
  exact ⟨rfl, AC5.out.fr.below.drew⟩
end Go.Proofs.Ytggibiodeecljaa
namespace Go.Proofs.Ytggibiodeecljaa
open Go.RowKit
set_option linter.unusedVariables false
set_option maxRecDepth 100000 in
set_option maxHeartbeats 1000000 in
theorem able_when_good (on : Int) (SA : Option Addr) (slots : List Int) (sc tb toff tc : Nat) (ts : List Node) (w : World) (h0 : 0 ≤ on) (h1 : on ≤ 4) (h2 : slots.length ≤ 32) (h3 : ts.length ≤ 2000) (htb : tb < w.heap.size) (hn : NodesAt w tb toff ts) (hS : SmallsAt w SA slots) (htxt : ∀ y ∈ ts, y.text.size ≤ 1099511627776) (hpos : 0 < ts.length)
    (m : Nat) (hm : behind ts 0 = m) (hml : m < ts.length) (hb : behind ts m = ts.length) (hv1 : (valueF ts 0 2 look0).bad = false) (hbad : ((sbM ts (ts.length + 1)).2 m (valueF ts 0 2 look0)).bad = false) (hlen : ((sbM ts (ts.length + 1)).2 m (valueF ts 0 2 look0)).slots.length ≤ 1099511627776) :
    Calls Try.prog 37 #[.agg #[.int .i64 on, .slice SA slots.length sc, .bool true, .slice (some ⟨tb, toff, none⟩) ts.length tc]] w fun e w' => e = .returned (.bool (decide (((sbM ts (ts.length + 1)).2 m (valueF ts 0 2 look0)).slots = slots))) ∧ Below w.heap.size w w' := by
  have hl : ts.length ≤ 100000 := by omega
  obtain ⟨n, hn2⟩ : ∃ n, ts.length = n := ⟨_, rfl⟩
  have hn3 : n ≤ 2000 := by omega
  have hmm := @run_makeMap Try.prog
  obtain ⟨w3, w4, hr1, hr2, hC⟩ := look_made w #[.int .i64 on, .slice SA slots.length sc, .bool true, .slice (some ⟨tb, toff, none⟩) ts.length tc]
  have AC := Lib.hid (hC.1 (.slice (some ⟨tb, toff, none⟩) ts.length tc) hn htb rfl)
  obtain ⟨A0, A1, A2, A3⟩ := AC.out.cells
  have HS := Lib.hid hS
  have HT := Lib.hid htxt
  have HP := Lib.hid hpos
  have HN2 := Lib.hid hn2
  have hb0 := fun k (hk : k < ts.length) wx (hx : NodesAt wx tb toff ts) => behind_in tb toff tc ts k wx hl hx hk
  have HB0 := Lib.hid hb0
  have HM := Lib.hid hm
  clear hm
  have hbb : (behind ts m != (ts.length : Int)) = false := by rw [hb]; simp
  have HB := Lib.hid hb
  clear hb
  have HV1 := Lib.hid hv1
  clear hv1
  have HBAD := Lib.hid hbad
  clear hbad
  have HLEN := Lib.hid hlen
  clear hlen
  clear hC hS htxt hpos hb0 hn2
  have z0:0≤1:=ZLB
  have z1:0≤1:=ZLB
  have z2:0≤1:=ZLB
  have z3:0≤1:=ZLB
  have z4:0≤1:=ZLB
  have z5:0≤1:=ZLB
  have z6:0≤1:=ZLB
  have z7:0≤1:=ZLB
  have z8:0≤1:=ZLB
  have z9:0≤1:=ZLB
  have z10:0≤1:=ZLB
  have z11:0≤1:=ZLB
  have z12:0≤1:=ZLB
  have z13:0≤1:=ZLB
  have z14:0≤1:=ZLB
  have z15:0≤1:=ZLB
  have z16:0≤1:=ZLB
  go_enter Try.func37, Try.ntmps37
  go_wp2_with fail
  refine (HB0.out 0 HP.out _ AC.out.nodes).mono ?_
  rintro e w5 ⟨rfl, rfl⟩
  rw [HM.out]
  go_wp2_with fail
  go_region_held3 (fun w' => w'.cell? ⟨w.heap.size, 3, none⟩ = some (.slice (some ⟨tb, toff, none⟩) ts.length tc)) (first | exact A3) ((first | (go_at_call 77; refine (HB0.out m hml _ (AC.out.drew).nodes).mono ?_; rintro e w5 ⟨rfl, rfl⟩; skip)))
  all_goals go_wp2_with fail
  refine (value_any w.heap.size w4.heap.size tb toff tc ts hl AC.out.tbB HT.out 0 2 look0 _ HP.out good0 AC.out.drew.lk AC.out.drew.nodes).mono ?_
  rintro e w5 ⟨rfl, h5, f5⟩
  have AC5 := Lib.hid (AC.out.drew.step (by simp) h5 f5)
  clear A0 A1 A2 A3 h5 f5
  obtain ⟨A0, A1, A2, A3⟩ := AC5.out.cells
  obtain ⟨ky0, ky3⟩ := AC5.out.lk.cells
  rw [HV1.out] at ky3
  go_wp2_with fail
  refine ((sb_any AC.out.tbB hl HT.out (ts.length + 1) (m) (by omega) hml (by rw [HB.out]; omega)).2 ((valueF ts 0 2 look0)) _ HV1.out (good0.value ts 0 2) (by show 2 ≤ _; omega) (AC5.out).lk (AC5.out).nodes).mono ?_
  rintro e w6 ⟨rfl, h6, f6⟩
  have AC6 := Lib.hid ((AC5.out).step (by simp) h6 f6)
  clear A0 A1 A2 A3 h6 f6 ky0 ky3
  obtain ⟨A0, A1, A2, A3⟩ := AC6.out.cells
  obtain ⟨kx0, kx3⟩ := AC6.out.lk.cells
  rw [HBAD.out] at kx3
  obtain ⟨svf, mbf, _, kx1, _, _, ownf, _⟩ := AC6.out.lk.parts
  obtain ⟨Af, cf, rfl⟩ := own_form ownf
  have hq : Calls Try.prog 80 #[.slice Af (((sbM ts (ts.length + 1)).2 m (valueF ts 0 2 look0))).slots.length cf, .slice SA slots.length sc] w6.drew fun e w' => e = .returned (.bool (decide ((((sbM ts (ts.length + 1)).2 m (valueF ts 0 2 look0))).slots = slots))) ∧ ∃ n, w' = w6.drew.drewN n :=
    equal8_any Af SA cf sc (((sbM ts (ts.length + 1)).2 m (valueF ts 0 2 look0))).slots slots w6.drew HLEN.out (by omega) (own_small ownf) (fun q x hx => by
      obtain ⟨b, off, r1, r2, r3⟩ := HS.out q x hx
      exact ⟨b, off, r1, (AC6.out.fr.below.cell (p := ⟨b, _, none⟩) r2).trans r3⟩)
  have HQ := Lib.hid hq
  clear ownf hq
  go_wp2_with fail
  refine wp_region_text (by kernel_rfl) (by kernel_rfl) ?_
  go_wp2_with fail
  refine HQ.out.mono ?_
  rintro e wz ⟨rfl, nz, rfl⟩
  go_wp2_with fail
  refine Only.normal ?_
  go_wp2_with fail
  go_ret
  exact ⟨rfl, (AC6.out.fr.drewN (1 + nz)).below⟩
end Go.Proofs.Ytggibiodeecljaa
namespace Go.Proofs.Ytggibiodeecljaa
open Go.RowKit
set_option linter.unusedVariables false
set_option maxRecDepth 100000 in
set_option maxHeartbeats 1000000 in
theorem able_when_bad (on : Int) (SA : Option Addr) (slots : List Int) (sc tb toff tc : Nat) (ts : List Node) (w : World) (h0 : 0 ≤ on) (h1 : on ≤ 4) (h2 : slots.length ≤ 32) (h3 : ts.length ≤ 2000) (htb : tb < w.heap.size) (hn : NodesAt w tb toff ts) (hS : SmallsAt w SA slots) (htxt : ∀ y ∈ ts, y.text.size ≤ 1099511627776) (hpos : 0 < ts.length)
    (m : Nat) (hm : behind ts 0 = m) (hml : m < ts.length) (hb : behind ts m = ts.length) (hv1 : (valueF ts 0 2 look0).bad = false) (hbad : ((sbM ts (ts.length + 1)).2 m (valueF ts 0 2 look0)).bad = true) :
    Calls Try.prog 37 #[.agg #[.int .i64 on, .slice SA slots.length sc, .bool true, .slice (some ⟨tb, toff, none⟩) ts.length tc]] w fun e w' => e = .returned (.bool false) ∧ Below w.heap.size w w' := by
  have hl : ts.length ≤ 100000 := by omega
  obtain ⟨n, hn2⟩ : ∃ n, ts.length = n := ⟨_, rfl⟩
  have hn3 : n ≤ 2000 := by omega
  have hmm := @run_makeMap Try.prog
  obtain ⟨w3, w4, hr1, hr2, hC⟩ := look_made w #[.int .i64 on, .slice SA slots.length sc, .bool true, .slice (some ⟨tb, toff, none⟩) ts.length tc]
  have AC := Lib.hid (hC.1 (.slice (some ⟨tb, toff, none⟩) ts.length tc) hn htb rfl)
  obtain ⟨A0, A1, A2, A3⟩ := AC.out.cells
  have HS := Lib.hid hS
  have HT := Lib.hid htxt
  have HP := Lib.hid hpos
  have HN2 := Lib.hid hn2
  have hb0 := fun k (hk : k < ts.length) wx (hx : NodesAt wx tb toff ts) => behind_in tb toff tc ts k wx hl hx hk
  have HB0 := Lib.hid hb0
  have HM := Lib.hid hm
  clear hm
  have hbb : (behind ts m != (ts.length : Int)) = false := by rw [hb]; simp
  have HB := Lib.hid hb
  clear hb
  have HV1 := Lib.hid hv1
  clear hv1
  have HBAD := Lib.hid hbad
  clear hbad
  clear hC hS htxt hpos hb0 hn2
  have z0:0≤1:=ZLB
  have z1:0≤1:=ZLB
  have z2:0≤1:=ZLB
  have z3:0≤1:=ZLB
  have z4:0≤1:=ZLB
  have z5:0≤1:=ZLB
  have z6:0≤1:=ZLB
  have z7:0≤1:=ZLB
  have z8:0≤1:=ZLB
  have z9:0≤1:=ZLB
  have z10:0≤1:=ZLB
  have z11:0≤1:=ZLB
  have z12:0≤1:=ZLB
  have z13:0≤1:=ZLB
  have z14:0≤1:=ZLB
  have z15:0≤1:=ZLB
  have z16:0≤1:=ZLB
  have z17:0≤1:=ZLB
  have z18:0≤1:=ZLB
  have z19:0≤1:=ZLB
  have z20:0≤1:=ZLB
  have z21:0≤1:=ZLB
  have z22:0≤1:=ZLB
  have z23:0≤1:=ZLB
  have z24:0≤1:=ZLB
  have z25:0≤1:=ZLB
  have z26:0≤1:=ZLB
  have z27:0≤1:=ZLB
  have z28:0≤1:=ZLB
  have z29:0≤1:=ZLB
  have z30:0≤1:=ZLB
  have z31:0≤1:=ZLB
  have z32:0≤1:=ZLB
  have z33:0≤1:=ZLB
  go_enter Try.func37, Try.ntmps37
  go_wp2_with fail
  refine (HB0.out 0 HP.out _ AC.out.nodes).mono ?_
  rintro e w5 ⟨rfl, rfl⟩
  rw [HM.out]
  go_wp2_with fail
  go_region_held3 (fun w' => w'.cell? ⟨w.heap.size, 3, none⟩ = some (.slice (some ⟨tb, toff, none⟩) ts.length tc)) (first | exact A3) ((first | (go_at_call 77; refine (HB0.out m hml _ (AC.out.drew).nodes).mono ?_; rintro e w5 ⟨rfl, rfl⟩; skip)))
  all_goals go_wp2_with fail
  refine (value_any w.heap.size w4.heap.size tb toff tc ts hl AC.out.tbB HT.out 0 2 look0 _ HP.out good0 AC.out.drew.lk AC.out.drew.nodes).mono ?_
  rintro e w5 ⟨rfl, h5, f5⟩
  have AC5 := Lib.hid (AC.out.drew.step (by simp) h5 f5)
  clear A0 A1 A2 A3 h5 f5
  obtain ⟨A0, A1, A2, A3⟩ := AC5.out.cells
  obtain ⟨ky0, ky3⟩ := AC5.out.lk.cells
  rw [HV1.out] at ky3
  go_wp2_with fail
  refine ((sb_any AC.out.tbB hl HT.out (ts.length + 1) (m) (by omega) hml (by rw [HB.out]; omega)).2 ((valueF ts 0 2 look0)) _ HV1.out (good0.value ts 0 2) (by show 2 ≤ _; omega) (AC5.out).lk (AC5.out).nodes).mono ?_
  rintro e w6 ⟨rfl, h6, f6⟩
  have AC6 := Lib.hid ((AC5.out).step (by simp) h6 f6)
  clear A0 A1 A2 A3 h6 f6 ky0 ky3
  obtain ⟨A0, A1, A2, A3⟩ := AC6.out.cells
  obtain ⟨kx0, kx3⟩ := AC6.out.lk.cells
  rw [HBAD.out] at kx3
  go_wp2_with fail
  refine wp_region_text (by kernel_rfl) (by kernel_rfl) ?_
  go_wp2_with fail
  refine Only.normal ?_
  go_wp2_with fail
  go_ret
  exact ⟨rfl, AC6.out.fr.below.drew⟩
end Go.Proofs.Ytggibiodeecljaa
namespace Go.Proofs.Ytggibiodeecljaa
open Go.RowKit
set_option linter.unusedVariables false
set_option maxRecDepth 100000 in
set_option maxHeartbeats 1000000 in
theorem able_nil_false (on : Int) (SA TA : Option Addr) (sn sc tc : Nat) (w : World) (h0 : 0 ≤ on) (h1 : on ≤ 4) (h2 : sn ≤ 32) :
    Calls Try.prog 37 #[.agg #[.int .i64 on, .slice SA sn sc, .bool false, .slice TA 0 tc]] w fun e w' => e = .returned (.bool false) ∧ Below w.heap.size w w' := by
  have hmm := @run_makeMap Try.prog
  obtain ⟨w3, w4, hr1, hr2, hC⟩ := look_made w #[.int .i64 on, .slice SA sn sc, .bool false, .slice TA 0 tc]
  obtain ⟨hb, bb⟩ := hC.2 (.slice TA 0 tc)
  have A0 := bb.cell 0
  have A1 := bb.cell 1
  have A2 := bb.cell 2
  have A3 := bb.cell 3
  have hbo := fun wx (k : Int) (hk : k < 0 ∨ ((0 : Nat) : Int) ≤ k) => behind_out (.slice TA 0 tc) TA 0 tc k wx rfl hk (by omega)
  have HBO := Lib.hid hbo
  have HB := Lib.hid hb
  clear hC hbo hb
  have z0:0≤1:=ZLB
  have z1:0≤1:=ZLB
  have z2:0≤1:=ZLB
  have z3:0≤1:=ZLB
  have z4:0≤1:=ZLB
  have z5:0≤1:=ZLB
  have z6:0≤1:=ZLB
  have z7:0≤1:=ZLB
  have z8:0≤1:=ZLB
  have z9:0≤1:=ZLB
  have z10:0≤1:=ZLB
  have z11:0≤1:=ZLB
  have z12:0≤1:=ZLB
  have z13:0≤1:=ZLB
  have z14:0≤1:=ZLB
  have z15:0≤1:=ZLB
  have z16:0≤1:=ZLB
  have z17:0≤1:=ZLB
  have z18:0≤1:=ZLB
  have z19:0≤1:=ZLB
  have z20:0≤1:=ZLB
  have z21:0≤1:=ZLB
  have z22:0≤1:=ZLB
  have z23:0≤1:=ZLB
  have z24:0≤1:=ZLB
  have z25:0≤1:=ZLB
  have z26:0≤1:=ZLB
  have z27:0≤1:=ZLB
  have z28:0≤1:=ZLB
  have z29:0≤1:=ZLB
  have z30:0≤1:=ZLB
  have z31:0≤1:=ZLB
  have z32:0≤1:=ZLB
  have z33:0≤1:=ZLB
  have z34:0≤1:=ZLB
  have z35:0≤1:=ZLB
  have z36:0≤1:=ZLB
  have z37:0≤1:=ZLB
  have z38:0≤1:=ZLB
  have z39:0≤1:=ZLB
  have z40:0≤1:=ZLB
  have z41:0≤1:=ZLB
  have z42:0≤1:=ZLB
  have z43:0≤1:=ZLB
  have z44:0≤1:=ZLB
  have z45:0≤1:=ZLB
  have z46:0≤1:=ZLB
  have z47:0≤1:=ZLB
  have z48:0≤1:=ZLB
  have z49:0≤1:=ZLB
  have z50:0≤1:=ZLB
  go_enter Try.func37, Try.ntmps37
  go_wp2_with fail
  go_region_held3 (fun w' => w'.cell? ⟨w.heap.size, 3, none⟩ = some (.slice TA 0 tc)) (first | exact A3) ((first | (go_at_call 77; refine (HBO.out _ 0 (.inr (by omega))).mono ?_; rintro e w5 ⟨rfl, rfl⟩)))
  all_goals go_wp2_with fail
  all_goals go_ret
  all_goals exact ⟨rfl, HB.out.drew⟩
end Go.Proofs.Ytggibiodeecljaa
namespace Go.Proofs.Ytggibiodeecljaa
open Go.RowKit
set_option linter.unusedVariables false
set_option maxRecDepth 100000 in
set_option maxHeartbeats 1000000 in
theorem able_nil_true (on : Int) (SA TA : Option Addr) (sn sc tc : Nat) (w : World) (h0 : 0 ≤ on) (h1 : on ≤ 4) (h2 : sn ≤ 32) :
    Calls Try.prog 37 #[.agg #[.int .i64 on, .slice SA sn sc, .bool true, .slice TA 0 tc]] w fun e w' => e = .returned (.bool false) ∧ Below w.heap.size w w' := by
  have hmm := @run_makeMap Try.prog
  obtain ⟨w3, w4, hr1, hr2, hC⟩ := look_made w #[.int .i64 on, .slice SA sn sc, .bool true, .slice TA 0 tc]
  obtain ⟨hb, bb⟩ := hC.2 (.slice TA 0 tc)
  have A0 := bb.cell 0
  have A1 := bb.cell 1
  have A2 := bb.cell 2
  have A3 := bb.cell 3
  have hbo := fun wx (k : Int) (hk : k < 0 ∨ ((0 : Nat) : Int) ≤ k) => behind_out (.slice TA 0 tc) TA 0 tc k wx rfl hk (by omega)
  have HBO := Lib.hid hbo
  have HB := Lib.hid hb
  clear hC hbo hb
  have z0:0≤1:=ZLB
  have z1:0≤1:=ZLB
  have z2:0≤1:=ZLB
  have z3:0≤1:=ZLB
  have z4:0≤1:=ZLB
  have z5:0≤1:=ZLB
  have z6:0≤1:=ZLB
  have z7:0≤1:=ZLB
  have z8:0≤1:=ZLB
  have z9:0≤1:=ZLB
  have z10:0≤1:=ZLB
  have z11:0≤1:=ZLB
  have z12:0≤1:=ZLB
  have z13:0≤1:=ZLB
  have z14:0≤1:=ZLB
  have z15:0≤1:=ZLB
  have z16:0≤1:=ZLB
  have z17:0≤1:=ZLB
  have z18:0≤1:=ZLB
  have z19:0≤1:=ZLB
  have z20:0≤1:=ZLB
  have z21:0≤1:=ZLB
  have z22:0≤1:=ZLB
  have z23:0≤1:=ZLB
  have z24:0≤1:=ZLB
  have z25:0≤1:=ZLB
  have z26:0≤1:=ZLB
  have z27:0≤1:=ZLB
  have z28:0≤1:=ZLB
  have z29:0≤1:=ZLB
  have z30:0≤1:=ZLB
  have z31:0≤1:=ZLB
  have z32:0≤1:=ZLB
  have z33:0≤1:=ZLB
  have z34:0≤1:=ZLB
  have z35:0≤1:=ZLB
  have z36:0≤1:=ZLB
  have z37:0≤1:=ZLB
  have z38:0≤1:=ZLB
  have z39:0≤1:=ZLB
  have z40:0≤1:=ZLB
  have z41:0≤1:=ZLB
  have z42:0≤1:=ZLB
  have z43:0≤1:=ZLB
  have z44:0≤1:=ZLB
  have z45:0≤1:=ZLB
  have z46:0≤1:=ZLB
  have z47:0≤1:=ZLB
  have z48:0≤1:=ZLB
  have z49:0≤1:=ZLB
  have z50:0≤1:=ZLB
  have z51:0≤1:=ZLB
  have z52:0≤1:=ZLB
  have z53:0≤1:=ZLB
  have z54:0≤1:=ZLB
  have z55:0≤1:=ZLB
  have z56:0≤1:=ZLB
  have z57:0≤1:=ZLB
  have z58:0≤1:=ZLB
  have z59:0≤1:=ZLB
  have z60:0≤1:=ZLB
  have z61:0≤1:=ZLB
  have z62:0≤1:=ZLB
  have z63:0≤1:=ZLB
  have z64:0≤1:=ZLB
  have z65:0≤1:=ZLB
  have z66:0≤1:=ZLB
  have z67:0≤1:=ZLB
  go_enter Try.func37, Try.ntmps37
  go_wp2_with fail
  refine (HBO.out _ 0 (.inr (by omega))).mono ?_
  rintro e w5 ⟨rfl, rfl⟩
  go_wp2_with fail
  go_quiet (fail)
  all_goals go_wp2_with fail
  all_goals go_ret
  all_goals exact ⟨rfl, drewN_below HB.out _⟩
end Go.Proofs.Ytggibiodeecljaa
