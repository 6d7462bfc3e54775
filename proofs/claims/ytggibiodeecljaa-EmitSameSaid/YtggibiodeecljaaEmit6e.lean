/- emit's writers (printed by gen_emitw.py). -/
import Derived.Test.YtggibiodeecljaaMEmit5
namespace Go.Proofs.Ytggibiodeecljaa
open Go.RowKit
set_option linter.unusedVariables false

section
variable (w0 : World) (B kb : Nat) (tv im tm mb : Value) (ts : List Node) (rec : Nat → MS → MS) (hgr : Grow rec) (i : Nat) (x : Node) (hr : ∀ j ∈ kidsOf ts i, NodeC w0 B kb tv im tm mb rec j) (hkl : (kidsOf ts i).length ≤ 100000)
include hgr hr hkl
set_option maxRecDepth 100000 in
set_option maxHeartbeats 1600000 in
theorem w_call0 (pt : ByteArray → Option Int) (hxn : x.n = 0) : WriterC w0 B kb tv im tm mb ts (fun s => callE pt ts rec x (kidsOf ts i) s) i x 124 #[] := by
  intro s w A n c base hb0 h0 ho0 hm
  obtain ⟨wl0, hw1, hb, h, ho, f0, kn⟩ := wr_start x hb0 h0 ho0
  rw [hxn] at hw1 kn
  obtain ⟨s1, hs1⟩ : ∃ s1, s1 = allE rec (kidsOf ts i) s := ⟨_, rfl⟩
  have m1 : s.ms ≤ s1.ms := by rw [hs1]; exact allE_ms hgr _ _
  obtain ⟨s2, hs2⟩ : ∃ s2, s2 = opE 40 [] s1 := ⟨_, rfl⟩
  have m2 : s2.ms = s1.ms + 1 := by rw [hs2, opE_ms]; try simp
  have hF : (fun s => callE pt ts rec x (kidsOf ts i) s) s = s2 := by
    show callE pt ts rec x (kidsOf ts i) s = s2
    rw [hs2, hs1]
    simp [callE, callCode, hxn]
  have hmN : s2.ms ≤ 1000000 := by rw [hF] at hm; exact hm
  rw [hF]
  have HS1 := Lib.hid hs1
  have HS2 := Lib.hid hs2
  have HW := Lib.hid hw1
  have F0 := Lib.hid f0
  have KN := Lib.hid kn
  have HB := Lib.hid hb
  have K0 := Lib.hid h
  have HO := Lib.hid ho
  have HR := Lib.hid hr
  have FR0 := Lib.hid (Frm.refl B TE wl0)
  have HO0 := Lib.hid ho0
  have HKL := Lib.hid hkl
  have HGR := Lib.hid hgr
  have HF := Lib.hid hF
  have bs : s.ms ≤ 1000000 := by omega
  have b1 : s1.ms ≤ 1000000 := by omega
  have b2 : s2.ms ≤ 1000000 := by omega
  have c2 : s1.ms + 0 ≤ 1000000 := by omega
  have e1 : IntKind.u8.wrap x.n = u8 x.n := rfl
  have e2 : IntKind.u8.wrap x.m = u8 x.m := rfl
  have e3 : IntKind.u8.wrap (u8 x.m + 1) = u8 (u8 x.m + 1) := rfl
  clear hw1 f0 kn hb h ho hr hkl hgr hF hb0 h0 ho0 hm hs1 m1 hs2 m2
  have hz0 : wl0.heap.size = w.heap.size + 1 := by rw [HW.out]; simp
  go_enter Try.func124, Try.ntmps124
  have nc1_2 : wl0.cell? ⟨w.heap.size, 2, none⟩ = some (.int .i64 0) := by have := (FR0.out.blk KN.out (by decide)).cell 2; exact this
  go_wp2_with fail
  rw [← HW.out]
  refine (emitNodes_any w0 B kb tv im tm mb rec HGR.out (kidsOf ts i) _ _ _ base s wl0 HR.out (HB.out.trans FR0.out.below) K0.out (HS1.out ▸ b1) HKL.out (FR0.out.own HO.out (by decide))).mono ?_
  rintro e wl1 ⟨rfl, h, f⟩
  rw [← HS1.out] at h
  have K1 := Lib.hid h
  have FR1 := Lib.hid (FR0.out.trans f)
  clear h f
  have nc2_2 : wl1.cell? ⟨w.heap.size, 2, none⟩ = some (.int .i64 0) := by have := (FR1.out.blk KN.out (by decide)).cell 2; exact this
  have hix := call_ix0 wl1
  go_wp2_with fail
  refine (emitOp_nil B kb tv im tm mb s1 40 wl1 K1.out  c2).mono ?_
  rintro e wl2 ⟨rfl, h, f⟩
  rw [← HS2.out] at h
  have K2 := Lib.hid h
  have FR2 := Lib.hid (FR1.out.trans f)
  clear h f
  go_wp2_with fail
  go_end0
  exact ⟨rfl, K2.out, F0.out.trans FR2.out⟩
set_option maxRecDepth 100000 in
set_option maxHeartbeats 1600000 in
theorem w_call2 (pt : ByteArray → Option Int) (hxn : x.n = 2) : WriterC w0 B kb tv im tm mb ts (fun s => callE pt ts rec x (kidsOf ts i) s) i x 124 #[] := by
  intro s w A n c base hb0 h0 ho0 hm
  obtain ⟨wl0, hw1, hb, h, ho, f0, kn⟩ := wr_start x hb0 h0 ho0
  rw [hxn] at hw1 kn
  obtain ⟨s1, hs1⟩ : ∃ s1, s1 = allE rec (kidsOf ts i) s := ⟨_, rfl⟩
  have m1 : s.ms ≤ s1.ms := by rw [hs1]; exact allE_ms hgr _ _
  obtain ⟨s2, hs2⟩ : ∃ s2, s2 = opE 42 [] s1 := ⟨_, rfl⟩
  have m2 : s2.ms = s1.ms + 1 := by rw [hs2, opE_ms]; try simp
  have hF : (fun s => callE pt ts rec x (kidsOf ts i) s) s = s2 := by
    show callE pt ts rec x (kidsOf ts i) s = s2
    rw [hs2, hs1]
    simp [callE, callCode, hxn]
  have hmN : s2.ms ≤ 1000000 := by rw [hF] at hm; exact hm
  rw [hF]
  have HS1 := Lib.hid hs1
  have HS2 := Lib.hid hs2
  have HW := Lib.hid hw1
  have F0 := Lib.hid f0
  have KN := Lib.hid kn
  have HB := Lib.hid hb
  have K0 := Lib.hid h
  have HO := Lib.hid ho
  have HR := Lib.hid hr
  have FR0 := Lib.hid (Frm.refl B TE wl0)
  have HO0 := Lib.hid ho0
  have HKL := Lib.hid hkl
  have HGR := Lib.hid hgr
  have HF := Lib.hid hF
  have bs : s.ms ≤ 1000000 := by omega
  have b1 : s1.ms ≤ 1000000 := by omega
  have b2 : s2.ms ≤ 1000000 := by omega
  have c2 : s1.ms + 0 ≤ 1000000 := by omega
  have e1 : IntKind.u8.wrap x.n = u8 x.n := rfl
  have e2 : IntKind.u8.wrap x.m = u8 x.m := rfl
  have e3 : IntKind.u8.wrap (u8 x.m + 1) = u8 (u8 x.m + 1) := rfl
  clear hw1 f0 kn hb h ho hr hkl hgr hF hb0 h0 ho0 hm hs1 m1 hs2 m2
  have hz0 : wl0.heap.size = w.heap.size + 1 := by rw [HW.out]; simp
  go_enter Try.func124, Try.ntmps124
  have nc1_2 : wl0.cell? ⟨w.heap.size, 2, none⟩ = some (.int .i64 2) := by have := (FR0.out.blk KN.out (by decide)).cell 2; exact this
  go_wp2_with fail
  rw [← HW.out]
  refine (emitNodes_any w0 B kb tv im tm mb rec HGR.out (kidsOf ts i) _ _ _ base s wl0 HR.out (HB.out.trans FR0.out.below) K0.out (HS1.out ▸ b1) HKL.out (FR0.out.own HO.out (by decide))).mono ?_
  rintro e wl1 ⟨rfl, h, f⟩
  rw [← HS1.out] at h
  have K1 := Lib.hid h
  have FR1 := Lib.hid (FR0.out.trans f)
  clear h f
  have nc2_2 : wl1.cell? ⟨w.heap.size, 2, none⟩ = some (.int .i64 2) := by have := (FR1.out.blk KN.out (by decide)).cell 2; exact this
  have hix := call_ix2 wl1
  go_wp2_with fail
  refine (emitOp_nil B kb tv im tm mb s1 42 wl1 K1.out  c2).mono ?_
  rintro e wl2 ⟨rfl, h, f⟩
  rw [← HS2.out] at h
  have K2 := Lib.hid h
  have FR2 := Lib.hid (FR1.out.trans f)
  clear h f
  go_wp2_with fail
  go_end0
  exact ⟨rfl, K2.out, F0.out.trans FR2.out⟩
set_option maxRecDepth 100000 in
set_option maxHeartbeats 1600000 in
theorem w_call3 (pt : ByteArray → Option Int) (hxn : x.n = 3) : WriterC w0 B kb tv im tm mb ts (fun s => callE pt ts rec x (kidsOf ts i) s) i x 124 #[] := by
  intro s w A n c base hb0 h0 ho0 hm
  obtain ⟨wl0, hw1, hb, h, ho, f0, kn⟩ := wr_start x hb0 h0 ho0
  rw [hxn] at hw1 kn
  obtain ⟨s1, hs1⟩ : ∃ s1, s1 = allE rec (kidsOf ts i) s := ⟨_, rfl⟩
  have m1 : s.ms ≤ s1.ms := by rw [hs1]; exact allE_ms hgr _ _
  obtain ⟨s2, hs2⟩ : ∃ s2, s2 = opE 43 [] s1 := ⟨_, rfl⟩
  have m2 : s2.ms = s1.ms + 1 := by rw [hs2, opE_ms]; try simp
  have hF : (fun s => callE pt ts rec x (kidsOf ts i) s) s = s2 := by
    show callE pt ts rec x (kidsOf ts i) s = s2
    rw [hs2, hs1]
    simp [callE, callCode, hxn]
  have hmN : s2.ms ≤ 1000000 := by rw [hF] at hm; exact hm
  rw [hF]
  have HS1 := Lib.hid hs1
  have HS2 := Lib.hid hs2
  have HW := Lib.hid hw1
  have F0 := Lib.hid f0
  have KN := Lib.hid kn
  have HB := Lib.hid hb
  have K0 := Lib.hid h
  have HO := Lib.hid ho
  have HR := Lib.hid hr
  have FR0 := Lib.hid (Frm.refl B TE wl0)
  have HO0 := Lib.hid ho0
  have HKL := Lib.hid hkl
  have HGR := Lib.hid hgr
  have HF := Lib.hid hF
  have bs : s.ms ≤ 1000000 := by omega
  have b1 : s1.ms ≤ 1000000 := by omega
  have b2 : s2.ms ≤ 1000000 := by omega
  have c2 : s1.ms + 0 ≤ 1000000 := by omega
  have e1 : IntKind.u8.wrap x.n = u8 x.n := rfl
  have e2 : IntKind.u8.wrap x.m = u8 x.m := rfl
  have e3 : IntKind.u8.wrap (u8 x.m + 1) = u8 (u8 x.m + 1) := rfl
  clear hw1 f0 kn hb h ho hr hkl hgr hF hb0 h0 ho0 hm hs1 m1 hs2 m2
  have hz0 : wl0.heap.size = w.heap.size + 1 := by rw [HW.out]; simp
  go_enter Try.func124, Try.ntmps124
  have nc1_2 : wl0.cell? ⟨w.heap.size, 2, none⟩ = some (.int .i64 3) := by have := (FR0.out.blk KN.out (by decide)).cell 2; exact this
  go_wp2_with fail
  rw [← HW.out]
  refine (emitNodes_any w0 B kb tv im tm mb rec HGR.out (kidsOf ts i) _ _ _ base s wl0 HR.out (HB.out.trans FR0.out.below) K0.out (HS1.out ▸ b1) HKL.out (FR0.out.own HO.out (by decide))).mono ?_
  rintro e wl1 ⟨rfl, h, f⟩
  rw [← HS1.out] at h
  have K1 := Lib.hid h
  have FR1 := Lib.hid (FR0.out.trans f)
  clear h f
  have nc2_2 : wl1.cell? ⟨w.heap.size, 2, none⟩ = some (.int .i64 3) := by have := (FR1.out.blk KN.out (by decide)).cell 2; exact this
  have hix := call_ix3 wl1
  go_wp2_with fail
  refine (emitOp_nil B kb tv im tm mb s1 43 wl1 K1.out  c2).mono ?_
  rintro e wl2 ⟨rfl, h, f⟩
  rw [← HS2.out] at h
  have K2 := Lib.hid h
  have FR2 := Lib.hid (FR1.out.trans f)
  clear h f
  go_wp2_with fail
  go_end0
  exact ⟨rfl, K2.out, F0.out.trans FR2.out⟩
set_option maxRecDepth 100000 in
set_option maxHeartbeats 1600000 in
theorem w_call4 (pt : ByteArray → Option Int) (hxn : x.n = 4) : WriterC w0 B kb tv im tm mb ts (fun s => callE pt ts rec x (kidsOf ts i) s) i x 124 #[] := by
  intro s w A n c base hb0 h0 ho0 hm
  obtain ⟨wl0, hw1, hb, h, ho, f0, kn⟩ := wr_start x hb0 h0 ho0
  rw [hxn] at hw1 kn
  obtain ⟨s1, hs1⟩ : ∃ s1, s1 = allE rec (kidsOf ts i) s := ⟨_, rfl⟩
  have m1 : s.ms ≤ s1.ms := by rw [hs1]; exact allE_ms hgr _ _
  obtain ⟨s2, hs2⟩ : ∃ s2, s2 = opE 44 [] s1 := ⟨_, rfl⟩
  have m2 : s2.ms = s1.ms + 1 := by rw [hs2, opE_ms]; try simp
  have hF : (fun s => callE pt ts rec x (kidsOf ts i) s) s = s2 := by
    show callE pt ts rec x (kidsOf ts i) s = s2
    rw [hs2, hs1]
    simp [callE, callCode, hxn]
  have hmN : s2.ms ≤ 1000000 := by rw [hF] at hm; exact hm
  rw [hF]
  have HS1 := Lib.hid hs1
  have HS2 := Lib.hid hs2
  have HW := Lib.hid hw1
  have F0 := Lib.hid f0
  have KN := Lib.hid kn
  have HB := Lib.hid hb
  have K0 := Lib.hid h
  have HO := Lib.hid ho
  have HR := Lib.hid hr
  have FR0 := Lib.hid (Frm.refl B TE wl0)
  have HO0 := Lib.hid ho0
  have HKL := Lib.hid hkl
  have HGR := Lib.hid hgr
  have HF := Lib.hid hF
  have bs : s.ms ≤ 1000000 := by omega
  have b1 : s1.ms ≤ 1000000 := by omega
  have b2 : s2.ms ≤ 1000000 := by omega
  have c2 : s1.ms + 0 ≤ 1000000 := by omega
  have e1 : IntKind.u8.wrap x.n = u8 x.n := rfl
  have e2 : IntKind.u8.wrap x.m = u8 x.m := rfl
  have e3 : IntKind.u8.wrap (u8 x.m + 1) = u8 (u8 x.m + 1) := rfl
  clear hw1 f0 kn hb h ho hr hkl hgr hF hb0 h0 ho0 hm hs1 m1 hs2 m2
  have hz0 : wl0.heap.size = w.heap.size + 1 := by rw [HW.out]; simp
  go_enter Try.func124, Try.ntmps124
  have nc1_2 : wl0.cell? ⟨w.heap.size, 2, none⟩ = some (.int .i64 4) := by have := (FR0.out.blk KN.out (by decide)).cell 2; exact this
  go_wp2_with fail
  rw [← HW.out]
  refine (emitNodes_any w0 B kb tv im tm mb rec HGR.out (kidsOf ts i) _ _ _ base s wl0 HR.out (HB.out.trans FR0.out.below) K0.out (HS1.out ▸ b1) HKL.out (FR0.out.own HO.out (by decide))).mono ?_
  rintro e wl1 ⟨rfl, h, f⟩
  rw [← HS1.out] at h
  have K1 := Lib.hid h
  have FR1 := Lib.hid (FR0.out.trans f)
  clear h f
  have nc2_2 : wl1.cell? ⟨w.heap.size, 2, none⟩ = some (.int .i64 4) := by have := (FR1.out.blk KN.out (by decide)).cell 2; exact this
  have hix := call_ix4 wl1
  go_wp2_with fail
  refine (emitOp_nil B kb tv im tm mb s1 44 wl1 K1.out  c2).mono ?_
  rintro e wl2 ⟨rfl, h, f⟩
  rw [← HS2.out] at h
  have K2 := Lib.hid h
  have FR2 := Lib.hid (FR1.out.trans f)
  clear h f
  go_wp2_with fail
  go_end0
  exact ⟨rfl, K2.out, F0.out.trans FR2.out⟩
set_option maxRecDepth 100000 in
set_option maxHeartbeats 1600000 in
theorem w_call6 (pt : ByteArray → Option Int) (hxn : x.n = 6) : WriterC w0 B kb tv im tm mb ts (fun s => callE pt ts rec x (kidsOf ts i) s) i x 124 #[] := by
  intro s w A n c base hb0 h0 ho0 hm
  obtain ⟨wl0, hw1, hb, h, ho, f0, kn⟩ := wr_start x hb0 h0 ho0
  rw [hxn] at hw1 kn
  obtain ⟨s1, hs1⟩ : ∃ s1, s1 = allE rec (kidsOf ts i) s := ⟨_, rfl⟩
  have m1 : s.ms ≤ s1.ms := by rw [hs1]; exact allE_ms hgr _ _
  obtain ⟨s2, hs2⟩ : ∃ s2, s2 = opE 16 [] s1 := ⟨_, rfl⟩
  have m2 : s2.ms = s1.ms + 1 := by rw [hs2, opE_ms]; try simp
  have hF : (fun s => callE pt ts rec x (kidsOf ts i) s) s = s2 := by
    show callE pt ts rec x (kidsOf ts i) s = s2
    rw [hs2, hs1]
    simp [callE, callCode, hxn]
  have hmN : s2.ms ≤ 1000000 := by rw [hF] at hm; exact hm
  rw [hF]
  have HS1 := Lib.hid hs1
  have HS2 := Lib.hid hs2
  have HW := Lib.hid hw1
  have F0 := Lib.hid f0
  have KN := Lib.hid kn
  have HB := Lib.hid hb
  have K0 := Lib.hid h
  have HO := Lib.hid ho
  have HR := Lib.hid hr
  have FR0 := Lib.hid (Frm.refl B TE wl0)
  have HO0 := Lib.hid ho0
  have HKL := Lib.hid hkl
  have HGR := Lib.hid hgr
  have HF := Lib.hid hF
  have bs : s.ms ≤ 1000000 := by omega
  have b1 : s1.ms ≤ 1000000 := by omega
  have b2 : s2.ms ≤ 1000000 := by omega
  have c2 : s1.ms + 0 ≤ 1000000 := by omega
  have e1 : IntKind.u8.wrap x.n = u8 x.n := rfl
  have e2 : IntKind.u8.wrap x.m = u8 x.m := rfl
  have e3 : IntKind.u8.wrap (u8 x.m + 1) = u8 (u8 x.m + 1) := rfl
  clear hw1 f0 kn hb h ho hr hkl hgr hF hb0 h0 ho0 hm hs1 m1 hs2 m2
  have hz0 : wl0.heap.size = w.heap.size + 1 := by rw [HW.out]; simp
  go_enter Try.func124, Try.ntmps124
  have nc1_2 : wl0.cell? ⟨w.heap.size, 2, none⟩ = some (.int .i64 6) := by have := (FR0.out.blk KN.out (by decide)).cell 2; exact this
  go_wp2_with fail
  rw [← HW.out]
  refine (emitNodes_any w0 B kb tv im tm mb rec HGR.out (kidsOf ts i) _ _ _ base s wl0 HR.out (HB.out.trans FR0.out.below) K0.out (HS1.out ▸ b1) HKL.out (FR0.out.own HO.out (by decide))).mono ?_
  rintro e wl1 ⟨rfl, h, f⟩
  rw [← HS1.out] at h
  have K1 := Lib.hid h
  have FR1 := Lib.hid (FR0.out.trans f)
  clear h f
  have nc2_2 : wl1.cell? ⟨w.heap.size, 2, none⟩ = some (.int .i64 6) := by have := (FR1.out.blk KN.out (by decide)).cell 2; exact this
  have hix := call_ix6 wl1
  go_wp2_with fail
  refine (emitOp_nil B kb tv im tm mb s1 16 wl1 K1.out  c2).mono ?_
  rintro e wl2 ⟨rfl, h, f⟩
  rw [← HS2.out] at h
  have K2 := Lib.hid h
  have FR2 := Lib.hid (FR1.out.trans f)
  clear h f
  go_wp2_with fail
  go_end0
  exact ⟨rfl, K2.out, F0.out.trans FR2.out⟩
set_option maxRecDepth 100000 in
set_option maxHeartbeats 1600000 in
theorem w_call7 (pt : ByteArray → Option Int) (hxn : x.n = 7) : WriterC w0 B kb tv im tm mb ts (fun s => callE pt ts rec x (kidsOf ts i) s) i x 124 #[] := by
  intro s w A n c base hb0 h0 ho0 hm
  obtain ⟨wl0, hw1, hb, h, ho, f0, kn⟩ := wr_start x hb0 h0 ho0
  rw [hxn] at hw1 kn
  obtain ⟨s1, hs1⟩ : ∃ s1, s1 = allE rec (kidsOf ts i) s := ⟨_, rfl⟩
  have m1 : s.ms ≤ s1.ms := by rw [hs1]; exact allE_ms hgr _ _
  obtain ⟨s2, hs2⟩ : ∃ s2, s2 = opE 17 [] s1 := ⟨_, rfl⟩
  have m2 : s2.ms = s1.ms + 1 := by rw [hs2, opE_ms]; try simp
  have hF : (fun s => callE pt ts rec x (kidsOf ts i) s) s = s2 := by
    show callE pt ts rec x (kidsOf ts i) s = s2
    rw [hs2, hs1]
    simp [callE, callCode, hxn]
  have hmN : s2.ms ≤ 1000000 := by rw [hF] at hm; exact hm
  rw [hF]
  have HS1 := Lib.hid hs1
  have HS2 := Lib.hid hs2
  have HW := Lib.hid hw1
  have F0 := Lib.hid f0
  have KN := Lib.hid kn
  have HB := Lib.hid hb
  have K0 := Lib.hid h
  have HO := Lib.hid ho
  have HR := Lib.hid hr
  have FR0 := Lib.hid (Frm.refl B TE wl0)
  have HO0 := Lib.hid ho0
  have HKL := Lib.hid hkl
  have HGR := Lib.hid hgr
  have HF := Lib.hid hF
  have bs : s.ms ≤ 1000000 := by omega
  have b1 : s1.ms ≤ 1000000 := by omega
  have b2 : s2.ms ≤ 1000000 := by omega
  have c2 : s1.ms + 0 ≤ 1000000 := by omega
  have e1 : IntKind.u8.wrap x.n = u8 x.n := rfl
  have e2 : IntKind.u8.wrap x.m = u8 x.m := rfl
  have e3 : IntKind.u8.wrap (u8 x.m + 1) = u8 (u8 x.m + 1) := rfl
  clear hw1 f0 kn hb h ho hr hkl hgr hF hb0 h0 ho0 hm hs1 m1 hs2 m2
  have hz0 : wl0.heap.size = w.heap.size + 1 := by rw [HW.out]; simp
  go_enter Try.func124, Try.ntmps124
  have nc1_2 : wl0.cell? ⟨w.heap.size, 2, none⟩ = some (.int .i64 7) := by have := (FR0.out.blk KN.out (by decide)).cell 2; exact this
  go_wp2_with fail
  rw [← HW.out]
  refine (emitNodes_any w0 B kb tv im tm mb rec HGR.out (kidsOf ts i) _ _ _ base s wl0 HR.out (HB.out.trans FR0.out.below) K0.out (HS1.out ▸ b1) HKL.out (FR0.out.own HO.out (by decide))).mono ?_
  rintro e wl1 ⟨rfl, h, f⟩
  rw [← HS1.out] at h
  have K1 := Lib.hid h
  have FR1 := Lib.hid (FR0.out.trans f)
  clear h f
  have nc2_2 : wl1.cell? ⟨w.heap.size, 2, none⟩ = some (.int .i64 7) := by have := (FR1.out.blk KN.out (by decide)).cell 2; exact this
  have hix := call_ix7 wl1
  go_wp2_with fail
  refine (emitOp_nil B kb tv im tm mb s1 17 wl1 K1.out  c2).mono ?_
  rintro e wl2 ⟨rfl, h, f⟩
  rw [← HS2.out] at h
  have K2 := Lib.hid h
  have FR2 := Lib.hid (FR1.out.trans f)
  clear h f
  go_wp2_with fail
  go_end0
  exact ⟨rfl, K2.out, F0.out.trans FR2.out⟩
set_option maxRecDepth 100000 in
set_option maxHeartbeats 1600000 in
theorem w_call8 (pt : ByteArray → Option Int) (hxn : x.n = 8) : WriterC w0 B kb tv im tm mb ts (fun s => callE pt ts rec x (kidsOf ts i) s) i x 124 #[] := by
  intro s w A n c base hb0 h0 ho0 hm
  obtain ⟨wl0, hw1, hb, h, ho, f0, kn⟩ := wr_start x hb0 h0 ho0
  rw [hxn] at hw1 kn
  obtain ⟨s1, hs1⟩ : ∃ s1, s1 = allE rec (kidsOf ts i) s := ⟨_, rfl⟩
  have m1 : s.ms ≤ s1.ms := by rw [hs1]; exact allE_ms hgr _ _
  obtain ⟨s2, hs2⟩ : ∃ s2, s2 = opE 18 [] s1 := ⟨_, rfl⟩
  have m2 : s2.ms = s1.ms + 1 := by rw [hs2, opE_ms]; try simp
  have hF : (fun s => callE pt ts rec x (kidsOf ts i) s) s = s2 := by
    show callE pt ts rec x (kidsOf ts i) s = s2
    rw [hs2, hs1]
    simp [callE, callCode, hxn]
  have hmN : s2.ms ≤ 1000000 := by rw [hF] at hm; exact hm
  rw [hF]
  have HS1 := Lib.hid hs1
  have HS2 := Lib.hid hs2
  have HW := Lib.hid hw1
  have F0 := Lib.hid f0
  have KN := Lib.hid kn
  have HB := Lib.hid hb
  have K0 := Lib.hid h
  have HO := Lib.hid ho
  have HR := Lib.hid hr
  have FR0 := Lib.hid (Frm.refl B TE wl0)
  have HO0 := Lib.hid ho0
  have HKL := Lib.hid hkl
  have HGR := Lib.hid hgr
  have HF := Lib.hid hF
  have bs : s.ms ≤ 1000000 := by omega
  have b1 : s1.ms ≤ 1000000 := by omega
  have b2 : s2.ms ≤ 1000000 := by omega
  have c2 : s1.ms + 0 ≤ 1000000 := by omega
  have e1 : IntKind.u8.wrap x.n = u8 x.n := rfl
  have e2 : IntKind.u8.wrap x.m = u8 x.m := rfl
  have e3 : IntKind.u8.wrap (u8 x.m + 1) = u8 (u8 x.m + 1) := rfl
  clear hw1 f0 kn hb h ho hr hkl hgr hF hb0 h0 ho0 hm hs1 m1 hs2 m2
  have hz0 : wl0.heap.size = w.heap.size + 1 := by rw [HW.out]; simp
  go_enter Try.func124, Try.ntmps124
  have nc1_2 : wl0.cell? ⟨w.heap.size, 2, none⟩ = some (.int .i64 8) := by have := (FR0.out.blk KN.out (by decide)).cell 2; exact this
  go_wp2_with fail
  rw [← HW.out]
  refine (emitNodes_any w0 B kb tv im tm mb rec HGR.out (kidsOf ts i) _ _ _ base s wl0 HR.out (HB.out.trans FR0.out.below) K0.out (HS1.out ▸ b1) HKL.out (FR0.out.own HO.out (by decide))).mono ?_
  rintro e wl1 ⟨rfl, h, f⟩
  rw [← HS1.out] at h
  have K1 := Lib.hid h
  have FR1 := Lib.hid (FR0.out.trans f)
  clear h f
  have nc2_2 : wl1.cell? ⟨w.heap.size, 2, none⟩ = some (.int .i64 8) := by have := (FR1.out.blk KN.out (by decide)).cell 2; exact this
  have hix := call_ix8 wl1
  go_wp2_with fail
  refine (emitOp_nil B kb tv im tm mb s1 18 wl1 K1.out  c2).mono ?_
  rintro e wl2 ⟨rfl, h, f⟩
  rw [← HS2.out] at h
  have K2 := Lib.hid h
  have FR2 := Lib.hid (FR1.out.trans f)
  clear h f
  go_wp2_with fail
  go_end0
  exact ⟨rfl, K2.out, F0.out.trans FR2.out⟩
end
end Go.Proofs.Ytggibiodeecljaa
