/- emit's writers (printed by gen_emitw.py). -/
import Derived.Test.YtggibiodeecljaaMEmit5
namespace Go.Proofs.Ytggibiodeecljaa
open Go.RowKit
set_option linter.unusedVariables false

section
variable (w0 : World) (B kb : Nat) (tv im tm mb : Value) (ts : List Node) (rec : Nat → MS → MS) (hgr : Grow rec) (i : Nat) (x : Node) (hr : ∀ j ∈ kidsOf ts i, NodeC w0 B kb tv im tm mb rec j) (hkl : (kidsOf ts i).length ≤ 100000)
include hgr hr hkl
set_option maxRecDepth 100000 in
set_option maxHeartbeats 1600000 in
theorem w_fork13a (j0 j1 : Nat) (hkk : kidsOf ts i = [j0, j1]) (hop : x.op = 13) : WriterC w0 B kb tv im tm mb ts (fun s => forkE rec x (kidsOf ts i) s) i x 125 #[] := by
  intro s w A n c base hb0 h0 ho0 hm
  obtain ⟨wl0, hw1, hb, h, ho, f0, kn⟩ := wr_start x hb0 h0 ho0
  rw [hop] at hw1 kn
  obtain ⟨s1, hs1⟩ : ∃ s1, s1 = rec j0 s := ⟨_, rfl⟩
  have m1 : s.ms ≤ s1.ms := by rw [hs1]; exact hgr _ _
  obtain ⟨s2, hs2⟩ : ∃ s2, s2 = aheadE 31 [] s1 := ⟨_, rfl⟩
  have m2 : s2.ms = s1.ms + 3 := by rw [hs2, aheadE_ms]; try simp
  obtain ⟨s3, hs3⟩ : ∃ s3, s3 = rec j1 s2 := ⟨_, rfl⟩
  have m3 : s2.ms ≤ s3.ms := by rw [hs3]; exact hgr _ _
  obtain ⟨s4, hs4⟩ : ∃ s4, s4 = hereE s2.at_ s3 := ⟨_, rfl⟩
  have m4 : s4.ms = s3.ms + 1 := by rw [hs4, hereE_ms]; try simp
  have hF : (fun s => forkE rec x (kidsOf ts i) s) s = s4 := by
    show forkE rec x (kidsOf ts i) s = s4
    rw [hs4, hs3, hs2, hs1]
    simp [forkE, forkA, forkB, hkk, hop]
  have hmN : s4.ms ≤ 1000000 := by rw [hF] at hm; exact hm
  rw [hF]
  have hn : n = 2 := by have := ho.1; rw [hkk] at this; simpa [intVals] using this.symm
  subst hn
  obtain ⟨g, rfl⟩ : ∃ g, A = some ⟨g, 0, none⟩ := by obtain ⟨_, _, g, e, _⟩ := kid_form (k := 0) (j := j0) ho (by rw [hkk]; rfl); exact ⟨g, e⟩
  have hq0 : (kidsOf ts i)[0]? = some j0 := by rw [hkk]; rfl
  have hmem0 := kid_mem hq0
  have hq1 : (kidsOf ts i)[1]? = some j1 := by rw [hkk]; rfl
  have hmem1 := kid_mem hq1
  have HS1 := Lib.hid hs1
  have HS2 := Lib.hid hs2
  have HS3 := Lib.hid hs3
  have HS4 := Lib.hid hs4
  have HW := Lib.hid hw1
  have F0 := Lib.hid f0
  have KN := Lib.hid kn
  have HB := Lib.hid hb
  have K0 := Lib.hid h
  have HO := Lib.hid ho
  have HR := Lib.hid hr
  have FR0 := Lib.hid (Frm.refl B TE wl0)
  have HO0 := Lib.hid ho0
  have HKL := Lib.hid hkl
  have HGR := Lib.hid hgr
  have HF := Lib.hid hF
  have HKK := Lib.hid hkk
  have bs : s.ms ≤ 1000000 := by omega
  have b1 : s1.ms ≤ 1000000 := by omega
  have b2 : s2.ms ≤ 1000000 := by omega
  have b3 : s3.ms ≤ 1000000 := by omega
  have b4 : s4.ms ≤ 1000000 := by omega
  have c2 : s1.ms + 0 + 2 ≤ 1000000 := by omega
  have e1 : IntKind.u8.wrap x.n = u8 x.n := rfl
  have e2 : IntKind.u8.wrap x.m = u8 x.m := rfl
  have e3 : IntKind.u8.wrap (u8 x.m + 1) = u8 (u8 x.m + 1) := rfl
  clear hw1 f0 kn hb h ho hr hkl hgr hF hb0 h0 ho0 hm hs1 m1 hs2 m2 hs3 m3 hs4 m4 hkk
  have hgw : g < w.heap.size := (HO0.out.lt g rfl).2
  have hz0 : wl0.heap.size = w.heap.size + 1 := by rw [HW.out]; simp
  go_enter Try.func125, Try.ntmps125
  have kc1 : wl0.cell? ⟨g, 0, none⟩ = some (.int .i64 j0) := kid_cell (FR0.out.own HO.out (by decide)) hq0
  have kw1 : w.cell? ⟨g, 0, none⟩ = some (.int .i64 j0) := kid_cell HO0.out hq0
  rw [HW.out] at kc1
  go_wp2_with fail
  rw [← HW.out]
  refine (HR.out j0 hmem0 s wl0 (HB.out.trans FR0.out.below) K0.out (HS1.out ▸ b1)).mono ?_
  rintro e wl1 ⟨rfl, h, f⟩
  rw [← HS1.out] at h
  have K1 := Lib.hid h
  have FR1 := Lib.hid (FR0.out.trans f)
  clear h f
  have nc2_0 : wl1.cell? ⟨w.heap.size, 0, none⟩ = some (.int .i8 13) := by have := (FR1.out.blk KN.out (by decide)).cell 0; exact this
  go_wp2_with fail
  refine (emitAhead_nil B kb tv im tm mb s1 31 wl1 K1.out  c2).mono ?_
  rintro e wl2 ⟨av, rfl, ⟨ga2, gb2, rfl, ka2, kb2⟩, h, f⟩
  have KA2 := Lib.hid ka2
  have KB2 := Lib.hid kb2
  clear ka2 kb2
  rw [← HS2.out] at h
  rw [← HS2.out] at KB2
  have K2 := Lib.hid h
  have FR2 := Lib.hid (FR1.out.trans f)
  clear h f
  have kc3 : wl2.cell? ⟨g, 1, none⟩ = some (.int .i64 j1) := kid_cell (FR2.out.own HO.out (by decide)) hq1
  go_wp2_with fail
  refine (HR.out j1 hmem1 s2 wl2 (HB.out.trans FR2.out.below) K2.out (HS3.out ▸ b3)).mono ?_
  rintro e wl3 ⟨rfl, h, f⟩
  rw [← HS3.out] at h
  have KA2 := Lib.hid (f.blk KA2.out (by decide))
  have KB2 := Lib.hid (f.blk KB2.out (by decide))
  have K3 := Lib.hid h
  have FR3 := Lib.hid (FR2.out.trans f)
  clear h f
  go_wp2_with fail
  refine (emitHere_any B kb tv im tm mb s3 s2.at_ ga2 gb2 wl3 K3.out KA2.out KB2.out b3).mono ?_
  rintro e wl4 ⟨rfl, h, f⟩
  rw [← HS4.out] at h
  have KA2 := Lib.hid (f.blk KA2.out (by decide))
  have KB2 := Lib.hid (f.blk KB2.out (by decide))
  have K4 := Lib.hid h
  have FR4 := Lib.hid (FR3.out.trans f)
  clear h f
  go_wp2_with fail
  refine bodyPost_ret (results_none rfl _ _ _) rfl ?_
  exact ⟨rfl, K4.out, F0.out.trans FR4.out⟩
set_option maxRecDepth 100000 in
set_option maxHeartbeats 1600000 in
theorem w_fork13b (j0 j1 j2 : Nat) (hkk : kidsOf ts i = [j0, j1, j2]) (hop : x.op = 13) : WriterC w0 B kb tv im tm mb ts (fun s => forkE rec x (kidsOf ts i) s) i x 125 #[] := by
  intro s w A n c base hb0 h0 ho0 hm
  obtain ⟨wl0, hw1, hb, h, ho, f0, kn⟩ := wr_start x hb0 h0 ho0
  rw [hop] at hw1 kn
  obtain ⟨s1, hs1⟩ : ∃ s1, s1 = rec j0 s := ⟨_, rfl⟩
  have m1 : s.ms ≤ s1.ms := by rw [hs1]; exact hgr _ _
  obtain ⟨s2, hs2⟩ : ∃ s2, s2 = aheadE 31 [] s1 := ⟨_, rfl⟩
  have m2 : s2.ms = s1.ms + 3 := by rw [hs2, aheadE_ms]; try simp
  obtain ⟨s3, hs3⟩ : ∃ s3, s3 = rec j1 s2 := ⟨_, rfl⟩
  have m3 : s2.ms ≤ s3.ms := by rw [hs3]; exact hgr _ _
  obtain ⟨s4, hs4⟩ : ∃ s4, s4 = aheadE 30 [] s3 := ⟨_, rfl⟩
  have m4 : s4.ms = s3.ms + 3 := by rw [hs4, aheadE_ms]; try simp
  obtain ⟨s5, hs5⟩ : ∃ s5, s5 = hereE s2.at_ s4 := ⟨_, rfl⟩
  have m5 : s5.ms = s4.ms + 1 := by rw [hs5, hereE_ms]; try simp
  obtain ⟨s6, hs6⟩ : ∃ s6, s6 = rec j2 s5 := ⟨_, rfl⟩
  have m6 : s5.ms ≤ s6.ms := by rw [hs6]; exact hgr _ _
  obtain ⟨s7, hs7⟩ : ∃ s7, s7 = hereE s4.at_ s6 := ⟨_, rfl⟩
  have m7 : s7.ms = s6.ms + 1 := by rw [hs7, hereE_ms]; try simp
  have hF : (fun s => forkE rec x (kidsOf ts i) s) s = s7 := by
    show forkE rec x (kidsOf ts i) s = s7
    rw [hs7, hs6, hs5, hs4, hs3, hs2, hs1]
    simp [forkE, forkA, forkB, hkk, hop]
  have hmN : s7.ms ≤ 1000000 := by rw [hF] at hm; exact hm
  rw [hF]
  have hn : n = 3 := by have := ho.1; rw [hkk] at this; simpa [intVals] using this.symm
  subst hn
  obtain ⟨g, rfl⟩ : ∃ g, A = some ⟨g, 0, none⟩ := by obtain ⟨_, _, g, e, _⟩ := kid_form (k := 0) (j := j0) ho (by rw [hkk]; rfl); exact ⟨g, e⟩
  have hq0 : (kidsOf ts i)[0]? = some j0 := by rw [hkk]; rfl
  have hmem0 := kid_mem hq0
  have hq1 : (kidsOf ts i)[1]? = some j1 := by rw [hkk]; rfl
  have hmem1 := kid_mem hq1
  have hq2 : (kidsOf ts i)[2]? = some j2 := by rw [hkk]; rfl
  have hmem2 := kid_mem hq2
  have HS1 := Lib.hid hs1
  have HS2 := Lib.hid hs2
  have HS3 := Lib.hid hs3
  have HS4 := Lib.hid hs4
  have HS5 := Lib.hid hs5
  have HS6 := Lib.hid hs6
  have HS7 := Lib.hid hs7
  have HW := Lib.hid hw1
  have F0 := Lib.hid f0
  have KN := Lib.hid kn
  have HB := Lib.hid hb
  have K0 := Lib.hid h
  have HO := Lib.hid ho
  have HR := Lib.hid hr
  have FR0 := Lib.hid (Frm.refl B TE wl0)
  have HO0 := Lib.hid ho0
  have HKL := Lib.hid hkl
  have HGR := Lib.hid hgr
  have HF := Lib.hid hF
  have HKK := Lib.hid hkk
  have bs : s.ms ≤ 1000000 := by omega
  have b1 : s1.ms ≤ 1000000 := by omega
  have b2 : s2.ms ≤ 1000000 := by omega
  have b3 : s3.ms ≤ 1000000 := by omega
  have b4 : s4.ms ≤ 1000000 := by omega
  have b5 : s5.ms ≤ 1000000 := by omega
  have b6 : s6.ms ≤ 1000000 := by omega
  have b7 : s7.ms ≤ 1000000 := by omega
  have c2 : s1.ms + 0 + 2 ≤ 1000000 := by omega
  have c4 : s3.ms + 0 + 2 ≤ 1000000 := by omega
  have e1 : IntKind.u8.wrap x.n = u8 x.n := rfl
  have e2 : IntKind.u8.wrap x.m = u8 x.m := rfl
  have e3 : IntKind.u8.wrap (u8 x.m + 1) = u8 (u8 x.m + 1) := rfl
  clear hw1 f0 kn hb h ho hr hkl hgr hF hb0 h0 ho0 hm hs1 m1 hs2 m2 hs3 m3 hs4 m4 hs5 m5 hs6 m6 hs7 m7 hkk
  have hgw : g < w.heap.size := (HO0.out.lt g rfl).2
  have hz0 : wl0.heap.size = w.heap.size + 1 := by rw [HW.out]; simp
  go_enter Try.func125, Try.ntmps125
  have kc1 : wl0.cell? ⟨g, 0, none⟩ = some (.int .i64 j0) := kid_cell (FR0.out.own HO.out (by decide)) hq0
  have kw1 : w.cell? ⟨g, 0, none⟩ = some (.int .i64 j0) := kid_cell HO0.out hq0
  rw [HW.out] at kc1
  go_wp2_with fail
  rw [← HW.out]
  refine (HR.out j0 hmem0 s wl0 (HB.out.trans FR0.out.below) K0.out (HS1.out ▸ b1)).mono ?_
  rintro e wl1 ⟨rfl, h, f⟩
  rw [← HS1.out] at h
  have K1 := Lib.hid h
  have FR1 := Lib.hid (FR0.out.trans f)
  clear h f
  have nc2_0 : wl1.cell? ⟨w.heap.size, 0, none⟩ = some (.int .i8 13) := by have := (FR1.out.blk KN.out (by decide)).cell 0; exact this
  go_wp2_with fail
  refine (emitAhead_nil B kb tv im tm mb s1 31 wl1 K1.out  c2).mono ?_
  rintro e wl2 ⟨av, rfl, ⟨ga2, gb2, rfl, ka2, kb2⟩, h, f⟩
  have KA2 := Lib.hid ka2
  have KB2 := Lib.hid kb2
  clear ka2 kb2
  rw [← HS2.out] at h
  rw [← HS2.out] at KB2
  have K2 := Lib.hid h
  have FR2 := Lib.hid (FR1.out.trans f)
  clear h f
  have kc3 : wl2.cell? ⟨g, 1, none⟩ = some (.int .i64 j1) := kid_cell (FR2.out.own HO.out (by decide)) hq1
  go_wp2_with fail
  refine (HR.out j1 hmem1 s2 wl2 (HB.out.trans FR2.out.below) K2.out (HS3.out ▸ b3)).mono ?_
  rintro e wl3 ⟨rfl, h, f⟩
  rw [← HS3.out] at h
  have KA2 := Lib.hid (f.blk KA2.out (by decide))
  have KB2 := Lib.hid (f.blk KB2.out (by decide))
  have K3 := Lib.hid h
  have FR3 := Lib.hid (FR2.out.trans f)
  clear h f
  go_wp2_with fail
  refine (emitAhead_nil B kb tv im tm mb s3 30 wl3 K3.out  c4).mono ?_
  rintro e wl4 ⟨av, rfl, ⟨ga4, gb4, rfl, ka4, kb4⟩, h, f⟩
  have KA4 := Lib.hid ka4
  have KB4 := Lib.hid kb4
  clear ka4 kb4
  rw [← HS4.out] at h
  rw [← HS4.out] at KB4
  have KA2 := Lib.hid (f.blk KA2.out (by decide))
  have KB2 := Lib.hid (f.blk KB2.out (by decide))
  have K4 := Lib.hid h
  have FR4 := Lib.hid (FR3.out.trans f)
  clear h f
  go_wp2_with fail
  refine (emitHere_any B kb tv im tm mb s4 s2.at_ ga2 gb2 wl4 K4.out KA2.out KB2.out b4).mono ?_
  rintro e wl5 ⟨rfl, h, f⟩
  rw [← HS5.out] at h
  have KA2 := Lib.hid (f.blk KA2.out (by decide))
  have KB2 := Lib.hid (f.blk KB2.out (by decide))
  have KA4 := Lib.hid (f.blk KA4.out (by decide))
  have KB4 := Lib.hid (f.blk KB4.out (by decide))
  have K5 := Lib.hid h
  have FR5 := Lib.hid (FR4.out.trans f)
  clear h f
  have kc6 : wl5.cell? ⟨g, 2, none⟩ = some (.int .i64 j2) := kid_cell (FR5.out.own HO.out (by decide)) hq2
  go_wp2_with fail
  refine (HR.out j2 hmem2 s5 wl5 (HB.out.trans FR5.out.below) K5.out (HS6.out ▸ b6)).mono ?_
  rintro e wl6 ⟨rfl, h, f⟩
  rw [← HS6.out] at h
  have KA4 := Lib.hid (f.blk KA4.out (by decide))
  have KB4 := Lib.hid (f.blk KB4.out (by decide))
  have K6 := Lib.hid h
  have FR6 := Lib.hid (FR5.out.trans f)
  clear h f
  go_wp2_with fail
  refine (emitHere_any B kb tv im tm mb s6 s4.at_ ga4 gb4 wl6 K6.out KA4.out KB4.out b6).mono ?_
  rintro e wl7 ⟨rfl, h, f⟩
  rw [← HS7.out] at h
  have KA4 := Lib.hid (f.blk KA4.out (by decide))
  have KB4 := Lib.hid (f.blk KB4.out (by decide))
  have K7 := Lib.hid h
  have FR7 := Lib.hid (FR6.out.trans f)
  clear h f
  go_wp2_with fail
  go_end0
  exact ⟨rfl, K7.out, F0.out.trans FR7.out⟩
set_option maxRecDepth 100000 in
set_option maxHeartbeats 1600000 in
theorem w_fork16a (j0 j1 : Nat) (hkk : kidsOf ts i = [j0, j1]) (hop : x.op = 16) : WriterC w0 B kb tv im tm mb ts (fun s => forkE rec x (kidsOf ts i) s) i x 125 #[] := by
  intro s w A n c base hb0 h0 ho0 hm
  obtain ⟨wl0, hw1, hb, h, ho, f0, kn⟩ := wr_start x hb0 h0 ho0
  rw [hop] at hw1 kn
  obtain ⟨s1, hs1⟩ : ∃ s1, s1 = rec j0 s := ⟨_, rfl⟩
  have m1 : s.ms ≤ s1.ms := by rw [hs1]; exact hgr _ _
  obtain ⟨s2, hs2⟩ : ∃ s2, s2 = aheadE 33 [] s1 := ⟨_, rfl⟩
  have m2 : s2.ms = s1.ms + 3 := by rw [hs2, aheadE_ms]; try simp
  obtain ⟨s3, hs3⟩ : ∃ s3, s3 = opE 5 [u8 x.n] s2 := ⟨_, rfl⟩
  have m3 : s3.ms = s2.ms + 2 := by rw [hs3, opE_ms]; try simp
  obtain ⟨s4, hs4⟩ : ∃ s4, s4 = rec j1 s3 := ⟨_, rfl⟩
  have m4 : s3.ms ≤ s4.ms := by rw [hs4]; exact hgr _ _
  obtain ⟨s5, hs5⟩ : ∃ s5, s5 = hereE s2.at_ s4 := ⟨_, rfl⟩
  have m5 : s5.ms = s4.ms + 1 := by rw [hs5, hereE_ms]; try simp
  have hF : (fun s => forkE rec x (kidsOf ts i) s) s = s5 := by
    show forkE rec x (kidsOf ts i) s = s5
    rw [hs5, hs4, hs3, hs2, hs1]
    simp [forkE, forkA, forkB, hkk, hop]
  have hmN : s5.ms ≤ 1000000 := by rw [hF] at hm; exact hm
  rw [hF]
  have hn : n = 2 := by have := ho.1; rw [hkk] at this; simpa [intVals] using this.symm
  subst hn
  obtain ⟨g, rfl⟩ : ∃ g, A = some ⟨g, 0, none⟩ := by obtain ⟨_, _, g, e, _⟩ := kid_form (k := 0) (j := j0) ho (by rw [hkk]; rfl); exact ⟨g, e⟩
  have hq0 : (kidsOf ts i)[0]? = some j0 := by rw [hkk]; rfl
  have hmem0 := kid_mem hq0
  have hq1 : (kidsOf ts i)[1]? = some j1 := by rw [hkk]; rfl
  have hmem1 := kid_mem hq1
  have HS1 := Lib.hid hs1
  have HS2 := Lib.hid hs2
  have HS3 := Lib.hid hs3
  have HS4 := Lib.hid hs4
  have HS5 := Lib.hid hs5
  have HW := Lib.hid hw1
  have F0 := Lib.hid f0
  have KN := Lib.hid kn
  have HB := Lib.hid hb
  have K0 := Lib.hid h
  have HO := Lib.hid ho
  have HR := Lib.hid hr
  have FR0 := Lib.hid (Frm.refl B TE wl0)
  have HO0 := Lib.hid ho0
  have HKL := Lib.hid hkl
  have HGR := Lib.hid hgr
  have HF := Lib.hid hF
  have HKK := Lib.hid hkk
  have bs : s.ms ≤ 1000000 := by omega
  have b1 : s1.ms ≤ 1000000 := by omega
  have b2 : s2.ms ≤ 1000000 := by omega
  have b3 : s3.ms ≤ 1000000 := by omega
  have b4 : s4.ms ≤ 1000000 := by omega
  have b5 : s5.ms ≤ 1000000 := by omega
  have c2 : s1.ms + 0 + 2 ≤ 1000000 := by omega
  have c3 : s2.ms + 1 ≤ 1000000 := by omega
  have e1 : IntKind.u8.wrap x.n = u8 x.n := rfl
  have e2 : IntKind.u8.wrap x.m = u8 x.m := rfl
  have e3 : IntKind.u8.wrap (u8 x.m + 1) = u8 (u8 x.m + 1) := rfl
  clear hw1 f0 kn hb h ho hr hkl hgr hF hb0 h0 ho0 hm hs1 m1 hs2 m2 hs3 m3 hs4 m4 hs5 m5 hkk
  have hgw : g < w.heap.size := (HO0.out.lt g rfl).2
  have hz0 : wl0.heap.size = w.heap.size + 1 := by rw [HW.out]; simp
  go_enter Try.func125, Try.ntmps125
  have kc1 : wl0.cell? ⟨g, 0, none⟩ = some (.int .i64 j0) := kid_cell (FR0.out.own HO.out (by decide)) hq0
  have kw1 : w.cell? ⟨g, 0, none⟩ = some (.int .i64 j0) := kid_cell HO0.out hq0
  rw [HW.out] at kc1
  go_wp2_with fail
  rw [← HW.out]
  refine (HR.out j0 hmem0 s wl0 (HB.out.trans FR0.out.below) K0.out (HS1.out ▸ b1)).mono ?_
  rintro e wl1 ⟨rfl, h, f⟩
  rw [← HS1.out] at h
  have K1 := Lib.hid h
  have FR1 := Lib.hid (FR0.out.trans f)
  clear h f
  have nc2_0 : wl1.cell? ⟨w.heap.size, 0, none⟩ = some (.int .i8 16) := by have := (FR1.out.blk KN.out (by decide)).cell 0; exact this
  go_wp2_with fail
  refine (emitAhead_nil B kb tv im tm mb s1 33 wl1 K1.out  c2).mono ?_
  rintro e wl2 ⟨av, rfl, ⟨ga2, gb2, rfl, ka2, kb2⟩, h, f⟩
  have KA2 := Lib.hid ka2
  have KB2 := Lib.hid kb2
  clear ka2 kb2
  rw [← HS2.out] at h
  rw [← HS2.out] at KB2
  have K2 := Lib.hid h
  have FR2 := Lib.hid (FR1.out.trans f)
  clear h f
  have nc3_2 : wl2.cell? ⟨w.heap.size, 2, none⟩ = some (.int .i64 x.n) := by have := (FR2.out.blk KN.out (by decide)).cell 2; exact this
  go_wp2_with fail
  refine (emitOp_one B kb tv im tm mb s2 5 wl2 K2.out (u8 x.n) c3).mono ?_
  rintro e wl3 ⟨rfl, h, f⟩
  rw [← HS3.out] at h
  have KA2 := Lib.hid (f.blk KA2.out (by decide))
  have KB2 := Lib.hid (f.blk KB2.out (by decide))
  have K3 := Lib.hid h
  have FR3 := Lib.hid (FR2.out.trans f)
  clear h f
  have kc4 : wl3.cell? ⟨g, 1, none⟩ = some (.int .i64 j1) := kid_cell (FR3.out.own HO.out (by decide)) hq1
  go_wp2_with fail
  refine (HR.out j1 hmem1 s3 wl3 (HB.out.trans FR3.out.below) K3.out (HS4.out ▸ b4)).mono ?_
  rintro e wl4 ⟨rfl, h, f⟩
  rw [← HS4.out] at h
  have KA2 := Lib.hid (f.blk KA2.out (by decide))
  have KB2 := Lib.hid (f.blk KB2.out (by decide))
  have K4 := Lib.hid h
  have FR4 := Lib.hid (FR3.out.trans f)
  clear h f
  go_wp2_with fail
  refine (emitHere_any B kb tv im tm mb s4 s2.at_ ga2 gb2 wl4 K4.out KA2.out KB2.out b4).mono ?_
  rintro e wl5 ⟨rfl, h, f⟩
  rw [← HS5.out] at h
  have KA2 := Lib.hid (f.blk KA2.out (by decide))
  have KB2 := Lib.hid (f.blk KB2.out (by decide))
  have K5 := Lib.hid h
  have FR5 := Lib.hid (FR4.out.trans f)
  clear h f
  go_wp2_with fail
  refine bodyPost_ret (results_none rfl _ _ _) rfl ?_
  exact ⟨rfl, K5.out, F0.out.trans FR5.out⟩
set_option maxRecDepth 100000 in
set_option maxHeartbeats 1600000 in
theorem w_fork16b (j0 j1 j2 : Nat) (hkk : kidsOf ts i = [j0, j1, j2]) (hop : x.op = 16) : WriterC w0 B kb tv im tm mb ts (fun s => forkE rec x (kidsOf ts i) s) i x 125 #[] := by
  intro s w A n c base hb0 h0 ho0 hm
  obtain ⟨wl0, hw1, hb, h, ho, f0, kn⟩ := wr_start x hb0 h0 ho0
  rw [hop] at hw1 kn
  obtain ⟨s1, hs1⟩ : ∃ s1, s1 = rec j0 s := ⟨_, rfl⟩
  have m1 : s.ms ≤ s1.ms := by rw [hs1]; exact hgr _ _
  obtain ⟨s2, hs2⟩ : ∃ s2, s2 = aheadE 33 [] s1 := ⟨_, rfl⟩
  have m2 : s2.ms = s1.ms + 3 := by rw [hs2, aheadE_ms]; try simp
  obtain ⟨s3, hs3⟩ : ∃ s3, s3 = opE 5 [u8 x.n] s2 := ⟨_, rfl⟩
  have m3 : s3.ms = s2.ms + 2 := by rw [hs3, opE_ms]; try simp
  obtain ⟨s4, hs4⟩ : ∃ s4, s4 = rec j1 s3 := ⟨_, rfl⟩
  have m4 : s3.ms ≤ s4.ms := by rw [hs4]; exact hgr _ _
  obtain ⟨s5, hs5⟩ : ∃ s5, s5 = aheadE 30 [] s4 := ⟨_, rfl⟩
  have m5 : s5.ms = s4.ms + 3 := by rw [hs5, aheadE_ms]; try simp
  obtain ⟨s6, hs6⟩ : ∃ s6, s6 = hereE s2.at_ s5 := ⟨_, rfl⟩
  have m6 : s6.ms = s5.ms + 1 := by rw [hs6, hereE_ms]; try simp
  obtain ⟨s7, hs7⟩ : ∃ s7, s7 = rec j2 s6 := ⟨_, rfl⟩
  have m7 : s6.ms ≤ s7.ms := by rw [hs7]; exact hgr _ _
  obtain ⟨s8, hs8⟩ : ∃ s8, s8 = hereE s5.at_ s7 := ⟨_, rfl⟩
  have m8 : s8.ms = s7.ms + 1 := by rw [hs8, hereE_ms]; try simp
  have hF : (fun s => forkE rec x (kidsOf ts i) s) s = s8 := by
    show forkE rec x (kidsOf ts i) s = s8
    rw [hs8, hs7, hs6, hs5, hs4, hs3, hs2, hs1]
    simp [forkE, forkA, forkB, hkk, hop]
  have hmN : s8.ms ≤ 1000000 := by rw [hF] at hm; exact hm
  rw [hF]
  have hn : n = 3 := by have := ho.1; rw [hkk] at this; simpa [intVals] using this.symm
  subst hn
  obtain ⟨g, rfl⟩ : ∃ g, A = some ⟨g, 0, none⟩ := by obtain ⟨_, _, g, e, _⟩ := kid_form (k := 0) (j := j0) ho (by rw [hkk]; rfl); exact ⟨g, e⟩
  have hq0 : (kidsOf ts i)[0]? = some j0 := by rw [hkk]; rfl
  have hmem0 := kid_mem hq0
  have hq1 : (kidsOf ts i)[1]? = some j1 := by rw [hkk]; rfl
  have hmem1 := kid_mem hq1
  have hq2 : (kidsOf ts i)[2]? = some j2 := by rw [hkk]; rfl
  have hmem2 := kid_mem hq2
  have HS1 := Lib.hid hs1
  have HS2 := Lib.hid hs2
  have HS3 := Lib.hid hs3
  have HS4 := Lib.hid hs4
  have HS5 := Lib.hid hs5
  have HS6 := Lib.hid hs6
  have HS7 := Lib.hid hs7
  have HS8 := Lib.hid hs8
  have HW := Lib.hid hw1
  have F0 := Lib.hid f0
  have KN := Lib.hid kn
  have HB := Lib.hid hb
  have K0 := Lib.hid h
  have HO := Lib.hid ho
  have HR := Lib.hid hr
  have FR0 := Lib.hid (Frm.refl B TE wl0)
  have HO0 := Lib.hid ho0
  have HKL := Lib.hid hkl
  have HGR := Lib.hid hgr
  have HF := Lib.hid hF
  have HKK := Lib.hid hkk
  have bs : s.ms ≤ 1000000 := by omega
  have b1 : s1.ms ≤ 1000000 := by omega
  have b2 : s2.ms ≤ 1000000 := by omega
  have b3 : s3.ms ≤ 1000000 := by omega
  have b4 : s4.ms ≤ 1000000 := by omega
  have b5 : s5.ms ≤ 1000000 := by omega
  have b6 : s6.ms ≤ 1000000 := by omega
  have b7 : s7.ms ≤ 1000000 := by omega
  have b8 : s8.ms ≤ 1000000 := by omega
  have c2 : s1.ms + 0 + 2 ≤ 1000000 := by omega
  have c3 : s2.ms + 1 ≤ 1000000 := by omega
  have c5 : s4.ms + 0 + 2 ≤ 1000000 := by omega
  have e1 : IntKind.u8.wrap x.n = u8 x.n := rfl
  have e2 : IntKind.u8.wrap x.m = u8 x.m := rfl
  have e3 : IntKind.u8.wrap (u8 x.m + 1) = u8 (u8 x.m + 1) := rfl
  clear hw1 f0 kn hb h ho hr hkl hgr hF hb0 h0 ho0 hm hs1 m1 hs2 m2 hs3 m3 hs4 m4 hs5 m5 hs6 m6 hs7 m7 hs8 m8 hkk
  have hgw : g < w.heap.size := (HO0.out.lt g rfl).2
  have hz0 : wl0.heap.size = w.heap.size + 1 := by rw [HW.out]; simp
  go_enter Try.func125, Try.ntmps125
  have kc1 : wl0.cell? ⟨g, 0, none⟩ = some (.int .i64 j0) := kid_cell (FR0.out.own HO.out (by decide)) hq0
  have kw1 : w.cell? ⟨g, 0, none⟩ = some (.int .i64 j0) := kid_cell HO0.out hq0
  rw [HW.out] at kc1
  go_wp2_with fail
  rw [← HW.out]
  refine (HR.out j0 hmem0 s wl0 (HB.out.trans FR0.out.below) K0.out (HS1.out ▸ b1)).mono ?_
  rintro e wl1 ⟨rfl, h, f⟩
  rw [← HS1.out] at h
  have K1 := Lib.hid h
  have FR1 := Lib.hid (FR0.out.trans f)
  clear h f
  have nc2_0 : wl1.cell? ⟨w.heap.size, 0, none⟩ = some (.int .i8 16) := by have := (FR1.out.blk KN.out (by decide)).cell 0; exact this
  go_wp2_with fail
  refine (emitAhead_nil B kb tv im tm mb s1 33 wl1 K1.out  c2).mono ?_
  rintro e wl2 ⟨av, rfl, ⟨ga2, gb2, rfl, ka2, kb2⟩, h, f⟩
  have KA2 := Lib.hid ka2
  have KB2 := Lib.hid kb2
  clear ka2 kb2
  rw [← HS2.out] at h
  rw [← HS2.out] at KB2
  have K2 := Lib.hid h
  have FR2 := Lib.hid (FR1.out.trans f)
  clear h f
  have nc3_2 : wl2.cell? ⟨w.heap.size, 2, none⟩ = some (.int .i64 x.n) := by have := (FR2.out.blk KN.out (by decide)).cell 2; exact this
  go_wp2_with fail
  refine (emitOp_one B kb tv im tm mb s2 5 wl2 K2.out (u8 x.n) c3).mono ?_
  rintro e wl3 ⟨rfl, h, f⟩
  rw [← HS3.out] at h
  have KA2 := Lib.hid (f.blk KA2.out (by decide))
  have KB2 := Lib.hid (f.blk KB2.out (by decide))
  have K3 := Lib.hid h
  have FR3 := Lib.hid (FR2.out.trans f)
  clear h f
  have kc4 : wl3.cell? ⟨g, 1, none⟩ = some (.int .i64 j1) := kid_cell (FR3.out.own HO.out (by decide)) hq1
  go_wp2_with fail
  refine (HR.out j1 hmem1 s3 wl3 (HB.out.trans FR3.out.below) K3.out (HS4.out ▸ b4)).mono ?_
  rintro e wl4 ⟨rfl, h, f⟩
  rw [← HS4.out] at h
  have KA2 := Lib.hid (f.blk KA2.out (by decide))
  have KB2 := Lib.hid (f.blk KB2.out (by decide))
  have K4 := Lib.hid h
  have FR4 := Lib.hid (FR3.out.trans f)
  clear h f
  go_wp2_with fail
  refine (emitAhead_nil B kb tv im tm mb s4 30 wl4 K4.out  c5).mono ?_
  rintro e wl5 ⟨av, rfl, ⟨ga5, gb5, rfl, ka5, kb5⟩, h, f⟩
  have KA5 := Lib.hid ka5
  have KB5 := Lib.hid kb5
  clear ka5 kb5
  rw [← HS5.out] at h
  rw [← HS5.out] at KB5
  have KA2 := Lib.hid (f.blk KA2.out (by decide))
  have KB2 := Lib.hid (f.blk KB2.out (by decide))
  have K5 := Lib.hid h
  have FR5 := Lib.hid (FR4.out.trans f)
  clear h f
  go_wp2_with fail
  refine (emitHere_any B kb tv im tm mb s5 s2.at_ ga2 gb2 wl5 K5.out KA2.out KB2.out b5).mono ?_
  rintro e wl6 ⟨rfl, h, f⟩
  rw [← HS6.out] at h
  have KA2 := Lib.hid (f.blk KA2.out (by decide))
  have KB2 := Lib.hid (f.blk KB2.out (by decide))
  have KA5 := Lib.hid (f.blk KA5.out (by decide))
  have KB5 := Lib.hid (f.blk KB5.out (by decide))
  have K6 := Lib.hid h
  have FR6 := Lib.hid (FR5.out.trans f)
  clear h f
  have kc7 : wl6.cell? ⟨g, 2, none⟩ = some (.int .i64 j2) := kid_cell (FR6.out.own HO.out (by decide)) hq2
  go_wp2_with fail
  refine (HR.out j2 hmem2 s6 wl6 (HB.out.trans FR6.out.below) K6.out (HS7.out ▸ b7)).mono ?_
  rintro e wl7 ⟨rfl, h, f⟩
  rw [← HS7.out] at h
  have KA5 := Lib.hid (f.blk KA5.out (by decide))
  have KB5 := Lib.hid (f.blk KB5.out (by decide))
  have K7 := Lib.hid h
  have FR7 := Lib.hid (FR6.out.trans f)
  clear h f
  go_wp2_with fail
  refine (emitHere_any B kb tv im tm mb s7 s5.at_ ga5 gb5 wl7 K7.out KA5.out KB5.out b7).mono ?_
  rintro e wl8 ⟨rfl, h, f⟩
  rw [← HS8.out] at h
  have KA5 := Lib.hid (f.blk KA5.out (by decide))
  have KB5 := Lib.hid (f.blk KB5.out (by decide))
  have K8 := Lib.hid h
  have FR8 := Lib.hid (FR7.out.trans f)
  clear h f
  go_wp2_with fail
  go_end0
  exact ⟨rfl, K8.out, F0.out.trans FR8.out⟩
end
end Go.Proofs.Ytggibiodeecljaa
