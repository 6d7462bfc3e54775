/- emit's writers (printed by gen_emitw.py). -/
import Derived.Test.YtggibiodeecljaaMEmit5
namespace Go.Proofs.Ytggibiodeecljaa
open Go.RowKit
set_option linter.unusedVariables false

section
variable (w0 : World) (B kb : Nat) (tv im tm mb : Value) (ts : List Node) (rec : Nat → MS → MS) (hgr : Grow rec) (i : Nat) (x : Node) (hr : ∀ j ∈ kidsOf ts i, NodeC w0 B kb tv im tm mb rec j) (hkl : (kidsOf ts i).length ≤ 100000)
include hgr hr hkl
omit hr in
set_option maxRecDepth 100000 in
set_option maxHeartbeats 1600000 in
theorem w_call1 (j0 j1 : Nat) (hkk : kidsOf ts i = [j0, j1]) (hr0 : NodeC w0 B kb tv im tm mb rec j0) (pt : ByteArray → Option Int) (hxn : x.n = 1) (tb toff cap : Nat) (htv : tv = .slice (some ⟨tb, toff, none⟩) ts.length cap) (htb : tb < B) (hn0 : NodesAt w0 tb toff ts) (y : Node) (hy : ts[j1]? = some y) : WriterC w0 B kb tv im tm mb ts (fun s => callE pt ts rec x (kidsOf ts i) s) i x 124 #[] := by
  intro s w A n c base hb0 h0 ho0 hm
  obtain ⟨wl0, hw1, hb, h, ho, f0, kn⟩ := wr_start x hb0 h0 ho0
  rw [hxn] at hw1 kn
  obtain ⟨s1, hs1⟩ : ∃ s1, s1 = rec j0 s := ⟨_, rfl⟩
  have m1 : s.ms ≤ s1.ms := by rw [hs1]; exact hgr _ _
  obtain ⟨s2, hs2⟩ : ∃ s2, s2 = opE 41 [u8 y.n] s1 := ⟨_, rfl⟩
  have m2 : s2.ms = s1.ms + 2 := by rw [hs2, opE_ms]; try simp
  have hF : (fun s => callE pt ts rec x (kidsOf ts i) s) s = s2 := by
    show callE pt ts rec x (kidsOf ts i) s = s2
    rw [hs2, hs1]
    simp [callE, hxn, hkk, hy]
  have hmN : s2.ms ≤ 1000000 := by rw [hF] at hm; exact hm
  rw [hF]
  have hn : n = 2 := by have := ho.1; rw [hkk] at this; simpa [intVals] using this.symm
  subst hn
  obtain ⟨g, rfl⟩ : ∃ g, A = some ⟨g, 0, none⟩ := by obtain ⟨_, _, g, e, _⟩ := kid_form (k := 0) (j := j0) ho (by rw [hkk]; rfl); exact ⟨g, e⟩
  have hq0 : (kidsOf ts i)[0]? = some j0 := by rw [hkk]; rfl
  have hmem0 := kid_mem hq0
  have hq1 : (kidsOf ts i)[1]? = some j1 := by rw [hkk]; rfl
  have hmem1 := kid_mem hq1
  have hjl : j1 < ts.length := (List.getElem?_eq_some_iff.1 hy).1
  have HY := Lib.hid hy
  have HN0 := Lib.hid hn0
  have hji : (j1 : Int) < ts.length := by omega
  have ey : IntKind.u8.wrap y.n = u8 y.n := rfl
  have HTV := Lib.hid htv
  clear hy hn0 htv
  have HS1 := Lib.hid hs1
  have HS2 := Lib.hid hs2
  have HW := Lib.hid hw1
  have F0 := Lib.hid f0
  have KN := Lib.hid kn
  have HB := Lib.hid hb
  have K0 := Lib.hid h
  have HO := Lib.hid ho
  have HR := Lib.hid hr0
  have FR0 := Lib.hid (Frm.refl B TE wl0)
  have HO0 := Lib.hid ho0
  have HKL := Lib.hid hkl
  have HGR := Lib.hid hgr
  have HF := Lib.hid hF
  have HKK := Lib.hid hkk
  have bs : s.ms ≤ 1000000 := by omega
  have b1 : s1.ms ≤ 1000000 := by omega
  have b2 : s2.ms ≤ 1000000 := by omega
  have c2 : s1.ms + 1 ≤ 1000000 := by omega
  have e1 : IntKind.u8.wrap x.n = u8 x.n := rfl
  have e2 : IntKind.u8.wrap x.m = u8 x.m := rfl
  have e3 : IntKind.u8.wrap (u8 x.m + 1) = u8 (u8 x.m + 1) := rfl
  clear hw1 f0 kn hb h ho hr0 hkl hgr hF hb0 h0 ho0 hm hs1 m1 hs2 m2 hkk
  have hgw : g < w.heap.size := (HO0.out.lt g rfl).2
  have hz0 : wl0.heap.size = w.heap.size + 1 := by rw [HW.out]; simp
  go_enter Try.func124, Try.ntmps124
  have nc1_2 : wl0.cell? ⟨w.heap.size, 2, none⟩ = some (.int .i64 1) := by have := (FR0.out.blk KN.out (by decide)).cell 2; exact this
  have kc1 : wl0.cell? ⟨g, 0, none⟩ = some (.int .i64 j0) := kid_cell (FR0.out.own HO.out (by decide)) hq0
  have kw1 : w.cell? ⟨g, 0, none⟩ = some (.int .i64 j0) := kid_cell HO0.out hq0
  rw [HW.out] at kc1
  go_wp2_with fail
  rw [← HW.out]
  refine (HR.out s wl0 (HB.out.trans FR0.out.below) K0.out (HS1.out ▸ b1)).mono ?_
  rintro e wl1 ⟨rfl, h, f⟩
  rw [← HS1.out] at h
  have K1 := Lib.hid h
  have FR1 := Lib.hid (FR0.out.trans f)
  clear h f
  have nc2_2 : wl1.cell? ⟨w.heap.size, 2, none⟩ = some (.int .i64 1) := by have := (FR1.out.blk KN.out (by decide)).cell 2; exact this
  go_wp2_with fail
  have hS : ∀ (wx : World) (sx : MS), EK wx B kb tv im tm mb sx → Frm B TE wl0 wx → (wx.cell? ⟨kb, 0, none⟩ = some (.slice (some ⟨tb, toff, none⟩) ts.length cap) ∧ wx.cell? ⟨g, 1, none⟩ = some (.int .i64 j1) ∧ wx.cell? ⟨tb, toff + j1 * 7 + 2, none⟩ = some (.int .i64 y.n)) := by
    intro wx sx hk hf
    refine ⟨by have := hk.cells.1; rw [HTV.out] at this; exact this, kid_cell (hf.own HO.out (by decide)) hq1, ?_⟩
    exact ((HN0.out.below (HB.out.trans hf.below) htb).all HY.out).2.2.1
  have hsA := hS wl1.drew s1 K1.out.drew FR1.out.drew
  have hsz : B ≤ wl1.drew.heap.size := by have := K1.out.size; show B ≤ wl1.heap.size; omega
  have hsB := hS (wl1.drew.alloc (.cells #[.int .u8 (u8 y.n)] 5)) s1 (K1.out.drew.alloc _) (FR1.out.drew.alloc hsz _)
  go_region_held3 (fun wx => wx.cell? ⟨kb, 0, none⟩ = some (.slice (some ⟨tb, toff, none⟩) ts.length cap) ∧ wx.cell? ⟨g, 1, none⟩ = some (.int .i64 j1) ∧ wx.cell? ⟨tb, toff + j1 * 7 + 2, none⟩ = some (.int .i64 y.n)) (first | exact hsA | exact hsB | exact hsC) ((first | (go_at_call 84; refine (emitOp_one B kb tv im tm mb s1 41 wl1.drew K1.out.drew (u8 y.n) c2).mono ?_; rintro e wl2 ⟨rfl, h, f0⟩; have f := (Frm.refl B TE wl1).drew.trans f0; have hsC := hS wl2 _ h (FR1.out.trans f))))
  rw [← HS2.out] at h
  have K2 := Lib.hid h
  have FR2 := Lib.hid (FR1.out.trans f)
  clear h f
  go_wp2_with fail
  go_end0
  exact ⟨rfl, K2.out, F0.out.trans FR2.out⟩
set_option maxRecDepth 100000 in
set_option maxHeartbeats 1600000 in
theorem w_equal38 (j0 j1 : Nat) (hkk : kidsOf ts i = [j0, j1]) (hop : x.op = 38) (tb toff cap : Nat) (htv : tv = .slice (some ⟨tb, toff, none⟩) ts.length cap) (htb : tb < B) (hn0 : NodesAt w0 tb toff ts) (y : Node) (hy : ts[j0]? = some y) : WriterC w0 B kb tv im tm mb ts (fun s => equalE ts rec x (kidsOf ts i) s) i x 123 #[] := by
  intro s w A n c base hb0 h0 ho0 hm
  obtain ⟨wl0, hw1, hb, h, ho, f0, kn⟩ := wr_start x hb0 h0 ho0
  rw [hop] at hw1 kn
  obtain ⟨s1, hs1⟩ : ∃ s1, s1 = allE rec (kidsOf ts i) s := ⟨_, rfl⟩
  have m1 : s.ms ≤ s1.ms := by rw [hs1]; exact allE_ms hgr _ _
  obtain ⟨s2, hs2⟩ : ∃ s2, s2 = opE 24 [u8 y.kind] s1 := ⟨_, rfl⟩
  have m2 : s2.ms = s1.ms + 2 := by rw [hs2, opE_ms]; try simp
  have hF : (fun s => equalE ts rec x (kidsOf ts i) s) s = s2 := by
    show equalE ts rec x (kidsOf ts i) s = s2
    rw [hs2, hs1]
    simp [equalE, hop, hkk, hy]
  have hmN : s2.ms ≤ 1000000 := by rw [hF] at hm; exact hm
  rw [hF]
  have hn : n = 2 := by have := ho.1; rw [hkk] at this; simpa [intVals] using this.symm
  subst hn
  obtain ⟨g, rfl⟩ : ∃ g, A = some ⟨g, 0, none⟩ := by obtain ⟨_, _, g, e, _⟩ := kid_form (k := 0) (j := j0) ho (by rw [hkk]; rfl); exact ⟨g, e⟩
  have hq0 : (kidsOf ts i)[0]? = some j0 := by rw [hkk]; rfl
  have hmem0 := kid_mem hq0
  have hq1 : (kidsOf ts i)[1]? = some j1 := by rw [hkk]; rfl
  have hmem1 := kid_mem hq1
  have hjl : j0 < ts.length := (List.getElem?_eq_some_iff.1 hy).1
  have HY := Lib.hid hy
  have HN0 := Lib.hid hn0
  have hji : (j0 : Int) < ts.length := by omega
  have ey : IntKind.u8.wrap y.kind = u8 y.kind := rfl
  have HTV := Lib.hid htv
  clear hy hn0 htv
  have HS1 := Lib.hid hs1
  have HS2 := Lib.hid hs2
  have HW := Lib.hid hw1
  have F0 := Lib.hid f0
  have KN := Lib.hid kn
  have HB := Lib.hid hb
  have K0 := Lib.hid h
  have HO := Lib.hid ho
  have HR := Lib.hid hr
  have FR0 := Lib.hid (Frm.refl B TE wl0)
  have HO0 := Lib.hid ho0
  have HKL := Lib.hid hkl
  have HGR := Lib.hid hgr
  have HF := Lib.hid hF
  have HKK := Lib.hid hkk
  have bs : s.ms ≤ 1000000 := by omega
  have b1 : s1.ms ≤ 1000000 := by omega
  have b2 : s2.ms ≤ 1000000 := by omega
  have c2 : s1.ms + 1 ≤ 1000000 := by omega
  have e1 : IntKind.u8.wrap x.n = u8 x.n := rfl
  have e2 : IntKind.u8.wrap x.m = u8 x.m := rfl
  have e3 : IntKind.u8.wrap (u8 x.m + 1) = u8 (u8 x.m + 1) := rfl
  clear hw1 f0 kn hb h ho hr hkl hgr hF hb0 h0 ho0 hm hs1 m1 hs2 m2 hkk
  have hgw : g < w.heap.size := (HO0.out.lt g rfl).2
  have hz0 : wl0.heap.size = w.heap.size + 1 := by rw [HW.out]; simp
  go_enter Try.func123, Try.ntmps123
  have nc1_0 : wl0.cell? ⟨w.heap.size, 0, none⟩ = some (.int .i8 38) := by have := (FR0.out.blk KN.out (by decide)).cell 0; exact this
  go_wp2_with fail
  rw [← HW.out]
  refine (emitNodes_any w0 B kb tv im tm mb rec HGR.out (kidsOf ts i) _ _ _ base s wl0 HR.out (HB.out.trans FR0.out.below) K0.out (HS1.out ▸ b1) HKL.out (FR0.out.own HO.out (by decide))).mono ?_
  rintro e wl1 ⟨rfl, h, f⟩
  rw [← HS1.out] at h
  have K1 := Lib.hid h
  have FR1 := Lib.hid (FR0.out.trans f)
  clear h f
  have nc2_0 : wl1.cell? ⟨w.heap.size, 0, none⟩ = some (.int .i8 38) := by have := (FR1.out.blk KN.out (by decide)).cell 0; exact this
  go_wp2_with fail
  have hS : ∀ (wx : World) (sx : MS), EK wx B kb tv im tm mb sx → Frm B TE wl0 wx → (wx.cell? ⟨kb, 0, none⟩ = some (.slice (some ⟨tb, toff, none⟩) ts.length cap) ∧ wx.cell? ⟨g, 0, none⟩ = some (.int .i64 j0) ∧ wx.cell? ⟨tb, toff + j0 * 7 + 1, none⟩ = some (.int .i8 y.kind)) := by
    intro wx sx hk hf
    refine ⟨by have := hk.cells.1; rw [HTV.out] at this; exact this, kid_cell (hf.own HO.out (by decide)) hq0, ?_⟩
    exact ((HN0.out.below (HB.out.trans hf.below) htb).all HY.out).2.1
  have hsA := hS wl1.drew s1 K1.out.drew FR1.out.drew
  have hsz : B ≤ wl1.drew.heap.size := by have := K1.out.size; show B ≤ wl1.heap.size; omega
  have hsB := hS (wl1.drew.alloc (.cells #[.int .u8 (u8 y.kind)] 5)) s1 (K1.out.drew.alloc _) (FR1.out.drew.alloc hsz _)
  go_region_held3 (fun wx => wx.cell? ⟨kb, 0, none⟩ = some (.slice (some ⟨tb, toff, none⟩) ts.length cap) ∧ wx.cell? ⟨g, 0, none⟩ = some (.int .i64 j0) ∧ wx.cell? ⟨tb, toff + j0 * 7 + 1, none⟩ = some (.int .i8 y.kind)) (first | exact hsA | exact hsB | exact hsC) ((first | (go_at_call 84; refine (emitOp_one B kb tv im tm mb s1 24 wl1.drew K1.out.drew (u8 y.kind) c2).mono ?_; rintro e wl2 ⟨rfl, h, f0⟩; have f := (Frm.refl B TE wl1).drew.trans f0; have hsC := hS wl2 _ h (FR1.out.trans f))))
  rw [← HS2.out] at h
  have K2 := Lib.hid h
  have FR2 := Lib.hid (FR1.out.trans f)
  clear h f
  have ncL_0 : wl2.cell? ⟨w.heap.size, 0, none⟩ = some (.int .i8 38) := by have := (FR2.out.blk KN.out (by decide)).cell 0; exact this
  go_wp2_with fail
  go_end0
  exact ⟨rfl, K2.out, F0.out.trans FR2.out⟩
set_option maxRecDepth 100000 in
set_option maxHeartbeats 1600000 in
theorem w_equal39 (j0 j1 : Nat) (hkk : kidsOf ts i = [j0, j1]) (hop : x.op = 39) (tb toff cap : Nat) (htv : tv = .slice (some ⟨tb, toff, none⟩) ts.length cap) (htb : tb < B) (hn0 : NodesAt w0 tb toff ts) (y : Node) (hy : ts[j0]? = some y) : WriterC w0 B kb tv im tm mb ts (fun s => equalE ts rec x (kidsOf ts i) s) i x 123 #[] := by
  intro s w A n c base hb0 h0 ho0 hm
  obtain ⟨wl0, hw1, hb, h, ho, f0, kn⟩ := wr_start x hb0 h0 ho0
  rw [hop] at hw1 kn
  obtain ⟨s1, hs1⟩ : ∃ s1, s1 = allE rec (kidsOf ts i) s := ⟨_, rfl⟩
  have m1 : s.ms ≤ s1.ms := by rw [hs1]; exact allE_ms hgr _ _
  obtain ⟨s2, hs2⟩ : ∃ s2, s2 = opE 24 [u8 y.kind] s1 := ⟨_, rfl⟩
  have m2 : s2.ms = s1.ms + 2 := by rw [hs2, opE_ms]; try simp
  obtain ⟨s3, hs3⟩ : ∃ s3, s3 = opE 23 [] s2 := ⟨_, rfl⟩
  have m3 : s3.ms = s2.ms + 1 := by rw [hs3, opE_ms]; try simp
  have hF : (fun s => equalE ts rec x (kidsOf ts i) s) s = s3 := by
    show equalE ts rec x (kidsOf ts i) s = s3
    rw [hs3, hs2, hs1]
    simp [equalE, hop, hkk, hy]
  have hmN : s3.ms ≤ 1000000 := by rw [hF] at hm; exact hm
  rw [hF]
  have hn : n = 2 := by have := ho.1; rw [hkk] at this; simpa [intVals] using this.symm
  subst hn
  obtain ⟨g, rfl⟩ : ∃ g, A = some ⟨g, 0, none⟩ := by obtain ⟨_, _, g, e, _⟩ := kid_form (k := 0) (j := j0) ho (by rw [hkk]; rfl); exact ⟨g, e⟩
  have hq0 : (kidsOf ts i)[0]? = some j0 := by rw [hkk]; rfl
  have hmem0 := kid_mem hq0
  have hq1 : (kidsOf ts i)[1]? = some j1 := by rw [hkk]; rfl
  have hmem1 := kid_mem hq1
  have hjl : j0 < ts.length := (List.getElem?_eq_some_iff.1 hy).1
  have HY := Lib.hid hy
  have HN0 := Lib.hid hn0
  have hji : (j0 : Int) < ts.length := by omega
  have ey : IntKind.u8.wrap y.kind = u8 y.kind := rfl
  have HTV := Lib.hid htv
  clear hy hn0 htv
  have HS1 := Lib.hid hs1
  have HS2 := Lib.hid hs2
  have HS3 := Lib.hid hs3
  have HW := Lib.hid hw1
  have F0 := Lib.hid f0
  have KN := Lib.hid kn
  have HB := Lib.hid hb
  have K0 := Lib.hid h
  have HO := Lib.hid ho
  have HR := Lib.hid hr
  have FR0 := Lib.hid (Frm.refl B TE wl0)
  have HO0 := Lib.hid ho0
  have HKL := Lib.hid hkl
  have HGR := Lib.hid hgr
  have HF := Lib.hid hF
  have HKK := Lib.hid hkk
  have bs : s.ms ≤ 1000000 := by omega
  have b1 : s1.ms ≤ 1000000 := by omega
  have b2 : s2.ms ≤ 1000000 := by omega
  have b3 : s3.ms ≤ 1000000 := by omega
  have c2 : s1.ms + 1 ≤ 1000000 := by omega
  have c3 : s2.ms + 0 ≤ 1000000 := by omega
  have e1 : IntKind.u8.wrap x.n = u8 x.n := rfl
  have e2 : IntKind.u8.wrap x.m = u8 x.m := rfl
  have e3 : IntKind.u8.wrap (u8 x.m + 1) = u8 (u8 x.m + 1) := rfl
  clear hw1 f0 kn hb h ho hr hkl hgr hF hb0 h0 ho0 hm hs1 m1 hs2 m2 hs3 m3 hkk
  have hgw : g < w.heap.size := (HO0.out.lt g rfl).2
  have hz0 : wl0.heap.size = w.heap.size + 1 := by rw [HW.out]; simp
  go_enter Try.func123, Try.ntmps123
  have nc1_0 : wl0.cell? ⟨w.heap.size, 0, none⟩ = some (.int .i8 39) := by have := (FR0.out.blk KN.out (by decide)).cell 0; exact this
  go_wp2_with fail
  rw [← HW.out]
  refine (emitNodes_any w0 B kb tv im tm mb rec HGR.out (kidsOf ts i) _ _ _ base s wl0 HR.out (HB.out.trans FR0.out.below) K0.out (HS1.out ▸ b1) HKL.out (FR0.out.own HO.out (by decide))).mono ?_
  rintro e wl1 ⟨rfl, h, f⟩
  rw [← HS1.out] at h
  have K1 := Lib.hid h
  have FR1 := Lib.hid (FR0.out.trans f)
  clear h f
  have nc2_0 : wl1.cell? ⟨w.heap.size, 0, none⟩ = some (.int .i8 39) := by have := (FR1.out.blk KN.out (by decide)).cell 0; exact this
  go_wp2_with fail
  have hS : ∀ (wx : World) (sx : MS), EK wx B kb tv im tm mb sx → Frm B TE wl0 wx → (wx.cell? ⟨kb, 0, none⟩ = some (.slice (some ⟨tb, toff, none⟩) ts.length cap) ∧ wx.cell? ⟨g, 0, none⟩ = some (.int .i64 j0) ∧ wx.cell? ⟨tb, toff + j0 * 7 + 1, none⟩ = some (.int .i8 y.kind)) := by
    intro wx sx hk hf
    refine ⟨by have := hk.cells.1; rw [HTV.out] at this; exact this, kid_cell (hf.own HO.out (by decide)) hq0, ?_⟩
    exact ((HN0.out.below (HB.out.trans hf.below) htb).all HY.out).2.1
  have hsA := hS wl1.drew s1 K1.out.drew FR1.out.drew
  have hsz : B ≤ wl1.drew.heap.size := by have := K1.out.size; show B ≤ wl1.heap.size; omega
  have hsB := hS (wl1.drew.alloc (.cells #[.int .u8 (u8 y.kind)] 5)) s1 (K1.out.drew.alloc _) (FR1.out.drew.alloc hsz _)
  go_region_held3 (fun wx => wx.cell? ⟨kb, 0, none⟩ = some (.slice (some ⟨tb, toff, none⟩) ts.length cap) ∧ wx.cell? ⟨g, 0, none⟩ = some (.int .i64 j0) ∧ wx.cell? ⟨tb, toff + j0 * 7 + 1, none⟩ = some (.int .i8 y.kind)) (first | exact hsA | exact hsB | exact hsC) ((first | (go_at_call 84; refine (emitOp_one B kb tv im tm mb s1 24 wl1.drew K1.out.drew (u8 y.kind) c2).mono ?_; rintro e wl2 ⟨rfl, h, f0⟩; have f := (Frm.refl B TE wl1).drew.trans f0; have hsC := hS wl2 _ h (FR1.out.trans f))))
  rw [← HS2.out] at h
  have K2 := Lib.hid h
  have FR2 := Lib.hid (FR1.out.trans f)
  clear h f
  have nc3_0 : wl2.cell? ⟨w.heap.size, 0, none⟩ = some (.int .i8 39) := by have := (FR2.out.blk KN.out (by decide)).cell 0; exact this
  go_wp2_with fail
  refine (emitOp_nil B kb tv im tm mb s2 23 wl2 K2.out  c3).mono ?_
  rintro e wl3 ⟨rfl, h, f⟩
  rw [← HS3.out] at h
  have K3 := Lib.hid h
  have FR3 := Lib.hid (FR2.out.trans f)
  clear h f
  go_wp2_with fail
  go_end0
  exact ⟨rfl, K3.out, F0.out.trans FR3.out⟩
end
end Go.Proofs.Ytggibiodeecljaa
