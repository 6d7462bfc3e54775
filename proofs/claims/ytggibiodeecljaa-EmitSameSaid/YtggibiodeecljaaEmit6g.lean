/- emit's writers (printed by gen_emitw.py). -/
import Derived.Test.YtggibiodeecljaaMEmit5
namespace Go.Proofs.Ytggibiodeecljaa
open Go.RowKit
set_option linter.unusedVariables false

section
variable (w0 : World) (B kb : Nat) (tv im tm mb : Value) (ts : List Node) (rec : Nat → MS → MS) (hgr : Grow rec) (i : Nat) (x : Node) (hr : ∀ j ∈ kidsOf ts i, NodeC w0 B kb tv im tm mb rec j) (hkl : (kidsOf ts i).length ≤ 100000)
include hgr hr hkl
omit hr in
set_option maxRecDepth 100000 in
set_option maxHeartbeats 3200000 in
theorem w_call5 (j0 j1 : Nat) (hkk : kidsOf ts i = [j0, j1]) (hr0 : NodeC w0 B kb tv im tm mb rec j0) (pt : ByteArray → Option Int) (hpt : PoolT w0 B tm pt) (hptb : ∀ n v, pt n = some v → 0 ≤ v ∧ v ≤ 10000000) (hxn : x.n = 5) (tb toff cap : Nat) (htv : tv = .slice (some ⟨tb, toff, none⟩) ts.length cap) (htb : tb < B) (hn0 : NodesAt w0 tb toff ts) (y : Node) (hy : ts[j1]? = some y) : WriterC w0 B kb tv im tm mb ts (fun s => callE pt ts rec x (kidsOf ts i) s) i x 124 #[] := by
  intro s w A n c base hb0 h0 ho0 hm
  obtain ⟨wl0, hw1, hb, h, ho, f0, kn⟩ := wr_start x hb0 h0 ho0
  rw [hxn] at hw1 kn
  obtain ⟨s1, hs1⟩ : ∃ s1, s1 = rec j0 s := ⟨_, rfl⟩
  have m1 : s.ms ≤ s1.ms := by rw [hs1]; exact hgr _ _
  obtain ⟨s2, hs2⟩ : ∃ s2, s2 = numE (pt y.text) s1 := ⟨_, rfl⟩
  have m2 : s2.ms = s1.ms := by rw [hs2]; rfl
  obtain ⟨ov, hov⟩ : ∃ ov, ov = (pt y.text).getD 0 := ⟨_, rfl⟩
  obtain ⟨s3, hs3⟩ : ∃ s3, s3 = wideE 45 ov s2 := ⟨_, rfl⟩
  have m3 : s3.ms = s2.ms + 3 := by rw [hs3, wideE_ms]
  obtain ⟨okb, hokb⟩ : ∃ okb, okb = (pt y.text).isSome := ⟨_, rfl⟩
  obtain ⟨sb, hsb⟩ : ∃ sb, s1.bad = sb := ⟨_, rfl⟩
  have hq2 : s2 = { s1 with bad := sb || !okb } := by rw [hs2, hokb, ← hsb]; unfold numE; cases pt y.text <;> rfl
  have hov2 : 0 ≤ ov ∧ ov ≤ 10000000 := by
    rw [hov]
    cases hpn : pt y.text with
    | none => simp
    | some v => exact hptb _ v hpn
  obtain ⟨mt, rfl, hmt, hmk⟩ := hpt
  have hlk : ∀ wx, Below B w0 wx → (Instr.lookup 78 (.map (some mt)) (.string y.text) true).run Try.prog wx = .ok (.tuple #[.int .i64 ov, .bool okb]) wx := by
    intro wx hwx
    have h1 := (hmk.of_block keyS (hwx.block mt hmt)).lookup keyS Try.underlying78 zero_i64e y.text true
    rw [hov, hokb]
    cases hpn : pt y.text with
    | none => simp only [hpn, intO] at h1; exact h1
    | some v => simp only [hpn, intO] at h1; exact h1
  have HLK := Lib.hid hlk
  have hF : (fun s => callE pt ts rec x (kidsOf ts i) s) s = s3 := by
    show callE pt ts rec x (kidsOf ts i) s = s3
    rw [hs3, hs2, hov, hs1]
    simp [callE, findE, hxn, hkk, hy]
  have hmN : s3.ms ≤ 1000000 := by rw [hF] at hm; exact hm
  rw [hF]
  have hn : n = 2 := by have := ho.1; rw [hkk] at this; simpa [intVals] using this.symm
  subst hn
  obtain ⟨g, rfl⟩ : ∃ g, A = some ⟨g, 0, none⟩ := by obtain ⟨_, _, g, e, _⟩ := kid_form (k := 0) (j := j0) ho (by rw [hkk]; rfl); exact ⟨g, e⟩
  have hq0 : (kidsOf ts i)[0]? = some j0 := by rw [hkk]; rfl
  have hmem0 := kid_mem hq0
  have hq1 : (kidsOf ts i)[1]? = some j1 := by rw [hkk]; rfl
  have hmem1 := kid_mem hq1
  have hjl : j1 < ts.length := (List.getElem?_eq_some_iff.1 hy).1
  have HY := Lib.hid hy
  have HN0 := Lib.hid hn0
  have hji : (j1 : Int) < ts.length := by omega
  have HTV := Lib.hid htv
  have HSB := Lib.hid hsb
  have HQ2 := Lib.hid hq2
  clear hy hn0 htv hlk hmk hptb hov hokb hsb hq2
  have HS1 := Lib.hid hs1
  have HS2 := Lib.hid hs2
  have HS3 := Lib.hid hs3
  have HW := Lib.hid hw1
  have F0 := Lib.hid f0
  have KN := Lib.hid kn
  have HB := Lib.hid hb
  have K0 := Lib.hid h
  have HO := Lib.hid ho
  have HR := Lib.hid hr0
  have FR0 := Lib.hid (Frm.refl B TE wl0)
  have HO0 := Lib.hid ho0
  have HKL := Lib.hid hkl
  have HGR := Lib.hid hgr
  have HF := Lib.hid hF
  have HKK := Lib.hid hkk
  have bs : s.ms ≤ 1000000 := by omega
  have b1 : s1.ms ≤ 1000000 := by omega
  have c3 : s2.ms + 2 ≤ 1000000 := by omega
  have e1 : IntKind.u8.wrap x.n = u8 x.n := rfl
  have e2 : IntKind.u8.wrap x.m = u8 x.m := rfl
  have e3 : IntKind.u8.wrap (u8 x.m + 1) = u8 (u8 x.m + 1) := rfl
  clear hw1 f0 kn hb h ho hr0 hkl hgr hF hb0 h0 ho0 hm hs1 m1 hs2 m2 hs3 m3 hkk
  have hgw : g < w.heap.size := (HO0.out.lt g rfl).2
  have hz0 : wl0.heap.size = w.heap.size + 1 := by rw [HW.out]; simp
  cases okb with
  | false =>
    cases sb with
    | false =>
      go_enter Try.func124, Try.ntmps124
      have nc1_2 : wl0.cell? ⟨w.heap.size, 2, none⟩ = some (.int .i64 5) := by have := (FR0.out.blk KN.out (by decide)).cell 2; exact this
      have kc1 : wl0.cell? ⟨g, 0, none⟩ = some (.int .i64 j0) := kid_cell (FR0.out.own HO.out (by decide)) hq0
      have kw1 : w.cell? ⟨g, 0, none⟩ = some (.int .i64 j0) := kid_cell HO0.out hq0
      rw [HW.out] at kc1
      go_wp2_with fail
      rw [← HW.out]
      refine (HR.out s wl0 (HB.out.trans FR0.out.below) K0.out (HS1.out ▸ b1)).mono ?_
      rintro e wl1 ⟨rfl, h, f⟩
      rw [← HS1.out] at h
      have K1 := Lib.hid h
      have FR1 := Lib.hid (FR0.out.trans f)
      clear h f
      have nc2_2 : wl1.cell? ⟨w.heap.size, 2, none⟩ = some (.int .i64 5) := by have := (FR1.out.blk KN.out (by decide)).cell 2; exact this
      go_wp2_with fail
      have hS : ∀ (wx : World) (sx : MS), EK wx B kb tv im (.map (some mt)) mb sx → Frm B TE wl0 wx → (wx.cell? ⟨kb, 0, none⟩ = some (.slice (some ⟨tb, toff, none⟩) ts.length cap) ∧ wx.cell? ⟨kb, 2, none⟩ = some (.map (some mt)) ∧ wx.cell? ⟨g, 1, none⟩ = some (.int .i64 j1) ∧ wx.cell? ⟨tb, toff + j1 * 7 + 4, none⟩ = some (.string y.text) ∧ (Instr.lookup 78 (.map (some mt)) (.string y.text) true).run Try.prog wx = .ok (.tuple #[.int .i64 ov, .bool false]) wx) := by
        intro wx sx hk hf
        have ec := hk.cells
        refine ⟨by have := ec.1; rw [HTV.out] at this; exact this, ec.2.2.1, kid_cell (hf.own HO.out (by decide)) hq1, ?_, HLK.out wx (HB.out.trans hf.below)⟩
        exact ((HN0.out.below (HB.out.trans hf.below) htb).all HY.out).2.2.2.2.1
      have hsA := hS wl1.drew s1 K1.out.drew FR1.out.drew
      go_region_held3 (fun wx => wx.cell? ⟨kb, 0, none⟩ = some (.slice (some ⟨tb, toff, none⟩) ts.length cap) ∧ wx.cell? ⟨kb, 2, none⟩ = some (.map (some mt)) ∧ wx.cell? ⟨g, 1, none⟩ = some (.int .i64 j1) ∧ wx.cell? ⟨tb, toff + j1 * 7 + 4, none⟩ = some (.string y.text) ∧ (Instr.lookup 78 (.map (some mt)) (.string y.text) true).run Try.prog wx = .ok (.tuple #[.int .i64 ov, .bool false]) wx) (first | exact hsA) ((first | fail))
      have ec1 : wl1.drew.cell? ⟨kb, 4, none⟩ = some (.bool false) := by have := K1.out.drew.cells.2.2.2.1; rw [HSB.out] at this; exact this
      have ef1 : wl1.drew.frozen? ⟨kb, 4, none⟩ = false := K1.out.drew.cells.2.2.2.2.2
      have K2 : Hid (EK (wl1.drew.setCell ⟨kb, 4, none⟩ (.bool (false || !false))) B kb tv im (.map (some mt)) mb s2) := by rw [HQ2.out]; exact (K1.out.drew.setBad _).1
      have FR2 : Hid (Frm B TE wl0 (wl1.drew.setCell ⟨kb, 4, none⟩ (.bool (false || !false)))) := FR1.out.drew.trans (K1.out.drew.setBad _).2
      simp only [Bool.not_true, Bool.not_false, Bool.or_true, Bool.true_or, Bool.or_false, Bool.false_or] at K2 FR2
      go_wp2_with fail
      refine (emitWide_any B kb tv im (.map (some mt)) mb s2 _ K2.out 45 ov hov2.1 hov2.2 c3).mono ?_
      rintro e wl3 ⟨rfl, h, f⟩
      rw [← HS3.out] at h
      have K3 := Lib.hid h
      have FR3 := Lib.hid (FR2.out.trans f)
      clear h f
      go_wp2_with fail
      go_end0
      exact ⟨rfl, K3.out, F0.out.trans FR3.out⟩
    | true =>
      go_enter Try.func124, Try.ntmps124
      have nc1_2 : wl0.cell? ⟨w.heap.size, 2, none⟩ = some (.int .i64 5) := by have := (FR0.out.blk KN.out (by decide)).cell 2; exact this
      have kc1 : wl0.cell? ⟨g, 0, none⟩ = some (.int .i64 j0) := kid_cell (FR0.out.own HO.out (by decide)) hq0
      have kw1 : w.cell? ⟨g, 0, none⟩ = some (.int .i64 j0) := kid_cell HO0.out hq0
      rw [HW.out] at kc1
      go_wp2_with fail
      rw [← HW.out]
      refine (HR.out s wl0 (HB.out.trans FR0.out.below) K0.out (HS1.out ▸ b1)).mono ?_
      rintro e wl1 ⟨rfl, h, f⟩
      rw [← HS1.out] at h
      have K1 := Lib.hid h
      have FR1 := Lib.hid (FR0.out.trans f)
      clear h f
      have nc2_2 : wl1.cell? ⟨w.heap.size, 2, none⟩ = some (.int .i64 5) := by have := (FR1.out.blk KN.out (by decide)).cell 2; exact this
      go_wp2_with fail
      have hS : ∀ (wx : World) (sx : MS), EK wx B kb tv im (.map (some mt)) mb sx → Frm B TE wl0 wx → (wx.cell? ⟨kb, 0, none⟩ = some (.slice (some ⟨tb, toff, none⟩) ts.length cap) ∧ wx.cell? ⟨kb, 2, none⟩ = some (.map (some mt)) ∧ wx.cell? ⟨g, 1, none⟩ = some (.int .i64 j1) ∧ wx.cell? ⟨tb, toff + j1 * 7 + 4, none⟩ = some (.string y.text) ∧ (Instr.lookup 78 (.map (some mt)) (.string y.text) true).run Try.prog wx = .ok (.tuple #[.int .i64 ov, .bool false]) wx) := by
        intro wx sx hk hf
        have ec := hk.cells
        refine ⟨by have := ec.1; rw [HTV.out] at this; exact this, ec.2.2.1, kid_cell (hf.own HO.out (by decide)) hq1, ?_, HLK.out wx (HB.out.trans hf.below)⟩
        exact ((HN0.out.below (HB.out.trans hf.below) htb).all HY.out).2.2.2.2.1
      have hsA := hS wl1.drew s1 K1.out.drew FR1.out.drew
      go_region_held3 (fun wx => wx.cell? ⟨kb, 0, none⟩ = some (.slice (some ⟨tb, toff, none⟩) ts.length cap) ∧ wx.cell? ⟨kb, 2, none⟩ = some (.map (some mt)) ∧ wx.cell? ⟨g, 1, none⟩ = some (.int .i64 j1) ∧ wx.cell? ⟨tb, toff + j1 * 7 + 4, none⟩ = some (.string y.text) ∧ (Instr.lookup 78 (.map (some mt)) (.string y.text) true).run Try.prog wx = .ok (.tuple #[.int .i64 ov, .bool false]) wx) (first | exact hsA) ((first | fail))
      have ec1 : wl1.drew.cell? ⟨kb, 4, none⟩ = some (.bool true) := by have := K1.out.drew.cells.2.2.2.1; rw [HSB.out] at this; exact this
      have ef1 : wl1.drew.frozen? ⟨kb, 4, none⟩ = false := K1.out.drew.cells.2.2.2.2.2
      have K2 : Hid (EK (wl1.drew.setCell ⟨kb, 4, none⟩ (.bool (true || !false))) B kb tv im (.map (some mt)) mb s2) := by rw [HQ2.out]; exact (K1.out.drew.setBad _).1
      have FR2 : Hid (Frm B TE wl0 (wl1.drew.setCell ⟨kb, 4, none⟩ (.bool (true || !false)))) := FR1.out.drew.trans (K1.out.drew.setBad _).2
      simp only [Bool.not_true, Bool.not_false, Bool.or_true, Bool.true_or, Bool.or_false, Bool.false_or] at K2 FR2
      go_wp2_with fail
      refine (emitWide_any B kb tv im (.map (some mt)) mb s2 _ K2.out 45 ov hov2.1 hov2.2 c3).mono ?_
      rintro e wl3 ⟨rfl, h, f⟩
      rw [← HS3.out] at h
      have K3 := Lib.hid h
      have FR3 := Lib.hid (FR2.out.trans f)
      clear h f
      go_wp2_with fail
      go_end0
      exact ⟨rfl, K3.out, F0.out.trans FR3.out⟩
  | true =>
    cases sb with
    | false =>
      go_enter Try.func124, Try.ntmps124
      have nc1_2 : wl0.cell? ⟨w.heap.size, 2, none⟩ = some (.int .i64 5) := by have := (FR0.out.blk KN.out (by decide)).cell 2; exact this
      have kc1 : wl0.cell? ⟨g, 0, none⟩ = some (.int .i64 j0) := kid_cell (FR0.out.own HO.out (by decide)) hq0
      have kw1 : w.cell? ⟨g, 0, none⟩ = some (.int .i64 j0) := kid_cell HO0.out hq0
      rw [HW.out] at kc1
      go_wp2_with fail
      rw [← HW.out]
      refine (HR.out s wl0 (HB.out.trans FR0.out.below) K0.out (HS1.out ▸ b1)).mono ?_
      rintro e wl1 ⟨rfl, h, f⟩
      rw [← HS1.out] at h
      have K1 := Lib.hid h
      have FR1 := Lib.hid (FR0.out.trans f)
      clear h f
      have nc2_2 : wl1.cell? ⟨w.heap.size, 2, none⟩ = some (.int .i64 5) := by have := (FR1.out.blk KN.out (by decide)).cell 2; exact this
      go_wp2_with fail
      have hS : ∀ (wx : World) (sx : MS), EK wx B kb tv im (.map (some mt)) mb sx → Frm B TE wl0 wx → (wx.cell? ⟨kb, 0, none⟩ = some (.slice (some ⟨tb, toff, none⟩) ts.length cap) ∧ wx.cell? ⟨kb, 2, none⟩ = some (.map (some mt)) ∧ wx.cell? ⟨g, 1, none⟩ = some (.int .i64 j1) ∧ wx.cell? ⟨tb, toff + j1 * 7 + 4, none⟩ = some (.string y.text) ∧ (Instr.lookup 78 (.map (some mt)) (.string y.text) true).run Try.prog wx = .ok (.tuple #[.int .i64 ov, .bool true]) wx) := by
        intro wx sx hk hf
        have ec := hk.cells
        refine ⟨by have := ec.1; rw [HTV.out] at this; exact this, ec.2.2.1, kid_cell (hf.own HO.out (by decide)) hq1, ?_, HLK.out wx (HB.out.trans hf.below)⟩
        exact ((HN0.out.below (HB.out.trans hf.below) htb).all HY.out).2.2.2.2.1
      have hsA := hS wl1.drew s1 K1.out.drew FR1.out.drew
      go_region_held3 (fun wx => wx.cell? ⟨kb, 0, none⟩ = some (.slice (some ⟨tb, toff, none⟩) ts.length cap) ∧ wx.cell? ⟨kb, 2, none⟩ = some (.map (some mt)) ∧ wx.cell? ⟨g, 1, none⟩ = some (.int .i64 j1) ∧ wx.cell? ⟨tb, toff + j1 * 7 + 4, none⟩ = some (.string y.text) ∧ (Instr.lookup 78 (.map (some mt)) (.string y.text) true).run Try.prog wx = .ok (.tuple #[.int .i64 ov, .bool true]) wx) (first | exact hsA) ((first | fail))
      have ec1 : wl1.drew.cell? ⟨kb, 4, none⟩ = some (.bool false) := by have := K1.out.drew.cells.2.2.2.1; rw [HSB.out] at this; exact this
      have ef1 : wl1.drew.frozen? ⟨kb, 4, none⟩ = false := K1.out.drew.cells.2.2.2.2.2
      have K2 : Hid (EK (wl1.drew.setCell ⟨kb, 4, none⟩ (.bool (false || !true))) B kb tv im (.map (some mt)) mb s2) := by rw [HQ2.out]; exact (K1.out.drew.setBad _).1
      have FR2 : Hid (Frm B TE wl0 (wl1.drew.setCell ⟨kb, 4, none⟩ (.bool (false || !true)))) := FR1.out.drew.trans (K1.out.drew.setBad _).2
      simp only [Bool.not_true, Bool.not_false, Bool.or_true, Bool.true_or, Bool.or_false, Bool.false_or] at K2 FR2
      go_wp2_with fail
      refine (emitWide_any B kb tv im (.map (some mt)) mb s2 _ K2.out 45 ov hov2.1 hov2.2 c3).mono ?_
      rintro e wl3 ⟨rfl, h, f⟩
      rw [← HS3.out] at h
      have K3 := Lib.hid h
      have FR3 := Lib.hid (FR2.out.trans f)
      clear h f
      go_wp2_with fail
      go_end0
      exact ⟨rfl, K3.out, F0.out.trans FR3.out⟩
    | true =>
      go_enter Try.func124, Try.ntmps124
      have nc1_2 : wl0.cell? ⟨w.heap.size, 2, none⟩ = some (.int .i64 5) := by have := (FR0.out.blk KN.out (by decide)).cell 2; exact this
      have kc1 : wl0.cell? ⟨g, 0, none⟩ = some (.int .i64 j0) := kid_cell (FR0.out.own HO.out (by decide)) hq0
      have kw1 : w.cell? ⟨g, 0, none⟩ = some (.int .i64 j0) := kid_cell HO0.out hq0
      rw [HW.out] at kc1
      go_wp2_with fail
      rw [← HW.out]
      refine (HR.out s wl0 (HB.out.trans FR0.out.below) K0.out (HS1.out ▸ b1)).mono ?_
      rintro e wl1 ⟨rfl, h, f⟩
      rw [← HS1.out] at h
      have K1 := Lib.hid h
      have FR1 := Lib.hid (FR0.out.trans f)
      clear h f
      have nc2_2 : wl1.cell? ⟨w.heap.size, 2, none⟩ = some (.int .i64 5) := by have := (FR1.out.blk KN.out (by decide)).cell 2; exact this
      go_wp2_with fail
      have hS : ∀ (wx : World) (sx : MS), EK wx B kb tv im (.map (some mt)) mb sx → Frm B TE wl0 wx → (wx.cell? ⟨kb, 0, none⟩ = some (.slice (some ⟨tb, toff, none⟩) ts.length cap) ∧ wx.cell? ⟨kb, 2, none⟩ = some (.map (some mt)) ∧ wx.cell? ⟨g, 1, none⟩ = some (.int .i64 j1) ∧ wx.cell? ⟨tb, toff + j1 * 7 + 4, none⟩ = some (.string y.text) ∧ (Instr.lookup 78 (.map (some mt)) (.string y.text) true).run Try.prog wx = .ok (.tuple #[.int .i64 ov, .bool true]) wx) := by
        intro wx sx hk hf
        have ec := hk.cells
        refine ⟨by have := ec.1; rw [HTV.out] at this; exact this, ec.2.2.1, kid_cell (hf.own HO.out (by decide)) hq1, ?_, HLK.out wx (HB.out.trans hf.below)⟩
        exact ((HN0.out.below (HB.out.trans hf.below) htb).all HY.out).2.2.2.2.1
      have hsA := hS wl1.drew s1 K1.out.drew FR1.out.drew
      go_region_held3 (fun wx => wx.cell? ⟨kb, 0, none⟩ = some (.slice (some ⟨tb, toff, none⟩) ts.length cap) ∧ wx.cell? ⟨kb, 2, none⟩ = some (.map (some mt)) ∧ wx.cell? ⟨g, 1, none⟩ = some (.int .i64 j1) ∧ wx.cell? ⟨tb, toff + j1 * 7 + 4, none⟩ = some (.string y.text) ∧ (Instr.lookup 78 (.map (some mt)) (.string y.text) true).run Try.prog wx = .ok (.tuple #[.int .i64 ov, .bool true]) wx) (first | exact hsA) ((first | fail))
      have ec1 : wl1.drew.cell? ⟨kb, 4, none⟩ = some (.bool true) := by have := K1.out.drew.cells.2.2.2.1; rw [HSB.out] at this; exact this
      have ef1 : wl1.drew.frozen? ⟨kb, 4, none⟩ = false := K1.out.drew.cells.2.2.2.2.2
      have K2 : Hid (EK (wl1.drew.setCell ⟨kb, 4, none⟩ (.bool (true || !true))) B kb tv im (.map (some mt)) mb s2) := by rw [HQ2.out]; exact (K1.out.drew.setBad _).1
      have FR2 : Hid (Frm B TE wl0 (wl1.drew.setCell ⟨kb, 4, none⟩ (.bool (true || !true)))) := FR1.out.drew.trans (K1.out.drew.setBad _).2
      simp only [Bool.not_true, Bool.not_false, Bool.or_true, Bool.true_or, Bool.or_false, Bool.false_or] at K2 FR2
      go_wp2_with fail
      refine (emitWide_any B kb tv im (.map (some mt)) mb s2 _ K2.out 45 ov hov2.1 hov2.2 c3).mono ?_
      rintro e wl3 ⟨rfl, h, f⟩
      rw [← HS3.out] at h
      have K3 := Lib.hid h
      have FR3 := Lib.hid (FR2.out.trans f)
      clear h f
      go_wp2_with fail
      go_end0
      exact ⟨rfl, K3.out, F0.out.trans FR3.out⟩
end
end Go.Proofs.Ytggibiodeecljaa
