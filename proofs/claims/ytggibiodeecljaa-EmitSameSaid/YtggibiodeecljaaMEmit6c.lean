/- emit's writers (printed by gen_emitw.py). emit's writers (printed by gen_emitw.py). -/
import Derived.Test.YtggibiodeecljaaMEmit5
namespace Go.Proofs.Ytggibiodeecljaa
open Go.RowKit
set_option linter.unusedVariables false

section
variable (w0 : World) (B kb : Nat) (tv im tm mb : Value) (ts : List Node) (rec : Nat → MS → MS) (hgr : Grow rec) (i : Nat) (x : Node) (hr : ∀ j ∈ kidsOf ts i, NodeC w0 B kb tv im tm mb rec j) (hkl : (kidsOf ts i).length ≤ 100000)
include hgr hr hkl
set_option maxRecDepth 100000 in
set_option maxHeartbeats 1600000 in
theorem w_repeat (pi : Int → Option Int) (hp : PoolI w0 B im pi) (hpb : ∀ n v, pi n = some v → 0 ≤ v ∧ v ≤ 10000000) : WriterC w0 B kb tv im tm mb ts (fun s => repeatE pi rec x (kidsOf ts i) s) i x 126 #[] := by
  intro s w A n c base hb0 h0 ho0 hm
  obtain ⟨wl0, hw1, hb, h, ho, f0, kn⟩ := wr_start x hb0 h0 ho0
  obtain ⟨s1, hs1⟩ : ∃ s1, s1 = pushE (pi 0) s := ⟨_, rfl⟩
  have m1 : s1.ms = s.ms + 3 := by rw [hs1, pushE_ms]; try simp
  obtain ⟨s2, hs2⟩ : ∃ s2, s2 = opE 5 [u8 x.m] s1 := ⟨_, rfl⟩
  have m2 : s2.ms = s1.ms + 2 := by rw [hs2, opE_ms]; try simp
  obtain ⟨s3, hs3⟩ : ∃ s3, s3 = opE 4 [u8 x.m] s2 := ⟨_, rfl⟩
  have m3 : s3.ms = s2.ms + 2 := by rw [hs3, opE_ms]; try simp
  obtain ⟨s4, hs4⟩ : ∃ s4, s4 = pushE (pi x.n) s3 := ⟨_, rfl⟩
  have m4 : s4.ms = s3.ms + 3 := by rw [hs4, pushE_ms]; try simp
  obtain ⟨s5, hs5⟩ : ∃ s5, s5 = opE 19 [] s4 := ⟨_, rfl⟩
  have m5 : s5.ms = s4.ms + 1 := by rw [hs5, opE_ms]; try simp
  obtain ⟨s6, hs6⟩ : ∃ s6, s6 = aheadE 31 [] s5 := ⟨_, rfl⟩
  have m6 : s6.ms = s5.ms + 3 := by rw [hs6, aheadE_ms]; try simp
  obtain ⟨s7, hs7⟩ : ∃ s7, s7 = allE rec (kidsOf ts i) s6 := ⟨_, rfl⟩
  have m7 : s6.ms ≤ s7.ms := by rw [hs7]; exact allE_ms hgr _ _
  obtain ⟨s8, hs8⟩ : ∃ s8, s8 = opE 4 [u8 x.m] s7 := ⟨_, rfl⟩
  have m8 : s8.ms = s7.ms + 2 := by rw [hs8, opE_ms]; try simp
  obtain ⟨s9, hs9⟩ : ∃ s9, s9 = pushE (pi 1) s8 := ⟨_, rfl⟩
  have m9 : s9.ms = s8.ms + 3 := by rw [hs9, pushE_ms]; try simp
  obtain ⟨s10, hs10⟩ : ∃ s10, s10 = opE 10 [] s9 := ⟨_, rfl⟩
  have m10 : s10.ms = s9.ms + 1 := by rw [hs10, opE_ms]; try simp
  obtain ⟨s11, hs11⟩ : ∃ s11, s11 = opE 5 [u8 x.m] s10 := ⟨_, rfl⟩
  have m11 : s11.ms = s10.ms + 2 := by rw [hs11, opE_ms]; try simp
  obtain ⟨s12, hs12⟩ : ∃ s12, s12 = wideE 30 (s2.b.length : Int) s11 := ⟨_, rfl⟩
  have m12 : s12.ms = s11.ms + 3 := by rw [hs12, wideE_ms]; try simp
  obtain ⟨s13, hs13⟩ : ∃ s13, s13 = hereE s6.at_ s12 := ⟨_, rfl⟩
  have m13 : s13.ms = s12.ms + 1 := by rw [hs13, hereE_ms]; try simp
  have hF : (fun s => repeatE pi rec x (kidsOf ts i) s) s = s13 := by
    show repeatE pi rec x (kidsOf ts i) s = s13
    rw [hs13, hs12, hs11, hs10, hs9, hs8, hs7, hs6, hs5, hs4, hs3, hs2, hs1]
    unfold repeatE repeatA repeatB repeatC; rfl
  have hmN : s13.ms ≤ 1000000 := by rw [hF] at hm; exact hm
  rw [hF]
  have HS1 := Lib.hid hs1
  have HS2 := Lib.hid hs2
  have HS3 := Lib.hid hs3
  have HS4 := Lib.hid hs4
  have HS5 := Lib.hid hs5
  have HS6 := Lib.hid hs6
  have HS7 := Lib.hid hs7
  have HS8 := Lib.hid hs8
  have HS9 := Lib.hid hs9
  have HS10 := Lib.hid hs10
  have HS11 := Lib.hid hs11
  have HS12 := Lib.hid hs12
  have HS13 := Lib.hid hs13
  have HW := Lib.hid hw1
  have F0 := Lib.hid f0
  have KN := Lib.hid kn
  have HB := Lib.hid hb
  have K0 := Lib.hid h
  have HO := Lib.hid ho
  have HR := Lib.hid hr
  have FR0 := Lib.hid (Frm.refl B TE wl0)
  have HO0 := Lib.hid ho0
  have HKL := Lib.hid hkl
  have HGR := Lib.hid hgr
  have HF := Lib.hid hF
  have HP := Lib.hid hp
  have HPB := Lib.hid hpb
  have bs : s.ms ≤ 1000000 := by omega
  have b1 : s1.ms ≤ 1000000 := by omega
  have b2 : s2.ms ≤ 1000000 := by omega
  have b3 : s3.ms ≤ 1000000 := by omega
  have b4 : s4.ms ≤ 1000000 := by omega
  have b5 : s5.ms ≤ 1000000 := by omega
  have b6 : s6.ms ≤ 1000000 := by omega
  have b7 : s7.ms ≤ 1000000 := by omega
  have b8 : s8.ms ≤ 1000000 := by omega
  have b9 : s9.ms ≤ 1000000 := by omega
  have b10 : s10.ms ≤ 1000000 := by omega
  have b11 : s11.ms ≤ 1000000 := by omega
  have b12 : s12.ms ≤ 1000000 := by omega
  have b13 : s13.ms ≤ 1000000 := by omega
  have c1 : s.ms + 2 ≤ 1000000 := by omega
  have c2 : s1.ms + 1 ≤ 1000000 := by omega
  have c3 : s2.ms + 1 ≤ 1000000 := by omega
  have c4 : s3.ms + 2 ≤ 1000000 := by omega
  have c5 : s4.ms + 0 ≤ 1000000 := by omega
  have c6 : s5.ms + 0 + 2 ≤ 1000000 := by omega
  have c8 : s7.ms + 1 ≤ 1000000 := by omega
  have c9 : s8.ms + 2 ≤ 1000000 := by omega
  have c10 : s9.ms + 0 ≤ 1000000 := by omega
  have c11 : s10.ms + 1 ≤ 1000000 := by omega
  have c12 : s11.ms + 2 ≤ 1000000 := by omega
  have d12 : (0 : Int) ≤ (s2.b.length : Int) ∧ (s2.b.length : Int) ≤ (10000000 : Int) := ⟨by omega, by have := b2; unfold MS.ms at this; omega⟩
  have e1 : IntKind.u8.wrap x.n = u8 x.n := rfl
  have e2 : IntKind.u8.wrap x.m = u8 x.m := rfl
  have e3 : IntKind.u8.wrap (u8 x.m + 1) = u8 (u8 x.m + 1) := rfl
  clear hw1 f0 kn hb h ho hr hkl hgr hF hb0 h0 ho0 hm hs1 m1 hs2 m2 hs3 m3 hs4 m4 hs5 m5 hs6 m6 hs7 m7 hs8 m8 hs9 m9 hs10 m10 hs11 m11 hs12 m12 hs13 m13 hp hpb
  have hz0 : wl0.heap.size = w.heap.size + 1 := by rw [HW.out]; simp
  go_enter Try.func126, Try.ntmps126
  go_wp2_with fail
  rw [← HW.out]
  refine (emitPush_any B kb tv im tm mb s wl0 K0.out pi (0) (HP.out.below (HB.out.trans FR0.out.below)) HPB.out c1).mono ?_
  rintro e wl1 ⟨rfl, h, f⟩
  rw [← HS1.out] at h
  have K1 := Lib.hid h
  have FR1 := Lib.hid (FR0.out.trans f)
  clear h f
  go_wp2_with fail
  refine (emitOp_one B kb tv im tm mb s1 5 wl1 K1.out (u8 x.m) c2).mono ?_
  rintro e wl2 ⟨rfl, h, f⟩
  rw [← HS2.out] at h
  have K2 := Lib.hid h
  have FR2 := Lib.hid (FR1.out.trans f)
  clear h f
  obtain ⟨Ab, cb, kb3⟩ := K2.out.bcell
  go_wp2_with fail
  refine (emitOp_one B kb tv im tm mb s2 4 wl2 K2.out (u8 x.m) c3).mono ?_
  rintro e wl3 ⟨rfl, h, f⟩
  rw [← HS3.out] at h
  have K3 := Lib.hid h
  have FR3 := Lib.hid (FR2.out.trans f)
  clear h f
  have nc4_2 : wl3.cell? ⟨w.heap.size, 2, none⟩ = some (.int .i64 x.n) := by have := (FR3.out.blk KN.out (by decide)).cell 2; exact this
  go_wp2_with fail
  refine (emitPush_any B kb tv im tm mb s3 wl3 K3.out pi (x.n) (HP.out.below (HB.out.trans FR3.out.below)) HPB.out c4).mono ?_
  rintro e wl4 ⟨rfl, h, f⟩
  rw [← HS4.out] at h
  have K4 := Lib.hid h
  have FR4 := Lib.hid (FR3.out.trans f)
  clear h f
  go_wp2_with fail
  refine (emitOp_nil B kb tv im tm mb s4 19 wl4 K4.out  c5).mono ?_
  rintro e wl5 ⟨rfl, h, f⟩
  rw [← HS5.out] at h
  have K5 := Lib.hid h
  have FR5 := Lib.hid (FR4.out.trans f)
  clear h f
  go_wp2_with fail
  refine (emitAhead_nil B kb tv im tm mb s5 31 wl5 K5.out  c6).mono ?_
  rintro e wl6 ⟨av, rfl, ⟨ga6, gb6, rfl, ka6, kb6⟩, h, f⟩
  have KA6 := Lib.hid ka6
  have KB6 := Lib.hid kb6
  clear ka6 kb6
  rw [← HS6.out] at h
  rw [← HS6.out] at KB6
  have K6 := Lib.hid h
  have FR6 := Lib.hid (FR5.out.trans f)
  clear h f
  go_wp2_with fail
  refine (emitNodes_any w0 B kb tv im tm mb rec HGR.out (kidsOf ts i) _ _ _ base s6 wl6 HR.out (HB.out.trans FR6.out.below) K6.out (HS7.out ▸ b7) HKL.out (FR6.out.own HO.out (by decide))).mono ?_
  rintro e wl7 ⟨rfl, h, f⟩
  rw [← HS7.out] at h
  have KA6 := Lib.hid (f.blk KA6.out (by decide))
  have KB6 := Lib.hid (f.blk KB6.out (by decide))
  have K7 := Lib.hid h
  have FR7 := Lib.hid (FR6.out.trans f)
  clear h f
  go_wp2_with fail
  refine (emitOp_one B kb tv im tm mb s7 4 wl7 K7.out (u8 x.m) c8).mono ?_
  rintro e wl8 ⟨rfl, h, f⟩
  rw [← HS8.out] at h
  have KA6 := Lib.hid (f.blk KA6.out (by decide))
  have KB6 := Lib.hid (f.blk KB6.out (by decide))
  have K8 := Lib.hid h
  have FR8 := Lib.hid (FR7.out.trans f)
  clear h f
  go_wp2_with fail
  refine (emitPush_any B kb tv im tm mb s8 wl8 K8.out pi (1) (HP.out.below (HB.out.trans FR8.out.below)) HPB.out c9).mono ?_
  rintro e wl9 ⟨rfl, h, f⟩
  rw [← HS9.out] at h
  have KA6 := Lib.hid (f.blk KA6.out (by decide))
  have KB6 := Lib.hid (f.blk KB6.out (by decide))
  have K9 := Lib.hid h
  have FR9 := Lib.hid (FR8.out.trans f)
  clear h f
  go_wp2_with fail
  refine (emitOp_nil B kb tv im tm mb s9 10 wl9 K9.out  c10).mono ?_
  rintro e wl10 ⟨rfl, h, f⟩
  rw [← HS10.out] at h
  have KA6 := Lib.hid (f.blk KA6.out (by decide))
  have KB6 := Lib.hid (f.blk KB6.out (by decide))
  have K10 := Lib.hid h
  have FR10 := Lib.hid (FR9.out.trans f)
  clear h f
  go_wp2_with fail
  refine (emitOp_one B kb tv im tm mb s10 5 wl10 K10.out (u8 x.m) c11).mono ?_
  rintro e wl11 ⟨rfl, h, f⟩
  rw [← HS11.out] at h
  have KA6 := Lib.hid (f.blk KA6.out (by decide))
  have KB6 := Lib.hid (f.blk KB6.out (by decide))
  have K11 := Lib.hid h
  have FR11 := Lib.hid (FR10.out.trans f)
  clear h f
  go_wp2_with fail
  refine (emitWide_any B kb tv im tm mb s11 wl11 K11.out 30 ((s2.b.length : Int)) d12.1 d12.2 c12).mono ?_
  rintro e wl12 ⟨rfl, h, f⟩
  rw [← HS12.out] at h
  have KA6 := Lib.hid (f.blk KA6.out (by decide))
  have KB6 := Lib.hid (f.blk KB6.out (by decide))
  have K12 := Lib.hid h
  have FR12 := Lib.hid (FR11.out.trans f)
  clear h f
  go_wp2_with fail
  refine (emitHere_any B kb tv im tm mb s12 s6.at_ ga6 gb6 wl12 K12.out KA6.out KB6.out b12).mono ?_
  rintro e wl13 ⟨rfl, h, f⟩
  rw [← HS13.out] at h
  have KA6 := Lib.hid (f.blk KA6.out (by decide))
  have KB6 := Lib.hid (f.blk KB6.out (by decide))
  have K13 := Lib.hid h
  have FR13 := Lib.hid (FR12.out.trans f)
  clear h f
  go_wp2_with fail
  go_end0
  exact ⟨rfl, K13.out, F0.out.trans FR13.out⟩
end
end Go.Proofs.Ytggibiodeecljaa
namespace Go.Proofs.Ytggibiodeecljaa
open Go.RowKit
set_option linter.unusedVariables false

section
variable (w0 : World) (B kb : Nat) (tv im tm mb : Value) (ts : List Node) (rec : Nat → MS → MS) (hgr : Grow rec) (i : Nat) (x : Node) (hr : ∀ j ∈ kidsOf ts i, NodeC w0 B kb tv im tm mb rec j) (hkl : (kidsOf ts i).length ≤ 100000)
include hgr hr hkl
set_option maxRecDepth 100000 in
set_option maxHeartbeats 1600000 in
theorem w_each (j0 j1 : Nat) (hkk : kidsOf ts i = [j0, j1]) (pi : Int → Option Int) (hp : PoolI w0 B im pi) (hpb : ∀ n v, pi n = some v → 0 ≤ v ∧ v ≤ 10000000) : WriterC w0 B kb tv im tm mb ts (fun s => eachE pi rec x (kidsOf ts i) s) i x 127 #[] := by
  intro s w A n c base hb0 h0 ho0 hm
  obtain ⟨wl0, hw1, hb, h, ho, f0, kn⟩ := wr_start x hb0 h0 ho0
  obtain ⟨s1, hs1⟩ : ∃ s1, s1 = numE (pi 1) s := ⟨_, rfl⟩
  have m1 : s1.ms = s.ms := by rw [hs1]; rfl
  obtain ⟨s2, hs2⟩ : ∃ s2, s2 = rec j0 s1 := ⟨_, rfl⟩
  have m2 : s1.ms ≤ s2.ms := by rw [hs2]; exact hgr _ _
  obtain ⟨s3, hs3⟩ : ∃ s3, s3 = opE 5 [u8 x.m] s2 := ⟨_, rfl⟩
  have m3 : s3.ms = s2.ms + 2 := by rw [hs3, opE_ms]; try simp
  obtain ⟨s4, hs4⟩ : ∃ s4, s4 = pushE (pi 0) s3 := ⟨_, rfl⟩
  have m4 : s4.ms = s3.ms + 3 := by rw [hs4, pushE_ms]; try simp
  obtain ⟨s5, hs5⟩ : ∃ s5, s5 = opE 5 [u8 (u8 x.m + 1)] s4 := ⟨_, rfl⟩
  have m5 : s5.ms = s4.ms + 2 := by rw [hs5, opE_ms]; try simp
  obtain ⟨s6, hs6⟩ : ∃ s6, s6 = aheadE 32 [u8 x.m, u8 (u8 x.m + 1)] s5 := ⟨_, rfl⟩
  have m6 : s6.ms = s5.ms + 5 := by rw [hs6, aheadE_ms]; try simp
  obtain ⟨s7, hs7⟩ : ∃ s7, s7 = opE 5 [u8 x.n] s6 := ⟨_, rfl⟩
  have m7 : s7.ms = s6.ms + 2 := by rw [hs7, opE_ms]; try simp
  obtain ⟨s8, hs8⟩ : ∃ s8, s8 = rec j1 s7 := ⟨_, rfl⟩
  have m8 : s7.ms ≤ s8.ms := by rw [hs8]; exact hgr _ _
  obtain ⟨s9, hs9⟩ : ∃ s9, s9 = wideE 30 (s5.b.length : Int) s8 := ⟨_, rfl⟩
  have m9 : s9.ms = s8.ms + 3 := by rw [hs9, wideE_ms]; try simp
  obtain ⟨s10, hs10⟩ : ∃ s10, s10 = hereE s6.at_ s9 := ⟨_, rfl⟩
  have m10 : s10.ms = s9.ms + 1 := by rw [hs10, hereE_ms]; try simp
  have hF : (fun s => eachE pi rec x (kidsOf ts i) s) s = s10 := by
    show eachE pi rec x (kidsOf ts i) s = s10
    rw [hs10, hs9, hs8, hs7, hs6, hs5, hs4, hs3, hs2, hs1]
    unfold eachE eachA; rw [hkk]; rfl
  have hmN : s10.ms ≤ 1000000 := by rw [hF] at hm; exact hm
  rw [hF]
  have hn : n = 2 := by have := ho.1; rw [hkk] at this; simpa [intVals] using this.symm
  subst hn
  obtain ⟨g, rfl⟩ : ∃ g, A = some ⟨g, 0, none⟩ := by obtain ⟨_, _, g, e, _⟩ := kid_form (k := 0) (j := j0) ho (by rw [hkk]; rfl); exact ⟨g, e⟩
  have hq0 : (kidsOf ts i)[0]? = some j0 := by rw [hkk]; rfl
  have hmem0 := kid_mem hq0
  have hq1 : (kidsOf ts i)[1]? = some j1 := by rw [hkk]; rfl
  have hmem1 := kid_mem hq1
  have HS1 := Lib.hid hs1
  have HS2 := Lib.hid hs2
  have HS3 := Lib.hid hs3
  have HS4 := Lib.hid hs4
  have HS5 := Lib.hid hs5
  have HS6 := Lib.hid hs6
  have HS7 := Lib.hid hs7
  have HS8 := Lib.hid hs8
  have HS9 := Lib.hid hs9
  have HS10 := Lib.hid hs10
  have HW := Lib.hid hw1
  have F0 := Lib.hid f0
  have KN := Lib.hid kn
  have HB := Lib.hid hb
  have K0 := Lib.hid h
  have HO := Lib.hid ho
  have HR := Lib.hid hr
  have FR0 := Lib.hid (Frm.refl B TE wl0)
  have HO0 := Lib.hid ho0
  have HKL := Lib.hid hkl
  have HGR := Lib.hid hgr
  have HF := Lib.hid hF
  have HP := Lib.hid hp
  have HPB := Lib.hid hpb
  have HKK := Lib.hid hkk
  have bs : s.ms ≤ 1000000 := by omega
  have b1 : s1.ms ≤ 1000000 := by omega
  have b2 : s2.ms ≤ 1000000 := by omega
  have b3 : s3.ms ≤ 1000000 := by omega
  have b4 : s4.ms ≤ 1000000 := by omega
  have b5 : s5.ms ≤ 1000000 := by omega
  have b6 : s6.ms ≤ 1000000 := by omega
  have b7 : s7.ms ≤ 1000000 := by omega
  have b8 : s8.ms ≤ 1000000 := by omega
  have b9 : s9.ms ≤ 1000000 := by omega
  have b10 : s10.ms ≤ 1000000 := by omega
  have c3 : s2.ms + 1 ≤ 1000000 := by omega
  have c4 : s3.ms + 2 ≤ 1000000 := by omega
  have c5 : s4.ms + 1 ≤ 1000000 := by omega
  have c6 : s5.ms + 2 + 2 ≤ 1000000 := by omega
  have c7 : s6.ms + 1 ≤ 1000000 := by omega
  have c9 : s8.ms + 2 ≤ 1000000 := by omega
  have d9 : (0 : Int) ≤ (s5.b.length : Int) ∧ (s5.b.length : Int) ≤ (10000000 : Int) := ⟨by omega, by have := b5; unfold MS.ms at this; omega⟩
  have e1 : IntKind.u8.wrap x.n = u8 x.n := rfl
  have e2 : IntKind.u8.wrap x.m = u8 x.m := rfl
  have e3 : IntKind.u8.wrap (u8 x.m + 1) = u8 (u8 x.m + 1) := rfl
  clear hw1 f0 kn hb h ho hr hkl hgr hF hb0 h0 ho0 hm hs1 m1 hs2 m2 hs3 m3 hs4 m4 hs5 m5 hs6 m6 hs7 m7 hs8 m8 hs9 m9 hs10 m10 hp hpb hkk
  have hgw : g < w.heap.size := (HO0.out.lt g rfl).2
  have hz0 : wl0.heap.size = w.heap.size + 1 := by rw [HW.out]; simp
  go_enter Try.func127, Try.ntmps127
  go_wp2_with fail
  rw [← HW.out]
  refine (emitNumber_any B kb tv im tm mb s wl0 K0.out pi (1) (HP.out.below (HB.out.trans FR0.out.below))).mono ?_
  rintro e wl1 ⟨rfl, h, f⟩
  rw [← HS1.out] at h
  have K1 := Lib.hid h
  have FR1 := Lib.hid (FR0.out.trans f)
  clear h f
  have kc2 : wl1.cell? ⟨g, 0, none⟩ = some (.int .i64 j0) := kid_cell (FR1.out.own HO.out (by decide)) hq0
  go_wp2_with fail
  refine (HR.out j0 hmem0 s1 wl1 (HB.out.trans FR1.out.below) K1.out (HS2.out ▸ b2)).mono ?_
  rintro e wl2 ⟨rfl, h, f⟩
  rw [← HS2.out] at h
  have K2 := Lib.hid h
  have FR2 := Lib.hid (FR1.out.trans f)
  clear h f
  go_wp2_with fail
  refine (emitOp_one B kb tv im tm mb s2 5 wl2 K2.out (u8 x.m) c3).mono ?_
  rintro e wl3 ⟨rfl, h, f⟩
  rw [← HS3.out] at h
  have K3 := Lib.hid h
  have FR3 := Lib.hid (FR2.out.trans f)
  clear h f
  go_wp2_with fail
  refine (emitPush_any B kb tv im tm mb s3 wl3 K3.out pi (0) (HP.out.below (HB.out.trans FR3.out.below)) HPB.out c4).mono ?_
  rintro e wl4 ⟨rfl, h, f⟩
  rw [← HS4.out] at h
  have K4 := Lib.hid h
  have FR4 := Lib.hid (FR3.out.trans f)
  clear h f
  go_wp2_with fail
  refine (emitOp_one B kb tv im tm mb s4 5 wl4 K4.out (u8 (u8 x.m + 1)) c5).mono ?_
  rintro e wl5 ⟨rfl, h, f⟩
  rw [← HS5.out] at h
  have K5 := Lib.hid h
  have FR5 := Lib.hid (FR4.out.trans f)
  clear h f
  obtain ⟨Ab, cb, kb3⟩ := K5.out.bcell
  go_wp2_with fail
  refine (emitAhead_two B kb tv im tm mb s5 32 wl5 K5.out (u8 x.m) (u8 (u8 x.m + 1)) c6).mono ?_
  rintro e wl6 ⟨av, rfl, ⟨ga6, gb6, rfl, ka6, kb6⟩, h, f⟩
  have KA6 := Lib.hid ka6
  have KB6 := Lib.hid kb6
  clear ka6 kb6
  rw [← HS6.out] at h
  rw [← HS6.out] at KB6
  have K6 := Lib.hid h
  have FR6 := Lib.hid (FR5.out.trans f)
  clear h f
  have nc7_2 : wl6.cell? ⟨w.heap.size, 2, none⟩ = some (.int .i64 x.n) := by have := (FR6.out.blk KN.out (by decide)).cell 2; exact this
  go_wp2_with fail
  refine (emitOp_one B kb tv im tm mb s6 5 wl6 K6.out (u8 x.n) c7).mono ?_
  rintro e wl7 ⟨rfl, h, f⟩
  rw [← HS7.out] at h
  have KA6 := Lib.hid (f.blk KA6.out (by decide))
  have KB6 := Lib.hid (f.blk KB6.out (by decide))
  have K7 := Lib.hid h
  have FR7 := Lib.hid (FR6.out.trans f)
  clear h f
  have kc8 : wl7.cell? ⟨g, 1, none⟩ = some (.int .i64 j1) := kid_cell (FR7.out.own HO.out (by decide)) hq1
  go_wp2_with fail
  refine (HR.out j1 hmem1 s7 wl7 (HB.out.trans FR7.out.below) K7.out (HS8.out ▸ b8)).mono ?_
  rintro e wl8 ⟨rfl, h, f⟩
  rw [← HS8.out] at h
  have KA6 := Lib.hid (f.blk KA6.out (by decide))
  have KB6 := Lib.hid (f.blk KB6.out (by decide))
  have K8 := Lib.hid h
  have FR8 := Lib.hid (FR7.out.trans f)
  clear h f
  go_wp2_with fail
  refine (emitWide_any B kb tv im tm mb s8 wl8 K8.out 30 ((s5.b.length : Int)) d9.1 d9.2 c9).mono ?_
  rintro e wl9 ⟨rfl, h, f⟩
  rw [← HS9.out] at h
  have KA6 := Lib.hid (f.blk KA6.out (by decide))
  have KB6 := Lib.hid (f.blk KB6.out (by decide))
  have K9 := Lib.hid h
  have FR9 := Lib.hid (FR8.out.trans f)
  clear h f
  go_wp2_with fail
  refine (emitHere_any B kb tv im tm mb s9 s6.at_ ga6 gb6 wl9 K9.out KA6.out KB6.out b9).mono ?_
  rintro e wl10 ⟨rfl, h, f⟩
  rw [← HS10.out] at h
  have KA6 := Lib.hid (f.blk KA6.out (by decide))
  have KB6 := Lib.hid (f.blk KB6.out (by decide))
  have K10 := Lib.hid h
  have FR10 := Lib.hid (FR9.out.trans f)
  clear h f
  go_wp2_with fail
  go_end0
  exact ⟨rfl, K10.out, F0.out.trans FR10.out⟩
end
end Go.Proofs.Ytggibiodeecljaa
