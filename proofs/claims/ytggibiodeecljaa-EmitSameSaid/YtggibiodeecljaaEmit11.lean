/- emit's made, of an ability with a condition. -/
import Derived.Test.YtggibiodeecljaaMEmitNA
namespace Go.Proofs.Ytggibiodeecljaa
open Go.RowKit
set_option linter.unusedVariables false

set_option maxRecDepth 100000 in
set_option maxHeartbeats 4000000 in
theorem made_yes (on : Int) (SA : Option Addr) (sn sc tb toff tc : Nat) (ts : List Node) (im tm : Value) (pi : Int → Option Int) (pt : ByteArray → Option Int) (w : World) (hl : ts.length ≤ 2000) (hl0 : 0 < ts.length) (hn : NodesAt w tb toff ts) (htb : tb < w.heap.size)
    (hp : PoolI w w.heap.size im pi) (hpb : ∀ n v, pi n = some v → 0 ≤ v ∧ v ≤ 10000000) (hpt : PoolT w w.heap.size tm pt) (hptb : ∀ n v, pt n = some v → 0 ≤ v ∧ v ≤ 10000000) (hfit : FitE ts ts.length 0) (hbe : 0 ≤ behind ts 0) (hb2l : (behind ts 0).toNat < ts.length) (hfit2 : FitE ts ts.length (behind ts 0).toNat) (hbe2 : 0 ≤ behind ts (behind ts 0).toNat) (hm : (madeM pi pt true ts).ms ≤ 1000000) :
    Calls Try.prog 38 #[.agg #[.int .i64 on, .slice SA sn sc, .bool true, .slice (some ⟨tb, toff, none⟩) ts.length tc], im, tm] w fun e w' => ∃ bv, e = .returned (.tuple #[bv, .bool (!(madeM pi pt true ts).bad)]) ∧ w'.ownsRow w.heap.size 5 1 bv (madeM pi pt true ts).b.length (u8Vals (layE (madeM pi pt true ts).later (madeM pi pt true ts).b)) ∧ Below w.heap.size w w' := by
  obtain ⟨ib, rfl⟩ : ∃ ib, im = .map (some ib) := by obtain ⟨ib, e, _⟩ := hp; exact ⟨ib, e⟩
  obtain ⟨mt, rfl⟩ : ∃ mt, tm = .map (some mt) := by obtain ⟨mt, e, _⟩ := hpt; exact ⟨mt, e⟩
  obtain ⟨s1, hs1⟩ : ∃ s1, s1 = emitM pi pt ts ts.length 0 ⟨[], false, []⟩ := ⟨_, rfl⟩
  obtain ⟨J, hJ⟩ : ∃ J, J = (behind ts 0).toNat := ⟨_, rfl⟩
  have hJb : (behind ts 0) = (J : Int) := by omega
  obtain ⟨sa, hsa⟩ : ∃ sa, sa = aheadE 31 [] s1 := ⟨_, rfl⟩
  obtain ⟨sb, hsb⟩ : ∃ sb, sb = emitM pi pt ts ts.length J sa := ⟨_, rfl⟩
  obtain ⟨sc', hsc⟩ : ∃ sc', sc' = hereE sa.at_ sb := ⟨_, rfl⟩
  obtain ⟨s2, hs2⟩ : ∃ s2, s2 = opE 34 [] sc' := ⟨_, rfl⟩
  have hM : madeM pi pt true ts = s2 := by rw [hs2, hsc, hsb, hsa, hs1, hJ]; rfl
  have hok : OKm s2 := hM ▸ madeM_ok pi pt true ts
  rw [hM] at hm ⊢
  have hm2 : s2.ms = sc'.ms + 1 := by rw [hs2, opE_ms]; rfl
  have hmc : sc'.ms = sb.ms + 1 := by rw [hsc, hereE_ms]
  have hmb : sa.ms ≤ sb.ms := by rw [hsb]; exact emitM_grow pi pt ts _ _ _
  have hma : sa.ms = s1.ms + 3 := by rw [hsa, aheadE_ms]; rfl
  have bm1 : s1.ms ≤ 1000000 := by omega
  have bma : s1.ms + 0 + 2 ≤ 1000000 := by omega
  have bmb : sb.ms ≤ 1000000 := by omega
  have bmc : sc'.ms ≤ 1000000 := by omega
  have bmb' : (emitM pi pt ts ts.length J sa).ms ≤ 1000000 := hsb ▸ bmb
  rw [← hJ] at hb2l hfit2 hbe2
  have HMB := Lib.hid bmb'
  have HSA := Lib.hid hsa
  have HSB := Lib.hid hsb
  have HSC := Lib.hid hsc
  have HFIT2 := Lib.hid hfit2
  clear hsa hsb hsc hfit2 hJ bmb'
  have bm1' : (emitM pi pt ts ts.length 0 ⟨[], false, []⟩).ms ≤ 1000000 := hs1 ▸ bm1
  have HM1 := Lib.hid bm1'
  have HS1 := Lib.hid hs1
  have HS2 := Lib.hid hs2
  have HOK := Lib.hid hok
  clear hM hs1 hs2 hok bm1'
  obtain ⟨w1, hw1⟩ : ∃ w1, w1 = w.alloc (.cells #[.int .i64 on, .slice SA sn sc, .bool true, .slice (some ⟨tb, toff, none⟩) ts.length tc] 25) := ⟨_, rfl⟩
  have b1 : Below w.heap.size w w1 := by rw [hw1]; exact (Below.refl _ _).alloc (Nat.le_refl _) _
  have k1 : Blk w1 w.heap.size 25 #[.int .i64 on, .slice SA sn sc, .bool true, .slice (some ⟨tb, toff, none⟩) ts.length tc] := by rw [hw1]; exact Blk.new w _ _
  have ht := table_any w1
  have ht2 := table_any w1.drew
  have HW1 := Lib.hid hw1
  have HT := Lib.hid ht
  have HT2 := Lib.hid ht2
  have K1 := Lib.hid k1
  have B1 := Lib.hid b1
  have HN := Lib.hid hn
  have HP := Lib.hid hp
  have HPB := Lib.hid hpb
  have HPT := Lib.hid hpt
  have HPTB := Lib.hid hptb
  have HFIT := Lib.hid hfit
  have hbm := build_maker
  clear hw1 ht ht2 k1 b1 hn hp hpb hpt hptb hfit
  go_enter Try.func38, Try.ntmps38
  go_wp2_with fail
  rw [← HW1.out]
  have sA : w1.drew.cell? ⟨w.heap.size, 3, none⟩ = some (.slice (some ⟨tb, toff, none⟩) ts.length tc) := K1.out.cell 3
  go_region_held3 (fun w' => w'.cell? ⟨w.heap.size, 3, none⟩ = some (.slice (some ⟨tb, toff, none⟩) ts.length tc)) (first | exact sA | exact sB | exact sC)
    ((first | (go_at_call 81; refine HT2.out.mono ?_; rintro e w2 ⟨mb, rfl, htab, hbt⟩; obtain ⟨mk, rfl⟩ : ∃ mk, mb = .map (some mk) := (by obtain ⟨mk, _, e, _⟩ := htab; exact ⟨mk, e⟩); have k2 := K1.out.drew.below hbt K1.out.lt; have sB : w2.cell? ⟨w.heap.size, 3, none⟩ = some (.slice (some ⟨tb, toff, none⟩) ts.length tc) := k2.cell 3; have sC : (w2.alloc (.cells #[.slice (some ⟨tb, toff, none⟩) ts.length tc, .map (some ib), .map (some mt), .slice none 0 0, .bool false, .map (some mk), .slice none 0 0] 140)).cell? ⟨w.heap.size, 3, none⟩ = some (.slice (some ⟨tb, toff, none⟩) ts.length tc) := (k2.alloc _).cell 3)))
  have hb2 : Below w.heap.size w w2 := B1.out.drew.trans (hbt.mono B1.out.drew.size)
  have hz2 := hb2.size
  have hlt2 := K1.out.lt
  have hz12 := hbt.size
  have hnode := enode_any w2 w2.heap.size w2.heap.size tb toff tc (.map (some ib)) (.map (some mt)) (.map (some mk)) ts pi pt hl (by omega) (HN.out.below hb2 htb) htab (HP.out.up hb2 hz2) HPB.out (HPT.out.up hb2 hz2) HPTB.out ts.length 0 (by omega) hl0 hbe HFIT.out
  have hnode2 := enode_any w2 w2.heap.size w2.heap.size tb toff tc (.map (some ib)) (.map (some mt)) (.map (some mk)) ts pi pt hl (by omega) (HN.out.below hb2 htb) htab (HP.out.up hb2 hz2) HPB.out (HPT.out.up hb2 hz2) HPTB.out ts.length J (by omega) hb2l hbe2 HFIT2.out
  have HNODE2 := Lib.hid hnode2
  have HN2 := Lib.hid (HN.out.below hb2 htb)
  clear hnode2
  obtain ⟨w3, hw3⟩ : ∃ w3, w3 = w2.alloc (.cells #[.slice (some ⟨tb, toff, none⟩) ts.length tc, .map (some ib), .map (some mt), .slice none 0 0, .bool false, .map (some mk), .slice none 0 0] 140) := ⟨_, rfl⟩
  have ek := EK.start w2 (.slice (some ⟨tb, toff, none⟩) ts.length tc) (.map (some ib)) (.map (some mt)) (.map (some mk))
  have k3 := k2.alloc (.cells #[.slice (some ⟨tb, toff, none⟩) ts.length tc, .map (some ib), .map (some mt), .slice none 0 0, .bool false, .map (some mk), .slice none 0 0] 140)
  have hb23 : Below w2.heap.size w2 w3 := by rw [hw3]; exact (Below.refl _ _).alloc (Nat.le_refl _) _
  rw [← hw3] at ek k3 ⊢
  have c2 : w3.cell? ⟨w.heap.size, 2, none⟩ = some (.bool true) := k3.cell 2
  have K3 := Lib.hid k3
  have HNODE := Lib.hid hnode
  have EK3 := Lib.hid ek
  have HB23 := Lib.hid hb23
  have HB2 := Lib.hid hb2
  clear hnode ek hb23 hb2 hw3 k2 k3 htab hbt sA sB sC
  go_wp2_with fail
  refine (HNODE.out ⟨[], false, []⟩ w3 HB23.out EK3.out HM1.out).mono ?_
  rintro e w4 ⟨rfl, h4, f4⟩
  rw [← HS1.out] at h4
  have EK4 := Lib.hid h4
  have FR4 := Lib.hid f4
  clear h4 f4
  go_wp2_with fail
  refine (emitAhead_nil w2.heap.size w2.heap.size _ _ _ _ s1 31 w4 EK4.out bma).mono ?_
  rintro e wa ⟨av, rfl, ⟨ga, gb, rfl, ka, kb⟩, ha, fa⟩
  rw [← HSA.out] at ha kb
  have EKA := Lib.hid ha
  have FRA := Lib.hid (FR4.out.trans fa)
  have KA := Lib.hid ka
  have KB := Lib.hid kb
  have ca3 : wa.cell? ⟨w.heap.size, 3, none⟩ = some (.slice (some ⟨tb, toff, none⟩) ts.length tc) := (FRA.out.blk K3.out (by decide)).cell 3
  have hbi := behind_in tb toff tc ts 0 wa (by omega) (HN2.out.below (HB23.out.trans FRA.out.below) (by omega)) hl0
  rw [hJb] at hbi
  have hbd := behind_in tb toff tc ts 0 wa.drew (by omega) (HN2.out.below ((HB23.out.trans FRA.out.below).drew) (by omega)) hl0
  rw [hJb] at hbd
  have HBI := Lib.hid hbi
  have HBD := Lib.hid hbd
  clear ha fa ka kb hbi hbd
  go_wp2_with fail
  refine HBI.out.mono ?_
  rintro e w' ⟨rfl, rfl⟩
  go_wp2_with fail
  refine (HNODE2.out sa wa (HB23.out.trans FRA.out.below) EKA.out HMB.out).mono ?_
  rintro e wb ⟨rfl, hb, fb⟩
  rw [← HSB.out] at hb
  have EKB := Lib.hid hb
  have FRB := Lib.hid (FRA.out.trans fb)
  have KA2 := Lib.hid (fb.blk KA.out (by decide))
  have KB2 := Lib.hid (fb.blk KB.out (by decide))
  clear hb fb
  go_wp2_with fail
  refine (emitHere_any w2.heap.size w2.heap.size _ _ _ _ sb sa.at_ ga gb wb EKB.out KA2.out KB2.out bmb).mono ?_
  rintro e wc ⟨rfl, hc, fc⟩
  rw [← HSC.out] at hc
  have EKC := Lib.hid hc
  have FRC := Lib.hid (FRB.out.trans fc)
  clear hc fc
  go_wp2_with fail
  refine (emitOp_nil w2.heap.size w2.heap.size _ _ _ _ sc' 34 wc EKC.out bmc).mono ?_
  rintro e w5 ⟨rfl, h5, f5⟩
  rw [← HS2.out] at h5
  have EK5 := Lib.hid h5
  have FR5 := Lib.hid (FRC.out.trans f5)
  obtain ⟨bv, lv, vals, hB5, mk5, ob5, ol5, wt5⟩ := h5
  obtain ⟨nl, hnl⟩ : ∃ nl, s2.later.length = nl := ⟨_, rfl⟩
  have hnlb : nl ≤ 1000000 := by have := hm; unfold MS.ms at this; omega
  rw [hnl] at ol5
  obtain ⟨Al, cl, rfl⟩ := own_form ol5
  have c6 : w5.cell? ⟨w2.heap.size, 6, none⟩ = some (.slice Al nl cl) := mk5.cell 6
  have OL5 := Lib.hid ol5
  have WT5 := Lib.hid wt5
  have HNL := Lib.hid hnl
  clear f5 mk5 ob5 ol5 wt5 hnl
  go_wp2_with fail
  go_loopw [11, 41] (fun _ iv wr => ∃ (k : Nat), k ≤ nl ∧ iv = .int .i64 k ∧ EK wr w2.heap.size w2.heap.size (.slice (some ⟨tb, toff, none⟩) ts.length tc) (.map (some ib)) (.map (some mt)) (.map (some mk)) { s2 with b := layE (s2.later.take k) s2.b } ∧ wr.ownsRow w2.heap.size 1 1 (.slice Al nl cl) nl vals ∧ Frm w2.heap.size [5] w5 wr) (fun _ iv _ => nl - (intOf iv).toNat)
  case atStart => exact ⟨0, by omega, rfl, EK5.out, OL5.out, Frm.refl _ _ _⟩
  case round =>
    obtain ⟨k, hkn, rfl, hek, hol, hfr⟩ := hrel
    by_cases hlt : k < nl
    · obtain ⟨⟨pp, qq⟩, hpq⟩ : ∃ p, s2.later[k]? = some p := ⟨_, List.getElem?_eq_getElem (by rw [HNL.out]; exact hlt)⟩
      obtain ⟨v, hv, hw⟩ := WT5.out k _ hpq
      obtain ⟨g1, g2, g3, rfl, kk1, kk2, kk3⟩ := hw.frm (hfr.more (by simp))
      obtain ⟨gl, rfl⟩ : ∃ gl, Al = some ⟨gl, 0, none⟩ := by
        obtain ⟨g, cap, e, _⟩ := hol.form (by omega)
        injection e with e
        exact ⟨g, e⟩
      have hc : wr.cell? ⟨gl, k, none⟩ = some (.func (.func 134) #[] #[.pointer (some ⟨g1, 0, none⟩), .pointer (some ⟨g2, 0, none⟩), .pointer (some ⟨g3, 0, none⟩)]) := by rw [hol.cellAt k (by omega), hv]
      have hkI : (k : Int) < nl := by omega
      have hin := HOK.out (pp, qq) (List.mem_of_getElem? hpq)
      have hsl : (layE (s2.later.take k) s2.b).length = s2.b.length := layE_len _ _
      have hsm : ({ s2 with b := layE (s2.later.take k) s2.b } : MS).ms ≤ 1000000 := by unfold MS.ms at hm ⊢; simp only [hsl]; exact hm
      have hlay := emitLay_any _ _ _ _ _ _ _ pp qq g1 g2 g3 wr hek kk1 kk2 kk3 (by simp only [hsl]; exact hin.1) hsm (by unfold MS.ms at hm; have := hin.2; simp only at this; omega)
      have hst := layE_take hpq s2.b
      have HLAY := Lib.hid hlay
      have HOL := Lib.hid hol
      have HFR := Lib.hid hfr
      have HST := Lib.hid hst
      clear hpq hv hw kk1 kk2 kk3 hin hsl hsm hlay hst hek hol hfr
      go_wp2_with fail
      refine HLAY.out.mono ?_
      rintro e w6 ⟨rfl, h6, f6⟩
      have h7 : EK w6 w2.heap.size w2.heap.size (.slice (some ⟨tb, toff, none⟩) ts.length tc) (.map (some ib)) (.map (some mt)) (.map (some mk)) { s2 with b := layE (s2.later.take (k + 1)) s2.b } := by rw [HST.out]; exact h6
      have EK6 := Lib.hid h7
      have OL6 := Lib.hid (f6.own HOL.out (by decide))
      have FR6 := Lib.hid (HFR.out.trans f6)
      clear h6 h7 f6
      go_wp2_with fail
      go_roundw
      case rel => exact ⟨k + 1, by omega, by go_num, EK6.out, OL6.out, FR6.out⟩
      case measure => (simp [intOf]; try omega)
    · have hkk : k = nl := by omega
      have htk : s2.later.take k = s2.later := List.take_of_length_le (by rw [HNL.out]; omega)
      rw [htk] at hek
      have hlen : (layE s2.later s2.b).length = s2.b.length := layE_len _ _
      obtain ⟨bv, lv, vv, hB, mkk, ob, _, _⟩ := hek
      simp only [hlen] at ob mkk
      obtain ⟨Ab, cb, rfl⟩ := own_form ob
      have c3 : wr.cell? ⟨w2.heap.size, 3, none⟩ = some (.slice Ab s2.b.length cb) := mkk.cell 3
      have c4 : wr.cell? ⟨w2.heap.size, 4, none⟩ = some (.bool s2.bad) := mkk.cell 4
      have hbe2 : Below w.heap.size w wr := ((HB2.out.trans (HB23.out.mono hz2)).trans (FR5.out.below.mono hz2)).trans (hfr.below.mono hz2)
      have OB := Lib.hid (own_low ob hz2)
      have HBE2 := Lib.hid hbe2
      clear htk hlen hB mkk ob hbe2 hol hfr
      go_wp2_with fail
      have d3 : wr.drew.cell? ⟨w2.heap.size, 3, none⟩ = some (.slice Ab s2.b.length cb) := c3
      have d4 : wr.drew.cell? ⟨w2.heap.size, 4, none⟩ = some (.bool s2.bad) := c4
      go_region_held3 (fun w' => w'.cell? ⟨w2.heap.size, 3, none⟩ = some (.slice Ab s2.b.length cb) ∧ w'.cell? ⟨w2.heap.size, 4, none⟩ = some (.bool s2.bad)) (first | exact ⟨d3, d4⟩) ((first | fail))
      go_wp2_with fail
      go_ret2
      exact ⟨_, rfl, OB.out.drew, HBE2.out.drew⟩
end Go.Proofs.Ytggibiodeecljaa
