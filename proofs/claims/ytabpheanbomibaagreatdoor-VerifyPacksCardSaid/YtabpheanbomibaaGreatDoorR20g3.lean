/- tableauref20: look.at, part C. Written by gen_r20g.py. -/
import Derived.Test.YtabpheanbomibaaGreatDoorR20f
namespace Go.Proofs.YtabpheanbomibaaGreatDoor
open Go.RowKit
set_option linter.unusedVariables false

section
variable (w : World) (B kb hb tb eb n : Nat) (SA : Option Addr) (slots : List Int) (sc : Nat) (ints texts : Int) (st : Int → Option (List Int)) (seen : Int → Bool)
set_option maxRecDepth 100000 in
set_option maxHeartbeats 16000000 in
theorem at20_C (x : Ins) (hL : LkAt w B kb hb tb eb n (.slice SA slots.length sc) st seen) (hS : SmallsAt w SA slots) (hs : slots.length ≤ 1000) (hx : AtOk n slots ints texts x) (hop : ¬ (x.op = 30 ∨ x.op = 34 ∨ x.op = 35)) (hf : (giveS n x.at_ (x.at_ + sizeI x.op) (fullV slots x st) st).2.isSome = false) (hn : n ≤ 65535) (hB : B ≤ w.heap.size) (hsl : ∀ y s, st y = some s → s.length ≤ 256) :
    Calls Tryz.prog 42 #[.pointer (some ⟨kb, 0, none⟩), .agg x.cells] w fun e w' => e = .returned (faultV (lookS n slots x st).2) ∧ LkAt w' B kb hb tb eb n (.slice SA slots.length sc) (lookS n slots x st).1 seen ∧ Frm B TL w w' := by
  obtain ⟨R, hR⟩ : ∃ R, R = lookS n slots x st := ⟨_, rfl⟩
  rw [← hR]
  obtain ⟨t1, t2, ht⟩ : ∃ t1 t2, takesV slots x = (t1, t2) := ⟨_, _, rfl⟩
  obtain ⟨s, hsE⟩ : ∃ s, (st x.at_).getD [] = s := ⟨_, rfl⟩
  rw [lookS_eq n slots x st s t1 t2 hsE ht] at hR
  unfold fullV at hf
  rw [hsE, ht] at hf
  simp only at hf
  obtain ⟨htl1, htl2⟩ := takesV_len slots x
  have htk := fun wx (hwx : Below w.heap.size w wx) => takes20_any wx SA sc x slots ints texts (hS.below hwx) hs hx.a0 hx.num
  rw [ht] at htl1 htl2
  simp only [ht] at htk
  simp only at htl1 htl2
  have hs256 : s.length ≤ 256 := by
    rw [← hsE]
    cases hq : st x.at_ with
    | none => simp
    | some s => simpa using hsl _ _ hq
  obtain ⟨tv, htv⟩ : ∃ tv, targetV x = tv := ⟨_, rfl⟩
  have htgc := fun wx => target20_any x wx
  simp only [htv] at htgc
  obtain ⟨hx0, hxat, hxlt, hxn, hxnext, hxtg⟩ := hx
  rw [htv] at hxtg
  obtain ⟨a, ha⟩ := Int.eq_ofNat_of_zero_le hxat
  obtain ⟨xa, xo, xA, xB, xC⟩ := x
  simp only at ha
  subst ha
  simp only at hop hf
  have HFQ := Lib.hid hf
  clear hf
  simp only [Ins.cells] at htk hR hxat hxlt hxnext hsE htgc ⊢
  have ha : a < n := by omega
  obtain ⟨W1, hW1⟩ : ∃ W1, W1 = (w.alloc (.cells #[.int .i64 a, .int .u8 xo, .int .i64 xA, .int .i64 xB, .int .i64 xC] 100)).alloc (.cells #[.int .i64 0, .int .i64 0, .int .i64 0, .int .i64 0] 32) := ⟨_, rfl⟩
  have hb1 : Blk W1 w.heap.size 100 #[.int .i64 a, .int .u8 xo, .int .i64 xA, .int .i64 xB, .int .i64 xC] := by rw [hW1]; exact (Blk.new w _ _).alloc _
  have hr1 : Blk W1 (w.heap.size + 1) 32 #[.int .i64 0, .int .i64 0, .int .i64 0, .int .i64 0] := by rw [hW1]; have h := Blk.new (w.alloc (.cells #[.int .i64 a, .int .u8 xo, .int .i64 xA, .int .i64 xB, .int .i64 xC] 100)) 32 #[.int .i64 0, .int .i64 0, .int .i64 0, .int .i64 0]; rw [World.size_alloc] at h; exact h
  have hbI : Below w.heap.size w W1 := by rw [hW1]; exact ((Below.refl _ _).alloc (Nat.le_refl _) _).alloc (by simp) _
  have hzI : w.heap.size + 1 < W1.heap.size := hr1.lt
  have hL1 := hL.below hbI
  obtain ⟨ns, hns⟩ : ∃ n, slots.length = n := ⟨_, rfl⟩
  rw [hns] at hL hL1 htk ⊢
  have k1 : W1.drew.cell? ⟨kb, 1, none⟩ = some (.slice SA ns sc) := hL1.cells.2.1
  have i0 : W1.drew.cell? ⟨w.heap.size, 0, none⟩ = some (.int .i64 a) := hb1.cell 0
  have i1 : W1.drew.cell? ⟨w.heap.size, 1, none⟩ = some (.int .u8 xo) := hb1.cell 1
  have i2 : W1.drew.cell? ⟨w.heap.size, 2, none⟩ = some (.int .i64 xA) := hb1.cell 2
  have i3 : W1.drew.cell? ⟨w.heap.size, 3, none⟩ = some (.int .i64 xB) := hb1.cell 3
  have i4 : W1.drew.cell? ⟨w.heap.size, 4, none⟩ = some (.int .i64 xC) := hb1.cell 4
  have HTK := Lib.hid (htk W1.drew hbI.drew)
  have HL1 := Lib.hid hL1
  have HB1 := Lib.hid hb1
  have HR1 := Lib.hid hr1
  have HBI := Lib.hid hbI
  have HR := Lib.hid hR
  have HSE := Lib.hid hsE
  have HSL := Lib.hid hsl
  have HW1 := Lib.hid hW1
  have HTG := Lib.hid hxtg
  have HTV := Lib.hid htv
  have HTG2 := Lib.hid htgc
  have HNX := Lib.hid hxnext
  clear hL hL1 hb1 hr1 hbI htk hR hsE hW1 ht hxn hS hsl hns hxtg hxnext htgc htv
  go_enter Tryz.func42, Tryz.ntmps42
  go_wp2_with fail
  rw [← HW1.out]
  refine wp_region_text (by kernel_rfl) (by kernel_rfl) ?_
  go_wp2_with fail
  refine HTK.out.mono ?_
  rintro e w2 ⟨A1, c1, A2, c2, rfl, hc1, hc2, hs1, hs2, hb2⟩
  simp only at hs1 hs2 hc1 hc2
  have hb2' : Below w.heap.size w w2 := HBI.out.trans (((Below.refl W1.heap.size W1).drew.trans hb2).mono HBI.out.size)
  have hbd : Below W1.heap.size W1 w2 := (Below.refl W1.heap.size W1).drew.trans hb2
  have hL2 := HL1.out.below hbd
  have hbk2 := HB1.out.below hbd HB1.out.lt
  have hrb2 := HR1.out.below hbd HR1.out.lt
  obtain ⟨_, _, As, cs, hta, hso⟩ := hL2.at_ ha
  rw [HSE.out] at hta hso
  have k3 : w2.drew.cell? ⟨kb, 3, none⟩ = some (.slice (some ⟨tb, 0, none⟩) n n) := hL2.cells.2.2.2.1
  have i0 : w2.drew.cell? ⟨w.heap.size, 0, none⟩ = some (.int .i64 a) := hbk2.cell 0
  obtain ⟨sl, hsl⟩ : ∃ n, s.length = n := ⟨_, rfl⟩
  obtain ⟨n1, hn1⟩ : ∃ n, t1.length = n := ⟨_, rfl⟩
  obtain ⟨n2, hn2⟩ : ∃ n, t2.length = n := ⟨_, rfl⟩
  rw [hsl] at hta hso hs256
  rw [hn1] at hc1 htl1 ⊢
  rw [hn2] at hc2 htl2 ⊢
  have hta : w2.drew.cell? ⟨tb, a, none⟩ = some (.slice As sl cs) := hta
  have haI : (a : Int) < n := by omega
  obtain ⟨W, hW⟩ : ∃ W, W = w2.drew := ⟨_, rfl⟩
  have HL := Lib.hid (show LkAt W B kb hb tb eb n (.slice SA ns sc) st seen by rw [hW]; exact hL2.below (Below.refl w2.heap.size w2).drew)
  have HB := Lib.hid (show Below w.heap.size w W by rw [hW]; exact hb2'.drew)
  have HI := Lib.hid (show Blk W w.heap.size 100 #[.int .i64 a, .int .u8 xo, .int .i64 xA, .int .i64 xB, .int .i64 xC] by rw [hW]; exact hbk2)
  have HRB := Lib.hid (show Blk W (w.heap.size + 1) 32 #[.int .i64 0, .int .i64 0, .int .i64 0, .int .i64 0] by rw [hW]; exact hrb2)
  have HSO := Lib.hid (show W.ownsRow B 82 1 (.slice As sl cs) sl (s.map (Value.int .i8)) by rw [hW]; exact hso.drew)
  have HS1 := Lib.hid (show SmallsAt W A1 t1 by rw [hW]; exact hs1)
  have HS2 := Lib.hid (show SmallsAt W A2 t2 by rw [hW]; exact hs2)
  have HWD := Lib.hid hW
  have HNS := Lib.hid hsl
  have HN1 := Lib.hid hn1
  have HN2 := Lib.hid hn2
  clear hL2 hb2 hb2' hbd hbk2 hrb2 hs1 hs2 hso hsl hn1 hn2 HTK HL1 HB1 HR1 HBI HW1 i1 i2 i3 i4 k1 hW
  go_wp2_with fail
  refine Only.normal ?_
  go_wp2_with fail
  refine wp_region_text (by kernel_rfl) (by kernel_rfl) ?_
  go_wp2_with fail
  refine Only.normal ?_
  rw [← HWD.out] at *
  have hcs : sl ≤ cs := by
    rcases HSO.out.2 with ⟨e1, e2⟩ | ⟨g, cap, cur, e1, _, _, e2, _⟩
    · omega
    · injection e1 with _ _ e3
      omega
  have i0 : W.cell? ⟨w.heap.size, 0, none⟩ = some (.int .i64 a) := HI.out.cell 0
  by_cases c0 : sl < n1
  · have d0 : decide ((sl : Int) - (n1 : Int) < 0) = true := by simp only [decide_eq_true_eq]; omega
    have HR9 := Lib.hid (show R = (st, some (45, (a : Int))) by rw [HR.out, if_pos (by rw [HNS.out, HN1.out]; exact c0)])
    go_wp2_with fail
    refine (fault20_any _ _ _).mono ?_
    rintro e wf ⟨rfl, hbf⟩
    have hrbf := HRB.out.below hbf HRB.out.lt
    obtain ⟨y0, y1, y2, y3, u0, u1, u2, u3⟩ := hrbf.cells4
    have HRBX := Lib.hid hrbf
    have HLX := Lib.hid (HL.out.below hbf)
    have HBX := Lib.hid (HB.out.trans (hbf.mono HB.out.size))
    clear hbf hrbf
    go_wp2_with fail
    obtain ⟨pb, pf⟩ := put4_blk (a' := .int .i64 45) (b' := .int .i64 (a : Int)) (c' := .int .i64 0) (d' := .int .i64 0) HRBX.out (show B ≤ w.heap.size + 1 by omega)
    refine bodyPost_ret (results_c rfl _ _ (w.heap.size + 1) 32 #[.int .i64 45, .int .i64 (a : Int), .int .i64 0, .int .i64 0] (0, 0) _ rfl pb Tryz.underlying32 rfl fault_info) rfl ?_
    refine ⟨by rw [HR9.out]; rfl, ?_, put4_new (Frm.of_below HBX.out hB) (Nat.le_succ _) hB⟩
    rw [HR9.out]
    exact HLX.out.faulted pf
  · obtain ⟨k, rfl⟩ : ∃ k, sl = k + n1 := ⟨sl - n1, by omega⟩
    have d0 : decide (((k + n1 : Nat) : Int) - (n1 : Int) < 0) = false := by simp only [decide_eq_false_iff_not]; omega
    have hleft : ((k + n1 : Nat) : Int) - (n1 : Int) = k := by omega
    have hr := HR.out
    rw [if_neg (by rw [HNS.out, HN1.out]; omega), HNS.out, HN1.out, Nat.add_sub_cancel] at hr
    have HR2 := Lib.hid hr
    have hst : (s.take k).length = k := by rw [List.length_take, HNS.out]; omega
    have HST := Lib.hid hst
    clear hr hst HR
    obtain ⟨q, hq⟩ : ∃ q, decide (s.drop k = t1) = q := ⟨_, rfl⟩
    have HEQ := Lib.hid (fun (A3 : Option Addr) (c3 : Nat) (h3 : A3 = if cs = k then As else As.map (fun x => x.add k)) => tail_eqS (c3 := c3) (c1 := c1) HSO.out HS1.out HNS.out HN1.out (by omega) hcs h3 hq)
    have hq2 : s.drop k ≠ t1 ↔ q = false := by rw [← hq]; simp
    have HQ := Lib.hid hq2
    have HRW := Lib.hid ((Row8.own HSO.out).take k)
    clear hq hq2
    by_cases hck : cs = k
    all_goals
      go_wp2_with fail
      refine (HEQ.out _ _ (by simp [hck])).mono ?_
      (try (have hck2 : k = cs := hck.symm; subst hck2; clear hck))
      (try clear hck)
      rintro e w4 ⟨rfl, nn, rfl⟩
      have hb4 := below_drewNs (Below.refl W.heap.size W) nn
      obtain ⟨W4, hW4⟩ : ∃ W4, W4 = W.drewN nn := ⟨_, rfl⟩
      rw [← hW4] at hb4 ⊢
      have HL4 := Lib.hid (HL.out.below hb4)
      have HI4 := Lib.hid (HI.out.below hb4 HI.out.lt)
      have HRB4 := Lib.hid (HRB.out.below hb4 HRB.out.lt)
      have HB4 := Lib.hid (HB.out.trans (hb4.mono HB.out.size))
      have HS24 := Lib.hid (HS2.out.below hb4)
      have HRW4 := Lib.hid (HRW.out.frm (Frm.of_below (B := 0) (T := []) hb4 (Nat.zero_le _)) (by simp))
      have i0 : W4.cell? ⟨w.heap.size, 0, none⟩ = some (.int .i64 a) := HI4.out.cell 0
      clear hb4 hW4
      cases q with
      | false =>
        have HR9 := Lib.hid (show R = (st, some (46, (a : Int))) by rw [HR2.out, if_pos (HQ.out.2 rfl)])
        go_wp2_with fail
        refine (fault20_any _ _ _).mono ?_
        rintro e wf ⟨rfl, hbf⟩
        have hrbf := HRB4.out.below hbf HRB4.out.lt
        obtain ⟨y0, y1, y2, y3, u0, u1, u2, u3⟩ := hrbf.cells4
        have HRBX := Lib.hid hrbf
        have HLX := Lib.hid (HL4.out.below hbf)
        have HBX := Lib.hid (HB4.out.trans (hbf.mono HB4.out.size))
        clear hbf hrbf
        go_wp2_with fail
        obtain ⟨pb, pf⟩ := put4_blk (a' := .int .i64 46) (b' := .int .i64 (a : Int)) (c' := .int .i64 0) (d' := .int .i64 0) HRBX.out (show B ≤ w.heap.size + 1 by omega)
        refine bodyPost_ret (results_c rfl _ _ (w.heap.size + 1) 32 #[.int .i64 46, .int .i64 (a : Int), .int .i64 0, .int .i64 0] (0, 0) _ rfl pb Tryz.underlying32 rfl fault_info) rfl ?_
        refine ⟨by rw [HR9.out]; rfl, ?_, put4_new (Frm.of_below HBX.out hB) (Nat.le_succ _) hB⟩
        rw [HR9.out]
        exact HLX.out.faulted pf
      | true =>
        have hr := HR2.out
        rw [if_neg (by rw [HQ.out]; decide)] at hr
        first | have hbf := bare_full W4 As A2 k n2 cs c2 s t2 HRW4.out.smalls HST.out (by omega) HS24.out HN2.out (by omega) | have hbf := bare_full W4 As A2 k n2 k c2 s t2 HRW4.out.smalls HST.out (by omega) HS24.out HN2.out (by omega)
        obtain ⟨A5, c5, W5, A6, c6, W6, A7, c7, W7, r5, r6, r7, hbare, hfull, hb7⟩ := hbf
        obtain ⟨bare, hbe⟩ : ∃ bare, bare = s.take k := ⟨_, rfl⟩
        obtain ⟨full, hfe⟩ : ∃ full, full = bare ++ t2 := ⟨_, rfl⟩
        rw [← hbe] at hbare hfull hr
        rw [← hfe] at hfull hr
        have hfs := HFQ.out
        rw [HNS.out, HN1.out, Nat.add_sub_cancel, ← hbe, ← hfe] at hfs
        have HFS := Lib.hid hfs
        clear hfs
        have hbl : bare.length = k := by rw [hbe]; exact HST.out
        have hfl : full.length = k + n2 := by rw [hfe, List.length_append, hbl, HN2.out]
        rw [hfl] at hr
        have R5 := Lib.hid r5
        have R6 := Lib.hid r6
        have R7 := Lib.hid r7
        have HBV := Lib.hid hbare
        have HWV := Lib.hid hfull
        have HL7 := Lib.hid (HL4.out.below hb7)
        have HIV := Lib.hid (HI4.out.below hb7 HI4.out.lt)
        have HRV := Lib.hid (HRB4.out.below hb7 HRB4.out.lt)
        have HB7 := Lib.hid (HB4.out.trans (hb7.mono HB4.out.size))
        have HFV := Lib.hid (Frm.of_below (T := TL) HB7.out hB)
        have HBLN := Lib.hid hbl
        have HFLN := Lib.hid hfl
        have j0 : W7.cell? ⟨w.heap.size, 0, none⟩ = some (.int .i64 a) := HIV.out.cell 0
        have j1 : W7.cell? ⟨w.heap.size, 1, none⟩ = some (.int .u8 xo) := HIV.out.cell 1
        have HR3 := Lib.hid hr
        clear r5 r6 r7 hbare hfull hb7 hbl hfl hr hbe hfe HR2
        by_cases c3 : 256 < k + n2
        · have HR9 := Lib.hid (show R = (st, some (47, (a : Int))) by rw [HR3.out, if_pos c3])
          have d3 : decide ((256 : Int) < (k : Int) + (n2 : Int)) = true := by simp; omega
          go_wp2_with (at_builtin; go_loud (first | (refine wpList_append_run rfl _ _ 23 rfl (.slice none 0 0) (.slice As k _) (.slice A5 k c5) W5 (by kernel_rfl) (by kernel_rfl) R5.out ?_; clear R5) | (refine wpList_append_run rfl _ _ 23 rfl (.slice none 0 0) (.slice A5 k c5) (.slice A6 k c6) W6 (by kernel_rfl) (by kernel_rfl) R6.out ?_; clear R6) | (refine wpList_append_run rfl _ _ 23 rfl (.slice A6 k c6) (.slice A2 n2 c2) (.slice A7 (k + n2) c7) W7 (by kernel_rfl) (by kernel_rfl) R7.out ?_; clear R7)))
          refine (fault20_any _ _ _).mono ?_
          rintro e wf ⟨rfl, hbf⟩
          have hrbf := HRV.out.below hbf HRV.out.lt
          obtain ⟨y0, y1, y2, y3, u0, u1, u2, u3⟩ := hrbf.cells4
          have HRBX := Lib.hid hrbf
          have HLX := Lib.hid (HL7.out.below hbf)
          have HBX := Lib.hid (HB7.out.trans (hbf.mono HB7.out.size))
          clear hbf hrbf
          go_wp2_with fail
          obtain ⟨pb, pf⟩ := put4_blk (a' := .int .i64 47) (b' := .int .i64 (a : Int)) (c' := .int .i64 0) (d' := .int .i64 0) HRBX.out (show B ≤ w.heap.size + 1 by omega)
          refine bodyPost_ret (results_c rfl _ _ (w.heap.size + 1) 32 #[.int .i64 47, .int .i64 (a : Int), .int .i64 0, .int .i64 0] (0, 0) _ rfl pb Tryz.underlying32 rfl fault_info) rfl ?_
          refine ⟨by rw [HR9.out]; rfl, ?_, put4_new (Frm.of_below HBX.out hB) (Nat.le_succ _) hB⟩
          rw [HR9.out]
          exact HLX.out.faulted pf
        · have hr := HR3.out
          rw [if_neg c3] at hr
          have d3 : decide ((256 : Int) < (k : Int) + (n2 : Int)) = false := by simp; omega
          have HR4 := Lib.hid hr
          clear hr HR3
          by_cases h34 : xo = 34
          · exact absurd (.inr (.inl h34)) hop
          have b34 : (xo == 34) = false := by simpa using h34
          by_cases h35 : xo = 35
          · exact absurd (.inr (.inr h35)) hop
          have b35 : (xo == 35) = false := by simpa using h35
          have hr := HR4.out
          rw [if_neg (by omega)] at hr
          have HR5 := Lib.hid hr
          clear hr HR4
          by_cases h30 : xo = 30
          · exact absurd (.inl h30) hop
          · have b30 : (xo == 30) = false := by simpa using h30
            have b30n : (xo != 30) = true := by simp [bne, b30]
            have hsb := sizeI_bd xo
            obtain ⟨si, hsi⟩ : ∃ si, sizeI xo = si := ⟨_, rfl⟩
            have hsz := fun wx => size16_any xo wx
            simp only [hsi] at hsz hsb
            have hnx2 := HNX.out
            rw [hsi] at hnx2
            have HNX2 := Lib.hid hnx2
            have HSZ := Lib.hid hsz
            obtain ⟨st1, f1, hgs⟩ : ∃ st1 f1, giveS n (a : Int) ((a : Int) + si) full st = (st1, f1) := ⟨_, _, rfl⟩
            have hr := HR5.out
            rw [if_neg h30] at hr
            simp only [hsi] at hr
            rw [hgs] at hr
            have HR6 := Lib.hid hr
            have hf1 := HFS.out
            simp only [hsi] at hf1
            rw [hgs] at hf1
            simp only at hf1
            have HF1 := Lib.hid hf1
            clear hf1
            have hne := fun (e o : Int) (h : f1 = some (e, o)) => giveS_ne (e := e) (o := o) (show (giveS n (a : Int) ((a : Int) + si) full st).2 = some (e, o) by rw [hgs]; exact h)
            have HLEN := Lib.hid (show bare.length ≤ 256 ∧ full.length ≤ 256 by rw [HBLN.out, HFLN.out]; omega)
            have HSL1 := Lib.hid (show ∀ y s, st1 y = some s → s.length ≤ 256 by have h := giveS_high (len := n) (frm := (a : Int)) (tg := (a : Int) + si) (s := full) HSL.out HLEN.out.2; rw [hgs] at h; exact h)
            have HGS := Lib.hid hgs
            have HNE := Lib.hid hne
            have hws : IntKind.i64.wrap ((a : Int) + si) = (a : Int) + si := by rw [IntKind.wrap_i64]; (try unfold wrap64); omega
            have hBW7 : B ≤ W7.heap.size := by have := HFV.out.size; omega
            have HB0 := Lib.hid ((Below.refl W7.heap.size W7).drew)
            have HF0 := Lib.hid (Frm.of_below (T := TL) (Below.refl W7.heap.size W7).drew hBW7)
            have HB0a := Lib.hid (((Below.refl W7.heap.size W7).alloc (Nat.le_refl _) (.cells #[.int .i64 0, .int .i64 0, .int .i64 0, .int .i64 0] 32)).drew)
            have HF0a := Lib.hid (Frm.of_below (T := TL) HB0a.out hBW7)
            clear hsi hsz hnx2 hr hgs hne HR5 h30
            have hnq := neq_fault
            cases f1 with
            | some p => have h := HF1.out; cases h
            | none =>
              have HR8 := Lib.hid (show R = endT n (a : Int) xo bare full tv st1 by rw [HR6.out, endS_T, HTV.out])
              have hgv := fun (wz : World) (hz : Below W7.heap.size W7 wz) => (give20_any wz B kb hb tb eb n (.slice SA ns sc) st seen (a : Int) ((a : Int) + si) A7 full c7 (HL7.out.below hz) (HWV.out.frm (Frm.of_below (T := []) hz (Nat.zero_le _) : Frm 0 [] W7 wz) (by simp)) (by have := HLEN.out; omega) hn (by have := HFV.out.size; have := hz.size; omega) HSL.out HNX2.out).mono (R' := fun e w' => e = .returned (.agg #[.int .i64 0, .int .i64 0, .int .i64 0, .int .i64 0]) ∧ LkAt w' B kb hb tb eb n (.slice SA ns sc) st1 seen ∧ Frm B TL wz w') (by
                rintro e w' ⟨h1, h2, h3⟩
                have h4 := HGS.out
                unfold giveS at h4
                injection h4 with h5 h6
                rw [h6] at h1
                rw [h5] at h2
                exact ⟨h1, h2, h3⟩)
              rw [HFLN.out] at hgv
              have HGV := Lib.hid hgv
              clear hgv
              go_wp2_with (at_builtin; go_loud (first | (refine wpList_append_run rfl _ _ 23 rfl (.slice none 0 0) (.slice As k _) (.slice A5 k c5) W5 (by kernel_rfl) (by kernel_rfl) R5.out ?_; clear R5) | (refine wpList_append_run rfl _ _ 23 rfl (.slice none 0 0) (.slice A5 k c5) (.slice A6 k c6) W6 (by kernel_rfl) (by kernel_rfl) R6.out ?_; clear R6) | (refine wpList_append_run rfl _ _ 23 rfl (.slice A6 k c6) (.slice A2 n2 c2) (.slice A7 (k + n2) c7) W7 (by kernel_rfl) (by kernel_rfl) R7.out ?_; clear R7)))
              go_cut [11] (fun v11 wx => FAt W7 wx B kb hb tb eb n (.slice SA ns sc) st1 seen 0 0 v11)
              case first =>
                (try clear HSE); (try clear HSL); (try clear HTG); (try clear HTV); (try clear HTG2); (try clear HNX); (try clear HL); (try clear HB); (try clear HI); (try clear HRB); (try clear HSO); (try clear HS1); (try clear HS2); (try clear HWD); (try clear HNS); (try clear HN1); (try clear HN2); (try clear HST); (try clear HEQ); (try clear HQ); (try clear HRW); (try clear HL4); (try clear HI4); (try clear HRB4); (try clear HB4); (try clear HS24); (try clear HRW4); (try clear HBV); (try clear HWV); (try clear HL7); (try clear HRV); (try clear HB7); (try clear HFV); (try clear HBLN); (try clear HFLN); (try clear HSL1); (try clear HLEN); (try clear HGS); (try clear HNE); (try clear HNX2); (try clear HR6); (try clear HR9); (try clear HR8); (try clear hnq); (try clear he0); (try clear HWC); (try clear HFLN); (try clear hck); (try clear k3); (try clear hta); (try clear i0); (try clear j0); (try clear j1); (try clear hc1); (try clear hc2); (try clear htl1); (try clear htl2); (try clear hs256); (try clear hxat); (try clear hxlt); (try clear hx0); (try clear hs); (try clear hn); (try clear hzI); (try clear haI); (try clear hcs); (try clear hleft); (try clear d0); (try clear c0); (try clear c3); (try clear d3); (try clear b34); (try clear b35); (try clear b30); (try clear b30n); (try clear h34); (try clear h35); (try clear R5); (try clear R6); (try clear R7)
                go_region_held3 (fun w' => w'.cell? ⟨w.heap.size, 0, none⟩ = some (.int .i64 a) ∧ w'.cell? ⟨w.heap.size, 1, none⟩ = some (.int .u8 xo)) (first | with_reducible exact icells HIV.out HF0.out | with_reducible exact icells HIV.out HF0a.out | with_reducible exact icells HIV.out HFz.out | with_reducible exact icells HIV.out (HFz.out.alloc hBz _) | with_reducible exact icells HIV.out HFg.out | with_reducible exact icells HIV.out (HFg.out.alloc hBg _) | with_reducible exact icells HIV.out ((((HFg.out.setNew hfb hBW7 _).setNew hfb hBW7 _).setNew hfb hBW7 _).setNew hfb hBW7 _)) ((first | (go_at_call 40; go_loud (refine (HSZ.out _).mono ?_; rintro e wz ⟨rfl, hbz⟩; (first | have HBz := Lib.hid (HB0.out.trans (hbz.mono HB0.out.size)) | have HBz := Lib.hid (HB0a.out.trans (hbz.mono HB0a.out.size))); have HFz := Lib.hid (Frm.of_below (T := TL) HBz.out hBW7); have hBz : B ≤ wz.heap.size := Nat.le_trans hBW7 HBz.out.size; (first | have HFB := Lib.hid ((Blk.new W7 32 #[.int .i64 0, .int .i64 0, .int .i64 0, .int .i64 0]).drew.below hbz (by simp)) | skip); clear hbz)) | (go_at_call 94; go_loud (refine (HGV.out _ (by first | with_reducible exact HBz.out | with_reducible exact HBz.out.alloc HBz.out.size _)).mono ?_; rintro e w8 ⟨rfl, hL8, hf8⟩; (first | have HFg := Lib.hid (HFz.out.trans hf8) | have HFg := Lib.hid ((HFz.out.alloc hBz _).trans hf8)); have hBg : B ≤ w8.heap.size := Nat.le_trans hBW7 HFg.out.size; (first | have HFC := Lib.hid (hf8.blk HFB.out (by decide)) | have HFC := Lib.hid (hf8.blk (Blk.new wz 32 #[.int .i64 0, .int .i64 0, .int .i64 0, .int .i64 0]) (by decide)) | skip); (first | (obtain ⟨y0, y1, y2, y3, u0, u1, u2, u3⟩ := HFC.out.cells4) | skip); (first | have hfb : W7.heap.size ≤ wz.heap.size := HBz.out.size | skip); (first | (have h := HFB; have hfb : W7.heap.size ≤ W7.heap.size := Nat.le_refl _) | skip); have HL8 := Lib.hid hL8; clear hL8 hf8))))
                all_goals
                  go_wp2_with fail
                  go_meet
                  first | exact FAt.melt hBW7 HL8.out HFg.out | exact FAt.store hBW7 HL8.out HFg.out HFC.out hfb
              case rest =>
              obtain ⟨fb, rfl, hbf, hL8, hF8⟩ := hcut
              obtain ⟨f0, f1, f2, f3, _, _, _, _⟩ := hbf.cells4
              have HL8 := Lib.hid hL8
              have HF8 := Lib.hid hF8
              have HI8 := Lib.hid (hF8.blk HIV.out (by decide))
              clear hbf hL8 hF8
              have HLV := HL8
              have HFX := Lib.hid (HFV.out.trans HF8.out)
              have HRV := Lib.hid (HF8.out.blk HRV.out (by decide))
              have HIV := HI8
              have HBV := Lib.hid (HBV.out.frm HF8.out (by decide))
              have HWV := Lib.hid (HWV.out.frm HF8.out (by decide))
              have HFV := HFX
              obtain ⟨j0, j1, j2, j3, j4⟩ := (show wc.cell? ⟨w.heap.size, 0, none⟩ = some (.int .i64 a) ∧ wc.cell? ⟨w.heap.size, 1, none⟩ = some (.int .u8 xo) ∧ wc.cell? ⟨w.heap.size, 2, none⟩ = some (.int .i64 xA) ∧ wc.cell? ⟨w.heap.size, 3, none⟩ = some (.int .i64 xB) ∧ wc.cell? ⟨w.heap.size, 4, none⟩ = some (.int .i64 xC) from ⟨HIV.out.cell 0, HIV.out.cell 1, HIV.out.cell 2, HIV.out.cell 3, HIV.out.cell 4⟩)
              go_wp2_with fail
              refine (HTG2.out _).mono ?_
              rintro e wg ⟨rfl, hbg⟩
              have hbl : Below wc.heap.size wc wg := by rw [← hbg]; exact (Below.refl _ _).alloc (Nat.le_refl _) _
              have HLW := Lib.hid (HLV.out.below hbl)
              have HFW := Lib.hid (HFV.out.trans (Frm.of_below (T := TL) hbl (by have := HFV.out.size; omega)))
              have HRW := Lib.hid (HRV.out.below hbl HRV.out.lt)
              have HIW := Lib.hid (HIV.out.below hbl HIV.out.lt)
              have hf0 : Frm 0 [] wc wg := Frm.of_below hbl (Nat.zero_le _)
              have HBW := Lib.hid (HBV.out.frm hf0 (by simp))
              have HWW := Lib.hid (HWV.out.frm hf0 (by simp))
              have j0 : wg.cell? ⟨w.heap.size, 0, none⟩ = some (.int .i64 a) := HIW.out.cell 0
              have j1 : wg.cell? ⟨w.heap.size, 1, none⟩ = some (.int .u8 xo) := HIW.out.cell 1
              clear hbg hbl hf0 j2 j3 j4
              cases tv with
              | none =>
                have HR9 := Lib.hid (show R = (st1, none) by rw [HR8.out]; rfl)
                simp only [Option.getD_none]
                have HRBX := HRW
                obtain ⟨y0, y1, y2, y3, u0, u1, u2, u3⟩ := HRBX.out.cells4
                go_wp2_with fail
                obtain ⟨pb, pf⟩ := put4_blk (a' := .int .i64 0) (b' := .int .i64 0) (c' := .int .i64 0) (d' := .int .i64 0) HRBX.out (show B ≤ w.heap.size + 1 by omega)
                refine bodyPost_ret (results_c rfl _ _ (w.heap.size + 1) 32 #[.int .i64 0, .int .i64 0, .int .i64 0, .int .i64 0] (0, 0) _ rfl pb Tryz.underlying32 rfl fault_info) rfl ?_
                refine ⟨by rw [HR9.out]; rfl, ?_, put4_new HFW.out (Nat.le_succ _) hB⟩
                rw [HR9.out]
                exact HLW.out.faulted pf
              | some tg =>
                have htg0 : 0 ≤ tg := HTG.out tg rfl
                have dtg : decide (tg < 0) = false := by simpa using htg0
                simp only [Option.getD_some]
                by_cases h32 : xo = 32
                · have b32 : (xo == 32) = true := by simpa using h32
                  have HR8 := Lib.hid (show R = giveS n (a : Int) tg bare st1 by rw [HR8.out]; unfold endT; rw [h32]; rfl)
                  clear h32
                  go_wp2_with fail
                  have hgv := give20_any wg B kb hb tb eb n (.slice SA ns sc) st1 seen (a : Int) tg A5 bare c5 HLW.out HBW.out (by have := HLEN.out; omega) hn (by have := HFW.out.size; omega) HSL1.out htg0
                  rw [HBLN.out] at hgv
                  refine hgv.mono ?_
                  rintro e w9 ⟨rfl, hL9, hf9⟩
                  have hgs : giveS n (a : Int) tg bare st1 = ((giveV n (a : Int) tg bare ⟨st1, [], 0⟩).1.stacks, (giveV n (a : Int) tg bare ⟨st1, [], 0⟩).2) := rfl
                  generalize (giveV n (a : Int) tg bare ⟨st1, [], 0⟩).1.stacks = st2 at hL9 hgs
                  generalize (giveV n (a : Int) tg bare ⟨st1, [], 0⟩).2 = f2 at hgs ⊢
                  have hR9 := HR8.out
                  rw [hgs] at hR9
                  have HR9 := Lib.hid hR9
                  have HRBX := Lib.hid (hf9.blk HRW.out (by decide))
                  have HL9 := Lib.hid hL9
                  have HF9 := Lib.hid (HFW.out.trans hf9)
                  clear hL9 hf9 hgs hR9
                  obtain ⟨y0, y1, y2, y3, u0, u1, u2, u3⟩ := HRBX.out.cells4
                  cases f2 with
                  | none =>
                    simp only [faultV]
                    go_wp2_with fail
                    obtain ⟨pb, pf⟩ := put4_blk (a' := .int .i64 0) (b' := .int .i64 0) (c' := .int .i64 0) (d' := .int .i64 0) HRBX.out (show B ≤ w.heap.size + 1 by omega)
                    refine bodyPost_ret (results_c rfl _ _ (w.heap.size + 1) 32 #[.int .i64 0, .int .i64 0, .int .i64 0, .int .i64 0] (0, 0) _ rfl pb Tryz.underlying32 rfl fault_info) rfl ?_
                    refine ⟨by rw [HR9.out]; rfl, ?_, put4_new HF9.out (Nat.le_succ _) hB⟩
                    rw [HR9.out]
                    exact HL9.out.faulted pf
                  | some p =>
                    obtain ⟨e0, o0⟩ := p
                    simp only [faultV]
                    go_wp2_with fail
                    obtain ⟨pb, pf⟩ := put4_blk (a' := .int .i64 e0) (b' := .int .i64 o0) (c' := .int .i64 0) (d' := .int .i64 0) HRBX.out (show B ≤ w.heap.size + 1 by omega)
                    refine bodyPost_ret (results_c rfl _ _ (w.heap.size + 1) 32 #[.int .i64 e0, .int .i64 o0, .int .i64 0, .int .i64 0] (0, 0) _ rfl pb Tryz.underlying32 rfl fault_info) rfl ?_
                    refine ⟨by rw [HR9.out]; rfl, ?_, put4_new HF9.out (Nat.le_succ _) hB⟩
                    rw [HR9.out]
                    exact HL9.out.faulted pf
                have b32 : (xo == 32) = false := by simpa using h32
                by_cases h33 : xo = 33
                · have b33 : (xo == 33) = true := by simpa using h33
                  have HR8 := Lib.hid (show R = giveS n (a : Int) tg bare st1 by rw [HR8.out]; unfold endT; rw [h33]; rfl)
                  clear h33
                  go_wp2_with fail
                  have hgv := give20_any wg B kb hb tb eb n (.slice SA ns sc) st1 seen (a : Int) tg A5 bare c5 HLW.out HBW.out (by have := HLEN.out; omega) hn (by have := HFW.out.size; omega) HSL1.out htg0
                  rw [HBLN.out] at hgv
                  refine hgv.mono ?_
                  rintro e w9 ⟨rfl, hL9, hf9⟩
                  have hgs : giveS n (a : Int) tg bare st1 = ((giveV n (a : Int) tg bare ⟨st1, [], 0⟩).1.stacks, (giveV n (a : Int) tg bare ⟨st1, [], 0⟩).2) := rfl
                  generalize (giveV n (a : Int) tg bare ⟨st1, [], 0⟩).1.stacks = st2 at hL9 hgs
                  generalize (giveV n (a : Int) tg bare ⟨st1, [], 0⟩).2 = f2 at hgs ⊢
                  have hR9 := HR8.out
                  rw [hgs] at hR9
                  have HR9 := Lib.hid hR9
                  have HRBX := Lib.hid (hf9.blk HRW.out (by decide))
                  have HL9 := Lib.hid hL9
                  have HF9 := Lib.hid (HFW.out.trans hf9)
                  clear hL9 hf9 hgs hR9
                  obtain ⟨y0, y1, y2, y3, u0, u1, u2, u3⟩ := HRBX.out.cells4
                  cases f2 with
                  | none =>
                    simp only [faultV]
                    go_wp2_with fail
                    obtain ⟨pb, pf⟩ := put4_blk (a' := .int .i64 0) (b' := .int .i64 0) (c' := .int .i64 0) (d' := .int .i64 0) HRBX.out (show B ≤ w.heap.size + 1 by omega)
                    refine bodyPost_ret (results_c rfl _ _ (w.heap.size + 1) 32 #[.int .i64 0, .int .i64 0, .int .i64 0, .int .i64 0] (0, 0) _ rfl pb Tryz.underlying32 rfl fault_info) rfl ?_
                    refine ⟨by rw [HR9.out]; rfl, ?_, put4_new HF9.out (Nat.le_succ _) hB⟩
                    rw [HR9.out]
                    exact HL9.out.faulted pf
                  | some p =>
                    obtain ⟨e0, o0⟩ := p
                    simp only [faultV]
                    go_wp2_with fail
                    obtain ⟨pb, pf⟩ := put4_blk (a' := .int .i64 e0) (b' := .int .i64 o0) (c' := .int .i64 0) (d' := .int .i64 0) HRBX.out (show B ≤ w.heap.size + 1 by omega)
                    refine bodyPost_ret (results_c rfl _ _ (w.heap.size + 1) 32 #[.int .i64 e0, .int .i64 o0, .int .i64 0, .int .i64 0] (0, 0) _ rfl pb Tryz.underlying32 rfl fault_info) rfl ?_
                    refine ⟨by rw [HR9.out]; rfl, ?_, put4_new HF9.out (Nat.le_succ _) hB⟩
                    rw [HR9.out]
                    exact HL9.out.faulted pf
                have b33 : (xo == 33) = false := by simpa using h33
                have HR8 := Lib.hid (show R = giveS n (a : Int) tg full st1 by rw [HR8.out]; unfold endT; simp only [h32, h33, or_self, if_false])
                go_wp2_with fail
                have hgv := give20_any wg B kb hb tb eb n (.slice SA ns sc) st1 seen (a : Int) tg A7 full c7 HLW.out HWW.out (by have := HLEN.out; omega) hn (by have := HFW.out.size; omega) HSL1.out htg0
                rw [HFLN.out] at hgv
                refine hgv.mono ?_
                rintro e w9 ⟨rfl, hL9, hf9⟩
                have hgs : giveS n (a : Int) tg full st1 = ((giveV n (a : Int) tg full ⟨st1, [], 0⟩).1.stacks, (giveV n (a : Int) tg full ⟨st1, [], 0⟩).2) := rfl
                generalize (giveV n (a : Int) tg full ⟨st1, [], 0⟩).1.stacks = st2 at hL9 hgs
                generalize (giveV n (a : Int) tg full ⟨st1, [], 0⟩).2 = f2 at hgs ⊢
                have hR9 := HR8.out
                rw [hgs] at hR9
                have HR9 := Lib.hid hR9
                have HRBX := Lib.hid (hf9.blk HRW.out (by decide))
                have HL9 := Lib.hid hL9
                have HF9 := Lib.hid (HFW.out.trans hf9)
                clear hL9 hf9 hgs hR9
                obtain ⟨y0, y1, y2, y3, u0, u1, u2, u3⟩ := HRBX.out.cells4
                cases f2 with
                | none =>
                  simp only [faultV]
                  go_wp2_with fail
                  obtain ⟨pb, pf⟩ := put4_blk (a' := .int .i64 0) (b' := .int .i64 0) (c' := .int .i64 0) (d' := .int .i64 0) HRBX.out (show B ≤ w.heap.size + 1 by omega)
                  refine bodyPost_ret (results_c rfl _ _ (w.heap.size + 1) 32 #[.int .i64 0, .int .i64 0, .int .i64 0, .int .i64 0] (0, 0) _ rfl pb Tryz.underlying32 rfl fault_info) rfl ?_
                  refine ⟨by rw [HR9.out]; rfl, ?_, put4_new HF9.out (Nat.le_succ _) hB⟩
                  rw [HR9.out]
                  exact HL9.out.faulted pf
                | some p =>
                  obtain ⟨e0, o0⟩ := p
                  simp only [faultV]
                  go_wp2_with fail
                  obtain ⟨pb, pf⟩ := put4_blk (a' := .int .i64 e0) (b' := .int .i64 o0) (c' := .int .i64 0) (d' := .int .i64 0) HRBX.out (show B ≤ w.heap.size + 1 by omega)
                  refine bodyPost_ret (results_c rfl _ _ (w.heap.size + 1) 32 #[.int .i64 e0, .int .i64 o0, .int .i64 0, .int .i64 0] (0, 0) _ rfl pb Tryz.underlying32 rfl fault_info) rfl ?_
                  refine ⟨by rw [HR9.out]; rfl, ?_, put4_new HF9.out (Nat.le_succ _) hB⟩
                  rw [HR9.out]
                  exact HL9.out.faulted pf
end
end Go.Proofs.YtabpheanbomibaaGreatDoor
