/- verify: checker.read keeps all maps but the instructions' table. -/
import Derived.Test.YtabpheanbomibaaGreatDoorVer3
namespace Go.Proofs.YtabpheanbomibaaGreatDoor
open Go.RowKit
set_option linter.unusedVariables false

/-- Nothing below B turned, no cells, no map but ib. -/
structure FrmI (ib B : Nat) (w w' : World) : Prop where
  frm : Frm B [] w w'
  maps : ∀ (g : Nat) (es : Array MapEntry) (c : Nat), g ≠ ib → w.heap[g]? = some (Obj.map es c) → w'.heap[g]? = w.heap[g]?
section
variable {ib B : Nat} {w w' a b c : World}
theorem FrmI.refl (ib B : Nat) (w : World) : FrmI ib B w w := ⟨Frm.refl _ _ _, fun _ _ _ _ _ => rfl⟩
theorem FrmI.trans (h : FrmI ib B a b) (k : FrmI ib B b c) : FrmI ib B a c :=
  ⟨h.frm.trans k.frm, fun g es d hn hg => (k.maps g es d hn ((h.maps g es d hn hg).trans hg)).trans (h.maps g es d hn hg)⟩
theorem FrmI.size (h : FrmI ib B w w') : w.heap.size ≤ w'.heap.size := h.frm.size
theorem FrmI.below (h : FrmI ib B w w') : Below B w w' := h.frm.below
theorem FrmI.drew (h : FrmI ib B a w) : FrmI ib B a w.drew := ⟨h.frm.drew, h.maps⟩
theorem FrmI.of_below (h : Below w.heap.size w w') (hB : B ≤ w.heap.size) : FrmI ib B w w' :=
  ⟨Frm.of_below h hB, fun g _ _ _ hg => h.block g (Array.getElem?_eq_some_iff.1 hg).1⟩
theorem FrmI.alloc (h : FrmI ib B a w) (hB : B ≤ w.heap.size) (o : Obj) : FrmI ib B a (w.alloc o) := h.trans (FrmI.of_below ((Below.refl _ _).alloc (Nat.le_refl _) o) hB)
theorem FrmI.map {P : Program} {k : TypeId} {κ : Type} {K : KeyT P k κ} {f : κ → Option Value} (h : FrmI ib B a w) (hm : MK K w ib f) (hB : B ≤ ib) (hg : w.grownBy w' (some ib)) (hs : B ≤ w.heap.size) : FrmI ib B a w' :=
  ⟨h.frm.map hm hB hg hs, fun g es d hn hgm => by
    have h1 := h.maps g es d hn hgm
    rw [hg.block g (Array.getElem?_eq_some_iff.1 (h1.trans hgm)).1 (fun e => hn (Option.some.inj e)), h1]⟩
theorem FrmI.grownNew {base : Nat} {e : TypeId} {size n : Nat} {v : Value} {xs : List Value} (h : FrmI ib B a w) (ho : w.ownsRow base e size v n xs) (hg : w.grownBy w' v.ownBlock) (hb : a.heap.size ≤ base) (hB : B ≤ a.heap.size) : FrmI ib B a w' :=
  ⟨h.frm.grownNew ho hg hb hB, fun g es d hn hgm => by
    have h1 := h.maps g es d hn hgm
    have h2 : g < a.heap.size := (Array.getElem?_eq_some_iff.1 hgm).1
    rw [hg.block g (by have := h.size; omega) ?_, h1]
    intro e2
    have := (ho.lt g e2.symm).1
    omega⟩
theorem FrmI.mk_ {P : Program} {k : TypeId} {κ : Type} {K : KeyT P k κ} {m : Nat} {f : κ → Option Value} (h : FrmI ib B w w') (hm : MK K w m f) (hne : m ≠ ib) : MK K w' m f := by
  obtain ⟨es, clock, l, hb, r⟩ := hm
  exact ⟨es, clock, l, (h.maps m es clock hne hb).trans hb, r⟩
end
section
variable (w0 w : World) (kb ib sb hb : Nat) (BA SA : Option Addr) (b slots : List Int) (bc sc : Nat) (ints texts : Int)
set_option maxRecDepth 100000 in
set_option maxHeartbeats 8000000 in
theorem vreadI_any (hw : Below w0.heap.size w0 w) (hK : CkAt w kb (.slice BA b.length bc) (.slice SA slots.length sc) ints texts ib sb hb) (hkb : w0.heap.size ≤ kb) (hib : w0.heap.size ≤ ib)
    (hbt : BytesAt w0 BA b) (hS : SmallsAt w0 SA slots) (hM : MK keyI w ib (fun _ => none)) (hbl : b.length ≤ 65535) (hbc : b.length ≤ bc) (hs : slots.length ≤ 1000) :
    Calls Tryz.prog 30 #[.pointer (some ⟨kb, 0, none⟩)] w fun e w' => ∃ v, e = .returned v ∧ ReadOk w' w0.heap.size ib v (readV b slots ints texts) ∧ FrmI ib w0.heap.size w w' := by
  obtain ⟨R, hR⟩ : ∃ R, R = readV b slots ints texts := ⟨_, rfl⟩
  rw [← hR]
  unfold readV at hR
  obtain ⟨R1, hR1⟩ : ∃ R, R = scanV b slots ints texts b.length 0 [] := ⟨_, rfl⟩
  rw [← hR1] at hR
  obtain ⟨B, hBe⟩ : ∃ B, w0.heap.size = B := ⟨_, rfl⟩
  have hrd := fun (k : Nat) wx (hx : BytesAt wx BA b) => read_any BA b bc k wx (by omega) hbc hx
  have hnm := fun (wx : World) (x : Ins) hk hx ha hbb => numbers_any wx kb ib sb hb (.slice BA b.length bc) SA slots sc ints texts x hk hx hs ha hbb
  obtain ⟨n, hn⟩ : ∃ n, b.length = n := ⟨_, rfl⟩
  have hbz := hw.size
  rw [hBe] at hw hkb hib hbz ⊢
  rw [hn] at hrd hbl hbc hK hnm hR1
  have hbx : ∀ wx, Below B w0 wx → BytesAt wx BA b := fun wx h => hbt.below (by rw [hBe]; exact h)
  have hsx : ∀ wx, Below B w0 wx → SmallsAt wx SA slots := fun wx h => hS.below (by rw [hBe]; exact h)
  have HR := Lib.hid hR
  have HR1 := Lib.hid hR1
  have HN := Lib.hid hn
  have HRD := Lib.hid hrd
  have HNM := Lib.hid hnm
  have HBX := Lib.hid hbx
  have HSX := Lib.hid hsx
  have HBY := Lib.hid hbt.byte
  have HW := Lib.hid hw
  have HK := Lib.hid hK
  have HM := Lib.hid hM
  clear hR hR1 hn hrd hnm hbx hsx hbt hS hw hK hM hBe
  go_enter Tryz.func30, Tryz.ntmps30
  go_wp2_with fail
  go_loopw [3, 4, 5, 6, 7, 8] (fun lv iv _ _ _ _ wr => ∃ (f at_ : Nat) (acc : List Ins), n ≤ at_ + f ∧ at_ ≤ n + 10 ∧ (acc.filter isJ).length ≤ at_ ∧ iv = .int .i64 at_ ∧ Hid (∀ y ∈ acc, y.at_ < (at_ : Int)) ∧ Hid (R1 = scanV b slots ints texts f at_ acc) ∧ wr.ownsRow w.heap.size 100 5 lv (acc.filter isJ).length (insVals (acc.filter isJ)) ∧ MK keyI wr ib (insF acc) ∧ FrmI ib B w wr)
    (fun _ iv _ _ _ _ _ => n - (intOf iv).toNat)
  case atStart => exact ⟨n, 0, [], by omega, by omega, by simp, rfl, Lib.hid (by simp), HR1, World.ownsRow_nil _ _ _ _, HM.out, FrmI.refl _ _ _⟩
  case round =>
    obtain ⟨f, at_, acc, hf, hat, hacc, rfl, HLT, HR1', hown, hmk, hfr⟩ := hrel
    obtain ⟨al, hal⟩ : ∃ al, (acc.filter isJ).length = al := ⟨_, rfl⟩
    rw [hal] at hown hacc
    obtain ⟨A5, c5, rfl⟩ := own_form hown
    have hkw := HK.out.frm hfr.frm
    have k0 := Blk.cell hkw 0
    have hzr := hfr.size
    by_cases hlt : at_ < n
    · obtain ⟨f', rfl⟩ : ∃ f', f = f' + 1 := ⟨f - 1, by omega⟩
      have hBr : Below B w0 wr := HW.out.trans hfr.below
      have hr1 := HR1'.out
      rw [scanV, if_neg (by rw [HN.out]; omega)] at hr1
      obtain ⟨xa, xo, xA, xB, xC, er, hre⟩ : ∃ xa xo xA xB xC er, readM b at_ = (⟨xa, xo, xA, xB, xC⟩, er) := ⟨_, _, _, _, _, _, rfl⟩
      obtain ⟨x, hx⟩ : ∃ x : Ins, x = ⟨xa, xo, xA, xB, xC⟩ := ⟨_, rfl⟩
      have hok := fun (h : er = 0) => readM_ok HBY.out (at_ := at_) (x := ⟨xa, xo, xA, xB, xC⟩) (by rw [hre, h])
      rw [hre, ← hx] at hr1
      simp only at hr1
      have hread := HRD.out at_ wr (HBX.out wr hBr)
      rw [hre] at hread
      simp only [Ins.cells] at hread
      have HX := Lib.hid hx
      have HRS := Lib.hid hr1
      have HREAD := Lib.hid hread
      have HOK := Lib.hid hok
      have HOWN := Lib.hid hown
      have HMK := Lib.hid hmk
      have HFR := Lib.hid hfr
      have HBR := Lib.hid hBr
      have HKW := Lib.hid hkw
      have HAL := Lib.hid hal
      clear hr1 hread hok hown hmk hfr hBr hkw hal hre hx HR1'
      have hBwr : B ≤ wr.heap.size := by omega
      by_cases her : er = 0
      · subst her
        obtain ⟨hxa, hA0, hB0, hs1⟩ := HOK.out rfl
        simp only at hxa hA0 hB0 hs1
        subst hxa
        obtain ⟨q, hq⟩ : ∃ q, numbersV slots ints texts x = q := ⟨_, rfl⟩
        have hnx : R1 = if q ≠ 0 then .inr (q, (at_ : Int)) else scanV b slots ints texts f' (at_ + (sizeI x.op).toNat) (acc ++ [x]) := by
          have := HRS.out
          rw [if_neg (by simp), hq] at this
          exact this
        have HNX := Lib.hid hnx
        have HQ := Lib.hid hq
        clear hnx HRS hq
        go_wp2_with fail
        refine HREAD.out.mono ?_
        rintro e w1 ⟨rfl, hb1⟩
        have hfr1 := HFR.out.trans (FrmI.of_below (ib := ib) hb1 hBwr)
        have hz1 := hb1.size
        have hgl : ∀ g, (Value.slice A5 al c5).ownBlock = some g → g < w1.heap.size := fun g hg => by
          have := (HOWN.out.lt g hg).2
          omega
        have HGL := Lib.hid hgl
        have hm1 := HMK.out.of_block keyI (hb1.block ib (HMK.out.lt keyI))
        have ho1 := (Frm.of_below (B := 0) (T := []) hb1 (Nat.zero_le _)).own HOWN.out (by simp)
        have HM1 := Lib.hid (hm1.alloc keyI (.cells #[.int .i64 at_, .int .u8 xo, .int .i64 xA, .int .i64 xB, .int .i64 xC] 100))
        have HO1 := Lib.hid (ho1.alloc (.cells #[.int .i64 at_, .int .u8 xo, .int .i64 xA, .int .i64 xB, .int .i64 xC] 100))
        clear hb1 hgl hm1 ho1 HREAD HFR HMK HOWN
        go_wp2_with fail
        obtain ⟨W, hW⟩ : ∃ W, W = w1.alloc (.cells #[.int .i64 at_, .int .u8 xo, .int .i64 xA, .int .i64 xB, .int .i64 xC] 100) := ⟨_, rfl⟩
        have hfrW : FrmI ib B w W := by rw [hW]; exact hfr1.alloc (by omega) _
        have hbx : Blk W w1.heap.size 100 #[.int .i64 at_, .int .u8 xo, .int .i64 xA, .int .i64 xB, .int .i64 xC] := by rw [hW]; exact Blk.new _ _ _
        have kW := HK.out.frm hfrW.frm
        have hnmr := HNM.out W x kW (HSX.out W (HW.out.trans hfrW.below)) (by rw [HX.out]; exact hA0) (by rw [HX.out]; exact hB0)
        rw [HQ.out, HX.out] at hnmr
        simp only [Ins.cells] at hnmr
        have b0 := hbx.cell 0
        have b1 := hbx.cell 1
        have b2 := hbx.cell 2
        have b3 := hbx.cell 3
        have b4 := hbx.cell 4
        rw [← hW]
        have hm1 := HM1.out
        have ho1 := HO1.out
        rw [← hW] at hm1 ho1
        have HMW := Lib.hid hm1
        have HOW := Lib.hid ho1
        have HBX := Lib.hid hbx
        have HFW := Lib.hid hfrW
        have HNR := Lib.hid hnmr
        clear hbx hfrW hnmr kW hW HM1 HO1 hm1 ho1 b0 b1 b2 b3 b4 hfr1 HNM HRD
        refine HNR.out.mono ?_
        rintro e w2 ⟨rfl, hb2⟩
        have hBW := HFW.out.size
        have hf2 := HFW.out.trans (FrmI.of_below (ib := ib) hb2 (by omega))
        have hx2 := HBX.out.below hb2 HBX.out.lt
        have hz2 := hb2.size
        have HF2 := Lib.hid hf2
        have HX2 := Lib.hid hx2
        have HM2 := Lib.hid (HMW.out.of_block keyI (hb2.block ib (HMW.out.lt keyI)))
        have HO2 := Lib.hid ((Frm.of_below (B := 0) (T := []) hb2 (Nat.zero_le _)).own HOW.out (by simp))
        clear hb2 hf2 hx2 HMW HOW HFW HBX
        by_cases hq0 : q = 0
        · subst hq0
          have hnx : R1 = scanV b slots ints texts f' (at_ + (sizeI x.op).toNat) (acc ++ [x]) := by rw [HNX.out, if_neg (by simp)]
          have HNX2 := Lib.hid hnx
          have k2 := HK.out.frm HF2.out.frm
          have k0 := k2.cell 0
          have k4 := k2.cell 4
          have x0 := HX2.out.cell 0
          have x1 := HX2.out.cell 1
          have x2 := HX2.out.cell 2
          have x3 := HX2.out.cell 3
          have x4 := HX2.out.cell 4
          obtain ⟨w4, hrun, m4, g4⟩ := (HM2.out.drew keyI).update keyI Tryz.underlying86 (at_ : Int) (.agg #[.int .i64 at_, .int .u8 xo, .int .i64 xA, .int .i64 xB, .int .i64 xC])
          have hrun2 : (Instr.mapUpdate 86 (.map (some ib)) (.int .i64 at_) (.agg #[.int .i64 at_, .int .u8 xo, .int .i64 xA, .int .i64 xB, .int .i64 xC])).run Tryz.prog w2.drew = .ok () w4 := hrun
          have hibx := HM2.out.blk_ne HX2.out
          have hX4 := HX2.out.drew.grown g4 (fun e => hibx (Option.some.inj e).symm)
          have hO4 := HO2.out.drew.kept g4 (.inr (HM2.out.own_ne HO2.out))
          have hF4 := (HF2.out.drew).map (HM2.out.drew keyI) hib g4 (by have := HF2.out.size; simp; omega)
          have hM4 : MK keyI w4 ib (insF (acc ++ [x])) := m4.congr keyI (fun y => by rw [← insF_snoc acc x y (by rw [HX.out]; exact HLT.out), HX.out]; rfl)
          have HX4 := Lib.hid hX4
          have HO4 := Lib.hid hO4
          have HF4 := Lib.hid hF4
          have HM4 := Lib.hid hM4
          have hz4 := g4.size
          clear hrun hX4 hO4 hF4 hM4 g4 m4 HX2 HO2 HF2 HM2 k2 hibx
          go_wp2_with fail
          refine wp_region_text (by kernel_rfl) (by kernel_rfl) ?_
          go_wp2_with fail
          refine Only.normal ?_
          have y0 := HX4.out.cell 0
          have y1 := HX4.out.cell 1
          have y2 := HX4.out.cell 2
          have y3 := HX4.out.cell 3
          have y4 := HX4.out.cell 4
          go_wp2_with fail
          obtain ⟨tv, htv⟩ : ∃ t, targetV x = t := ⟨_, rfl⟩
          have hta := target_any ⟨at_, xo, xA, xB, xC⟩ w4
          rw [← HX.out, htv, HX.out] at hta
          simp only [Ins.cells] at hta
          obtain ⟨si, hsi⟩ : ∃ s, sizeI xo = s := ⟨_, rfl⟩
          have hsz := fun wx => sizeI_any xo wx
          have hsb := sizeI_bd xo
          simp only [hsi] at hsz
          rw [hsi] at hsb hs1
          have hsx : sizeI x.op = si := by rw [HX.out]; exact hsi
          rw [hsx] at hnx
          obtain ⟨hs0, hs5⟩ := hsb
          have hlt4 : ∀ y ∈ acc ++ [x], y.at_ < ((at_ + si.toNat : Nat) : Int) := fun y hy => by
            rcases List.mem_append.1 hy with hy | hy
            · have := HLT.out y hy; omega
            · simp at hy; subst hy; rw [HX.out]; simp only; omega
          have HLT4 := Lib.hid hlt4
          have HNX3 := Lib.hid hnx
          have HTV := Lib.hid htv
          have HTA := Lib.hid hta
          have HSZ := Lib.hid hsz
          clear hlt4 hnx htv hta hsz hsi hsx HNX2 HNX
          have zB : B ≤ w4.heap.size := by have := HF4.out.below.size; omega
          have hxl := HX4.out.lt
          refine HTA.out.mono ?_
          rintro e w5 ⟨rfl, rfl⟩
          cases tv with
          | none =>
            go_wp2_with fail
            refine (HSZ.out _).mono ?_
            rintro e w6 ⟨rfl, hb6⟩
            have hm6 := (HM4.out.alloc keyI _).of_block keyI (hb6.block ib ((HM4.out.alloc keyI _).lt keyI))
            have ho6 := (Frm.of_below (B := 0) (T := []) hb6 (Nat.zero_le _)).own (HO4.out.alloc _) (by simp)
            have hf6 := (HF4.out.alloc zB _).trans (FrmI.of_below (ib := ib) hb6 (by simp; omega))
            have HM6 := Lib.hid hm6
            have HO6 := Lib.hid ho6
            have HF6 := Lib.hid hf6
            clear hb6 hm6 ho6 hf6
            go_wp2_with fail
            go_roundw
            case rel =>
              have hfil : (acc ++ [x]).filter isJ = acc.filter isJ := by
                rw [List.filter_append, List.filter_cons, show isJ x = false by unfold isJ; rw [HTV.out]; rfl]
                simp
              refine ⟨f', at_ + si.toNat, acc ++ [x], by omega, by omega, by rw [hfil, HAL.out]; omega, by go_num, HLT4, HNX3, ?_, HM6.out, HF6.out⟩
              rw [hfil, HAL.out]
              exact HO6.out
            case measure => (simp [intOf]; try omega)
          | some tg =>
            have hO5 := HO4.out.alloc (.cells #[.int .i64 at_, .int .u8 xo, .int .i64 xA, .int .i64 xB, .int .i64 xC] 100)
            have HO5 := Lib.hid hO5
            have HM5 := Lib.hid (HM4.out.alloc keyI (.cells #[.int .i64 at_, .int .u8 xo, .int .i64 xA, .int .i64 xB, .int .i64 xC] 100))
            have HF5 := Lib.hid (HF4.out.alloc zB (.cells #[.int .i64 at_, .int .u8 xo, .int .i64 xA, .int .i64 xB, .int .i64 xC] 100))
            have HX5 := Lib.hid (HX4.out.alloc (.cells #[.int .i64 at_, .int .u8 xo, .int .i64 xA, .int .i64 xB, .int .i64 xC] 100))
            clear hO5
            go_wp2_with (at_builtin; go_loud (refine wpList_append1 insEl rfl _ _ rfl w.heap.size (w4.alloc (.cells #[.int .i64 at_, .int .u8 xo, .int .i64 xA, .int .i64 xB, .int .i64 xC] 100)) [.int .i64 at_, .int .u8 xo, .int .i64 xA, .int .i64 xB, .int .i64 xC] rfl _ _ _ rfl HO5.out (by rw [World.size_alloc]; rfl) rfl (by simp [Value.oneCell']) (by unfold maxLen; omega) (by omega) (by simp; omega) ?_; intro v7 w7 hown7 hg7; have hx7 := HX5.out.grown hg7 (by intro e; have := HGL.out _ e.symm; omega); have z1 := hx7.cell 1; have HO7 := Lib.hid hown7; have HG7 := Lib.hid hg7; clear hown7 hg7 hx7))
            refine (HSZ.out _).mono ?_
            rintro e w6 ⟨rfl, hb6⟩
            have hm7 := HM5.out.grown keyI HG7.out (HM5.out.own_ne HO5.out).symm
            have hf7 := HF5.out.grownNew HO5.out HG7.out (Nat.le_refl _) (by have := HW.out.size; omega)
            have hm6 := hm7.of_block keyI (hb6.block ib (hm7.lt keyI))
            have ho6 := (Frm.of_below (B := 0) (T := []) hb6 (Nat.zero_le _)).own HO7.out (by simp)
            have hf6 := hf7.trans (FrmI.of_below (ib := ib) hb6 (by have := HG7.out.size; simp at this; omega))
            have HM6 := Lib.hid hm6
            have HO6 := Lib.hid ho6
            have HF6 := Lib.hid hf6
            clear hb6 hm7 hf7 hm6 ho6 hf6
            go_wp2_with fail
            go_roundw
            case rel =>
              have hfil : (acc ++ [x]).filter isJ = acc.filter isJ ++ [x] := by
                rw [List.filter_append, List.filter_cons, show isJ x = true by unfold isJ; rw [HTV.out]; rfl]
                simp
              refine ⟨f', at_ + si.toNat, acc ++ [x], by omega, by omega, by rw [hfil, List.length_append, HAL.out]; simp; omega, by go_num, HLT4, HNX3, ?_, HM6.out, HF6.out⟩
              rw [hfil, List.length_append, HAL.out, insVals_snoc, HX.out]
              exact HO6.out
            case measure => (simp [intOf]; try omega)
        · have hqb : (q != 0) = true := by simpa using hq0
          have hnx : R1 = .inr (q, (at_ : Int)) := by rw [HNX.out, if_pos hq0]
          have hfin : R = .inr (q, (at_ : Int)) := by rw [HR.out, hnx]
          have HFIN := Lib.hid hfin
          clear hnx hfin
          go_wp2_with fail
          refine (vat_any _ _ _).mono ?_
          rintro e w3 ⟨rfl, rfl⟩
          go_wp2_with fail
          go_ret
          have hsz := HF2.out.size
          refine ⟨_, rfl, ?_, HF2.out.alloc (by omega) _⟩
          rw [HFIN.out]
          exact ⟨_, rfl, by omega, Blk.new _ _ _⟩
      · have herb : (er == 0) = false := beq_false_of her
        have hern : (er != 0) = true := by simpa using her
        have hfin : R = .inr (er, (at_ : Int)) := by
          have := HRS.out
          rw [if_pos her] at this
          rw [HR.out, this]
        have HFIN := Lib.hid hfin
        clear hfin her
        go_wp2_with fail
        refine HREAD.out.mono ?_
        rintro e w1 ⟨rfl, hb1⟩
        have hf1 := HFR.out.trans (FrmI.of_below (ib := ib) hb1 hBwr)
        have HF1 := Lib.hid hf1
        have hz1 := hb1.size
        clear hb1 hf1
        go_wp2_with fail
        refine (vat_any _ _ _).mono ?_
        rintro e w3 ⟨rfl, rfl⟩
        go_wp2_with fail
        go_ret
        refine ⟨_, rfl, ?_, (HF1.out.alloc (by omega) _).alloc (by simp; omega) _⟩
        rw [HFIN.out]
        have hbn := Blk.new (w1.alloc (.cells #[.int .i64 xa, .int .u8 xo, .int .i64 xA, .int .i64 xB, .int .i64 xC] 100)) 102 #[.int .i64 er, .int .i64 at_, .int .i64 0, .int .i64 0]
        rw [World.size_alloc] at hbn
        exact ⟨_, rfl, by first | omega | (simp; omega), hbn⟩
    · have hr1 : R1 = .inl acc := by
        have := HR1'.out
        cases f with
        | zero => exact this
        | succ f' =>
          rw [scanV, if_pos (by rw [HN.out]; omega)] at this
          exact this
      obtain ⟨J, hJ⟩ : ∃ J, acc.filter isJ = J := ⟨_, rfl⟩
      have hjj : ∀ x ∈ J, isJ x = true := fun x hx => by rw [← hJ] at hx; exact (List.mem_filter.1 hx).2
      have hr : R = match jumpsV acc J with | some e => .inr e | none => .inl acc := by
        rw [HR.out, hr1]
        simp only
        rw [hJ]
        rfl
      rw [hJ] at hal hown
      obtain ⟨wo, rfl⟩ : ∃ wo : World, wo = wr := ⟨_, rfl⟩
      have HRR := Lib.hid hr
      have HJJ := Lib.hid hjj
      have HOWN := Lib.hid hown
      have HAL := Lib.hid hal
      have HMK := Lib.hid hmk
      have HFR := Lib.hid hfr
      have HKW := Lib.hid hkw
      clear hr1 hjj hr hown hal hmk hfr hkw hJ HR1' HLT
      go_wp2_with fail
      go_loopw [10, 11, 12, 13, 14, 64] (fun _ _ _ _ _ iv wi => ∃ k : Nat, k ≤ al ∧ iv = .int .i64 k ∧ Hid (jumpsV acc J = jumpsV acc (J.drop k)) ∧ Below wo.heap.size wo wi) (fun _ _ _ _ _ iv _ => al - (intOf iv).toNat)
      case atStart => exact ⟨0, by omega, rfl, rfl, Below.refl _ _⟩
      case round =>
        obtain ⟨k, hka, rfl, HJK, hbw⟩ := hrel
        have hown2 := (Frm.of_below (B := 0) (T := []) hbw (Nat.zero_le _)).own HOWN.out (by simp)
        have hmk2 := HMK.out.of_block keyI (hbw.block ib (HMK.out.lt keyI))
        have hfr2 := HFR.out.trans (FrmI.of_below (ib := ib) hbw (by omega))
        have hkw2 := HK.out.frm hfr2.frm
        by_cases hlt2 : k < al
        · obtain ⟨x, hx⟩ : ∃ x, J[k]? = some x := ⟨_, List.getElem?_eq_getElem (by rw [HAL.out]; exact hlt2)⟩
          have hd : J.drop k = x :: J.drop (k + 1) := by
            obtain ⟨h1, h2⟩ := List.getElem?_eq_some_iff.1 hx
            rw [List.drop_eq_getElem_cons h1, h2]
          have hxj := HJJ.out x (List.mem_of_getElem? hx)
          obtain ⟨tg, htg⟩ : ∃ tg, targetV x = some tg := Option.isSome_iff_exists.1 hxj
          have hjs : jumpsV acc J = if (insAt acc tg).isSome = true then jumpsV acc (J.drop (k + 1)) else some (44, x.at_) := by
            rw [HJK.out, hd, jumpsV, htg]
          obtain ⟨g, rfl, hg⟩ : ∃ g, A5 = some ⟨g, 0, none⟩ ∧ B ≤ B := by
            obtain ⟨g, cap, e1, _⟩ := hown2.form (by omega)
            injection e1 with e1 _ _
            exact ⟨g, e1, Nat.le_refl _⟩
          obtain ⟨p0, p1, p2, p3, p4⟩ := insVals_at J k x hx
          have hta := target_any x (wr.alloc (.cells x.cells 100))
          rw [htg] at hta
          obtain ⟨xa, xo, xA, xB, xC⟩ := x
          simp only [Ins.cells, Option.getD_some, Option.isSome_some] at hta p0 p1 p2 p3 p4 hjs
          have c0 := (hown2.cellAt (k * 5) (by omega)).trans p0
          have c1 := (hown2.cellAt (k * 5 + 1) (by omega)).trans p1
          have c2 := (hown2.cellAt (k * 5 + 2) (by omega)).trans p2
          have c3 := (hown2.cellAt (k * 5 + 3) (by omega)).trans p3
          have c4 := (hown2.cellAt (k * 5 + 4) (by omega)).trans p4
          have hkI : (k : Int) < al := by omega
          have HTA := Lib.hid hta
          have HJS := Lib.hid hjs
          have HM2 := Lib.hid hmk2
          have HF2 := Lib.hid hfr2
          have HK2 := Lib.hid hkw2
          have HB2 := Lib.hid hbw
          clear hx hd hxj htg hta hjs p0 p1 p2 p3 p4 hmk2 hfr2 hkw2 hown2 HJK hg hbw
          obtain ⟨I, hI⟩ : ∃ I, I = Obj.cells #[.int .i64 xa, .int .u8 xo, .int .i64 xA, .int .i64 xB, .int .i64 xC] 100 := ⟨_, rfl⟩
          have k4 := HK2.out.cell 4
          have hkl := HK2.out.lt
          have hz2 := HF2.out.size
          have hz9 := HB2.out.size
          have hlk := MK.lookup keyI ((HM2.out.alloc keyI I).alloc keyI I) Tryz.underlying86 zero_ins tg true
          rw [hI] at hlk
          obtain ⟨o, ho⟩ : ∃ o, insAt acc tg = o := ⟨_, rfl⟩
          have hjs := HJS.out
          rw [ho] at hjs
          unfold insF at hlk
          simp only [ho] at hlk
          have HJS2 := Lib.hid hjs
          have HLK := Lib.hid hlk
          clear hjs hlk HJS ho hI
          go_wp2_with fail
          refine HTA.out.mono ?_
          rintro e w5 ⟨rfl, rfl⟩
          cases o with
          | none =>
            have hlk2 : (Instr.lookup 86 (.map (some ib)) (.int .i64 tg) true).run Tryz.prog _ = .ok (.tuple #[.agg #[.int .i64 0, .int .u8 0, .int .i64 0, .int .i64 0, .int .i64 0], .bool false]) _ := HLK.out
            have hr : R = .inr (44, xa) := by rw [HRR.out, HJS2.out]; rfl
            have HRES := Lib.hid hr
            clear hr
            go_wp2_with fail
            have HF3 := Lib.hid (((HF2.out.alloc (by omega) (.cells #[.int .i64 xa, .int .u8 xo, .int .i64 xA, .int .i64 xB, .int .i64 xC] 100)).alloc (by simp; omega) (.cells #[.int .i64 xa, .int .u8 xo, .int .i64 xA, .int .i64 xB, .int .i64 xC] 100)).alloc (by simp; omega) (.cells #[.int .i64 0, .int .u8 0, .int .i64 0, .int .i64 0, .int .i64 0] 100))
            obtain ⟨W3, hW3⟩ : ∃ W, W = ((wr.alloc (.cells #[.int .i64 xa, .int .u8 xo, .int .i64 xA, .int .i64 xB, .int .i64 xC] 100)).alloc (.cells #[.int .i64 xa, .int .u8 xo, .int .i64 xA, .int .i64 xB, .int .i64 xC] 100)).alloc (.cells #[.int .i64 0, .int .u8 0, .int .i64 0, .int .i64 0, .int .i64 0] 100) := ⟨_, rfl⟩
            rw [← hW3] at HF3 ⊢
            refine (vat_any _ _ _).mono ?_
            rintro e w6 ⟨rfl, rfl⟩
            have hsz3 := HF3.out.size
            clear hW3
            go_wp2_with fail
            go_ret
            refine ⟨_, rfl, ?_, HF3.out.alloc (by omega) _⟩
            rw [HRES.out]
            exact ⟨_, rfl, by omega, Blk.new _ _ _⟩
          | some y =>
            obtain ⟨ya, yo, yA, yB, yC⟩ := y
            have hlk2 : (Instr.lookup 86 (.map (some ib)) (.int .i64 tg) true).run Tryz.prog _ = .ok (.tuple #[.agg #[.int .i64 ya, .int .u8 yo, .int .i64 yA, .int .i64 yB, .int .i64 yC], .bool true]) _ := HLK.out
            have hjn : jumpsV acc J = jumpsV acc (J.drop (k + 1)) := by rw [HJS2.out]; rfl
            have HJN := Lib.hid hjn
            clear hjn
            go_wp2_with fail
            go_roundw
            case rel => exact ⟨k + 1, by omega, by go_num, HJN, ((HB2.out.alloc hz9 _).alloc (by simp; omega) _).alloc (by simp; omega) _⟩
            case measure => (simp [intOf]; try omega)
        · have hr : R = .inl acc := by
            rw [HRR.out, HJK.out, List.drop_of_length_le (by rw [HAL.out]; omega)]
            rfl
          have HRES := Lib.hid hr
          have HM2 := Lib.hid hmk2
          have HF2 := Lib.hid hfr2
          clear hr hown2 hmk2 hfr2 hkw2 hbw
          go_wp2_with fail
          go_ret
          refine ⟨_, rfl, ?_, HF2.out⟩
          rw [HRES.out]
          exact ⟨rfl, HM2.out⟩
end
end Go.Proofs.YtabpheanbomibaaGreatDoor
