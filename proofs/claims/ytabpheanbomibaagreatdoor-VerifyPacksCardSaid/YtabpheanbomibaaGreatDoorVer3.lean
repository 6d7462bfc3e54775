/- verify: checker.read. verify.Code as plain functions: what the looks keep; more slots, pools and a stop behind change nothing. No program in sight. verify.Code's loop, as plain functions: what a round keeps; with more slots and a stop behind the same rounds. No program in sight. verify.Code as plain functions: with more slots, pools and a stop behind the same answer; the answer's form. No program in sight. The document's fields and effects are the tables'. No program in sight. -/
import Derived.Test.YtabpheanbomibaaGreatDoorAll
import Derived.Test.YtabpheanbomibaaGreatDoorVer2
namespace Go.Proofs.YtabpheanbomibaaGreatDoor
open Go.RowKit
set_option linter.unusedVariables false

def insF (l : List Ins) : Int → Option Value := fun o => (insAt l o).map fun x => .agg x.cells
def isJ (x : Ins) : Bool := (targetV x).isSome
theorem insAt_snoc (l : List Ins) (x : Ins) (o : Int) (h : ∀ y ∈ l, y.at_ < x.at_) : insAt (l ++ [x]) o = if o = x.at_ then some x else insAt l o := by
  unfold insAt
  rw [List.find?_append]
  by_cases ho : o = x.at_
  · rw [if_pos ho]
    have : l.find? (fun y => y.at_ == o) = none := List.find?_eq_none.2 fun y hy => by have := h y hy; simp; omega
    rw [this]
    simp [ho]
  · rw [if_neg ho]
    have : ([x] : List Ins).find? (fun y => y.at_ == o) = none := List.find?_eq_none.2 fun y hy => by simp at hy; subst hy; simp; omega
    rw [this]
    simp
theorem insF_snoc (l : List Ins) (x : Ins) (o : Int) (h : ∀ y ∈ l, y.at_ < x.at_) : upd keyI (insF l) x.at_ (some (.agg x.cells)) o = insF (l ++ [x]) o := by
  rw [upd_int]
  unfold insF
  rw [insAt_snoc l x o h]
  by_cases ho : o = x.at_
  · rw [if_pos ho, if_pos ho]; rfl
  · rw [if_neg ho, if_neg ho]
theorem getD_byte {l : List Int} (h : ∀ x ∈ l, 0 ≤ x ∧ x ≤ 255) (k : Nat) : 0 ≤ l.getD k 0 := by
  rw [List.getD_eq_getElem?_getD]
  cases hk : l[k]? with
  | none => simp
  | some x => exact (h x (List.mem_of_getElem? hk)).1
theorem readM_ok {l : List Int} (hb : ∀ x ∈ l, 0 ≤ x ∧ x ≤ 255) {at_ : Int} {x : Ins} (h : readM l at_ = (x, 0)) : x.at_ = at_ ∧ 0 ≤ x.a ∧ 0 ≤ x.b ∧ 1 ≤ sizeI x.op := by
  unfold readM at h
  split at h
  · injection h with _ h; cases h
  · split at h
    · injection h with _ h; cases h
    · rename_i p hp
      split at h
      · injection h with _ h; cases h
      · injection h with h _
        subst h
        refine ⟨rfl, ?_, ?_, ?_⟩
        · show 0 ≤ opA p.2 l at_.toNat
          have := getD_byte hb (at_.toNat + 1)
          have := getD_byte hb (at_.toNat + 2)
          unfold opA
          split <;> (try split) <;> (try split) <;> omega
        · show 0 ≤ opB p.2 l at_.toNat
          have := getD_byte hb (at_.toNat + 2)
          unfold opB
          split <;> omega
        · show 1 ≤ sizeI (l.getD at_.toNat 0)
          unfold sizeI
          rw [hp]
          have hk := form_kind hp
          simp only
          unfold sizeK
          rcases hk with h | h | h | h <;> rw [h] <;> decide
theorem insVals_at : ∀ (l : List Ins) (i : Nat) (x : Ins), l[i]? = some x → (insVals l)[i * 5]? = some (.int .i64 x.at_) ∧ (insVals l)[i * 5 + 1]? = some (.int .u8 x.op) ∧ (insVals l)[i * 5 + 2]? = some (.int .i64 x.a) ∧ (insVals l)[i * 5 + 3]? = some (.int .i64 x.b) ∧ (insVals l)[i * 5 + 4]? = some (.int .i64 x.c)
  | [], i, x, h => by simp at h
  | y :: r, 0, x, h => by
    simp at h
    subst h
    exact ⟨rfl, rfl, rfl, rfl, rfl⟩
  | y :: r, i + 1, x, h => by
    have := insVals_at r i x (by simpa using h)
    have e : insVals (y :: r) = .int .i64 y.at_ :: .int .u8 y.op :: .int .i64 y.a :: .int .i64 y.b :: .int .i64 y.c :: insVals r := rfl
    rw [e, show (i + 1) * 5 = i * 5 + 1 + 1 + 1 + 1 + 1 by omega]
    exact this
def readV (b slots : List Int) (ints texts : Int) : List Ins ⊕ (Int × Int) := match scanV b slots ints texts b.length 0 [] with
  | .inr e => .inr e
  | .inl l => match jumpsV l (l.filter isJ) with
    | some e => .inr e
    | none => .inl l
theorem jumpsV_filter (l : List Ins) : ∀ r, jumpsV l (r.filter isJ) = jumpsV l r
  | [] => rfl
  | x :: r => by
    rw [List.filter_cons]
    cases hx : targetV x with
    | none =>
      have : isJ x = false := by unfold isJ; rw [hx]; rfl
      rw [this, if_neg (by decide), jumpsV_filter l r, jumpsV, hx]
    | some tg =>
      have : isJ x = true := by unfold isJ; rw [hx]; rfl
      rw [this, if_pos rfl, jumpsV, jumpsV, hx]
      simp only
      rw [jumpsV_filter l r]
def ReadOk (w' : World) (B ib : Nat) (v : Value) : List Ins ⊕ (Int × Int) → Prop
  | .inl l => v = .pointer none ∧ MK keyI w' ib (insF l)
  | .inr (e, o) => ∃ fb, v = .pointer (some ⟨fb, 0, none⟩) ∧ B ≤ fb ∧ Blk w' fb 102 #[.int .i64 e, .int .i64 o, .int .i64 0, .int .i64 0]
theorem zero_ins (w : World) : (zeroValue 100).run Tryz.prog w = .ok (.agg ins0.cells) w := by kernel_rfl
theorem CkAt.frm {w w' : World} {B kb ib sb hb : Nat} {bv sv : Value} {i t : Int} (h : CkAt w kb bv sv i t ib sb hb) (hf : Frm B [] w w') : CkAt w' kb bv sv i t ib sb hb := hf.blk h (by simp)
section
variable (w0 w : World) (kb ib sb hb : Nat) (BA SA : Option Addr) (b slots : List Int) (bc sc : Nat) (ints texts : Int)
set_option maxRecDepth 100000 in
set_option maxHeartbeats 8000000 in
theorem vread_any (hw : Below w0.heap.size w0 w) (hK : CkAt w kb (.slice BA b.length bc) (.slice SA slots.length sc) ints texts ib sb hb) (hkb : w0.heap.size ≤ kb) (hib : w0.heap.size ≤ ib)
    (hbt : BytesAt w0 BA b) (hS : SmallsAt w0 SA slots) (hM : MK keyI w ib (fun _ => none)) (hbl : b.length ≤ 65535) (hbc : b.length ≤ bc) (hs : slots.length ≤ 1000) :
    Calls Tryz.prog 30 #[.pointer (some ⟨kb, 0, none⟩)] w fun e w' => ∃ v, e = .returned v ∧ ReadOk w' w0.heap.size ib v (readV b slots ints texts) ∧ Frm w0.heap.size [] w w' := by
  obtain ⟨R, hR⟩ : ∃ R, R = readV b slots ints texts := ⟨_, rfl⟩
  rw [← hR]
  unfold readV at hR
  obtain ⟨R1, hR1⟩ : ∃ R, R = scanV b slots ints texts b.length 0 [] := ⟨_, rfl⟩
  rw [← hR1] at hR
  obtain ⟨B, hBe⟩ : ∃ B, w0.heap.size = B := ⟨_, rfl⟩
  have hrd := fun (k : Nat) wx (hx : BytesAt wx BA b) => read_any BA b bc k wx (by omega) hbc hx
  have hnm := fun (wx : World) (x : Ins) hk hx ha hbb => numbers_any wx kb ib sb hb (.slice BA b.length bc) SA slots sc ints texts x hk hx hs ha hbb
  obtain ⟨n, hn⟩ : ∃ n, b.length = n := ⟨_, rfl⟩
  have hbz := hw.size
  rw [hBe] at hw hkb hib hbz ⊢
  rw [hn] at hrd hbl hbc hK hnm hR1
  have hbx : ∀ wx, Below B w0 wx → BytesAt wx BA b := fun wx h => hbt.below (by rw [hBe]; exact h)
  have hsx : ∀ wx, Below B w0 wx → SmallsAt wx SA slots := fun wx h => hS.below (by rw [hBe]; exact h)
  have HR := Lib.hid hR
  have HR1 := Lib.hid hR1
  have HN := Lib.hid hn
  have HRD := Lib.hid hrd
  have HNM := Lib.hid hnm
  have HBX := Lib.hid hbx
  have HSX := Lib.hid hsx
  have HBY := Lib.hid hbt.byte
  have HW := Lib.hid hw
  have HK := Lib.hid hK
  have HM := Lib.hid hM
  clear hR hR1 hn hrd hnm hbx hsx hbt hS hw hK hM hBe
  go_enter Tryz.func30, Tryz.ntmps30
  go_wp2_with fail
  go_loopw [3, 4, 5, 6, 7, 8] (fun lv iv _ _ _ _ wr => ∃ (f at_ : Nat) (acc : List Ins), n ≤ at_ + f ∧ at_ ≤ n + 10 ∧ (acc.filter isJ).length ≤ at_ ∧ iv = .int .i64 at_ ∧ Hid (∀ y ∈ acc, y.at_ < (at_ : Int)) ∧ Hid (R1 = scanV b slots ints texts f at_ acc) ∧ wr.ownsRow w.heap.size 100 5 lv (acc.filter isJ).length (insVals (acc.filter isJ)) ∧ MK keyI wr ib (insF acc) ∧ Frm B [] w wr)
    (fun _ iv _ _ _ _ _ => n - (intOf iv).toNat)
  case atStart => exact ⟨n, 0, [], by omega, by omega, by simp, rfl, Lib.hid (by simp), HR1, World.ownsRow_nil _ _ _ _, HM.out, Frm.refl _ _ _⟩
  case round =>
    obtain ⟨f, at_, acc, hf, hat, hacc, rfl, HLT, HR1', hown, hmk, hfr⟩ := hrel
    obtain ⟨al, hal⟩ : ∃ al, (acc.filter isJ).length = al := ⟨_, rfl⟩
    rw [hal] at hown hacc
    obtain ⟨A5, c5, rfl⟩ := own_form hown
    have hkw := HK.out.frm hfr
    have k0 := Blk.cell hkw 0
    have hzr := hfr.size
    by_cases hlt : at_ < n
    · obtain ⟨f', rfl⟩ : ∃ f', f = f' + 1 := ⟨f - 1, by omega⟩
      have hBr : Below B w0 wr := HW.out.trans hfr.below
      have hr1 := HR1'.out
      rw [scanV, if_neg (by rw [HN.out]; omega)] at hr1
      obtain ⟨xa, xo, xA, xB, xC, er, hre⟩ : ∃ xa xo xA xB xC er, readM b at_ = (⟨xa, xo, xA, xB, xC⟩, er) := ⟨_, _, _, _, _, _, rfl⟩
      obtain ⟨x, hx⟩ : ∃ x : Ins, x = ⟨xa, xo, xA, xB, xC⟩ := ⟨_, rfl⟩
      have hok := fun (h : er = 0) => readM_ok HBY.out (at_ := at_) (x := ⟨xa, xo, xA, xB, xC⟩) (by rw [hre, h])
      rw [hre, ← hx] at hr1
      simp only at hr1
      have hread := HRD.out at_ wr (HBX.out wr hBr)
      rw [hre] at hread
      simp only [Ins.cells] at hread
      have HX := Lib.hid hx
      have HRS := Lib.hid hr1
      have HREAD := Lib.hid hread
      have HOK := Lib.hid hok
      have HOWN := Lib.hid hown
      have HMK := Lib.hid hmk
      have HFR := Lib.hid hfr
      have HBR := Lib.hid hBr
      have HKW := Lib.hid hkw
      have HAL := Lib.hid hal
      clear hr1 hread hok hown hmk hfr hBr hkw hal hre hx HR1'
      have hBwr : B ≤ wr.heap.size := by omega
      by_cases her : er = 0
      · subst her
        obtain ⟨hxa, hA0, hB0, hs1⟩ := HOK.out rfl
        simp only at hxa hA0 hB0 hs1
        subst hxa
        obtain ⟨q, hq⟩ : ∃ q, numbersV slots ints texts x = q := ⟨_, rfl⟩
        have hnx : R1 = if q ≠ 0 then .inr (q, (at_ : Int)) else scanV b slots ints texts f' (at_ + (sizeI x.op).toNat) (acc ++ [x]) := by
          have := HRS.out
          rw [if_neg (by simp), hq] at this
          exact this
        have HNX := Lib.hid hnx
        have HQ := Lib.hid hq
        clear hnx HRS hq
        go_wp2_with fail
        refine HREAD.out.mono ?_
        rintro e w1 ⟨rfl, hb1⟩
        have hfr1 := HFR.out.trans (Frm.of_below (T := []) hb1 hBwr)
        have hz1 := hb1.size
        have hgl : ∀ g, (Value.slice A5 al c5).ownBlock = some g → g < w1.heap.size := fun g hg => by
          have := (HOWN.out.lt g hg).2
          omega
        have HGL := Lib.hid hgl
        have hm1 := HMK.out.of_block keyI (hb1.block ib (HMK.out.lt keyI))
        have ho1 := (Frm.of_below (B := 0) (T := []) hb1 (Nat.zero_le _)).own HOWN.out (by simp)
        have HM1 := Lib.hid (hm1.alloc keyI (.cells #[.int .i64 at_, .int .u8 xo, .int .i64 xA, .int .i64 xB, .int .i64 xC] 100))
        have HO1 := Lib.hid (ho1.alloc (.cells #[.int .i64 at_, .int .u8 xo, .int .i64 xA, .int .i64 xB, .int .i64 xC] 100))
        clear hb1 hgl hm1 ho1 HREAD HFR HMK HOWN
        go_wp2_with fail
        obtain ⟨W, hW⟩ : ∃ W, W = w1.alloc (.cells #[.int .i64 at_, .int .u8 xo, .int .i64 xA, .int .i64 xB, .int .i64 xC] 100) := ⟨_, rfl⟩
        have hfrW : Frm B [] w W := by rw [hW]; exact hfr1.alloc (by omega) _
        have hbx : Blk W w1.heap.size 100 #[.int .i64 at_, .int .u8 xo, .int .i64 xA, .int .i64 xB, .int .i64 xC] := by rw [hW]; exact Blk.new _ _ _
        have kW := HK.out.frm hfrW
        have hnmr := HNM.out W x kW (HSX.out W (HW.out.trans hfrW.below)) (by rw [HX.out]; exact hA0) (by rw [HX.out]; exact hB0)
        rw [HQ.out, HX.out] at hnmr
        simp only [Ins.cells] at hnmr
        have b0 := hbx.cell 0
        have b1 := hbx.cell 1
        have b2 := hbx.cell 2
        have b3 := hbx.cell 3
        have b4 := hbx.cell 4
        rw [← hW]
        have hm1 := HM1.out
        have ho1 := HO1.out
        rw [← hW] at hm1 ho1
        have HMW := Lib.hid hm1
        have HOW := Lib.hid ho1
        have HBX := Lib.hid hbx
        have HFW := Lib.hid hfrW
        have HNR := Lib.hid hnmr
        clear hbx hfrW hnmr kW hW HM1 HO1 hm1 ho1 b0 b1 b2 b3 b4 hfr1 HNM HRD
        refine HNR.out.mono ?_
        rintro e w2 ⟨rfl, hb2⟩
        have hBW := HFW.out.size
        have hf2 := HFW.out.trans (Frm.of_below (T := []) hb2 (by omega))
        have hx2 := HBX.out.below hb2 HBX.out.lt
        have hz2 := hb2.size
        have HF2 := Lib.hid hf2
        have HX2 := Lib.hid hx2
        have HM2 := Lib.hid (HMW.out.of_block keyI (hb2.block ib (HMW.out.lt keyI)))
        have HO2 := Lib.hid ((Frm.of_below (B := 0) (T := []) hb2 (Nat.zero_le _)).own HOW.out (by simp))
        clear hb2 hf2 hx2 HMW HOW HFW HBX
        by_cases hq0 : q = 0
        · subst hq0
          have hnx : R1 = scanV b slots ints texts f' (at_ + (sizeI x.op).toNat) (acc ++ [x]) := by rw [HNX.out, if_neg (by simp)]
          have HNX2 := Lib.hid hnx
          have k2 := HK.out.frm HF2.out
          have k0 := k2.cell 0
          have k4 := k2.cell 4
          have x0 := HX2.out.cell 0
          have x1 := HX2.out.cell 1
          have x2 := HX2.out.cell 2
          have x3 := HX2.out.cell 3
          have x4 := HX2.out.cell 4
          obtain ⟨w4, hrun, m4, g4⟩ := (HM2.out.drew keyI).update keyI Tryz.underlying86 (at_ : Int) (.agg #[.int .i64 at_, .int .u8 xo, .int .i64 xA, .int .i64 xB, .int .i64 xC])
          have hrun2 : (Instr.mapUpdate 86 (.map (some ib)) (.int .i64 at_) (.agg #[.int .i64 at_, .int .u8 xo, .int .i64 xA, .int .i64 xB, .int .i64 xC])).run Tryz.prog w2.drew = .ok () w4 := hrun
          have hibx := HM2.out.blk_ne HX2.out
          have hX4 := HX2.out.drew.grown g4 (fun e => hibx (Option.some.inj e).symm)
          have hO4 := HO2.out.drew.kept g4 (.inr (HM2.out.own_ne HO2.out))
          have hF4 := (HF2.out.drew).map (HM2.out.drew keyI) hib g4 (by have := HF2.out.size; simp; omega)
          have hM4 : MK keyI w4 ib (insF (acc ++ [x])) := m4.congr keyI (fun y => by rw [← insF_snoc acc x y (by rw [HX.out]; exact HLT.out), HX.out]; rfl)
          have HX4 := Lib.hid hX4
          have HO4 := Lib.hid hO4
          have HF4 := Lib.hid hF4
          have HM4 := Lib.hid hM4
          have hz4 := g4.size
          clear hrun hX4 hO4 hF4 hM4 g4 m4 HX2 HO2 HF2 HM2 k2 hibx
          go_wp2_with fail
          refine wp_region_text (by kernel_rfl) (by kernel_rfl) ?_
          go_wp2_with fail
          refine Only.normal ?_
          have y0 := HX4.out.cell 0
          have y1 := HX4.out.cell 1
          have y2 := HX4.out.cell 2
          have y3 := HX4.out.cell 3
          have y4 := HX4.out.cell 4
          go_wp2_with fail
          obtain ⟨tv, htv⟩ : ∃ t, targetV x = t := ⟨_, rfl⟩
          have hta := target_any ⟨at_, xo, xA, xB, xC⟩ w4
          rw [← HX.out, htv, HX.out] at hta
          simp only [Ins.cells] at hta
          obtain ⟨si, hsi⟩ : ∃ s, sizeI xo = s := ⟨_, rfl⟩
          have hsz := fun wx => sizeI_any xo wx
          have hsb := sizeI_bd xo
          simp only [hsi] at hsz
          rw [hsi] at hsb hs1
          have hsx : sizeI x.op = si := by rw [HX.out]; exact hsi
          rw [hsx] at hnx
          obtain ⟨hs0, hs5⟩ := hsb
          have hlt4 : ∀ y ∈ acc ++ [x], y.at_ < ((at_ + si.toNat : Nat) : Int) := fun y hy => by
            rcases List.mem_append.1 hy with hy | hy
            · have := HLT.out y hy; omega
            · simp at hy; subst hy; rw [HX.out]; simp only; omega
          have HLT4 := Lib.hid hlt4
          have HNX3 := Lib.hid hnx
          have HTV := Lib.hid htv
          have HTA := Lib.hid hta
          have HSZ := Lib.hid hsz
          clear hlt4 hnx htv hta hsz hsi hsx HNX2 HNX
          have zB : B ≤ w4.heap.size := by have := HF4.out.below.size; omega
          have hxl := HX4.out.lt
          refine HTA.out.mono ?_
          rintro e w5 ⟨rfl, rfl⟩
          cases tv with
          | none =>
            go_wp2_with fail
            refine (HSZ.out _).mono ?_
            rintro e w6 ⟨rfl, hb6⟩
            have hm6 := (HM4.out.alloc keyI _).of_block keyI (hb6.block ib ((HM4.out.alloc keyI _).lt keyI))
            have ho6 := (Frm.of_below (B := 0) (T := []) hb6 (Nat.zero_le _)).own (HO4.out.alloc _) (by simp)
            have hf6 := (HF4.out.alloc zB _).trans (Frm.of_below (T := []) hb6 (by simp; omega))
            have HM6 := Lib.hid hm6
            have HO6 := Lib.hid ho6
            have HF6 := Lib.hid hf6
            clear hb6 hm6 ho6 hf6
            go_wp2_with fail
            go_roundw
            case rel =>
              have hfil : (acc ++ [x]).filter isJ = acc.filter isJ := by
                rw [List.filter_append, List.filter_cons, show isJ x = false by unfold isJ; rw [HTV.out]; rfl]
                simp
              refine ⟨f', at_ + si.toNat, acc ++ [x], by omega, by omega, by rw [hfil, HAL.out]; omega, by go_num, HLT4, HNX3, ?_, HM6.out, HF6.out⟩
              rw [hfil, HAL.out]
              exact HO6.out
            case measure => (simp [intOf]; try omega)
          | some tg =>
            have hO5 := HO4.out.alloc (.cells #[.int .i64 at_, .int .u8 xo, .int .i64 xA, .int .i64 xB, .int .i64 xC] 100)
            have HO5 := Lib.hid hO5
            have HM5 := Lib.hid (HM4.out.alloc keyI (.cells #[.int .i64 at_, .int .u8 xo, .int .i64 xA, .int .i64 xB, .int .i64 xC] 100))
            have HF5 := Lib.hid (HF4.out.alloc zB (.cells #[.int .i64 at_, .int .u8 xo, .int .i64 xA, .int .i64 xB, .int .i64 xC] 100))
            have HX5 := Lib.hid (HX4.out.alloc (.cells #[.int .i64 at_, .int .u8 xo, .int .i64 xA, .int .i64 xB, .int .i64 xC] 100))
            clear hO5
            go_wp2_with (at_builtin; go_loud (refine wpList_append1 insEl rfl _ _ rfl w.heap.size (w4.alloc (.cells #[.int .i64 at_, .int .u8 xo, .int .i64 xA, .int .i64 xB, .int .i64 xC] 100)) [.int .i64 at_, .int .u8 xo, .int .i64 xA, .int .i64 xB, .int .i64 xC] rfl _ _ _ rfl HO5.out (by rw [World.size_alloc]; rfl) rfl (by simp [Value.oneCell']) (by unfold maxLen; omega) (by omega) (by simp; omega) ?_; intro v7 w7 hown7 hg7; have hx7 := HX5.out.grown hg7 (by intro e; have := HGL.out _ e.symm; omega); have z1 := hx7.cell 1; have HO7 := Lib.hid hown7; have HG7 := Lib.hid hg7; clear hown7 hg7 hx7))
            refine (HSZ.out _).mono ?_
            rintro e w6 ⟨rfl, hb6⟩
            have hm7 := HM5.out.grown keyI HG7.out (HM5.out.own_ne HO5.out).symm
            have hf7 := HF5.out.grownNew HO5.out HG7.out (Nat.le_refl _) (by have := HW.out.size; omega)
            have hm6 := hm7.of_block keyI (hb6.block ib (hm7.lt keyI))
            have ho6 := (Frm.of_below (B := 0) (T := []) hb6 (Nat.zero_le _)).own HO7.out (by simp)
            have hf6 := hf7.trans (Frm.of_below (T := []) hb6 (by have := HG7.out.size; simp at this; omega))
            have HM6 := Lib.hid hm6
            have HO6 := Lib.hid ho6
            have HF6 := Lib.hid hf6
            clear hb6 hm7 hf7 hm6 ho6 hf6
            go_wp2_with fail
            go_roundw
            case rel =>
              have hfil : (acc ++ [x]).filter isJ = acc.filter isJ ++ [x] := by
                rw [List.filter_append, List.filter_cons, show isJ x = true by unfold isJ; rw [HTV.out]; rfl]
                simp
              refine ⟨f', at_ + si.toNat, acc ++ [x], by omega, by omega, by rw [hfil, List.length_append, HAL.out]; simp; omega, by go_num, HLT4, HNX3, ?_, HM6.out, HF6.out⟩
              rw [hfil, List.length_append, HAL.out, insVals_snoc, HX.out]
              exact HO6.out
            case measure => (simp [intOf]; try omega)
        · have hqb : (q != 0) = true := by simpa using hq0
          have hnx : R1 = .inr (q, (at_ : Int)) := by rw [HNX.out, if_pos hq0]
          have hfin : R = .inr (q, (at_ : Int)) := by rw [HR.out, hnx]
          have HFIN := Lib.hid hfin
          clear hnx hfin
          go_wp2_with fail
          refine (vat_any _ _ _).mono ?_
          rintro e w3 ⟨rfl, rfl⟩
          go_wp2_with fail
          go_ret
          have hsz := HF2.out.size
          refine ⟨_, rfl, ?_, HF2.out.alloc (by omega) _⟩
          rw [HFIN.out]
          exact ⟨_, rfl, by omega, Blk.new _ _ _⟩
      · have herb : (er == 0) = false := beq_false_of her
        have hern : (er != 0) = true := by simpa using her
        have hfin : R = .inr (er, (at_ : Int)) := by
          have := HRS.out
          rw [if_pos her] at this
          rw [HR.out, this]
        have HFIN := Lib.hid hfin
        clear hfin her
        go_wp2_with fail
        refine HREAD.out.mono ?_
        rintro e w1 ⟨rfl, hb1⟩
        have hf1 := HFR.out.trans (Frm.of_below (T := []) hb1 hBwr)
        have HF1 := Lib.hid hf1
        have hz1 := hb1.size
        clear hb1 hf1
        go_wp2_with fail
        refine (vat_any _ _ _).mono ?_
        rintro e w3 ⟨rfl, rfl⟩
        go_wp2_with fail
        go_ret
        refine ⟨_, rfl, ?_, (HF1.out.alloc (by omega) _).alloc (by simp; omega) _⟩
        rw [HFIN.out]
        have hbn := Blk.new (w1.alloc (.cells #[.int .i64 xa, .int .u8 xo, .int .i64 xA, .int .i64 xB, .int .i64 xC] 100)) 102 #[.int .i64 er, .int .i64 at_, .int .i64 0, .int .i64 0]
        rw [World.size_alloc] at hbn
        exact ⟨_, rfl, by first | omega | (simp; omega), hbn⟩
    · have hr1 : R1 = .inl acc := by
        have := HR1'.out
        cases f with
        | zero => exact this
        | succ f' =>
          rw [scanV, if_pos (by rw [HN.out]; omega)] at this
          exact this
      obtain ⟨J, hJ⟩ : ∃ J, acc.filter isJ = J := ⟨_, rfl⟩
      have hjj : ∀ x ∈ J, isJ x = true := fun x hx => by rw [← hJ] at hx; exact (List.mem_filter.1 hx).2
      have hr : R = match jumpsV acc J with | some e => .inr e | none => .inl acc := by
        rw [HR.out, hr1]
        simp only
        rw [hJ]
      rw [hJ] at hal hown
      obtain ⟨wo, rfl⟩ : ∃ wo : World, wo = wr := ⟨_, rfl⟩
      have HRR := Lib.hid hr
      have HJJ := Lib.hid hjj
      have HOWN := Lib.hid hown
      have HAL := Lib.hid hal
      have HMK := Lib.hid hmk
      have HFR := Lib.hid hfr
      have HKW := Lib.hid hkw
      clear hr1 hjj hr hown hal hmk hfr hkw hJ HR1' HLT
      go_wp2_with fail
      go_loopw [10, 11, 12, 13, 14, 64] (fun _ _ _ _ _ iv wi => ∃ k : Nat, k ≤ al ∧ iv = .int .i64 k ∧ Hid (jumpsV acc J = jumpsV acc (J.drop k)) ∧ Below wo.heap.size wo wi) (fun _ _ _ _ _ iv _ => al - (intOf iv).toNat)
      case atStart => exact ⟨0, by omega, rfl, rfl, Below.refl _ _⟩
      case round =>
        obtain ⟨k, hka, rfl, HJK, hbw⟩ := hrel
        have hown2 := (Frm.of_below (B := 0) (T := []) hbw (Nat.zero_le _)).own HOWN.out (by simp)
        have hmk2 := HMK.out.of_block keyI (hbw.block ib (HMK.out.lt keyI))
        have hfr2 := HFR.out.trans (Frm.of_below (T := []) hbw (by omega))
        have hkw2 := HK.out.frm hfr2
        by_cases hlt2 : k < al
        · obtain ⟨x, hx⟩ : ∃ x, J[k]? = some x := ⟨_, List.getElem?_eq_getElem (by rw [HAL.out]; exact hlt2)⟩
          have hd : J.drop k = x :: J.drop (k + 1) := by
            obtain ⟨h1, h2⟩ := List.getElem?_eq_some_iff.1 hx
            rw [List.drop_eq_getElem_cons h1, h2]
          have hxj := HJJ.out x (List.mem_of_getElem? hx)
          obtain ⟨tg, htg⟩ : ∃ tg, targetV x = some tg := Option.isSome_iff_exists.1 hxj
          have hjs : jumpsV acc J = if (insAt acc tg).isSome = true then jumpsV acc (J.drop (k + 1)) else some (44, x.at_) := by
            rw [HJK.out, hd, jumpsV, htg]
          obtain ⟨g, rfl, hg⟩ : ∃ g, A5 = some ⟨g, 0, none⟩ ∧ B ≤ B := by
            obtain ⟨g, cap, e1, _⟩ := hown2.form (by omega)
            injection e1 with e1 _ _
            exact ⟨g, e1, Nat.le_refl _⟩
          obtain ⟨p0, p1, p2, p3, p4⟩ := insVals_at J k x hx
          have hta := target_any x (wr.alloc (.cells x.cells 100))
          rw [htg] at hta
          obtain ⟨xa, xo, xA, xB, xC⟩ := x
          simp only [Ins.cells, Option.getD_some, Option.isSome_some] at hta p0 p1 p2 p3 p4 hjs
          have c0 := (hown2.cellAt (k * 5) (by omega)).trans p0
          have c1 := (hown2.cellAt (k * 5 + 1) (by omega)).trans p1
          have c2 := (hown2.cellAt (k * 5 + 2) (by omega)).trans p2
          have c3 := (hown2.cellAt (k * 5 + 3) (by omega)).trans p3
          have c4 := (hown2.cellAt (k * 5 + 4) (by omega)).trans p4
          have hkI : (k : Int) < al := by omega
          have HTA := Lib.hid hta
          have HJS := Lib.hid hjs
          have HM2 := Lib.hid hmk2
          have HF2 := Lib.hid hfr2
          have HK2 := Lib.hid hkw2
          have HB2 := Lib.hid hbw
          clear hx hd hxj htg hta hjs p0 p1 p2 p3 p4 hmk2 hfr2 hkw2 hown2 HJK hg hbw
          obtain ⟨I, hI⟩ : ∃ I, I = Obj.cells #[.int .i64 xa, .int .u8 xo, .int .i64 xA, .int .i64 xB, .int .i64 xC] 100 := ⟨_, rfl⟩
          have k4 := HK2.out.cell 4
          have hkl := HK2.out.lt
          have hz2 := HF2.out.size
          have hz9 := HB2.out.size
          have hlk := MK.lookup keyI ((HM2.out.alloc keyI I).alloc keyI I) Tryz.underlying86 zero_ins tg true
          rw [hI] at hlk
          obtain ⟨o, ho⟩ : ∃ o, insAt acc tg = o := ⟨_, rfl⟩
          have hjs := HJS.out
          rw [ho] at hjs
          unfold insF at hlk
          simp only [ho] at hlk
          have HJS2 := Lib.hid hjs
          have HLK := Lib.hid hlk
          clear hjs hlk HJS ho hI
          go_wp2_with fail
          refine HTA.out.mono ?_
          rintro e w5 ⟨rfl, rfl⟩
          cases o with
          | none =>
            have hlk2 : (Instr.lookup 86 (.map (some ib)) (.int .i64 tg) true).run Tryz.prog _ = .ok (.tuple #[.agg #[.int .i64 0, .int .u8 0, .int .i64 0, .int .i64 0, .int .i64 0], .bool false]) _ := HLK.out
            have hr : R = .inr (44, xa) := by rw [HRR.out, HJS2.out]; rfl
            have HRES := Lib.hid hr
            clear hr
            go_wp2_with fail
            have HF3 := Lib.hid (((HF2.out.alloc (by omega) (.cells #[.int .i64 xa, .int .u8 xo, .int .i64 xA, .int .i64 xB, .int .i64 xC] 100)).alloc (by simp; omega) (.cells #[.int .i64 xa, .int .u8 xo, .int .i64 xA, .int .i64 xB, .int .i64 xC] 100)).alloc (by simp; omega) (.cells #[.int .i64 0, .int .u8 0, .int .i64 0, .int .i64 0, .int .i64 0] 100))
            obtain ⟨W3, hW3⟩ : ∃ W, W = ((wr.alloc (.cells #[.int .i64 xa, .int .u8 xo, .int .i64 xA, .int .i64 xB, .int .i64 xC] 100)).alloc (.cells #[.int .i64 xa, .int .u8 xo, .int .i64 xA, .int .i64 xB, .int .i64 xC] 100)).alloc (.cells #[.int .i64 0, .int .u8 0, .int .i64 0, .int .i64 0, .int .i64 0] 100) := ⟨_, rfl⟩
            rw [← hW3] at HF3 ⊢
            refine (vat_any _ _ _).mono ?_
            rintro e w6 ⟨rfl, rfl⟩
            have hsz3 := HF3.out.size
            clear hW3
            go_wp2_with fail
            go_ret
            refine ⟨_, rfl, ?_, HF3.out.alloc (by omega) _⟩
            rw [HRES.out]
            exact ⟨_, rfl, by omega, Blk.new _ _ _⟩
          | some y =>
            obtain ⟨ya, yo, yA, yB, yC⟩ := y
            have hlk2 : (Instr.lookup 86 (.map (some ib)) (.int .i64 tg) true).run Tryz.prog _ = .ok (.tuple #[.agg #[.int .i64 ya, .int .u8 yo, .int .i64 yA, .int .i64 yB, .int .i64 yC], .bool true]) _ := HLK.out
            have hjn : jumpsV acc J = jumpsV acc (J.drop (k + 1)) := by rw [HJS2.out]; rfl
            have HJN := Lib.hid hjn
            clear hjn
            go_wp2_with fail
            go_roundw
            case rel => exact ⟨k + 1, by omega, by go_num, HJN, ((HB2.out.alloc hz9 _).alloc (by simp; omega) _).alloc (by simp; omega) _⟩
            case measure => (simp [intOf]; try omega)
        · have hr : R = .inl acc := by
            rw [HRR.out, HJK.out, List.drop_of_length_le (by rw [HAL.out]; omega)]
            rfl
          have HRES := Lib.hid hr
          have HM2 := Lib.hid hmk2
          have HF2 := Lib.hid hfr2
          clear hr hown2 hmk2 hfr2 hkw2 hbw
          go_wp2_with fail
          go_ret
          refine ⟨_, rfl, ?_, HF2.out⟩
          rw [HRES.out]
          exact ⟨rfl, HM2.out⟩
end
end Go.Proofs.YtabpheanbomibaaGreatDoor
namespace Go.Proofs.YtabpheanbomibaaGreatDoor
open Go.RowKit
set_option linter.unusedVariables false

/-- An instruction that the second look let by. -/
structure InsOk (len : Nat) (slots : List Int) (ints texts : Int) (x : Ins) : Prop where
  a0 : 0 ≤ x.a
  b0 : 0 ≤ x.b
  c0 : 0 ≤ x.c
  at0 : 0 ≤ x.at_
  lt : x.at_ < len
  size : 1 ≤ sizeI x.op
  fits : x.at_ + sizeI x.op ≤ len
  num : numbersV slots ints texts x = 0
theorem getD_snoc {b : List Int} {j : Nat} (h : j < b.length) (t : List Int) : (b ++ t).getD j 0 = b.getD j 0 := by
  rw [List.getD_eq_getElem?_getD, List.getD_eq_getElem?_getD, List.getElem?_append_left h]
theorem readM_parts {b : List Int} {o : Int} {x : Ins} (h : readM b o = (x, 0)) : 0 ≤ o ∧ o < b.length ∧ ∃ p, formOf (b.getD o.toNat 0) = some p ∧ sizeK p.2 ≤ (b.length : Int) - o - 1 ∧ x = ⟨o, b.getD o.toNat 0, opA p.2 b o.toNat, opB p.2 b o.toNat, opC p.2 b o.toNat⟩ := by
  unfold readM at h
  split at h
  · exact absurd (Prod.mk.inj h).2 (by decide)
  · rename_i h1
    split at h
    · exact absurd (Prod.mk.inj h).2 (by decide)
    · rename_i p hp
      split at h
      · exact absurd (Prod.mk.inj h).2 (by decide)
      · rename_i h2
        exact ⟨by omega, by omega, p, hp, by omega, (Prod.mk.inj h).1.symm⟩
theorem readM_snoc {b : List Int} {o : Int} {x : Ins} (h : readM b o = (x, 0)) (t : List Int) : readM (b ++ t) o = (x, 0) := by
  obtain ⟨h0, h1, p, hp, hs, rfl⟩ := readM_parts h
  unfold readM
  rw [if_neg (by simp; omega), getD_snoc (by omega), hp]
  simp only
  rw [if_neg (by simp; omega)]
  have hk := form_kind hp
  obtain ⟨n, k⟩ := p
  simp only at hk hs ⊢
  rcases hk with rfl | rfl | rfl | rfl
  · rfl
  · have hs1 : (1 : Int) ≤ (b.length : Int) - o - 1 := hs
    have e1 := getD_snoc (b := b) (j := o.toNat + 1) (by omega) t
    simp only [List.getD_eq_getElem?_getD] at *
    simp [opA, opB, opC, e1]
  · have hs1 : (2 : Int) ≤ (b.length : Int) - o - 1 := hs
    have e1 := getD_snoc (b := b) (j := o.toNat + 1) (by omega) t
    have e2 := getD_snoc (b := b) (j := o.toNat + 2) (by omega) t
    simp only [List.getD_eq_getElem?_getD] at *
    simp [opA, opB, opC, e1, e2]
  · have hs1 : (4 : Int) ≤ (b.length : Int) - o - 1 := hs
    have e1 := getD_snoc (b := b) (j := o.toNat + 1) (by omega) t
    have e2 := getD_snoc (b := b) (j := o.toNat + 2) (by omega) t
    have e3 := getD_snoc (b := b) (j := o.toNat + 3) (by omega) t
    have e4 := getD_snoc (b := b) (j := o.toNat + 4) (by omega) t
    simp only [List.getD_eq_getElem?_getD] at *
    simp [opA, opB, opC, e1, e2, e3, e4]
theorem readM_fine {b slots : List Int} {ints texts : Int} (hb : ∀ x ∈ b, 0 ≤ x ∧ x ≤ 255) {o : Int} {x : Ins} (h : readM b o = (x, 0)) (hn : numbersV slots ints texts x = 0) : InsOk b.length slots ints texts x ∧ x.at_ = o := by
  obtain ⟨h1, h2, h3, h4⟩ := readM_ok hb h
  obtain ⟨h5, h6, p, hp, hs, hx⟩ := readM_parts h
  refine ⟨⟨h2, h3, ?_, by omega, by omega, h4, ?_, hn⟩, h1⟩
  · rw [hx]
    show 0 ≤ opC p.2 b o.toNat
    have := getD_byte hb (o.toNat + 3)
    have := getD_byte hb (o.toNat + 4)
    unfold opC
    split <;> omega
  · rw [h1, hx]
    show o + sizeI (b.getD o.toNat 0) ≤ b.length
    unfold sizeI
    rw [hp]
    simp only
    omega
theorem poolV_more {ints texts ints' texts' : Int} (hi : ints ≤ ints') (ht : texts ≤ texts') (op : Int) : (poolV ints texts op = none ∧ poolV ints' texts' op = none) ∨ ∃ m m', poolV ints texts op = some m ∧ poolV ints' texts' op = some m' ∧ m ≤ m' := by
  unfold poolV
  by_cases c1 : op = 1
  · rw [if_pos c1, if_pos c1]; exact .inr ⟨_, _, rfl, rfl, hi⟩
  rw [if_neg c1, if_neg c1]
  by_cases c2 : op = 45
  · rw [if_pos c2, if_pos c2]; exact .inr ⟨_, _, rfl, rfl, ht⟩
  rw [if_neg c2, if_neg c2]
  by_cases c3 : op = 41
  · rw [if_pos c3]; exact .inr ⟨_, _, rfl, rfl, Int.le_refl _⟩
  rw [if_neg c3]
  by_cases c4 : op = 46
  · rw [if_pos c4]; exact .inr ⟨_, _, rfl, rfl, Int.le_refl _⟩
  rw [if_neg c4]
  by_cases c5 : op = 60
  · rw [if_pos c5]; exact .inr ⟨_, _, rfl, rfl, Int.le_refl _⟩
  rw [if_neg c5]
  exact .inl ⟨rfl, rfl⟩
theorem numbersV_more {slots : List Int} (t : List Int) {ints texts ints' texts' : Int} {x : Ins} (hi : ints ≤ ints') (ht : texts ≤ texts') (ha : 0 ≤ x.a) (hb : 0 ≤ x.b) (h : numbersV slots ints texts x = 0) : numbersV (slots ++ t) ints' texts' x = 0 := by
  have hl : ((slots ++ t).length : Int) = slots.length + t.length := by simp
  unfold numbersV at h ⊢
  by_cases h1 : x.op = 4 ∨ x.op = 5
  · rw [if_pos h1] at h ⊢
    by_cases q : (slots.length : Int) ≤ x.a
    · rw [if_pos q] at h; cases h
    · rw [if_neg (by rw [hl]; omega)]
  rw [if_neg h1] at h ⊢
  by_cases h2 : x.op = 32
  · rw [if_pos h2] at h ⊢
    by_cases q : (slots.length : Int) ≤ x.a ∨ (slots.length : Int) ≤ x.b
    · rw [if_pos q] at h; cases h
    rw [if_neg q] at h
    rw [if_neg (by rw [hl]; omega), getD_snoc (by omega), getD_snoc (by omega)]
    exact h
  rw [if_neg h2] at h ⊢
  by_cases h3 : x.op = 24
  · rw [if_pos h3] at h ⊢; exact h
  rw [if_neg h3] at h ⊢
  rcases poolV_more hi ht x.op with ⟨e1, e2⟩ | ⟨m, m', e1, e2, e3⟩
  · rw [e2]
  · rw [e1] at h
    rw [e2]
    simp only at h ⊢
    by_cases q : m ≤ x.a
    · rw [if_pos q] at h; cases h
    · rw [if_neg (by omega)]
theorem takesV_more {slots : List Int} (t : List Int) {ints texts : Int} {x : Ins} (ha : 0 ≤ x.a) (h : numbersV slots ints texts x = 0) : takesV (slots ++ t) x = takesV slots x := by
  have key : x.op = 4 ∨ x.op = 5 → (slots ++ t).getD x.a.toNat 0 = slots.getD x.a.toNat 0 := fun h1 => by
    unfold numbersV at h
    rw [if_pos h1] at h
    by_cases q : (slots.length : Int) ≤ x.a
    · rw [if_pos q] at h; cases h
    · exact getD_snoc (by omega) t
  unfold takesV
  by_cases h4 : x.op = 4
  · rw [key (.inl h4)]
  by_cases h5 : x.op = 5
  · rw [key (.inr h5)]
  simp only [h4, h5, if_false]
/-- What the second look keeps. -/
theorem scan_ok {b slots : List Int} {ints texts : Int} (hb : ∀ x ∈ b, 0 ≤ x ∧ x ≤ 255) : ∀ f o acc l, (∀ x ∈ acc, InsOk b.length slots ints texts x) → scanV b slots ints texts f o acc = .inl l → ∀ x ∈ l, InsOk b.length slots ints texts x
  | 0, o, acc, l, ha, h => by
    rw [scanV] at h
    rw [← Sum.inl.inj h]
    exact ha
  | f + 1, o, acc, l, ha, h => by
    rw [scanV] at h
    by_cases c1 : b.length ≤ o
    · rw [if_pos c1] at h
      rw [← Sum.inl.inj h]
      exact ha
    rw [if_neg c1] at h
    by_cases c2 : (readM b o).2 ≠ 0
    · rw [if_pos c2] at h; cases h
    rw [if_neg c2] at h
    by_cases c3 : numbersV slots ints texts (readM b o).1 ≠ 0
    · rw [if_pos c3] at h; cases h
    rw [if_neg c3] at h
    have hx := readM_fine (x := (readM b o).1) hb (Prod.ext rfl (by omega)) (by omega : numbersV slots ints texts (readM b o).1 = 0)
    refine scan_ok hb f _ _ l (fun y hy => ?_) h
    rcases List.mem_append.1 hy with hy | hy
    · exact ha y hy
    · rw [List.mem_singleton.1 hy]; exact hx.1
def stopI (n : Nat) : Ins := ⟨n, 34, 0, 0, 0⟩
theorem readM_stop (b : List Int) : readM (b ++ [34]) (b.length : Nat) = (stopI b.length, 0) := by
  have e : (b ++ [34]).getD b.length 0 = 34 := by rw [List.getD_eq_getElem?_getD]; simp
  have hf : ∃ n, formOf 34 = some (n, 0) := ⟨_, rfl⟩
  obtain ⟨n, hf⟩ := hf
  unfold readM
  rw [if_neg (by simp; omega), Int.toNat_natCast, e, hf]
  simp only
  rw [if_neg (by have : sizeK 0 = 0 := rfl; rw [this]; simp; omega)]
  rfl
theorem stop_size : sizeI 34 = 1 := by rfl
theorem scan_more {b slots : List Int} (t : List Int) {ints texts ints' texts' : Int} (hi : ints ≤ ints') (ht : texts ≤ texts') (hb : ∀ x ∈ b, 0 ≤ x ∧ x ≤ 255) : ∀ f (o : Nat) acc l, b.length ≤ o + f → o ≤ b.length → scanV b slots ints texts f o acc = .inl l → ∀ f', b.length + 1 ≤ o + f' → scanV (b ++ [34]) (slots ++ t) ints' texts' f' o acc = .inl (l ++ [stopI b.length]) := by
  have hstop : ∀ f' acc, 1 ≤ f' → scanV (b ++ [34]) (slots ++ t) ints' texts' f' b.length acc = .inl (acc ++ [stopI b.length]) := fun f' acc hf => by
    obtain ⟨g, rfl⟩ : ∃ g, f' = g + 1 := ⟨f' - 1, by omega⟩
    have hn : numbersV (slots ++ t) ints' texts' (stopI b.length) = 0 := by
      unfold numbersV
      rw [if_neg (by simp [stopI]), if_neg (by simp [stopI]), if_neg (by simp [stopI])]
      rfl
    rw [scanV, if_neg (by simp), readM_stop, if_neg (by simp), if_neg (by simp [hn])]
    have e : b.length + (sizeI (stopI b.length).op).toNat = b.length + 1 := rfl
    simp only
    rw [e]
    cases g with
    | zero => rw [scanV]
    | succ g => rw [scanV, if_pos (by simp)]
  intro f
  induction f with
  | zero =>
    intro o acc l h1 h2 h f' h3
    rw [scanV] at h
    have : o = b.length := by omega
    subst this
    rw [← Sum.inl.inj h]
    exact hstop f' acc (by omega)
  | succ f ih =>
    intro o acc l h1 h2 h f' h3
    rw [scanV] at h
    by_cases c1 : b.length ≤ o
    · rw [if_pos c1] at h
      have : o = b.length := by omega
      subst this
      rw [← Sum.inl.inj h]
      exact hstop f' acc (by omega)
    rw [if_neg c1] at h
    by_cases c2 : (readM b o).2 ≠ 0
    · rw [if_pos c2] at h; cases h
    rw [if_neg c2] at h
    by_cases c3 : numbersV slots ints texts (readM b o).1 ≠ 0
    · rw [if_pos c3] at h; cases h
    rw [if_neg c3] at h
    have hr : readM b o = ((readM b o).1, 0) := Prod.ext rfl (by simpa using c2)
    obtain ⟨hx, hxa⟩ := readM_fine hb hr (by simpa using c3)
    have hr2 := readM_snoc hr [34]
    obtain ⟨g, rfl⟩ : ∃ g, f' = g + 1 := ⟨f' - 1, by omega⟩
    rw [scanV, if_neg (by simp; omega), hr2, if_neg (by simp)]
    simp only
    rw [if_neg (by simpa using numbersV_more t hi ht hx.a0 hx.b0 hx.num)]
    have s1 := hx.size
    have s2 := hx.fits
    exact ih _ _ l (by omega) (by omega) h g (by omega)
theorem insAt_more (l : List Ins) (x : Ins) (o : Int) (h : o ≠ x.at_) : insAt (l ++ [x]) o = insAt l o := by
  unfold insAt
  rw [List.find?_append]
  have : ([x] : List Ins).find? (fun y => y.at_ == o) = none := List.find?_eq_none.2 fun y hy => by simp at hy; subst hy; simp; omega
  rw [this]
  simp
theorem insAt_some (l : List Ins) (x : Ins) (o : Int) (h : (insAt l o).isSome = true) : (insAt (l ++ [x]) o).isSome = true := by
  unfold insAt at h ⊢
  rw [List.find?_append]
  cases hq : l.find? (fun y => y.at_ == o) with
  | none => rw [hq] at h; cases h
  | some y => rfl
theorem jumps_more (l : List Ins) (n : Nat) : ∀ r, jumpsV l r = none → jumpsV (l ++ [stopI n]) (r ++ [stopI n]) = none
  | [], _ => rfl
  | x :: r, h => by
    rw [jumpsV] at h
    rw [List.cons_append, jumpsV]
    cases hx : targetV x with
    | none => rw [hx] at h; exact jumps_more l n r h
    | some tg =>
      rw [hx] at h
      simp only at h ⊢
      by_cases q : (insAt l tg).isSome = true
      · rw [if_pos q] at h
        rw [if_pos (insAt_some l _ tg q)]
        exact jumps_more l n r h
      · rw [if_neg q] at h; cases h
end Go.Proofs.YtabpheanbomibaaGreatDoor
namespace Go.Proofs.YtabpheanbomibaaGreatDoor
open Go.RowKit
set_option linter.unusedVariables false

/-- How many offsets have no shape. -/
def freeV : Nat → (Int → Option (List Int)) → Nat
  | 0, _ => 0
  | n + 1, st => freeV n st + (if (st (n : Int)).isNone = true then 1 else 0)
theorem free_far (st : Int → Option (List Int)) (tg : Int) (s : List Int) : ∀ n : Nat, (n : Int) ≤ tg → freeV n (setV st tg s) = freeV n st
  | 0, _ => rfl
  | n + 1, h => by
    have e : setV st tg s (n : Int) = st (n : Int) := by unfold setV; rw [if_neg (by omega)]
    rw [freeV, freeV, free_far st tg s n (by omega), e]
theorem free_set (st : Int → Option (List Int)) (tg : Int) (s : List Int) (h0 : 0 ≤ tg) (h2 : st tg = none) : ∀ n : Nat, tg < n → freeV n (setV st tg s) + 1 = freeV n st
  | 0, h => by omega
  | n + 1, h => by
    rw [freeV, freeV]
    by_cases e : tg = n
    · subst e
      have e2 : setV st (n : Int) s (n : Int) = some s := by unfold setV; rw [if_pos rfl]
      rw [free_far st n s n (by omega), e2, h2]
      rfl
    · have := free_set st tg s h0 h2 n (by omega)
      have e2 : setV st tg s (n : Int) = st (n : Int) := by unfold setV; rw [if_neg (by omega)]
      rw [e2]
      omega
theorem free_none (n : Nat) : freeV n (fun _ => none) = n := by
  induction n with
  | zero => rfl
  | succ n ih => rw [freeV, ih]; rfl
section
variable {P : HEnt → Prop}
theorem atH_all {l : List HEnt} (h0 : P (0, 0)) (h : ∀ e ∈ l, P e) (i : Nat) : P (atH l i) := by
  unfold atH
  rw [List.getD_eq_getElem?_getD]
  cases hq : l[i]? with
  | none => exact h0
  | some e => exact h e (List.mem_of_getElem? hq)
theorem swapH_all {l : List HEnt} (h0 : P (0, 0)) (h : ∀ e ∈ l, P e) (i k : Nat) : ∀ e ∈ swapH l i k, P e := fun e he => by
  unfold swapH at he
  rcases List.mem_or_eq_of_mem_set he with he | he
  · rcases List.mem_or_eq_of_mem_set he with he | he
    · exact h e he
    · rw [he]; exact atH_all h0 h k
  · rw [he]; exact atH_all h0 h i
theorem upH_all (h0 : P (0, 0)) : ∀ (f i : Nat) (l : List HEnt), (∀ e ∈ l, P e) → ∀ e ∈ upH f i l, P e
  | 0, i, l, h => h
  | f + 1, i, l, h => by
    rw [upH]
    split
    · exact upH_all h0 f _ _ (swapH_all h0 h _ _)
    · exact h
theorem putH_all (h0 : P (0, 0)) {l : List HEnt} {e : HEnt} (h : ∀ e ∈ l, P e) (he : P e) : ∀ y ∈ putH l e, P y := by
  unfold putH
  refine upH_all h0 _ _ _ fun y hy => ?_
  rcases List.mem_append.1 hy with hy | hy
  · exact h y hy
  · rw [List.mem_singleton.1 hy]; exact he
theorem downH_all (h0 : P (0, 0)) : ∀ (f i : Nat) (l : List HEnt), (∀ e ∈ l, P e) → ∀ e ∈ downH f i l, P e
  | 0, i, l, h => h
  | f + 1, i, l, h => by
    rw [downH]
    split
    · exact h
    split
    · exact downH_all h0 f _ _ (swapH_all h0 h _ _)
    · exact h
theorem takeH_all (h0 : P (0, 0)) {l : List HEnt} (h : ∀ e ∈ l, P e) : ∀ y ∈ takeH l, P y := by
  unfold takeH
  refine downH_all h0 _ _ _ fun y hy => ?_
  unfold cutH at hy
  rcases List.mem_or_eq_of_mem_set (List.mem_of_mem_take hy) with hy | hy
  · exact h y hy
  · rw [hy]; exact atH_all h0 h _
end
/-- What the rounds keep. -/
structure VOk (len m : Nat) (v : VS) : Prop where
  cnt : v.heap.length + freeV len v.stacks = m
  came0 : 0 ≤ v.came
  came : v.came + freeV len v.stacks = len
  heap : ∀ e ∈ v.heap, 0 ≤ e.1 ∧ e.1 < len
  top : ∀ y, y < 0 ∨ (len : Int) ≤ y → v.stacks y = none
  high : ∀ y s, v.stacks y = some s → s.length ≤ 256
  zero : v.stacks 0 = some []
theorem VOk.start {len : Nat} (h : 0 < len) : VOk len len startV := by
  have hf : freeV len (setV (fun _ => none) 0 []) + 1 = len := by
    rw [free_set (fun _ => none) 0 [] (Int.le_refl _) rfl len (by omega), free_none]
  refine ⟨?_, by decide, ?_, fun e he => ?_, fun y hy => ?_, fun y s hs => ?_, rfl⟩
  · show 1 + freeV len (setV (fun _ => none) 0 []) = len; omega
  · show (1 : Int) + (freeV len (setV (fun _ => none) 0 []) : Int) = len; omega
  · have : e = (0, 0) := List.mem_singleton.1 he
    rw [this]; simp; omega
  · show setV (fun _ => none) 0 [] y = none
    unfold setV
    rw [if_neg (by omega)]
  · have : setV (fun _ => none) 0 [] y = some s := hs
    unfold setV at this
    split at this
    · injection this with this; rw [← this]; decide
    · cases this
theorem VOk.push {len m : Nat} {v : VS} (h : VOk len m v) {tg : Int} {st : List Int} (h0 : 0 ≤ tg) (h1 : tg < len) (h2 : v.stacks tg = none) (h3 : st.length ≤ 256) : VOk len m ⟨setV v.stacks tg st, putH v.heap (tg, v.came), v.came + 1⟩ := by
  have hf := free_set v.stacks tg st h0 h2 len h1
  have h4 := h.cnt
  have h5 := h.came
  have h6 := h.came0
  refine ⟨?_, ?_, ?_, ?_, fun y hy => ?_, fun y s hs => ?_, ?_⟩
  · simp only [putH_len]; omega
  · simp only; omega
  · simp only; omega
  · exact putH_all (P := fun e => 0 ≤ e.1 ∧ e.1 < len) ⟨Int.le_refl _, by show (0 : Int) < len; omega⟩ h.heap ⟨h0, h1⟩
  · show setV v.stacks tg st y = none
    unfold setV
    rw [if_neg (by omega)]
    exact h.top y hy
  · have hs' : setV v.stacks tg st y = some s := hs
    unfold setV at hs'
    split at hs'
    · injection hs' with e; rw [← e]; exact h3
    · exact h.high y s hs'
  · show setV v.stacks tg st 0 = some []
    unfold setV
    by_cases e : (0 : Int) = tg
    · rw [← e, h.zero] at h2; cases h2
    · rw [if_neg e]; exact h.zero
theorem VOk.take {len m : Nat} {v : VS} (h : VOk len m v) (hne : v.heap ≠ []) : VOk len (m - 1) ⟨v.stacks, takeH v.heap, v.came⟩ ∧ 1 ≤ m ∧ 0 ≤ (atH v.heap 0).1 ∧ (atH v.heap 0).1 < len := by
  have h4 := h.cnt
  have h1 : 1 ≤ v.heap.length := by cases hq : v.heap with | nil => exact absurd hq hne | cons a r => simp
  obtain ⟨a, ha⟩ : ∃ a, a ∈ v.heap := by cases hq : v.heap with | nil => exact absurd hq hne | cons a r => exact ⟨a, by simp⟩
  have hl := h.heap a ha
  have hP : 0 ≤ ((0, 0) : HEnt).1 ∧ ((0, 0) : HEnt).1 < (len : Int) := ⟨Int.le_refl _, by show (0 : Int) < len; omega⟩
  refine ⟨⟨?_, h.came0, h.came, takeH_all (P := fun e => 0 ≤ e.1 ∧ e.1 < len) hP h.heap, h.top, h.high, h.zero⟩, by omega, atH_all (P := fun e => 0 ≤ e.1 ∧ e.1 < len) hP h.heap 0⟩
  simp only [takeH_len]
  omega
theorem give_ok {len m : Nat} {v : VS} (h : VOk len m v) {frm tg : Int} {st : List Int} (h0 : 0 ≤ tg) (h3 : st.length ≤ 256) : VOk len m (giveV len frm tg st v).1 := by
  unfold giveV
  by_cases c1 : (len : Int) ≤ tg
  · rw [if_pos c1]; exact h
  rw [if_neg c1]
  cases hs : v.stacks tg with
  | some s =>
    simp only
    by_cases c2 : s = st
    · rw [if_pos c2]; exact h
    · rw [if_neg c2]; exact h
  | none => exact h.push h0 (by omega) hs h3
theorem look_ok {len m : Nat} {v : VS} {slots : List Int} {x : Ins} (h : VOk len m v) (h0 : 0 ≤ x.at_ + sizeI x.op) (ht : ∀ tg, targetV x = some tg → 0 ≤ tg) : VOk len m (lookV len slots x v).1 := by
  unfold lookV
  simp only
  split
  · exact h
  split
  · exact h
  split
  · exact h
  rename_i c3
  split
  · exact h
  have hb : ((List.take (((v.stacks x.at_).getD []).length - (takesV slots x).1.length) ((v.stacks x.at_).getD [])) ++ (takesV slots x).2).length ≤ 256 := by omega
  have hr : VOk len m (if x.op = 30 then (v, none) else giveV len x.at_ (x.at_ + sizeI x.op) ((List.take (((v.stacks x.at_).getD []).length - (takesV slots x).1.length) ((v.stacks x.at_).getD [])) ++ (takesV slots x).2) v : VS × Option (Int × Int)).1 := by
    split
    · exact h
    · exact give_ok h h0 hb
  split
  · exact hr
  · cases htg : targetV x with
    | none => exact hr
    | some tg =>
      simp only
      refine give_ok hr (ht tg htg) ?_
      split
      · have : (List.take (((v.stacks x.at_).getD []).length - (takesV slots x).1.length) ((v.stacks x.at_).getD []) ++ (takesV slots x).2).length = (List.take (((v.stacks x.at_).getD []).length - (takesV slots x).1.length) ((v.stacks x.at_).getD [])).length + (takesV slots x).2.length := List.length_append
        omega
      · exact hb
/-- What is looked at: an instruction, or none. -/
theorem insAt_mem {l : List Ins} {o : Int} {x : Ins} (h : insAt l o = some x) : x ∈ l ∧ x.at_ = o := by
  unfold insAt at h
  exact ⟨List.mem_of_find?_eq_some h, by simpa using List.find?_some h⟩
theorem ins0_num (slots : List Int) (ints texts : Int) : numbersV slots ints texts ins0 = 0 := by
  unfold numbersV
  rw [if_neg (by simp [ins0]), if_neg (by simp [ins0]), if_neg (by simp [ins0])]
  rfl
/-- The instruction that a round looks at. -/
structure AtOk (len : Nat) (slots : List Int) (ints texts : Int) (x : Ins) : Prop where
  a0 : 0 ≤ x.a
  at0 : 0 ≤ x.at_
  lt : x.at_ < len
  num : numbersV slots ints texts x = 0
  next : 0 ≤ x.at_ + sizeI x.op
  tg : ∀ tg, targetV x = some tg → 0 ≤ tg
theorem at_ok {len : Nat} {slots : List Int} {ints texts : Int} {l : List Ins} (hl : ∀ x ∈ l, InsOk len slots ints texts x) (h0 : 0 < len) (o : Int) : AtOk len slots ints texts ((insAt l o).getD ins0) := by
  cases hq : insAt l o with
  | none => exact ⟨by decide, by decide, by show (0 : Int) < len; omega, ins0_num _ _ _, by decide, fun tg h => by have h' : (none : Option Int) = some tg := h; cases h'⟩
  | some x =>
    obtain ⟨hm, _⟩ := insAt_mem hq
    have h := hl x hm
    refine ⟨h.a0, h.at0, h.lt, h.num, ?_, fun tg ht => ?_⟩
    · show 0 ≤ x.at_ + sizeI x.op
      have := h.at0
      have := h.size
      omega
    · have ht' : targetV x = some tg := ht
      unfold targetV at ht'
      have := h.a0
      have := h.c0
      split at ht'
      · injection ht' with e; omega
      · split at ht'
        · injection ht' with e; omega
        · cases ht'
end Go.Proofs.YtabpheanbomibaaGreatDoor
namespace Go.Proofs.YtabpheanbomibaaGreatDoor
open Go.RowKit
set_option linter.unusedVariables false

theorem give_more {len : Nat} {v v' : VS} {frm tg : Int} {st : List Int} (h : giveV len frm tg st v = (v', none)) : giveV (len + 1) frm tg st v = (v', none) := by
  unfold giveV at h ⊢
  by_cases c1 : (len : Int) ≤ tg
  · rw [if_pos c1] at h; cases h
  rw [if_neg c1] at h
  rw [if_neg (by omega)]
  exact h
theorem look_more {len : Nat} {slots t : List Int} {ints texts : Int} {x : Ins} {v v' : VS} (hx : AtOk len slots ints texts x) (h : lookV len slots x v = (v', none)) : lookV (len + 1) (slots ++ t) x v = (v', none) := by
  unfold lookV at h ⊢
  rw [takesV_more t hx.a0 hx.num]
  simp only at h ⊢
  by_cases c1 : ((v.stacks x.at_).getD []).length < (takesV slots x).1.length
  · rw [if_pos c1] at h; cases h
  rw [if_neg c1] at h ⊢
  by_cases c2 : ((v.stacks x.at_).getD []).drop (((v.stacks x.at_).getD []).length - (takesV slots x).1.length) ≠ (takesV slots x).1
  · rw [if_pos c2] at h; cases h
  rw [if_neg c2] at h ⊢
  by_cases c3 : 256 < (((v.stacks x.at_).getD []).take (((v.stacks x.at_).getD []).length - (takesV slots x).1.length) ++ (takesV slots x).2).length
  · rw [if_pos c3] at h; cases h
  rw [if_neg c3] at h ⊢
  by_cases c4 : x.op = 34 ∨ x.op = 35
  · rw [if_pos c4] at h ⊢; exact h
  rw [if_neg c4] at h ⊢
  obtain ⟨r, hr⟩ : ∃ r, (if x.op = 30 then (v, none) else giveV len x.at_ (x.at_ + sizeI x.op) (((v.stacks x.at_).getD []).take (((v.stacks x.at_).getD []).length - (takesV slots x).1.length) ++ (takesV slots x).2) v) = r := ⟨_, rfl⟩
  rw [hr] at h
  obtain ⟨v1, f⟩ := r
  cases f with
  | some f => cases h
  | none =>
    have hr2 : (if x.op = 30 then (v, none) else giveV (len + 1) x.at_ (x.at_ + sizeI x.op) (((v.stacks x.at_).getD []).take (((v.stacks x.at_).getD []).length - (takesV slots x).1.length) ++ (takesV slots x).2) v) = (v1, none) := by
      by_cases c5 : x.op = 30
      · rw [if_pos c5] at hr ⊢; exact hr
      · rw [if_neg c5] at hr ⊢; exact give_more hr
    rw [hr2]
    simp only at h ⊢
    cases htg : targetV x with
    | none => rw [htg] at h; exact h
    | some tg =>
      rw [htg] at h
      exact give_more h
theorem loop_more {len : Nat} {slots t : List Int} {ints texts : Int} {l : List Ins} (h0 : 0 < len) (hl : ∀ x ∈ l, InsOk len slots ints texts x) : ∀ (f m : Nat) (v v' : VS), VOk len m v → m ≤ f → loopV len slots l f v = (v', none) → (∃ m', VOk len m' v') ∧ ∀ f', m ≤ f' → loopV (len + 1) (slots ++ t) (l ++ [stopI len]) f' v = (v', none)
  | 0, m, v, v', hv, hm, h => by
    rw [loopV] at h
    have e : v = v' := (Prod.mk.inj h).1
    subst e
    refine ⟨⟨m, hv⟩, fun f' hf => ?_⟩
    have hh : v.heap = [] := by
      have := hv.cnt
      cases hq : v.heap with
      | nil => rfl
      | cons a r => rw [hq] at this; simp at this; omega
    cases f' with
    | zero => rw [loopV]
    | succ g => rw [loopV, if_pos hh]
  | f + 1, m, v, v', hv, hm, h => by
    rw [loopV] at h
    by_cases hh : v.heap = []
    · rw [if_pos hh] at h
      have e : v = v' := (Prod.mk.inj h).1
      subst e
      refine ⟨⟨m, hv⟩, fun f' hf => ?_⟩
      cases f' with
      | zero => rw [loopV]
      | succ g => rw [loopV, if_pos hh]
    rw [if_neg hh] at h
    obtain ⟨hv2, hm1, ha0, ha1⟩ := hv.take hh
    have hx := at_ok hl h0 (atH v.heap 0).1
    obtain ⟨r, hr⟩ : ∃ r, lookV len slots ((insAt l (atH v.heap 0).1).getD ins0) ⟨v.stacks, takeH v.heap, v.came⟩ = r := ⟨_, rfl⟩
    have hv3 : VOk len (m - 1) r.1 := by rw [← hr]; exact look_ok hv2 hx.next hx.tg
    simp only [hr] at h
    obtain ⟨v1, fl⟩ := r
    cases fl with
    | some fl => cases h
    | none =>
      simp only at h hv3
      obtain ⟨he, hq⟩ := loop_more h0 hl f (m - 1) v1 v' hv3 (by omega) h
      refine ⟨he, fun f' hf => ?_⟩
      obtain ⟨g, rfl⟩ : ∃ g, f' = g + 1 := ⟨f' - 1, by omega⟩
      rw [loopV, if_neg hh, insAt_more l (stopI len) _ (by show (atH v.heap 0).1 ≠ (len : Int); omega)]
      simp only [look_more hx hr]
      exact hq g (by omega)
theorem shapes_more {len : Nat} {f : Int → Option (List Int)} (h : f (len : Int) = none) : shapesV (len + 1) f = shapesV len f := by
  unfold shapesV
  rw [List.range_succ, List.filterMap_append]
  simp [h]
/-- Faults are faults. -/
theorem limits_few (b slots : List Int) (ints texts : Int) : limitsV b slots ints texts = 56 ∨ limitsV b slots ints texts = 43 ∨ limitsV b slots ints texts = 49 ∨ limitsV b slots ints texts = 0 := by
  unfold limitsV
  split
  · exact .inl rfl
  split
  · exact .inr (.inl rfl)
  split
  · exact .inr (.inr (.inl rfl))
  · exact .inr (.inr (.inr rfl))
theorem scan_bad {b slots : List Int} {ints texts : Int} : ∀ f o acc e a, scanV b slots ints texts f o acc = .inr (e, a) → e ≠ 0 ∧ 0 ≤ a
  | 0, o, acc, e, a, h => by rw [scanV] at h; cases h
  | f + 1, o, acc, e, a, h => by
    rw [scanV] at h
    by_cases c1 : b.length ≤ o
    · rw [if_pos c1] at h; cases h
    rw [if_neg c1] at h
    by_cases c2 : (readM b o).2 ≠ 0
    · rw [if_pos c2] at h
      have := Sum.inr.inj h
      have e1 := (Prod.mk.inj this).1
      have e2 := (Prod.mk.inj this).2
      exact ⟨by rw [← e1]; exact c2, by omega⟩
    rw [if_neg c2] at h
    by_cases c3 : numbersV slots ints texts (readM b o).1 ≠ 0
    · rw [if_pos c3] at h
      have := Sum.inr.inj h
      have e1 := (Prod.mk.inj this).1
      have e2 := (Prod.mk.inj this).2
      exact ⟨by rw [← e1]; exact c3, by omega⟩
    rw [if_neg c3] at h
    exact scan_bad f _ _ e a h
theorem jumps_bad {l : List Ins} (hl : ∀ x ∈ l, 0 ≤ x.at_) : ∀ r e a, (∀ x ∈ r, 0 ≤ x.at_) → jumpsV l r = some (e, a) → e ≠ 0 ∧ 0 ≤ a
  | [], e, a, _, h => by rw [jumpsV] at h; cases h
  | x :: r, e, a, hr, h => by
    rw [jumpsV] at h
    have hr2 : ∀ y ∈ r, 0 ≤ y.at_ := fun y hy => hr y (by simp [hy])
    cases hx : targetV x with
    | none => rw [hx] at h; exact jumps_bad hl r e a hr2 h
    | some tg =>
      rw [hx] at h
      simp only at h
      by_cases q : (insAt l tg).isSome = true
      · rw [if_pos q] at h; exact jumps_bad hl r e a hr2 h
      · rw [if_neg q] at h
        have := Option.some.inj h
        have e1 := (Prod.mk.inj this).1
        have e2 := (Prod.mk.inj this).2
        have := hr x (by simp)
        exact ⟨by omega, by omega⟩
theorem give_bad {len : Nat} {v : VS} {frm tg : Int} {st : List Int} {e a : Int} (h0 : 0 ≤ frm) (h1 : 0 ≤ tg) (h : (giveV len frm tg st v).2 = some (e, a)) : e ≠ 0 ∧ 0 ≤ a := by
  have key : ∀ (p q : Int), 0 ≤ q → p ≠ 0 → some (p, q) = some (e, a) → e ≠ 0 ∧ 0 ≤ a := fun p q h2 h3 h4 => by
    have := Option.some.inj h4
    have e1 := (Prod.mk.inj this).1
    have e2 := (Prod.mk.inj this).2
    exact ⟨by omega, by omega⟩
  unfold giveV at h
  by_cases c1 : (len : Int) ≤ tg
  · rw [if_pos c1] at h; exact key _ _ h0 (by decide) h
  rw [if_neg c1] at h
  cases hs : v.stacks tg with
  | some s =>
    rw [hs] at h
    simp only at h
    by_cases c2 : s = st
    · rw [if_pos c2] at h; cases h
    · rw [if_neg c2] at h; exact key _ _ h1 (by decide) h
  | none => rw [hs] at h; cases h
theorem look_bad {len : Nat} {v : VS} {slots : List Int} {x : Ins} {e a : Int} (h0 : 0 ≤ x.at_) (hn : 0 ≤ x.at_ + sizeI x.op) (ht : ∀ tg, targetV x = some tg → 0 ≤ tg) (h : (lookV len slots x v).2 = some (e, a)) : e ≠ 0 ∧ 0 ≤ a := by
  have key : ∀ (p q : Int), 0 ≤ q → p ≠ 0 → some (p, q) = some (e, a) → e ≠ 0 ∧ 0 ≤ a := fun p q h2 h3 h4 => by
    have := Option.some.inj h4
    have e1 := (Prod.mk.inj this).1
    have e2 := (Prod.mk.inj this).2
    exact ⟨by omega, by omega⟩
  unfold lookV at h
  simp only at h
  by_cases c1 : ((v.stacks x.at_).getD []).length < (takesV slots x).1.length
  · rw [if_pos c1] at h; exact key _ _ h0 (by decide) h
  rw [if_neg c1] at h
  by_cases c2 : ((v.stacks x.at_).getD []).drop (((v.stacks x.at_).getD []).length - (takesV slots x).1.length) ≠ (takesV slots x).1
  · rw [if_pos c2] at h; exact key _ _ h0 (by decide) h
  rw [if_neg c2] at h
  by_cases c3 : 256 < (((v.stacks x.at_).getD []).take (((v.stacks x.at_).getD []).length - (takesV slots x).1.length) ++ (takesV slots x).2).length
  · rw [if_pos c3] at h; exact key _ _ h0 (by decide) h
  rw [if_neg c3] at h
  by_cases c4 : x.op = 34 ∨ x.op = 35
  · rw [if_pos c4] at h; cases h
  rw [if_neg c4] at h
  obtain ⟨r, hr⟩ : ∃ r, (if x.op = 30 then (v, none) else giveV len x.at_ (x.at_ + sizeI x.op) (((v.stacks x.at_).getD []).take (((v.stacks x.at_).getD []).length - (takesV slots x).1.length) ++ (takesV slots x).2) v) = r := ⟨_, rfl⟩
  rw [hr] at h
  obtain ⟨v1, f⟩ := r
  cases f with
  | some f =>
    simp only at h
    by_cases c5 : x.op = 30
    · rw [if_pos c5] at hr; cases hr
    · rw [if_neg c5] at hr
      have hf : f = (e, a) := Option.some.inj h
      subst hf
      exact give_bad h0 hn (by rw [hr])
  | none =>
    simp only at h
    cases htg : targetV x with
    | none => rw [htg] at h; cases h
    | some tg =>
      rw [htg] at h
      exact give_bad h0 (ht tg htg) h
theorem loop_bad {len : Nat} {slots : List Int} {ints texts : Int} {l : List Ins} (h0 : 0 < len) (hl : ∀ x ∈ l, InsOk len slots ints texts x) {e a : Int} : ∀ (f : Nat) (v v' : VS), loopV len slots l f v = (v', some (e, a)) → e ≠ 0 ∧ 0 ≤ a
  | 0, v, v', h => by rw [loopV] at h; cases h
  | f + 1, v, v', h => by
    rw [loopV] at h
    by_cases hh : v.heap = []
    · rw [if_pos hh] at h; cases h
    rw [if_neg hh] at h
    have hx := at_ok hl h0 (atH v.heap 0).1
    obtain ⟨r, hr⟩ : ∃ r, lookV len slots ((insAt l (atH v.heap 0).1).getD ins0) ⟨v.stacks, takeH v.heap, v.came⟩ = r := ⟨_, rfl⟩
    simp only [hr] at h
    obtain ⟨v1, fl⟩ := r
    cases fl with
    | some fl =>
      have e1 : some fl = some (e, a) := (Prod.mk.inj h).2
      have e2 : fl = (e, a) := Option.some.inj e1
      subst e2
      exact look_bad hx.at0 hx.next hx.tg (by rw [hr])
    | none => exact loop_bad h0 hl f v1 v' h
/-- The answer of code that may run. -/
structure CodeOk (b slots : List Int) (ints texts : Int) (l : List Ins) (v : VS) : Prop where
  lim : limitsV b slots ints texts = 0
  pos : 0 < b.length
  scan : scanV b slots ints texts b.length 0 [] = .inl l
  ins : ∀ x ∈ l, InsOk b.length slots ints texts x
  jumps : jumpsV l l = none
  loop : loopV b.length slots l b.length startV = (v, none)
  ok : ∃ m, VOk b.length m v
theorem limits_pos {b slots : List Int} {ints texts : Int} (h : limitsV b slots ints texts = 0) : b.length ≤ 65535 ∧ slots.length ≤ 32 ∧ slots.any (fun k => decide (k < 1) || decide (6 < k)) = false ∧ 0 ≤ ints ∧ ints ≤ 4096 ∧ 0 ≤ texts ∧ texts ≤ 4096 ∧ 2 ≤ slots.length ∧ slots.getD 0 0 = 3 ∧ slots.getD 1 0 = 4 ∧ 0 < b.length := by
  unfold limitsV at h
  by_cases c1 : 65535 < b.length ∨ 32 < slots.length ∨ slots.any (fun k => decide (k < 1) || decide (6 < k)) = true ∨ ints < 0 ∨ 4096 < ints ∨ texts < 0 ∨ 4096 < texts
  · rw [if_pos c1] at h; cases h
  rw [if_neg c1] at h
  by_cases c2 : slots.length < 2 ∨ slots.getD 0 0 ≠ 3 ∨ slots.getD 1 0 ≠ 4
  · rw [if_pos c2] at h; cases h
  rw [if_neg c2] at h
  by_cases c3 : b.length = 0
  · rw [if_pos c3] at h; cases h
  obtain ⟨q, hq⟩ : ∃ q, slots.any (fun k => decide (k < 1) || decide (6 < k)) = q := ⟨_, rfl⟩
  rw [hq] at c1 ⊢
  cases q with
  | true => exact absurd (.inr (.inr (.inl rfl))) c1
  | false => exact ⟨by omega, by omega, rfl, by omega, by omega, by omega, by omega, by omega, by omega, by omega, by omega⟩
theorem code_ways (b slots : List Int) (ints texts : Int) (hb : ∀ x ∈ b, 0 ≤ x ∧ x ≤ 255) : (∃ e a, codeV b slots ints texts = ([], 0, e, a) ∧ e ≠ 0 ∧ 0 ≤ a) ∨ ∃ l v, CodeOk b slots ints texts l v ∧ codeV b slots ints texts = (shapesV b.length v.stacks, highV (shapesV b.length v.stacks), 0, 0) := by
  unfold codeV
  by_cases c1 : limitsV b slots ints texts ≠ 0
  · rw [if_pos c1]; exact .inl ⟨_, _, rfl, c1, Int.le_refl _⟩
  rw [if_neg c1]
  have hlim : limitsV b slots ints texts = 0 := by omega
  have hpos : 0 < b.length := (limits_pos hlim).2.2.2.2.2.2.2.2.2.2
  cases hs : scanV b slots ints texts b.length 0 [] with
  | inr p =>
    obtain ⟨e, a⟩ := p
    obtain ⟨h1, h2⟩ := scan_bad _ _ _ _ _ hs
    exact .inl ⟨e, a, rfl, h1, h2⟩
  | inl l =>
    have hl := scan_ok hb _ _ _ _ (by simp) hs
    simp only
    cases hj : jumpsV l l with
    | some p =>
      obtain ⟨e, a⟩ := p
      obtain ⟨h1, h2⟩ := jumps_bad (fun x hx => (hl x hx).at0) l e a (fun x hx => (hl x hx).at0) hj
      exact .inl ⟨e, a, rfl, h1, h2⟩
    | none =>
      simp only
      obtain ⟨r, hr⟩ : ∃ r, loopV b.length slots l b.length startV = r := ⟨_, rfl⟩
      rw [hr]
      obtain ⟨v, fl⟩ := r
      cases fl with
      | some p =>
        obtain ⟨e, a⟩ := p
        obtain ⟨h1, h2⟩ := loop_bad hpos hl _ _ _ hr
        exact .inl ⟨e, a, rfl, h1, h2⟩
      | none => exact .inr ⟨l, v, ⟨hlim, hpos, hs, hl, hj, hr, (loop_more (t := []) hpos hl _ _ _ _ (VOk.start hpos) (Nat.le_refl _) hr).1⟩, rfl⟩
/-- THE LAW: more slots, pools and a stop behind. -/
theorem code_more {b slots t : List Int} {ints texts ints' texts' : Int} (hb : ∀ x ∈ b, 0 ≤ x ∧ x ≤ 255) {l : List Ins} {v : VS} (h : CodeOk b slots ints texts l v)
    (hi : ints ≤ ints') (hi2 : ints' ≤ 4096) (ht : texts ≤ texts') (ht2 : texts' ≤ 4096) (hl : b.length + 1 ≤ 65535) (hs : (slots ++ t).length ≤ 32) (hk : ∀ k ∈ t, 1 ≤ k ∧ k ≤ 6) :
    codeV (b ++ [34]) (slots ++ t) ints' texts' = (shapesV b.length v.stacks, highV (shapesV b.length v.stacks), 0, 0) := by
  obtain ⟨p1, p2, p3, p4, p5, p6, p7, p8, p9, p10, p11⟩ := limits_pos h.lim
  have hlb : (b ++ [34]).length = b.length + 1 := by simp
  have hls : (slots ++ t).length = slots.length + t.length := by simp
  have hany : (slots ++ t).any (fun k => decide (k < 1) || decide (6 < k)) = false := by
    rw [List.any_append, p3, Bool.false_or, List.any_eq_false]
    intro k hm
    have := hk k hm
    simp
    omega
  have hlim : limitsV (b ++ [34]) (slots ++ t) ints' texts' = 0 := by
    unfold limitsV
    rw [hany, hlb, if_neg (by simp only [Bool.false_eq_true, false_or]; omega), getD_snoc (by omega), getD_snoc (by omega), if_neg (by omega), if_neg (by omega)]
  obtain ⟨m, hm⟩ := h.ok
  have hloop := (loop_more (t := t) h.pos h.ins _ _ _ _ (VOk.start h.pos) (Nat.le_refl _) h.loop).2 (b.length + 1) (by omega)
  unfold codeV
  rw [if_neg (by omega), hlb, scan_more t hi ht hb b.length 0 [] l (by omega) (by omega) h.scan (b.length + 1) (by omega)]
  simp only
  rw [jumps_more l b.length l h.jumps]
  simp only
  rw [hloop]
  simp only
  rw [shapes_more (hm.top _ (.inr (Int.le_refl _)))]
/-- The offsets rise. -/
theorem shapes_rise (len : Nat) (f : Int → Option (List Int)) : (shapesV len f).Pairwise (fun p q => p.1 < q.1) := by
  unfold shapesV
  refine List.Pairwise.filterMap _ ?_ List.pairwise_lt_range
  intro a a' ha p hp q hq
  simp only [Option.map_eq_some_iff] at hp hq
  obtain ⟨s, _, rfl⟩ := hp
  obtain ⟨s', _, rfl⟩ := hq
  show (a : Int) < (a' : Int)
  omega
theorem shapes_mem {len : Nat} {f : Int → Option (List Int)} {p : Int × List Int} : p ∈ shapesV len f ↔ 0 ≤ p.1 ∧ p.1 < len ∧ f p.1 = some p.2 := by
  unfold shapesV
  simp only [List.mem_filterMap, List.mem_range, Option.map_eq_some_iff]
  constructor
  · rintro ⟨o, ho, s, hs, rfl⟩
    exact ⟨by show (0 : Int) ≤ o; omega, by show (o : Int) < len; omega, hs⟩
  · rintro ⟨h0, h1, h2⟩
    refine ⟨p.1.toNat, by omega, p.2, ?_, ?_⟩
    · rw [Int.toNat_of_nonneg h0]; exact h2
    · rw [Int.toNat_of_nonneg h0]
theorem high_le (l : List (Int × List Int)) (n : Int) (h : ∀ p ∈ l, (p.2.length : Int) ≤ n) : ∀ m : Int, m ≤ n → l.foldl (fun m p => max m (p.2.length : Int)) m ≤ n := by
  induction l with
  | nil => exact fun m hm => hm
  | cons a r ih =>
    intro m hm
    rw [List.foldl_cons]
    have ha := h a (by simp)
    exact ih (fun p hp => h p (by simp [hp])) _ (by omega)
theorem code_high {b slots : List Int} {ints texts : Int} {l : List Ins} {v : VS} (h : CodeOk b slots ints texts l v) : highV (shapesV b.length v.stacks) ≤ 256 := by
  obtain ⟨m, hm⟩ := h.ok
  refine high_le _ _ (fun p hp => ?_) 0 (by omega)
  have := hm.high _ _ (shapes_mem.1 hp).2.2
  omega
/-- Whatever list of the shapes with its offsets rising is the answer's. -/
theorem rise_eq : ∀ {l m : List (Int × List Int)}, l.Pairwise (fun p q => p.1 < q.1) → m.Pairwise (fun p q => p.1 < q.1) → (∀ p, p ∈ l ↔ p ∈ m) → l = m
  | [], [], _, _, _ => rfl
  | [], b :: m, _, _, h => absurd ((h b).2 (by simp)) (by simp)
  | a :: l, [], _, _, h => absurd ((h a).1 (by simp)) (by simp)
  | a :: l, b :: m, hl, hm, h => by
    rw [List.pairwise_cons] at hl hm
    have e : a = b := by
      rcases List.mem_cons.1 ((h a).1 (by simp)) with q | q
      · exact q
      · rcases List.mem_cons.1 ((h b).2 (by simp)) with q2 | q2
        · exact q2.symm
        · have := hm.1 a q
          have := hl.1 b q2
          omega
    subst e
    rw [rise_eq hl.2 hm.2 fun p => ⟨fun hp => ?_, fun hp => ?_⟩]
    · rcases List.mem_cons.1 ((h p).1 (by simp [hp])) with q | q
      · have := hl.1 p hp; rw [q] at this; omega
      · exact q
    · rcases List.mem_cons.1 ((h p).2 (by simp [hp])) with q | q
      · have := hm.1 p hp; rw [q] at this; omega
      · exact q
end Go.Proofs.YtabpheanbomibaaGreatDoor
namespace Go.Proofs.YtabpheanbomibaaGreatDoor
open Go.RowKit
set_option linter.unusedVariables false

def fieldR (n : Int) : Int × Int :=
  if n ≤ 3 then (3, 1) else if n = 4 then (3, 4) else if n = 5 then (3, 5) else if n ≤ 7 then (4, 1) else if n = 8 then (4, 2) else if n = 9 then (5, 1) else if n = 10 then (5, 6) else if n = 11 then (5, 4) else (6, 1)
def effectR (n : Int) : List Int := if n = 0 ∨ n = 1 then [3, 5] else if n = 2 then [4] else if n = 4 ∨ n = 5 then [4, 1] else if n = 8 then [5] else [3, 1]
theorem field_ref : ∀ n : Nat, n < 13 → (fieldsM.getD n ⟨ByteArray.empty, [], 0, false⟩).args = [(fieldR n).1] ∧ (fieldsM.getD n ⟨ByteArray.empty, [], 0, false⟩).tell = (fieldR n).2 := by
  intro n hn
  match n, hn with
  | 0, _ | 1, _ | 2, _ | 3, _ | 4, _ | 5, _ | 6, _ | 7, _ | 8, _ | 9, _ | 10, _ | 11, _ | 12, _ => exact ⟨rfl, rfl⟩
theorem effect_ref : ∀ n : Nat, n < 9 → (effectsM.getD n ⟨ByteArray.empty, [], 0, false⟩).args = effectR n := by
  intro n hn
  match n, hn with
  | 0, _ | 1, _ | 2, _ | 3, _ | 4, _ | 5, _ | 6, _ | 7, _ | 8, _ => rfl
end Go.Proofs.YtabpheanbomibaaGreatDoor
