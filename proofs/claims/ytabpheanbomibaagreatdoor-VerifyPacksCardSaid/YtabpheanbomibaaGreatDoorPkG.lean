/- tableauref20.Pack. tableaulaw20.VerifyPacks: it answers true. -/
import Derived.Test.YtabpheanbomibaaGreatDoorPkB
import Derived.Test.YtabpheanbomibaaGreatDoorPkC
import Derived.Test.YtabpheanbomibaaGreatDoorPkF
import Derived.Test.YtabpheanbomibaaGreatDoorR20h
import Derived.Test.YtabpheanbomibaaGreatDoorVerX
namespace Go.Proofs.YtabpheanbomibaaGreatDoor
open Go.RowKit
set_option linter.unusedVariables false

set_option maxRecDepth 100000 in
set_option maxHeartbeats 4000000 in
theorem refPack_any (p : Pck) (IA TA KA : Option Addr) (ic tc kc : Nat) (w : World) (hp : PckAt w IA TA KA p) (hs : PckSm p) :
    Calls Tryz.prog 23 #[.agg (pckV p IA TA KA ic tc kc)] w fun e w' => e = .returned (fault4 (packV ltB p)) ∧ Below w.heap.size w w' := by
  obtain ⟨R, hR⟩ : ∃ R, R = packV ltB p := ⟨_, rfl⟩
  rw [← hR]
  obtain ⟨P, hP⟩ : ∃ P, P = p := ⟨_, rfl⟩
  obtain ⟨Q, hQ⟩ : ∃ Q, checkP ltB p = Q := ⟨_, rfl⟩
  have hq := fun (wx : World) (h : Below w.heap.size w wx) => check19_any p IA TA KA ic tc kc wx (hp.below h) hs
  have r1 : ∀ e, Q = some e → R = (e, 0, 0, 0) := fun e h => by rw [hR, packV_bad (by rw [hQ, h])]
  have r2 : Q = none → R = (firstS (kndF P) p.kinds.length).getD (0, 0, 0, 0) := fun h => by rw [hR, hP, packV_good (by rw [hQ, h])]
  have hz := checkP_nz ltB p
  rw [hQ] at hq hz
  have hk := hp.kinds
  clear hR hQ hp
  obtain ⟨cards, ints, texts, kinds⟩ := p
  obtain ⟨l1, l2, l3, l4, l5⟩ := hs
  simp only [pckV] at hk l1 l2 l3 l4 l5 r1 r2 hq ⊢
  obtain ⟨ni, hni⟩ : ∃ n, ints.length = n := ⟨_, rfl⟩
  obtain ⟨nt, hnt⟩ : ∃ n, texts.length = n := ⟨_, rfl⟩
  obtain ⟨nk, hnk⟩ : ∃ n, kinds.length = n := ⟨_, rfl⟩
  rw [hni] at l1 hq ⊢
  rw [hnt] at l2 hq ⊢
  rw [hnk] at l4 r2 hq ⊢
  have hPi : P.ints.length = ni := by rw [hP]; exact hni
  have hPt : P.texts.length = nt := by rw [hP]; exact hnt
  have hPk : P.kinds = kinds := by rw [hP]
  obtain ⟨W, hW⟩ : ∃ W, W = (w.alloc (.cells #[.int .i64 cards, .slice IA ni ic, .slice TA nt tc, .slice KA nk kc] 75)).alloc (.cells #[.int .i64 0, .int .i64 0, .int .i64 0, .int .i64 0] 32) := ⟨_, rfl⟩
  obtain ⟨B, hB⟩ : ∃ B, w.heap.size = B := ⟨_, rfl⟩
  rw [hB] at hq
  have HBW := Lib.hid (show Below B w W by rw [hW, ← hB]; exact ((Below.refl _ _).alloc (Nat.le_refl _) _).alloc (by simp) _)
  have HPB := Lib.hid (show Blk W B 75 #[.int .i64 cards, .slice IA ni ic, .slice TA nt tc, .slice KA nk kc] by rw [hW, ← hB]; exact (Blk.new _ _ _).alloc _)
  have HFB := Lib.hid (show Blk W (B + 1) 32 #[.int .i64 0, .int .i64 0, .int .i64 0, .int .i64 0] by rw [hW, ← hB]; have := Blk.new (w.alloc (.cells #[.int .i64 cards, .slice IA ni ic, .slice TA nt tc, .slice KA nk kc] 75)) 32 #[.int .i64 0, .int .i64 0, .int .i64 0, .int .i64 0]; simpa using this)
  have HW := Lib.hid hW
  have HCP := Lib.hid hq
  have R1 := Lib.hid r1
  have R2 := Lib.hid r2
  have HK := Lib.hid hk
  have HNK := Lib.hid hnk
  have L5 := Lib.hid l5
  have HZ := Lib.hid hz
  have HPI := Lib.hid hPi
  have HPT := Lib.hid hPt
  have HPK := Lib.hid hPk
  have hnq := neq_fault
  clear r1 r2 hk hni hnt hnk l3 l5 hq hz hPi hPt hPk hP hW
  go_enter Tryz.func23, Tryz.ntmps23
  go_wp2_with fail
  rw [← HW.out]
  refine (HCP.out _ HBW.out).mono ?_
  rintro e w1 ⟨rfl, hb1⟩
  have hpb := HPB.out.below hb1 HPB.out.lt
  have hfb := HFB.out.below hb1 HFB.out.lt
  obtain ⟨x0, x1, x2, x3, _, _, _, _⟩ := hpb.four
  obtain ⟨f0, f1, f2, f3, g0, g1, g2, g3⟩ := hfb.four
  have HB1 := Lib.hid (HBW.out.trans (hb1.mono (by have := HPB.out.lt; omega)))
  have HPB1 := Lib.hid hpb
  have HFB1 := Lib.hid hfb
  clear hb1 hpb hfb HBW HPB HFB
  cases Q with
  | some e0 =>
    obtain ⟨z1, z2, z3⟩ := HZ.out e0 rfl
    have HE := Lib.hid (R1.out e0 rfl)
    obtain ⟨p1, p2⟩ := fault_put (C := B) HFB1.out (by omega) (.int .i64 e0) (.int .i64 0) (.int .i64 0) (.int .i64 0)
    obtain ⟨e0', e1', e2', e3', _, _, _, _⟩ := p1.four
    have HBE := Lib.hid (HB1.out.trans p2.below)
    simp only [errO, Option.getD_some]
    clear p1 p2
    go_wp2_with fail
    exact bodyPost_ret (v := fault4 (e0, 0, 0, 0)) (by simp [results, Tryz.results23, go_sem, fault4, e0', e1', e2', e3']) rfl ⟨by rw [HE.out], by rw [hB]; exact HBE.out⟩
  | none =>
    simp only [errO, Option.getD_none]
    have RK := Lib.hid (R2.out rfl)
    clear R1 R2
    go_wp2_with fail
    go_loopw [4] (fun iv wr => ∃ i : Nat, i ≤ nk ∧ iv = .int .i64 i ∧ Hid (∀ j, j < i → kndF P j = none) ∧ Below B w wr ∧ Blk wr B 75 #[.int .i64 cards, .slice IA ni ic, .slice TA nt tc, .slice KA nk kc] ∧ Blk wr (B + 1) 32 #[.int .i64 0, .int .i64 0, .int .i64 0, .int .i64 0]) (fun iv _ => nk - (intOf iv).toNat)
    case atStart => exact ⟨0, by omega, rfl, Lib.hid (fun j hj => absurd hj (by omega)), HB1.out, HPB1.out, HFB1.out⟩
    case round =>
      clear x0 x1 x2 x3 f0 f1 f2 f3 g0 g1 g2 g3 HB1 HPB1 HFB1
      obtain ⟨i, hi, rfl, HG, hbel, hpb, hfb⟩ := hrel
      obtain ⟨x0, x1, x2, x3, _, _, _, _⟩ := hpb.four
      by_cases hin : i < nk
      · obtain ⟨x, hx⟩ : ∃ x, kinds[i]? = some x := ⟨_, List.getElem?_eq_getElem (by rw [HNK.out]; exact hin)⟩
        obtain ⟨b, off, rfl, hbl, hxa⟩ := HK.out i x hx
        rw [hB] at hbl
        obtain ⟨TA', tc', EA, ec, _, _, _, _, _, c5, _, hE⟩ := hxa
        obtain ⟨s1, s2, s3⟩ := L5.out x (List.mem_of_getElem? hx)
        have HX := Lib.hid (show P.kinds[i]? = some x by rw [HPK.out]; exact hx)
        have hkf := kndF_at HX.out
        obtain ⟨nm, co, po, he, tags, effs⟩ := x
        simp only at c5 s2 s3 hE hkf
        obtain ⟨ne, hne⟩ : ∃ n, effs.length = n := ⟨_, rfl⟩
        rw [hne] at c5 s2 hkf
        have hii : (i : Int) < nk := by omega
        have d5 := (hbel.cell (p := ⟨b, _, none⟩) hbl).trans c5
        have C5 := Lib.hid c5
        have HKF := Lib.hid hkf
        have HE := Lib.hid hE
        have HSM := Lib.hid s3
        have HNE := Lib.hid hne
        have HB := Lib.hid hbel
        have HPB := Lib.hid hpb
        have HFB := Lib.hid hfb
        clear hx hkf s3 hE hne hbel hpb hfb c5
        go_wp2_with fail
        go_loopw [5] (fun jv w3 => ∃ j : Nat, j ≤ ne ∧ jv = .int .i64 j ∧ Hid (∀ t, t < j → effF P i t = none) ∧ Below B w w3 ∧ Blk w3 B 75 #[.int .i64 cards, .slice IA ni ic, .slice TA nt tc, .slice (some ⟨b, off, none⟩) nk kc] ∧ Blk w3 (B + 1) 32 #[.int .i64 0, .int .i64 0, .int .i64 0, .int .i64 0]) (fun jv _ => ne - (intOf jv).toNat)
        case atStart => exact ⟨0, by omega, rfl, Lib.hid (fun j hj => absurd hj (by omega)), HB.out, HPB.out, HFB.out⟩
        case round =>
          clear HB HPB HFB x0 x1 x2 x3 d5
          obtain ⟨j, hj, rfl, HGE, hb4, hpb, hfb⟩ := hrel
          have d5 := (hb4.cell (p := ⟨b, _, none⟩) hbl).trans C5.out
          by_cases hjn : j < ne
          · obtain ⟨e, he2⟩ : ∃ e, effs[j]? = some e := ⟨_, List.getElem?_eq_getElem (by rw [HNE.out]; exact hjn)⟩
            obtain ⟨b2, off2, rfl, hbl2, hea⟩ := HE.out j e he2
            rw [hB] at hbl2
            obtain ⟨SA, sc, CA, cc, e0, e1, e2, e3, hS, hC⟩ := hea.below (by rw [hB]; exact hb4) (by rw [hB]; exact hbl2)
            obtain ⟨k4, k5⟩ := HSM.out e (List.mem_of_getElem? he2)
            have hea2 := (Below.refl wr.heap.size wr).alloc (Nat.le_refl _) (.cells (effV e SA CA sc cc) 125)
            have hcall := code20_any (wr.alloc (.cells (effV e SA CA sc cc) 125)) CA SA e.code e.slots cc sc ni nt (hC.below hea2) (by omega) (by omega) (hS.below hea2)
            have HE2 := Lib.hid he2
            obtain ⟨on, slots, code, bd⟩ := e
            obtain ⟨T, hT⟩ : ∃ T, codeV code slots ni nt = T := ⟨_, rfl⟩
            obtain ⟨a, hTa⟩ : ∃ a, T.2.2.1 = a := ⟨_, rfl⟩
            obtain ⟨bo, hTb⟩ : ∃ a, T.2.2.2 = a := ⟨_, rfl⟩
            have hfe : (codeV code slots P.ints.length P.texts.length).2.2 = (a, bo) := by rw [HPI.out, HPT.out, hT, ← hTa, ← hTb]
            unfold CodeEndR at hcall
            simp only [effV, hT, hTa, hTb] at hcall hea2 e0 e1 e2 e3
            obtain ⟨n1, hn1⟩ : ∃ n, slots.length = n := ⟨_, rfl⟩
            obtain ⟨n2, hn2⟩ : ∃ n, code.length = n := ⟨_, rfl⟩
            simp only [hn1, hn2] at hcall hea2 e1 e2
            obtain ⟨y0, y1, y2, y3, _, _, _, _⟩ := hpb.four
            have hpa := hpb.alloc (.cells #[.int .i64 on, .slice SA n1 sc, .slice CA n2 cc, .int .i64 bd] 125)
            obtain ⟨x0, x1, x2, x3, _, _, _, _⟩ := hpa.four
            have hB3 : B ≤ wr.heap.size := by have := hpb.lt; omega
            have HCA := Lib.hid hcall
            have HFE := Lib.hid hfe
            have HB4 := Lib.hid (hb4.trans (hea2.mono hB3))
            have HPB := Lib.hid hpa
            have HFB := Lib.hid (hfb.alloc (.cells #[.int .i64 on, .slice SA n1 sc, .slice CA n2 cc, .int .i64 bd] 125))
            have hjj : (j : Int) < ne := by omega
            clear he2 hea hS hC hcall hT hTa hTb hfe hn1 hn2 hpa hb4 hpb hfb hea2 k4 k5
            go_wp2_with fail
            refine HCA.out.mono ?_
            rintro e w4 ⟨v, rfl, _, hb5⟩
            have hbw : B ≤ w4.heap.size := by have h1 := HPB.out.lt; have h2 := hb5.size; omega
            have HR4 := Lib.hid (HFB.out.below hb5 HFB.out.lt)
            have HP4 := Lib.hid (HPB.out.below hb5 HPB.out.lt)
            have HBW4 := Lib.hid (HB4.out.trans (hb5.mono (by have := HPB.out.lt; omega)))
            have hB1 : B + 1 < w4.heap.size := HR4.out.lt
            clear hb5 x0 x1 x2 x3 y0 y1 y2 y3 d5 HPB HFB HB4 HCA
            by_cases hab : a = 0 ∧ bo = 0
            · obtain ⟨rfl, rfl⟩ := hab
              have HGE2 := Lib.hid (none_succ HGE.out (effF_none HX.out HE2.out HFE.out rfl rfl))
              have HP5 := Lib.hid (HP4.out.alloc (.cells #[.int .i64 0, .int .i64 0, .int .i64 0, .int .i64 0] 32))
              have HR5 := Lib.hid (HR4.out.alloc (.cells #[.int .i64 0, .int .i64 0, .int .i64 0, .int .i64 0] 32))
              have HB5 := Lib.hid (HBW4.out.alloc hbw (.cells #[.int .i64 0, .int .i64 0, .int .i64 0, .int .i64 0] 32))
              go_wp2_with fail
              go_roundw
              case rel => exact ⟨j + 1, by omega, by go_num, HGE2, HB5.out, HP5.out, HR5.out⟩
              case measure => (simp [intOf]; try omega)
            · have e : R = (a, bo, (i : Int), (j : Int)) := by
                rw [RK.out, firstS_some hin HG.out (by rw [HKF.out]; exact firstS_some hjn HGE.out (effF_some HX.out HE2.out HFE.out hab))]
                rfl
              have HRE := Lib.hid e
              have r7 := HR4.out.alloc (.cells #[.int .i64 a, .int .i64 bo, .int .i64 (i : Int), .int .i64 (j : Int)] 32)
              have hB7 := HBW4.out.alloc hbw (.cells #[.int .i64 a, .int .i64 bo, .int .i64 (i : Int), .int .i64 (j : Int)] 32)
              obtain ⟨rr0, rr1, rr2, rr3, rz0, rz1, rz2, rz3⟩ := r7.four
              obtain ⟨p1, p2⟩ := fault_put (C := B) r7 (by omega) (.int .i64 a) (.int .i64 bo) (.int .i64 (i : Int)) (.int .i64 (j : Int))
              obtain ⟨e0', e1', e2', e3', _, _, _, _⟩ := p1.four
              have HBE := Lib.hid (hB7.trans p2.below)
              have hz : (a == 0 && (bo == 0 && ((0 : Int) == 0 && (0 : Int) == 0))) = false := by
                by_cases ha : a = 0
                · have hb : bo ≠ 0 := fun h => hab ⟨ha, h⟩
                  rw [beq_eq_false_iff_ne.2 hb, Bool.false_and, Bool.and_false]
                · rw [beq_eq_false_iff_ne.2 ha, Bool.false_and]
              have hcmp : ∀ wx, (binOp .neq 32 (.agg #[.int .i64 a, .int .i64 bo, .int .i64 0, .int .i64 0]) (.agg #[.int .i64 0, .int .i64 0, .int .i64 0, .int .i64 0])).run Tryz.prog wx = .ok (.bool true) wx := fun wx => (neq_fault a bo 0 0 0 0 0 0 wx).trans (by rw [hz]; rfl)
              clear hnq hz e r7 hB7 p1 p2 hab HR4 HBW4 HP4 hB1
              go_wp2_with fail
              exact bodyPost_ret (v := fault4 (a, bo, (i : Int), (j : Int))) (by simp [results, Tryz.results23, go_sem, fault4, e0', e1', e2', e3']) rfl ⟨by rw [HRE.out], by rw [hB]; exact HBE.out⟩
          · have hge : (ne : Int) ≤ j := by omega
            have hg : kndF P i = none := by rw [HKF.out]; exact firstS_none fun t ht => HGE.out t (by omega)
            have HG2 := Lib.hid (none_succ HG.out hg)
            obtain ⟨x0, x1, x2, x3, _, _, _, _⟩ := hpb.four
            have HB4 := Lib.hid hb4
            have HPB := Lib.hid hpb
            have HFB := Lib.hid hfb
            clear hg hb4 hpb hfb
            go_wp2_with fail
            exact ⟨⟨i + 1, by omega, by go_num, HG2, HB4.out, HPB.out, HFB.out⟩, by simp [intOf]; omega⟩
      · have hge : (nk : Int) ≤ i := by omega
        have e : R = (0, 0, 0, 0) := by rw [RK.out, firstS_none fun j hj => HG.out j (by omega)]; rfl
        have HE := Lib.hid e
        obtain ⟨rr0, rr1, rr2, rr3, rz0, rz1, rz2, rz3⟩ := hfb.four
        obtain ⟨p1, p2⟩ := fault_put (C := B) hfb (by omega) (.int .i64 0) (.int .i64 0) (.int .i64 0) (.int .i64 0)
        obtain ⟨e0', e1', e2', e3', _, _, _, _⟩ := p1.four
        have HBE := Lib.hid (hbel.trans p2.below)
        clear e hbel hpb hfb p1 p2
        go_wp2_with fail
        exact bodyPost_ret (v := fault4 (0, 0, 0, 0)) (by simp [results, Tryz.results23, go_sem, fault4, e0', e1', e2', e3']) rfl ⟨by rw [HE.out], by rw [hB]; exact HBE.out⟩
end Go.Proofs.YtabpheanbomibaaGreatDoor
namespace Go.Proofs.YtabpheanbomibaaGreatDoor
open Go.RowKit
set_option linter.unusedVariables false

set_option maxRecDepth 100000 in
set_option maxHeartbeats 4000000 in
theorem packs20_any (p : Pck) (IA TA KA : Option Addr) (ic tc kc : Nat) (w : World) (hp : PckAt w IA TA KA p) (hr : PckRe p) (hty : PckTy p) (hby : PckBy p) (htb : Tab10 w w.heap.size) :
    Calls Tryz.prog 4 #[.agg (pckV p IA TA KA ic tc kc)] w fun e w' => e = .returned (.bool true) ∧ Below w.heap.size w w' := by
  obtain ⟨B, hB⟩ : ∃ B, w.heap.size = B := ⟨_, rfl⟩
  rw [hB] at htb
  have hsz := fun (wx : World) (h : Below B w wx) => sizePack_any p IA TA KA ic tc kc wx (hp.below (by rw [hB]; exact h)) hr
  have hwd := fun (wx : World) (h : Below B w wx) (hs : PckSm p) => widePack_any p IA TA KA ic tc kc wx (hp.below (by rw [hB]; exact h)) hs (by
    have h4 := htb.on h
    exact fun w' hb => h4 w' (hb.mono (by have := h.size; omega)))
  have hvp := fun (wx : World) (C b1 b2 b3 : Nat) (h : PckW wx C p b1 b2 b3) (hs : PckSm p) => verifyPack_any p (some ⟨b1, 0, none⟩) (some ⟨b2, 0, none⟩) (some ⟨b3, 0, none⟩) (p.ints.length + 64) (p.texts.length + 64) (p.kinds.length + 64) wx (pckAt_wide hby h) (by obtain ⟨_, _, cs, h3⟩ := h; exact kndsAtC_wide hby h3) hs hty
  have hrp := fun (wx : World) (h : Below B w wx) (hs : PckSm p) => refPack_any p IA TA KA ic tc kc wx (hp.below (by rw [hB]; exact h)) hs
  have heq := fun (wx : World) (h : Below B w wx) (C b1 b2 b3 : Nat) (hw : PckW wx C p b1 b2 b3) (hs : PckSm p) => eqPack_any p (some ⟨b1, 0, none⟩) (some ⟨b2, 0, none⟩) (some ⟨b3, 0, none⟩) IA TA KA (p.ints.length + 64) (p.texts.length + 64) (p.kinds.length + 64) ic tc kc wx (pckAt_wide hby hw) (hp.below (by rw [hB]; exact h)) hs
  have hsp := fun (wx : World) (h : Below B w wx) (C b1 b2 b3 : Nat) (hw : PckW wx C p b1 b2 b3) (hs : PckSm p) => sparePack_any p C b1 b2 b3 wx hw hs (by
    have h4 := htb.on h
    exact fun w' hb => h4 w' (hb.mono (by have := h.size; omega)))
  obtain ⟨R, hR⟩ : ∃ R, packV ltB p = R := ⟨_, rfl⟩
  rw [hR] at hvp hrp
  obtain ⟨cards, hcd⟩ : ∃ n, p.cards = n := ⟨_, rfl⟩
  obtain ⟨ni, hni⟩ : ∃ n, p.ints.length = n := ⟨_, rfl⟩
  obtain ⟨nt, hnt⟩ : ∃ n, p.texts.length = n := ⟨_, rfl⟩
  obtain ⟨nk, hnk⟩ : ∃ n, p.kinds.length = n := ⟨_, rfl⟩
  simp only [pckV, hcd, hni, hnt, hnk] at hsz hwd hvp hrp heq hsp ⊢
  obtain ⟨Ra, Rb, Rc, Rd⟩ := R
  simp only [fault4] at hvp hrp
  have HPB := Lib.hid (Blk.new w 75 #[.int .i64 cards, .slice IA ni ic, .slice TA nt tc, .slice KA nk kc])
  have hnq := neq_fault
  have HSZ := Lib.hid hsz
  have HWD := Lib.hid hwd
  have HVP := Lib.hid hvp
  have HRP := Lib.hid hrp
  have HEQ := Lib.hid heq
  have HSP := Lib.hid hsp
  have HB := Lib.hid hB
  have HB0 := Lib.hid (show Below B w (w.alloc (.cells #[.int .i64 cards, .slice IA ni ic, .slice TA nt tc, .slice KA nk kc] 75)) from (Below.refl _ _).alloc (by omega) _)
  clear hsz hwd hvp hrp heq hsp hB hp hr hty hby htb hR hcd hni hnt hnk
  go_enter Tryz.func4, Tryz.ntmps4
  go_wp2_with fail
  refine (HSZ.out _ HB0.out).mono ?_
  rintro e w1 ⟨S, rfl, hsm, hb1⟩
  have HSM := Lib.hid hsm
  have hpb := HPB.out.below hb1 HPB.out.lt
  obtain ⟨x0, x1, x2, x3, _, _, _, _⟩ := hpb.four
  have HPB1 := Lib.hid hpb
  have HB1 := Lib.hid (HB0.out.trans (hb1.mono (by simp; have := HB.out; omega)))
  clear hsm hb1 hpb HPB
  go_wp2_with fail
  refine (long_any S _).mono ?_
  rintro e w2 ⟨rfl, rfl⟩
  by_cases hl : 16777216 < S
  · have hq : decide (16777216 < S) = true := decide_eq_true hl
    rw [hq]
    clear hq
    go_wp2_with fail
    go_ret
    exact ⟨rfl, by rw [HB.out]; exact HB1.out⟩
  · have hq : decide (16777216 < S) = false := decide_eq_false hl
    have hs := HSM.out (by omega)
    have HS := Lib.hid hs
    rw [hq]
    clear hq hs
    go_wp2_with fail
    refine (HWD.out _ HB1.out HS.out).mono ?_
    rintro e w2 ⟨b1, b2, b3, rfl, hw2, hb2⟩
    have hBs : B ≤ w1.heap.size := by have h := HB1.out.size; have h2 := HB.out; omega
    have HB2 := Lib.hid (HB1.out.trans (hb2.mono hBs))
    have HW2 := Lib.hid hw2
    have hpb := HPB1.out.below hb2 HPB1.out.lt
    clear x0 x1 x2 x3
    obtain ⟨x0, x1, x2, x3, _, _, _, _⟩ := hpb.four
    have HPB2 := Lib.hid hpb
    clear hw2 hb2 hpb HPB1
    go_wp2_with fail
    have hp3 : Blk (w2.alloc (.cells #[.int .i64 cards, .slice (some ⟨b1, 0, none⟩) ni (ni + 64), .slice (some ⟨b2, 0, none⟩) nt (nt + 64), .slice (some ⟨b3, 0, none⟩) nk (nk + 64)] 75)).drew w.heap.size 75 #[.int .i64 cards, .slice IA ni ic, .slice TA nt tc, .slice KA nk kc] := (HPB2.out.alloc _).drew
    have hi3 : Blk (w2.alloc (.cells #[.int .i64 cards, .slice (some ⟨b1, 0, none⟩) ni (ni + 64), .slice (some ⟨b2, 0, none⟩) nt (nt + 64), .slice (some ⟨b3, 0, none⟩) nk (nk + 64)] 75)).drew w2.heap.size 75 #[.int .i64 cards, .slice (some ⟨b1, 0, none⟩) ni (ni + 64), .slice (some ⟨b2, 0, none⟩) nt (nt + 64), .slice (some ⟨b3, 0, none⟩) nk (nk + 64)] := (Blk.new _ _ _).drew
    have HW3 := Lib.hid (show PckW (w2.alloc (.cells #[.int .i64 cards, .slice (some ⟨b1, 0, none⟩) ni (ni + 64), .slice (some ⟨b2, 0, none⟩) nt (nt + 64), .slice (some ⟨b3, 0, none⟩) nk (nk + 64)] 75)).drew w1.heap.size p b1 b2 b3 from HW2.out.below ((Below.refl _ _).alloc (Nat.le_refl _) _).drew)
    have HB3 := Lib.hid (show Below B w (w2.alloc (.cells #[.int .i64 cards, .slice (some ⟨b1, 0, none⟩) ni (ni + 64), .slice (some ⟨b2, 0, none⟩) nt (nt + 64), .slice (some ⟨b3, 0, none⟩) nk (nk + 64)] 75)).drew from (HB2.out.alloc (by have h1 := HB2.out.size; have h2 := HB.out; omega) _).drew)
    obtain ⟨a3, c3, d3, f3, _, _, _, _⟩ := hp3.four
    obtain ⟨g3, h3, i3, j3, _, _, _, _⟩ := hi3.four
    have HP3 := Lib.hid hp3
    have HI3 := Lib.hid hi3
    have hself : (Ra == Ra && (Rb == Rb && (Rc == Rc && Rd == Rd))) = true := by simp
    have heqf : ∀ wx, (binOp .eql 32 (.agg #[.int .i64 Ra, .int .i64 Rb, .int .i64 Rc, .int .i64 Rd]) (.agg #[.int .i64 Ra, .int .i64 Rb, .int .i64 Rc, .int .i64 Rd])).run Tryz.prog wx = .ok (.bool true) wx := fun wx => by rw [run_eql_struct, eq_fault, hself]; rfl
    clear hp3 hi3 x0 x1 x2 x3 hnq hself
    go_region_held3 (fun w' => (w'.cell? ⟨w.heap.size, 0, none⟩ = some (.int .i64 cards) ∧ w'.cell? ⟨w.heap.size, 1, none⟩ = some (.slice IA ni ic) ∧ w'.cell? ⟨w.heap.size, 2, none⟩ = some (.slice TA nt tc) ∧ w'.cell? ⟨w.heap.size, 3, none⟩ = some (.slice KA nk kc)) ∧ w'.cell? ⟨w2.heap.size, 0, none⟩ = some (.int .i64 cards) ∧ w'.cell? ⟨w2.heap.size, 1, none⟩ = some (.slice (some ⟨b1, 0, none⟩) ni (ni + 64)) ∧ w'.cell? ⟨w2.heap.size, 2, none⟩ = some (.slice (some ⟨b2, 0, none⟩) nt (nt + 64)) ∧ w'.cell? ⟨w2.heap.size, 3, none⟩ = some (.slice (some ⟨b3, 0, none⟩) nk (nk + 64))) (first | with_reducible exact ⟨⟨a3, c3, d3, f3⟩, g3, h3, i3, j3⟩ | with_reducible exact ⟨⟨a4, c4, d4, f4⟩, g4, h4, i4, j4⟩ | with_reducible exact ⟨⟨a5, c5, d5, f5⟩, g5, h5, i5, j5⟩ | with_reducible exact ⟨⟨a6, c6, d6, f6⟩, g6, h6, i6, j6⟩ | with_reducible exact ⟨⟨a7, c7, d7, f7⟩, g7, h7, i7, j7⟩ | with_reducible exact ⟨⟨a8, c8, d8, f8⟩, g8, h8, i8, j8⟩) ((first | (go_at_call 22; go_loud (refine (HVP.out _ _ b1 b2 b3 HW3.out HS.out).mono ?_; rintro e w4 ⟨rfl, hb4⟩; have hp4 := HP3.out.below hb4 HP3.out.lt; have hi4 := HI3.out.below hb4 HI3.out.lt; obtain ⟨a4, c4, d4, f4, _, _, _, _⟩ := hp4.four; obtain ⟨g4, h4, i4, j4, _, _, _, _⟩ := hi4.four; have HP4 := Lib.hid hp4; have HI4 := Lib.hid hi4; have HW4 := Lib.hid (HW3.out.below hb4); have HB4 := Lib.hid (HB3.out.trans (hb4.mono (by have h1 := HB3.out.size; have h2 := HB.out; omega))); clear hp4 hi4 hb4)) | (go_at_call 23; go_loud (refine (HRP.out w4 HB4.out HS.out).mono ?_; rintro e w5 ⟨rfl, hb5⟩; have hp5 := HP4.out.below hb5 HP4.out.lt; have hi5 := HI4.out.below hb5 HI4.out.lt; obtain ⟨a5, c5, d5, f5, _, _, _, _⟩ := hp5.four; obtain ⟨g5, h5, i5, j5, _, _, _, _⟩ := hi5.four; have HP5 := Lib.hid hp5; have HI5 := Lib.hid hi5; have HW5 := Lib.hid (HW4.out.below hb5); have HB5 := Lib.hid (HB4.out.trans (hb5.mono (by have h1 := HB4.out.size; have h2 := HB.out; omega))); clear hp5 hi5 hb5)) | (go_at_call 24; go_loud (refine (HEQ.out w5 HB5.out _ b1 b2 b3 HW5.out HS.out).mono ?_; rintro e w6 ⟨rfl, hb6⟩; have hp6 := HP5.out.below hb6 HP5.out.lt; have hi6 := HI5.out.below hb6 HI5.out.lt; obtain ⟨a6, c6, d6, f6, _, _, _, _⟩ := hp6.four; obtain ⟨g6, h6, i6, j6, _, _, _, _⟩ := hi6.four; have HP6 := Lib.hid hp6; have HI6 := Lib.hid hi6; have HW6 := Lib.hid (HW5.out.below hb6); have HB6 := Lib.hid (HB5.out.trans (hb6.mono (by have h1 := HB5.out.size; have h2 := HB.out; omega))); clear hp6 hi6 hb6)) | (go_at_call 25; go_loud (refine (HSP.out w6 HB6.out _ b1 b2 b3 HW6.out HS.out).mono ?_; rintro e w7 ⟨rfl, hb7⟩; have hp7 := HP6.out.below hb7 HP6.out.lt; have hi7 := HI6.out.below hb7 HI6.out.lt; obtain ⟨a7, c7, d7, f7, _, _, _, _⟩ := hp7.four; obtain ⟨g7, h7, i7, j7, _, _, _, _⟩ := hi7.four; have HP7 := Lib.hid hp7; have HI7 := Lib.hid hi7; have HW7 := Lib.hid (HW6.out.below hb7); have HB7 := Lib.hid (HB6.out.trans (hb7.mono (by have h1 := HB6.out.size; have h2 := HB.out; omega))); clear hp7 hi7 hb7)) | (go_at_call 18; go_loud (refine (works20_any w7).mono ?_; rintro e w8 ⟨rfl, hb8⟩; have hp8 := HP7.out.below hb8 HP7.out.lt; have hi8 := HI7.out.below hb8 HI7.out.lt; obtain ⟨a8, c8, d8, f8, _, _, _, _⟩ := hp8.four; obtain ⟨g8, h8, i8, j8, _, _, _, _⟩ := hi8.four; have HB8 := Lib.hid (HB7.out.trans (hb8.mono (by have h1 := HB7.out.size; have h2 := HB.out; omega))); clear hp8 hi8 hb8))))
    go_wp2_with fail
    go_ret
    exact ⟨rfl, by rw [HB.out]; exact HB8.out⟩
end Go.Proofs.YtabpheanbomibaaGreatDoor
