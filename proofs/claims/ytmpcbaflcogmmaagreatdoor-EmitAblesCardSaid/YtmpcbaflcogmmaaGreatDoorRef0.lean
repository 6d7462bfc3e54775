/- Emit6g EmitN1 Ref0 -/
import Derived.Deep.RegionHeld3
import Derived.Deep.AppendLies
import Derived.Deep.RegionLaw
import Derived.Test.YtmpcbaflcogmmaaGreatDoorEmit9
import Derived.Test.YtmpcbaflcogmmaaGreatDoorSizesT
namespace Go.Proofs.YtmpcbaflcogmmaaGreatDoor
open Go.RowKit
set_option linter.all false
set_option maxHeartbeats 3200000
set_option maxRecDepth 100000
section
variable (w0:World) (B kb:Nat) (tv im tm mb:Value) (ts:List Au) (rec:Nat→MS→MS) (hgr:Do rec) (i:Nat) (x:Au) (hr:∀ j∈Am ts i,E6 w0 B kb tv im tm mb rec j) (hkl:(Am ts i).length≤100000)
include hgr hr hkl
omit hr in
theorem Uw (j0 j1:Nat) (hkk:Am ts i=[j0,j1]) (hr0:E6 w0 B kb tv im tm mb rec j0) (pt:ByteArray→Option Int) (hpt:FF w0 B tm pt) (hptb:∀ n v,pt n=some v→0≤v∧v≤10000000) (hxn:x.n=5) (tb toff cap:Nat) (htv:tv=.slice (some ⟨tb,toff,none⟩) ts.length cap) (htb:tb < B) (hn0:As w0 tb toff ts) (y:Au) (hy:ts[j1]? = some y):BH w0 B kb tv im tm mb ts (fun s=>Bi pt ts rec x (Am ts i) s) i x 152 #[]:=by
 intro s w A n c base hb0 h0 ho0 hm
 obtain⟨wl0,hw1,hb,h,ho,f0,kn⟩:=KY x hb0 h0 ho0
 rw [hxn] at hw1 kn
 obtain⟨s1,hs1⟩:=Ex0 (rec j0 s)
 have m1:s.ms≤s1.ms:=by rw [hs1];exact hgr _ _
 obtain⟨s2,hs2⟩:=Ex0 (C9 (pt y.text) s1)
 have m2:s2.ms=s1.ms:=by rw [hs2];rfl
 obtain⟨ov,hov⟩:=Ex0 ((pt y.text).getD 0)
 obtain⟨s3,hs3⟩:=Ex0 (Ec 45 ov s2)
 have m3:s3.ms=s2.ms + 3:=by rw [hs3,DE]
 obtain⟨okb,hokb⟩:=Ex0 ((pt y.text).isSome)
 obtain⟨sb,hsb⟩:∃ sb,s1.bad=sb:=⟨_,rfl⟩
 have hq2:s2={ s1 with bad:=sb || !okb }:=by rw [hs2,hokb,← hsb];unfold C9;cases pt y.text <;> rfl
 have hov2:0≤ov∧ov≤10000000:=by
  rw [hov]
  cases hpn:pt y.text with
  | none=>simp
  | some v=>exact hptb _ v hpn
 obtain⟨mt,rfl,hmt,hmk⟩:=hpt
 have hlk:∀ wx,Below B w0 wx→(Instr.lookup 100 (.map (some mt)) (.string y.text) true).run Tryz.prog wx=.ok (.tuple #[.int .i64 ov,.bool okb]) wx:=by
  intro wx hwx
  have h1:=(hmk.of_block Fb (hwx.block mt hmt)).lookup Fb Tryz.underlying100 GP y.text true
  rw [hov,hokb]
  cases hpn:pt y.text with
  | none=>simp only [hpn,LY] at h1;exact h1
  | some v=>simp only [hpn,LY] at h1;exact h1
 have HLK:=Lh hlk
 have hF:(fun s=>Bi pt ts rec x (Am ts i) s) s=s3:=by
  show Bi pt ts rec x (Am ts i) s=s3
  rw [hs3,hs2,hov,hs1]
  simp [Bi,MR,hxn,hkk,hy]
 have hmN:s3.ms≤1000000:=by rw [hF] at hm;exact hm
 rw [hF]
 have hn:n=2:=by have:=ho.1;rw [hkk] at this;simpa [AQ] using this.symm
 subst hn
 obtain⟨g,rfl⟩:∃ g,A=some ⟨g,0,none⟩:=by obtain⟨_,_,g,e,_⟩:=By (k:=0) (j:=j0) ho (by rw [hkk];rfl);exact ⟨g,e⟩
 have hq0:(Am ts i)[0]? = some j0:=by rw [hkk];rfl
 have hmem0:=CT hq0
 have hq1:(Am ts i)[1]? = some j1:=by rw [hkk];rfl
 have hmem1:=CT hq1
 have hjl:j1 < ts.length:=(List.getElem?_eq_some_iff.1 hy).1
 obtain⟨HY,HN0⟩:=Hd2 hy hn0
 have hji:(j1:Int) < ts.length:=by omega
 obtain⟨HTV,HSB,HQ2⟩:=Hd3 htv hsb hq2
 clear hy hn0 htv hlk hmk hptb hov hokb hsb hq2
 obtain⟨HS1,HS2,HS3,HW,F0,KN,HB,K0,HO,HR,FR0,HO0,HKL,HGR,HF,HKK⟩:=Hd16 hs1 hs2 hs3 hw1 f0 kn hb h ho hr0 (Frm.refl B TE wl0) ho0 hkl hgr hF hkk
 have bs:s.ms≤1000000:=by omega
 have b1:s1.ms≤1000000:=by omega
 have c3:s2.ms + 2≤1000000:=by omega
 have e1:IntKind.u8.wrap x.n=u8 x.n:=rfl
 have e2:IntKind.u8.wrap x.m=u8 x.m:=rfl
 have e3:IntKind.u8.wrap (u8 x.m + 1)=u8 (u8 x.m + 1):=rfl
 clear hw1 f0 kn hb h ho hr0 hkl hgr hF hb0 h0 ho0 hm hs1 m1 hs2 m2 hs3 m3 hkk
 have hgw:g < w.heap.size:=(HO0.out.lt g rfl).2
 have hz0:wl0.heap.size=w.heap.size + 1:=by rw [HW.out];simp
 cases okb with
 | false =>
  cases sb with
  | false =>
   go_in
   have nc1_2:wl0.cell? ⟨w.heap.size,2,none⟩=some (.int .i64 5):=by have:=(FR0.out.blk KN.out (by decide)).cell 2;exact this
   have kc1:wl0.cell? ⟨g,0,none⟩=some (.int .i64 j0):=Bo (FR0.out.own HO.out (by decide)) hq0
   have kw1:w.cell? ⟨g,0,none⟩=some (.int .i64 j0):=Bo HO0.out hq0
   rw [HW.out] at kc1
   go_wp2_with fail
   rw [← HW.out]
   refine (HR.out s wl0 (HB.out.trans FR0.out.below) K0.out (HS1.out▸b1)).mono ?_
   rintro e wl1 ⟨rfl,h,f⟩
   rw [← HS1.out] at h
   obtain⟨K1,FR1⟩:=Hd2 h (FR0.out.trans f)
   clear h f
   have nc2_2:wl1.cell? ⟨w.heap.size,2,none⟩=some (.int .i64 5):=by have:=(FR1.out.blk KN.out (by decide)).cell 2;exact this
   go_wp2_with fail
   have hS:∀ (wx:World) (sx:MS),EK wx B kb tv im (.map (some mt)) mb sx→Frm B TE wl0 wx→(wx.cell? ⟨kb,0,none⟩=some (.slice (some ⟨tb,toff,none⟩) ts.length cap)∧wx.cell? ⟨kb,2,none⟩=some (.map (some mt))∧wx.cell? ⟨g,1,none⟩=some (.int .i64 j1)∧wx.cell? ⟨tb,toff + j1 * 7 + 4,none⟩=some (.string y.text)∧(Instr.lookup 100 (.map (some mt)) (.string y.text) true).run Tryz.prog wx=.ok (.tuple #[.int .i64 ov,.bool false]) wx):=by
    intro wx sx hk hf
    have ec:=hk.cells
    refine ⟨by have:=ec.1;rw [HTV.out] at this;exact this,ec.2.2.1,Bo (hf.own HO.out (by decide)) hq1,?_,HLK.out wx (HB.out.trans hf.below)⟩
    exact ((HN0.out.below (HB.out.trans hf.below) htb).all HY.out).2.2.2.2.1
   have hsA:=hS wl1.drew s1 K1.out.drew FR1.out.drew
   go_region_held3 (fun wx=>wx.cell? ⟨kb,0,none⟩=some (.slice (some ⟨tb,toff,none⟩) ts.length cap)∧wx.cell? ⟨kb,2,none⟩=some (.map (some mt))∧wx.cell? ⟨g,1,none⟩=some (.int .i64 j1)∧wx.cell? ⟨tb,toff + j1 * 7 + 4,none⟩=some (.string y.text)∧(Instr.lookup 100 (.map (some mt)) (.string y.text) true).run Tryz.prog wx=.ok (.tuple #[.int .i64 ov,.bool false]) wx) (first | exact hsA) ((first | fail))
   have ec1:wl1.drew.cell? ⟨kb,4,none⟩=some (.bool false):=by have:=K1.out.drew.cells.2.2.2.1;rw [HSB.out] at this;exact this
   have ef1:wl1.drew.frozen? ⟨kb,4,none⟩=false:=K1.out.drew.cells.2.2.2.2.2
   have K2:Hid (EK (wl1.drew.setCell ⟨kb,4,none⟩ (.bool (false || !false))) B kb tv im (.map (some mt)) mb s2):=by rw [HQ2.out];exact (K1.out.drew.setBad _).1
   have FR2:Hid (Frm B TE wl0 (wl1.drew.setCell ⟨kb,4,none⟩ (.bool (false || !false)))):=FR1.out.drew.trans (K1.out.drew.setBad _).2
   simp only [Bool.not_true,Bool.not_false,Bool.or_true,Bool.true_or,Bool.or_false,Bool.false_or] at K2 FR2
   go_wp2_with fail
   refine (DG B kb tv im (.map (some mt)) mb s2 _ K2.out 45 ov hov2.1 hov2.2 c3).mono ?_
   rintro e wl3 ⟨rfl,h,f⟩
   rw [← HS3.out] at h
   obtain⟨K3,FR3⟩:=Hd2 h (FR2.out.trans f)
   clear h f
   go_wp2_with fail
   go_end0
   exact ⟨rfl,K3.out,F0.out.trans FR3.out⟩
  | true =>
   go_in
   have nc1_2:wl0.cell? ⟨w.heap.size,2,none⟩=some (.int .i64 5):=by have:=(FR0.out.blk KN.out (by decide)).cell 2;exact this
   have kc1:wl0.cell? ⟨g,0,none⟩=some (.int .i64 j0):=Bo (FR0.out.own HO.out (by decide)) hq0
   have kw1:w.cell? ⟨g,0,none⟩=some (.int .i64 j0):=Bo HO0.out hq0
   rw [HW.out] at kc1
   go_wp2_with fail
   rw [← HW.out]
   refine (HR.out s wl0 (HB.out.trans FR0.out.below) K0.out (HS1.out▸b1)).mono ?_
   rintro e wl1 ⟨rfl,h,f⟩
   rw [← HS1.out] at h
   obtain⟨K1,FR1⟩:=Hd2 h (FR0.out.trans f)
   clear h f
   have nc2_2:wl1.cell? ⟨w.heap.size,2,none⟩=some (.int .i64 5):=by have:=(FR1.out.blk KN.out (by decide)).cell 2;exact this
   go_wp2_with fail
   have hS:∀ (wx:World) (sx:MS),EK wx B kb tv im (.map (some mt)) mb sx→Frm B TE wl0 wx→(wx.cell? ⟨kb,0,none⟩=some (.slice (some ⟨tb,toff,none⟩) ts.length cap)∧wx.cell? ⟨kb,2,none⟩=some (.map (some mt))∧wx.cell? ⟨g,1,none⟩=some (.int .i64 j1)∧wx.cell? ⟨tb,toff + j1 * 7 + 4,none⟩=some (.string y.text)∧(Instr.lookup 100 (.map (some mt)) (.string y.text) true).run Tryz.prog wx=.ok (.tuple #[.int .i64 ov,.bool false]) wx):=by
    intro wx sx hk hf
    have ec:=hk.cells
    refine ⟨by have:=ec.1;rw [HTV.out] at this;exact this,ec.2.2.1,Bo (hf.own HO.out (by decide)) hq1,?_,HLK.out wx (HB.out.trans hf.below)⟩
    exact ((HN0.out.below (HB.out.trans hf.below) htb).all HY.out).2.2.2.2.1
   have hsA:=hS wl1.drew s1 K1.out.drew FR1.out.drew
   go_region_held3 (fun wx=>wx.cell? ⟨kb,0,none⟩=some (.slice (some ⟨tb,toff,none⟩) ts.length cap)∧wx.cell? ⟨kb,2,none⟩=some (.map (some mt))∧wx.cell? ⟨g,1,none⟩=some (.int .i64 j1)∧wx.cell? ⟨tb,toff + j1 * 7 + 4,none⟩=some (.string y.text)∧(Instr.lookup 100 (.map (some mt)) (.string y.text) true).run Tryz.prog wx=.ok (.tuple #[.int .i64 ov,.bool false]) wx) (first | exact hsA) ((first | fail))
   have ec1:wl1.drew.cell? ⟨kb,4,none⟩=some (.bool true):=by have:=K1.out.drew.cells.2.2.2.1;rw [HSB.out] at this;exact this
   have ef1:wl1.drew.frozen? ⟨kb,4,none⟩=false:=K1.out.drew.cells.2.2.2.2.2
   have K2:Hid (EK (wl1.drew.setCell ⟨kb,4,none⟩ (.bool (true || !false))) B kb tv im (.map (some mt)) mb s2):=by rw [HQ2.out];exact (K1.out.drew.setBad _).1
   have FR2:Hid (Frm B TE wl0 (wl1.drew.setCell ⟨kb,4,none⟩ (.bool (true || !false)))):=FR1.out.drew.trans (K1.out.drew.setBad _).2
   simp only [Bool.not_true,Bool.not_false,Bool.or_true,Bool.true_or,Bool.or_false,Bool.false_or] at K2 FR2
   go_wp2_with fail
   refine (DG B kb tv im (.map (some mt)) mb s2 _ K2.out 45 ov hov2.1 hov2.2 c3).mono ?_
   rintro e wl3 ⟨rfl,h,f⟩
   rw [← HS3.out] at h
   obtain⟨K3,FR3⟩:=Hd2 h (FR2.out.trans f)
   clear h f
   go_wp2_with fail
   go_end0
   exact ⟨rfl,K3.out,F0.out.trans FR3.out⟩
 | true =>
  cases sb with
  | false =>
   go_in
   have nc1_2:wl0.cell? ⟨w.heap.size,2,none⟩=some (.int .i64 5):=by have:=(FR0.out.blk KN.out (by decide)).cell 2;exact this
   have kc1:wl0.cell? ⟨g,0,none⟩=some (.int .i64 j0):=Bo (FR0.out.own HO.out (by decide)) hq0
   have kw1:w.cell? ⟨g,0,none⟩=some (.int .i64 j0):=Bo HO0.out hq0
   rw [HW.out] at kc1
   go_wp2_with fail
   rw [← HW.out]
   refine (HR.out s wl0 (HB.out.trans FR0.out.below) K0.out (HS1.out▸b1)).mono ?_
   rintro e wl1 ⟨rfl,h,f⟩
   rw [← HS1.out] at h
   obtain⟨K1,FR1⟩:=Hd2 h (FR0.out.trans f)
   clear h f
   have nc2_2:wl1.cell? ⟨w.heap.size,2,none⟩=some (.int .i64 5):=by have:=(FR1.out.blk KN.out (by decide)).cell 2;exact this
   go_wp2_with fail
   have hS:∀ (wx:World) (sx:MS),EK wx B kb tv im (.map (some mt)) mb sx→Frm B TE wl0 wx→(wx.cell? ⟨kb,0,none⟩=some (.slice (some ⟨tb,toff,none⟩) ts.length cap)∧wx.cell? ⟨kb,2,none⟩=some (.map (some mt))∧wx.cell? ⟨g,1,none⟩=some (.int .i64 j1)∧wx.cell? ⟨tb,toff + j1 * 7 + 4,none⟩=some (.string y.text)∧(Instr.lookup 100 (.map (some mt)) (.string y.text) true).run Tryz.prog wx=.ok (.tuple #[.int .i64 ov,.bool true]) wx):=by
    intro wx sx hk hf
    have ec:=hk.cells
    refine ⟨by have:=ec.1;rw [HTV.out] at this;exact this,ec.2.2.1,Bo (hf.own HO.out (by decide)) hq1,?_,HLK.out wx (HB.out.trans hf.below)⟩
    exact ((HN0.out.below (HB.out.trans hf.below) htb).all HY.out).2.2.2.2.1
   have hsA:=hS wl1.drew s1 K1.out.drew FR1.out.drew
   go_region_held3 (fun wx=>wx.cell? ⟨kb,0,none⟩=some (.slice (some ⟨tb,toff,none⟩) ts.length cap)∧wx.cell? ⟨kb,2,none⟩=some (.map (some mt))∧wx.cell? ⟨g,1,none⟩=some (.int .i64 j1)∧wx.cell? ⟨tb,toff + j1 * 7 + 4,none⟩=some (.string y.text)∧(Instr.lookup 100 (.map (some mt)) (.string y.text) true).run Tryz.prog wx=.ok (.tuple #[.int .i64 ov,.bool true]) wx) (first | exact hsA) ((first | fail))
   have ec1:wl1.drew.cell? ⟨kb,4,none⟩=some (.bool false):=by have:=K1.out.drew.cells.2.2.2.1;rw [HSB.out] at this;exact this
   have ef1:wl1.drew.frozen? ⟨kb,4,none⟩=false:=K1.out.drew.cells.2.2.2.2.2
   have K2:Hid (EK (wl1.drew.setCell ⟨kb,4,none⟩ (.bool (false || !true))) B kb tv im (.map (some mt)) mb s2):=by rw [HQ2.out];exact (K1.out.drew.setBad _).1
   have FR2:Hid (Frm B TE wl0 (wl1.drew.setCell ⟨kb,4,none⟩ (.bool (false || !true)))):=FR1.out.drew.trans (K1.out.drew.setBad _).2
   simp only [Bool.not_true,Bool.not_false,Bool.or_true,Bool.true_or,Bool.or_false,Bool.false_or] at K2 FR2
   go_wp2_with fail
   refine (DG B kb tv im (.map (some mt)) mb s2 _ K2.out 45 ov hov2.1 hov2.2 c3).mono ?_
   rintro e wl3 ⟨rfl,h,f⟩
   rw [← HS3.out] at h
   obtain⟨K3,FR3⟩:=Hd2 h (FR2.out.trans f)
   clear h f
   go_wp2_with fail
   go_end0
   exact ⟨rfl,K3.out,F0.out.trans FR3.out⟩
  | true =>
   go_in
   have nc1_2:wl0.cell? ⟨w.heap.size,2,none⟩=some (.int .i64 5):=by have:=(FR0.out.blk KN.out (by decide)).cell 2;exact this
   have kc1:wl0.cell? ⟨g,0,none⟩=some (.int .i64 j0):=Bo (FR0.out.own HO.out (by decide)) hq0
   have kw1:w.cell? ⟨g,0,none⟩=some (.int .i64 j0):=Bo HO0.out hq0
   rw [HW.out] at kc1
   go_wp2_with fail
   rw [← HW.out]
   refine (HR.out s wl0 (HB.out.trans FR0.out.below) K0.out (HS1.out▸b1)).mono ?_
   rintro e wl1 ⟨rfl,h,f⟩
   rw [← HS1.out] at h
   obtain⟨K1,FR1⟩:=Hd2 h (FR0.out.trans f)
   clear h f
   have nc2_2:wl1.cell? ⟨w.heap.size,2,none⟩=some (.int .i64 5):=by have:=(FR1.out.blk KN.out (by decide)).cell 2;exact this
   go_wp2_with fail
   have hS:∀ (wx:World) (sx:MS),EK wx B kb tv im (.map (some mt)) mb sx→Frm B TE wl0 wx→(wx.cell? ⟨kb,0,none⟩=some (.slice (some ⟨tb,toff,none⟩) ts.length cap)∧wx.cell? ⟨kb,2,none⟩=some (.map (some mt))∧wx.cell? ⟨g,1,none⟩=some (.int .i64 j1)∧wx.cell? ⟨tb,toff + j1 * 7 + 4,none⟩=some (.string y.text)∧(Instr.lookup 100 (.map (some mt)) (.string y.text) true).run Tryz.prog wx=.ok (.tuple #[.int .i64 ov,.bool true]) wx):=by
    intro wx sx hk hf
    have ec:=hk.cells
    refine ⟨by have:=ec.1;rw [HTV.out] at this;exact this,ec.2.2.1,Bo (hf.own HO.out (by decide)) hq1,?_,HLK.out wx (HB.out.trans hf.below)⟩
    exact ((HN0.out.below (HB.out.trans hf.below) htb).all HY.out).2.2.2.2.1
   have hsA:=hS wl1.drew s1 K1.out.drew FR1.out.drew
   go_region_held3 (fun wx=>wx.cell? ⟨kb,0,none⟩=some (.slice (some ⟨tb,toff,none⟩) ts.length cap)∧wx.cell? ⟨kb,2,none⟩=some (.map (some mt))∧wx.cell? ⟨g,1,none⟩=some (.int .i64 j1)∧wx.cell? ⟨tb,toff + j1 * 7 + 4,none⟩=some (.string y.text)∧(Instr.lookup 100 (.map (some mt)) (.string y.text) true).run Tryz.prog wx=.ok (.tuple #[.int .i64 ov,.bool true]) wx) (first | exact hsA) ((first | fail))
   have ec1:wl1.drew.cell? ⟨kb,4,none⟩=some (.bool true):=by have:=K1.out.drew.cells.2.2.2.1;rw [HSB.out] at this;exact this
   have ef1:wl1.drew.frozen? ⟨kb,4,none⟩=false:=K1.out.drew.cells.2.2.2.2.2
   have K2:Hid (EK (wl1.drew.setCell ⟨kb,4,none⟩ (.bool (true || !true))) B kb tv im (.map (some mt)) mb s2):=by rw [HQ2.out];exact (K1.out.drew.setBad _).1
   have FR2:Hid (Frm B TE wl0 (wl1.drew.setCell ⟨kb,4,none⟩ (.bool (true || !true)))):=FR1.out.drew.trans (K1.out.drew.setBad _).2
   simp only [Bool.not_true,Bool.not_false,Bool.or_true,Bool.true_or,Bool.or_false,Bool.false_or] at K2 FR2
   go_wp2_with fail
   refine (DG B kb tv im (.map (some mt)) mb s2 _ K2.out 45 ov hov2.1 hov2.2 c3).mono ?_
   rintro e wl3 ⟨rfl,h,f⟩
   rw [← HS3.out] at h
   obtain⟨K3,FR3⟩:=Hd2 h (FR2.out.trans f)
   clear h f
   go_wp2_with fail
   go_end0
   exact ⟨rfl,K3.out,F0.out.trans FR3.out⟩
end
theorem AT (K:FuncId) (hcf:∀ (args:Array Value) (wx:World),(callFunc K args).run Tryz.prog wx=.ok (.enter K args) wx) (w0:World) (B kb tb toff cap:Nat) (im tm mb:Value) (ts:List Au) (F:MS→MS) (i:Nat) (x:Au) (s:MS) (w:World) (hl:ts.length≤2000) (htb:tb < B) (hn0:As w0 tb toff ts) (ht0:Gq w0 B mb) (hi:i < ts.length) (hbe:0≤Ap ts i) (hx:ts[i]? = some x)
  (hK:EE x.op=some K) (hW:BH w0 B kb (.slice (some ⟨tb,toff,none⟩) ts.length cap) im tm mb ts F i x K #[]) (hb:Below B w0 w) (h:EK w B kb (.slice (some ⟨tb,toff,none⟩) ts.length cap) im tm mb s) (hm:(F s).ms≤1000000) :
  Calls Tryz.prog 106 #[.pointer (some ⟨kb,0,none⟩),.int .i64 i] w fun e w'=>e=.returned (.tuple #[])∧EK w' B kb (.slice (some ⟨tb,toff,none⟩) ts.length cap) im tm mb (F s)∧Frm B TE w w':=by
 obtain⟨hB,hks⟩:=h.size
 have hlk:=fun (wx:World) (hx:Below B w0 wx)=>(ht0.below hx).lookS hK
 have hnx:=fun (wx:World) (hx:Below B w0 wx)=>hn0.below hx htb
 obtain⟨d0,d1,d2,d4,d5,z4⟩:=h.cells
 obtain⟨c0,c1,c2,c3,c4,c5,c6⟩:=(hnx w hb).all hx
 have hba:Below w.heap.size w (w.alloc (.cells #[.int .i8 x.op,.int .i8 x.kind,.int .i64 x.n,.int .i64 x.m,.string x.text,.int .i64 x.pos,.int .i64 x.kids] 120)):=(Below.refl _ _).alloc (Nat.le_refl _) _
 have kn:=Blk.new w 120 #[.int .i8 x.op,.int .i8 x.kind,.int .i64 x.n,.int .i64 x.m,.string x.text,.int .i64 x.pos,.int .i64 x.kids]
 have h1:=h.below hba
 have hb1:Below B w0 (w.alloc (.cells #[.int .i8 x.op,.int .i8 x.kind,.int .i64 x.n,.int .i64 x.m,.string x.text,.int .i64 x.pos,.int .i64 x.kids] 120)):=hb.trans (hba.mono (by omega))
 obtain⟨w1,hw1⟩:=Ex0 (w.alloc (.cells #[.int .i8 x.op,.int .i8 x.kind,.int .i64 x.n,.int .i64 x.m,.string x.text,.int .i64 x.pos,.int .i64 x.kids] 120))
 have HW1:=Lh hw1
 rw [← hw1] at hba kn h1 hb1
 have hiI:(i:Int) < ts.length:=by omega
 have hkw:=kn.lt
 obtain⟨e0,e1,e2,e4,e5,y4⟩:=h1.cells
 have f0:=kn.cell 0
 have f1:=kn.cell 1
 have f2:=kn.cell 2
 have f3:=kn.cell 3
 have f4:=kn.cell 4
 have f5:=kn.cell 5
 have f6:=kn.cell 6
 have hki:=Iz tb toff cap ts i w1.drew (by omega) (hnx w1 hb1) (by show tb < w1.heap.size;omega) hi
 have hl1:=hlk w1 hb1
 obtain⟨HKI,HWC,H1,HB1,HBA,KN,HLK⟩:=Hd7 hki hW h1 hb1 hba kn hlk
 clear hw1 h1 hb1 hba kn hki hW hlk hnx h hb hn0 ht0 hx hK hbe
 go_in
 go_wp2_with fail
 rw [← HW1.out]
 have hfl:=Ir (.func (.func K) #[] #[])
 have hs1:=Ej (w':=w1.drew) H1.out.drew KN.out.drew (HLK.out w1.drew HB1.out.drew)
 go_region_held3 (fun w'=>w'.cell? ⟨kb,0,none⟩=some (.slice (some ⟨tb,toff,none⟩) ts.length cap)∧w'.cell? ⟨kb,5,none⟩=some mb∧w'.cell? ⟨w.heap.size,0,none⟩=some (.int .i8 x.op)∧w'.cell? ⟨w.heap.size,1,none⟩=some (.int .i8 x.kind)∧w'.cell? ⟨w.heap.size,2,none⟩=some (.int .i64 x.n)∧w'.cell? ⟨w.heap.size,3,none⟩=some (.int .i64 x.m)∧w'.cell? ⟨w.heap.size,4,none⟩=some (.string x.text)∧w'.cell? ⟨w.heap.size,5,none⟩=some (.int .i64 x.pos)∧w'.cell? ⟨w.heap.size,6,none⟩=some (.int .i64 x.kids)∧(Instr.lookup 147 mb (.int .i8 x.op) false).run Tryz.prog w'=.ok (.agg #[.func (.func K) #[] #[]]) w')
  (first | exact hs1 | exact hs3 | exact hs2) ((first | (go_at_call 142;refine HKI.out.mono ?_;rintro e w2 ⟨kv,rfl,hown,hbel⟩;obtain⟨A,c,rfl⟩:=AJ hown;have h2:=(H1.out.drew).below hbel;have kn2:=(KN.out.drew).below hbel hkw;have hb2:Below B w0 w2:=HB1.out.drew.trans (hbel.mono (by show B≤w1.heap.size;omega));have hs2:=Ej h2 kn2 (HLK.out w2 hb2)) | (refine (HWC.out s w2 A (Am ts i).length c w1.drew.heap.size hb2 h2 (Jx▸hown) hm).mono ?_;rintro e w3 ⟨rfl,h3,f3⟩;have hs3:=Ej h3 (f3.blk kn2 (by decide)) (HLK.out w3 (hb2.trans f3.below)))))
 all_goals go_wp2_with fail
 all_goals go_end0
 all_goals exact ⟨rfl,h3,((Frm.of_below HBA.out.drew (by omega)).trans (Frm.of_below hbel (by show B≤w1.heap.size;omega))).trans f3⟩
theorem LF (w0:World) (B kb tb toff cap:Nat) (im tm mb:Value) (ts:List Au) (F:MS→MS) (i:Nat) (x:Au) (s:MS) (w:World) (hl:ts.length≤2000) (htb:tb < B) (hn0:As w0 tb toff ts) (ht0:Gq w0 B mb) (hi:i < ts.length) (hbe:0≤Ap ts i) (hx:ts[i]? = some x)
  (pc:Int) (hK:Cf x.op=some pc) (hW:∀ pg,pg < B→Blk w0 pg 5 #[.int .u8 pc]→BH w0 B kb (.slice (some ⟨tb,toff,none⟩) ts.length cap) im tm mb ts F i x 159 #[.pointer (some ⟨pg,0,none⟩)]) (hb:Below B w0 w) (h:EK w B kb (.slice (some ⟨tb,toff,none⟩) ts.length cap) im tm mb s) (hm:(F s).ms≤1000000) :
  Calls Tryz.prog 106 #[.pointer (some ⟨kb,0,none⟩),.int .i64 i] w fun e w'=>e=.returned (.tuple #[])∧EK w' B kb (.slice (some ⟨tb,toff,none⟩) ts.length cap) im tm mb (F s)∧Frm B TE w w':=by
 obtain⟨hB,hks⟩:=h.size
 obtain⟨pg,hpg,kpg,hlk⟩:=ht0.looksP hK
 replace hW:=hW pg hpg kpg
 have hnx:=fun (wx:World) (hx:Below B w0 wx)=>hn0.below hx htb
 obtain⟨d0,d1,d2,d4,d5,z4⟩:=h.cells
 obtain⟨c0,c1,c2,c3,c4,c5,c6⟩:=(hnx w hb).all hx
 have hba:Below w.heap.size w (w.alloc (.cells #[.int .i8 x.op,.int .i8 x.kind,.int .i64 x.n,.int .i64 x.m,.string x.text,.int .i64 x.pos,.int .i64 x.kids] 120)):=(Below.refl _ _).alloc (Nat.le_refl _) _
 have kn:=Blk.new w 120 #[.int .i8 x.op,.int .i8 x.kind,.int .i64 x.n,.int .i64 x.m,.string x.text,.int .i64 x.pos,.int .i64 x.kids]
 have h1:=h.below hba
 have hb1:Below B w0 (w.alloc (.cells #[.int .i8 x.op,.int .i8 x.kind,.int .i64 x.n,.int .i64 x.m,.string x.text,.int .i64 x.pos,.int .i64 x.kids] 120)):=hb.trans (hba.mono (by omega))
 obtain⟨w1,hw1⟩:=Ex0 (w.alloc (.cells #[.int .i8 x.op,.int .i8 x.kind,.int .i64 x.n,.int .i64 x.m,.string x.text,.int .i64 x.pos,.int .i64 x.kids] 120))
 have HW1:=Lh hw1
 rw [← hw1] at hba kn h1 hb1
 have hiI:(i:Int) < ts.length:=by omega
 have hkw:=kn.lt
 obtain⟨e0,e1,e2,e4,e5,y4⟩:=h1.cells
 have f0:=kn.cell 0
 have f1:=kn.cell 1
 have f2:=kn.cell 2
 have f3:=kn.cell 3
 have f4:=kn.cell 4
 have f5:=kn.cell 5
 have f6:=kn.cell 6
 have hki:=Iz tb toff cap ts i w1.drew (by omega) (hnx w1 hb1) (by show tb < w1.heap.size;omega) hi
 have hl1:=hlk w1 hb1
 obtain⟨HKI,HWC,H1,HB1,HBA,KN,HLK⟩:=Hd7 hki hW h1 hb1 hba kn hlk
 clear hw1 h1 hb1 hba kn hki hW hlk hnx h hb hn0 ht0 hx hK hbe
 go_in
 go_wp2_with fail
 rw [← HW1.out]
 have hfl:=Ir (.func (.func 159) #[] #[.pointer (some ⟨pg,0,none⟩)])
 have hs1:=Ej (w':=w1.drew) H1.out.drew KN.out.drew (HLK.out w1.drew HB1.out.drew)
 go_region_held3 (fun w'=>w'.cell? ⟨kb,0,none⟩=some (.slice (some ⟨tb,toff,none⟩) ts.length cap)∧w'.cell? ⟨kb,5,none⟩=some mb∧w'.cell? ⟨w.heap.size,0,none⟩=some (.int .i8 x.op)∧w'.cell? ⟨w.heap.size,1,none⟩=some (.int .i8 x.kind)∧w'.cell? ⟨w.heap.size,2,none⟩=some (.int .i64 x.n)∧w'.cell? ⟨w.heap.size,3,none⟩=some (.int .i64 x.m)∧w'.cell? ⟨w.heap.size,4,none⟩=some (.string x.text)∧w'.cell? ⟨w.heap.size,5,none⟩=some (.int .i64 x.pos)∧w'.cell? ⟨w.heap.size,6,none⟩=some (.int .i64 x.kids)∧(Instr.lookup 147 mb (.int .i8 x.op) false).run Tryz.prog w'=.ok (.agg #[.func (.func 159) #[] #[.pointer (some ⟨pg,0,none⟩)]]) w')
  (first | exact hs1 | exact hs3 | exact hs2) ((first | (go_at_call 142;refine HKI.out.mono ?_;rintro e w2 ⟨kv,rfl,hown,hbel⟩;obtain⟨A,c,rfl⟩:=AJ hown;have h2:=(H1.out.drew).below hbel;have kn2:=(KN.out.drew).below hbel hkw;have hb2:Below B w0 w2:=HB1.out.drew.trans (hbel.mono (by show B≤w1.heap.size;omega));have hs2:=Ej h2 kn2 (HLK.out w2 hb2)) | (go_at_call 159;refine (HWC.out s w2 A (Am ts i).length c w1.drew.heap.size hb2 h2 (Jx▸hown) hm).mono ?_;rintro e w3 ⟨rfl,h3,f3⟩;have hs3:=Ej h3 (f3.blk kn2 (by decide)) (HLK.out w3 (hb2.trans f3.below)))))
 all_goals go_wp2_with fail
 all_goals go_end0
 all_goals exact ⟨rfl,h3,((Frm.of_below HBA.out.drew (by omega)).trans (Frm.of_below hbel (by show B≤w1.heap.size;omega))).trans f3⟩
def RKm (w:World) (B kb:Nat) (tv iv xv:Value) (b:List Int) (bad:Bool):Prop:=
 ∃ bv,B≤kb∧Blk w kb 104 #[tv,iv,xv,bv,.bool bad]∧w.ownsRow B 5 1 bv b.length (Ba b)
abbrev TR:List TypeId:=[104,5]
structure RSm (w:World) (B kb:Nat) (tv iv xv:Value) (s:MS) (b:List Int):Prop where
 mem:RKm w B kb tv iv xv b s.bad
 ref:Ref s b
def RP (w:World) (B kb:Nat) (tv iv xv:Value) (s:MS) (b:List Int) (s':MS) (e:Ending) (w':World):Prop:=
 e=.returned (.tuple #[])∧∃ b',RSm w' B kb tv iv xv s' b'∧JUp s b s' b'∧Frm B TR w w'
section
variable {B kb:Nat} {tv iv xv:Value} {b:List Int} {bad:Bool} {w w':World} {s:MS}
theorem RKm.size (h:RKm w B kb tv iv xv b bad):B≤kb∧kb < w.heap.size:=by
 obtain⟨bv,h1,h2,_⟩:=h
 exact ⟨h1,h2.lt⟩
theorem RKm.below (h:RKm w B kb tv iv xv b bad) (hb:Below w.heap.size w w'):RKm w' B kb tv iv xv b bad:=by
 obtain⟨bv,h1,h2,h3⟩:=h
 have f:=Frm.of_below (B:=0) (T:=[]) hb (Nat.zero_le _)
 exact ⟨bv,h1,f.blk h2 (by simp),f.own h3 (by simp)⟩
theorem RKm.alloc (h:RKm w B kb tv iv xv b bad) (o:Obj):RKm (w.alloc o) B kb tv iv xv b bad:=h.below ((Below.refl _ _).alloc (Nat.le_refl _) o)
theorem RKm.drew (h:RKm w B kb tv iv xv b bad):RKm w.drew B kb tv iv xv b bad:=h
theorem RSm.below (h:RSm w B kb tv iv xv s b) (hb:Below w.heap.size w w'):RSm w' B kb tv iv xv s b:=⟨h.mem.below hb,h.ref⟩
theorem RSm.alloc (h:RSm w B kb tv iv xv s b) (o:Obj):RSm (w.alloc o) B kb tv iv xv s b:=⟨h.mem.alloc o,h.ref⟩
theorem RSm.drew (h:RSm w B kb tv iv xv s b):RSm w.drew B kb tv iv xv s b:=⟨h.mem.drew,h.ref⟩
theorem RSm.size (h:RSm w B kb tv iv xv s b):B≤kb∧kb < w.heap.size:=h.mem.size
theorem RKm.cells (h:RKm w B kb tv iv xv b bad):w.cell? ⟨kb,0,none⟩=some tv∧w.cell? ⟨kb,1,none⟩=some iv∧w.cell? ⟨kb,2,none⟩=some xv∧w.cell? ⟨kb,4,none⟩=some (.bool bad)∧w.frozen? ⟨kb,4,none⟩=false:=by
 obtain⟨bv,h1,h2,_⟩:=h
 exact ⟨h2.cell 0,h2.cell 1,h2.cell 2,h2.cell 4,h2.frozen 4⟩
theorem RKm.open_ (h:RKm w B kb tv iv xv b bad):∃ A c,B≤kb∧Blk w kb 104 #[tv,iv,xv,.slice A b.length c,.bool bad]∧w.ownsRow B 5 1 (.slice A b.length c) b.length (Ba b):=by
 obtain⟨bv,h1,h2,h3⟩:=h
 obtain⟨A,c,rfl⟩:=AJ h3
 exact ⟨A,c,h1,h2,h3⟩
theorem RKm.setBad (h:RKm w B kb tv iv xv b bad) (q:Bool):RKm (w.setCell ⟨kb,4,none⟩ (.bool q)) B kb tv iv xv b q∧Frm B TR w (w.setCell ⟨kb,4,none⟩ (.bool q)):=by
 obtain⟨bv,h1,h2,h3⟩:=h
 exact ⟨⟨bv,h1,h2.set_ 4 _,Bm h3 (AR h3 h2 (by decide)) _⟩,(Frm.refl _ _ _).set_ h2 h1 (by decide) _⟩
theorem NI {A:Option Addr} {n c:Nat} {w1:World} (h2:Blk w kb 104 #[tv,iv,xv,.slice A n c,.bool bad]) (h3:w.ownsRow B 5 1 (.slice A n c) n (Ba b)) (hg:w.grownBy w1 (Value.slice A n c).ownBlock) :
  Blk w1 kb 104 #[tv,iv,xv,.slice A n c,.bool bad]∧w1.cell? ⟨kb,3,none⟩=some (.slice A n c)∧w1.frozen? ⟨kb,3,none⟩=false:=by
 have k:=h2.grown hg (AR h3 h2 (by decide)).symm
 exact ⟨k,k.cell 3,k.frozen 3⟩
theorem Qj {A:Option Addr} {n c:Nat} {w1:World} {v:Value} {b':List Int} (h1:B≤kb) (hw:B≤w.heap.size) (h2:Blk w kb 104 #[tv,iv,xv,.slice A n c,.bool bad]) (h3:w.ownsRow B 5 1 (.slice A n c) n (Ba b)) (hg:w.grownBy w1 (Value.slice A n c).ownBlock) (ho:w1.ownsRow B 5 1 v b'.length (Ba b')) :
  RKm (w1.setCell ⟨kb,3,none⟩ v) B kb tv iv xv b' bad∧Frm B TR w (w1.setCell ⟨kb,3,none⟩ v):=by
 have k:=(NI h2 h3 hg).1
 have f:=(Frm.refl B TR w).grown h3 hg (Nat.le_refl _) hw (by decide)
 exact ⟨⟨v,h1,k.set_ 3 _,Bm ho (AR ho k (by decide)) _⟩,f.set_ k h1 (by decide) _⟩
end
def Gv (w:World) (XA:Option Addr) (x:List Int):Prop:=∀ (k:Nat) (v:Int),x[k]? = some v→∃ lb cs,XA=some ⟨lb,0,none⟩∧Blk w lb 3 cs∧cs[k]? = some (Value.int .i64 v)
theorem Gv.frm {w w':World} {B:Nat} {XA:Option Addr} {x:List Int} (h:Gv w XA x) (hf:Frm B TR w w'):Gv w' XA x:=fun k v hk=>by
 obtain⟨lb,cs,h1,h2,h3⟩:=h k v hk
 exact ⟨lb,cs,h1,hf.blk h2 (by decide),h3⟩
theorem Gv.none_ (w:World) (XA:Option Addr):Gv w XA []:=fun k v h=>by simp at h
theorem Gv.lit (w:World) (x:List Int):Gv (w.alloc (.cells (AQ x).toArray 3)) (some ⟨w.heap.size,0,none⟩) x:=fun k v h=>⟨_,_,rfl,Blk.new _ _ _,by simp [AQ,h]⟩
theorem GU (B kb:Nat) (tv iv xv:Value) (b:List Int) (bad:Bool) (c:Int) (x:List Int) (XA:Option Addr) (n cp:Nat) (w:World) (h:RKm w B kb tv iv xv b bad) (hn:x.length=n) (hx:Gv w XA x) (hm:b.length + n≤2000000) :
  Calls Tryz.prog 54 #[.pointer (some ⟨kb,0,none⟩),.int .u8 c,.slice XA n cp] w fun e w'=>e=.returned (.tuple #[])∧RKm w' B kb tv iv xv (b ++ c :: x.map u8) bad∧Frm B TR w w':=by
 obtain⟨hB,hks⟩:=h.size
 obtain⟨A,c0,_,k0,o0⟩:=h.open_
 obtain⟨nb,hnb⟩:∃ nb,b.length=nb:=⟨_,rfl⟩
 rw [hnb] at k0 o0 hm
 have hBw:B≤w.heap.size:=by omega
 have d3:w.cell? ⟨kb,3,none⟩=some (.slice A nb c0):=k0.cell 3
 obtain⟨K0,O0,HX,HN,HNB⟩:=Hd5 k0 o0 hx hn hnb
 have e1:∀ v,IntKind.u8.wrap v=u8 v:=fun _=>rfl
 clear h k0 o0 hx hn hnb
 go_in
 go_wp2_with (at_builtin;go_loud (refine Cb Gp rfl _ _ rfl B w [.int .u8 c] rfl _ _ _ rfl O0.out rfl rfl (by simp [Value.oneCell']) (by unfold maxLen;omega) (by omega) hBw ?_;intro v1 w1 hown1 hg1;obtain⟨A1,c1,rfl⟩:=AJ hown1;obtain⟨_,hc3,hz3⟩:=NI K0.out O0.out hg1;have HO1:=Lh hown1;have HG1:=Lh hg1;clear hown1 hg1))
 have hput:=Qj (b':=b ++ [c]) hB hBw K0.out O0.out HG1.out (by have:=HO1.out;rw [List.length_append,HNB.out];simpa [Ba] using this)
 obtain⟨hr1,hf1⟩:=hput
 obtain⟨w2,hw2⟩:=Ex0 (w1.setCell ⟨kb,3,none⟩ (.slice A1 (nb + 1) c1))
 rw [← hw2] at hr1 hf1 ⊢
 obtain⟨HR1,HF1⟩:=Hd2 hr1 hf1
 clear hr1 hf1 hw2 hc3 hz3 d3
 go_loopw [6] (fun iv2 wr=>∃ k:Nat,k≤n∧iv2=.int .i64 k∧RKm wr B kb tv iv xv (b ++ c :: (x.take k).map u8) bad∧Frm B TR w wr) (fun iv2 _=>n - (intOf iv2).toNat)
 case atStart=>exact ⟨0,by omega,rfl,HR1.out,HF1.out⟩
 case round =>
  obtain⟨k,hkn,rfl,hrk,hfr⟩:=hrel
  by_cases hlt:k < n
  ·obtain⟨v,hv⟩:∃ v,x[k]? = some v:=⟨_,List.getElem?_eq_getElem (by rw [HN.out];exact hlt)⟩
   obtain⟨lb,cs,rfl,hlb,hcs⟩:=(HX.out.frm hfr) k v hv
   have hcv:wr.cell? ⟨lb,k,none⟩=some (.int .i64 v):=(hlb.cell k).trans hcs
   obtain⟨hB2,hks2⟩:=hrk.size
   obtain⟨Ar,cr,_,kr,or_⟩:=hrk.open_
   obtain⟨nr,hnr⟩:∃ nr,(b ++ c :: (x.take k).map u8).length=nr:=⟨_,rfl⟩
   have hnr2:nr=nb + 1 + k:=by rw [← hnr,← HNB.out];simp;have:=HN.out;omega
   have hnrb:nr≤3000000:=by omega
   clear hnr2
   rw [hnr] at kr or_
   have hBr:B≤wr.heap.size:=by omega
   have d3:wr.cell? ⟨kb,3,none⟩=some (.slice Ar nr cr):=kr.cell 3
   obtain⟨KR,OR,HF,HV,HNR⟩:=Hd5 kr or_ hfr hv hnr
   have hkI:(k:Int) < n:=by omega
   obtain⟨HLB,HCS⟩:=Hd2 hlb hcs
   clear hrk kr or_ hfr hv hlb hcs hnr
   go_wp2_with fail
   have hxt:(b ++ c :: (x.take (k + 1)).map u8)=(b ++ c :: (x.take k).map u8) ++ [u8 v]:=by
    rw [List.take_add_one,HV.out]
    simp
   have HXT:=Lh hxt
   clear hxt
   obtain⟨i0,z0,hi0,hz0,hsz0,hby0,hzc0⟩:=Gp.info
   have ad1:wr.drew.cell? ⟨kb,3,none⟩=some (.slice Ar nr cr)∧wr.drew.cell? ⟨lb,k,none⟩=some (.int .i64 v):=⟨d3,hcv⟩
   have ad2:(wr.drew.alloc (.cells #[.int .u8 (u8 v)] 5)).cell? ⟨kb,3,none⟩=some (.slice Ar nr cr)∧(wr.drew.alloc (.cells #[.int .u8 (u8 v)] 5)).cell? ⟨lb,k,none⟩=some (.int .i64 v):=⟨(KR.out.drew.alloc _).cell 3,((HLB.out.drew.alloc _).cell k).trans HCS.out⟩
   go_region_law (refine step_append_lies _ (by rfl) _ _ _ (by rfl) B 5 i0 z0 1 1 Gp.und hi0 hz0 hsz0 hby0 hzc0 (by decide) (.slice Ar nr cr) nr (Ba (b ++ c :: (x.take k).map u8)) (by rfl) ((OR.out.alloc _).drew) ⟨wr.heap.size,0,none⟩ 1 1 [.int .u8 (u8 v)] (by rfl) (by rfl) (World.news_of_block (cs:=#[.int .u8 (u8 v)]) (t:=5) (fr:=(0,0)) (heap_alloc_new wr _)) (by simp [Value.oneCell']) (by omega) (by unfold maxLen;omega) (by omega) (by simp;omega) (wr.heap.size + 1) (by simp) ?_;intro gg cap w3 hown3 hg3 hat hlt3;obtain⟨hk3,hc3,hz3⟩:=NI ((KR.out.alloc (.cells #[.int .u8 (u8 v)] 5)).drew) ((OR.out.alloc (.cells #[.int .u8 (u8 v)] 5)).drew) hg3;have hl3:=((HLB.out.alloc (.cells #[.int .u8 (u8 v)] 5)).drew).grown hg3 (AR OR.out HLB.out (by decide)).symm;have ad3:w3.cell? ⟨kb,3,none⟩=some (.slice Ar nr cr)∧w3.cell? ⟨lb,k,none⟩=some (.int .i64 v):=⟨hc3,(hl3.cell k).trans HCS.out⟩;have HO3:=Lh hown3;have HG3:=Lh hg3;clear hown3 hg3 hat)
   all_goals go_wp2_with fail
   all_goals
    have hput:=Qj (w:=(wr.alloc (.cells #[.int .u8 (u8 v)] 5)).drew) (b':=b ++ c :: (x.take (k + 1)).map u8) hB (by simp;omega) (KR.out.alloc _).drew (OR.out.alloc _).drew HG3.out (by rw [HXT.out,List.length_append,HNR.out];have:=HO3.out;simpa [Ba] using this)
    have HP:=Lh hput
    clear hput hc3 hz3
    go_roundw
    case rel=>exact ⟨k + 1,by omega,by go_num,HP.out.1,(HF.out.alloc hBr _).drew.trans HP.out.2⟩
    case measure=>(simp [intOf];try omega)
  ·have hk:x.take k=x:=List.take_of_length_le (by rw [HN.out];omega)
   rw [hk] at hrk
   obtain⟨HK,HF⟩:=Hd2 hrk hfr
   clear hrk hfr hk
   go_wp2_with fail
   go_end0
   exact ⟨rfl,HK.out,HF.out⟩
section
variable {B kb:Nat} {tv iv xv:Value} {b:List Int} {w:World} {s:MS} (c:Int) (h:RSm w B kb tv iv xv s b)
include h
theorem Gb (hm:s.ms≤1000000):b.length≤1000000:=by
 have:=h.ref.len
 unfold MS.ms at hm
 omega
theorem F8 (hm:s.ms≤1000000):Calls Tryz.prog 54 #[.pointer (some ⟨kb,0,none⟩),.int .u8 c,.slice none 0 0] w (RP w B kb tv iv xv s b (opE c [] s)):=by
 have hl:=Gb h hm
 refine (GU B kb tv iv xv b s.bad c [] none 0 0 w h.mem rfl (Gv.none_ _ _) (by omega)).mono ?_
 rintro e w' ⟨rfl,h1,f1⟩
 exact ⟨rfl,_,⟨h1,h.ref.raw [c] [c] (fun _=>rfl) (Nat.le_refl _)⟩,JUp.raw s b [c] [c],f1⟩
theorem M9 (x:Int) (hm:s.ms≤1000000):Calls Tryz.prog 54 #[.pointer (some ⟨kb,0,none⟩),.int .u8 c,.slice (some ⟨w.heap.size,0,none⟩) 1 1] (w.alloc (.cells #[.int .i64 x] 3)) (RP w B kb tv iv xv s b (opE c [u8 x] s)):=by
 have hl:=Gb h hm
 have hB:=h.size
 have hb:Below w.heap.size w (w.alloc (.cells #[.int .i64 x] 3)):=(Below.refl _ _).alloc (Nat.le_refl _) _
 refine (GU B kb tv iv xv b s.bad c [x] (some ⟨w.heap.size,0,none⟩) 1 1 _ (h.mem.below hb) rfl (Gv.lit w [x]) (by omega)).mono ?_
 rintro e w' ⟨rfl,h1,f1⟩
 exact ⟨rfl,_,⟨h1,h.ref.raw [c,u8 x] [c,u8 x] (fun _=>rfl) (Nat.le_refl _)⟩,JUp.raw s b [c,u8 x] [c,u8 x],(Frm.of_below hb (by omega)).trans f1⟩
theorem Sn (x y:Int) (hm:s.ms≤1000000):Calls Tryz.prog 54 #[.pointer (some ⟨kb,0,none⟩),.int .u8 c,.slice (some ⟨w.heap.size,0,none⟩) 2 2] (w.alloc (.cells #[.int .i64 x,.int .i64 y] 3)) (RP w B kb tv iv xv s b (opE c [u8 x,u8 y] s)):=by
 have hl:=Gb h hm
 have hB:=h.size
 have hb:Below w.heap.size w (w.alloc (.cells #[.int .i64 x,.int .i64 y] 3)):=(Below.refl _ _).alloc (Nat.le_refl _) _
 refine (GU B kb tv iv xv b s.bad c [x,y] (some ⟨w.heap.size,0,none⟩) 2 2 _ (h.mem.below hb) rfl (Gv.lit w [x,y]) (by omega)).mono ?_
 rintro e w' ⟨rfl,h1,f1⟩
 exact ⟨rfl,_,⟨h1,h.ref.raw [c,u8 x,u8 y] [c,u8 x,u8 y] (fun _=>rfl) (Nat.le_refl _)⟩,JUp.raw s b [c,u8 x,u8 y] [c,u8 x,u8 y],(Frm.of_below hb (by omega)).trans f1⟩
end
end Go.Proofs.YtmpcbaflcogmmaaGreatDoor
