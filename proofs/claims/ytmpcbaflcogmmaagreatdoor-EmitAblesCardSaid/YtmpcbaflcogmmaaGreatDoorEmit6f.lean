/- Emit6b Emit6f -/
import Derived.Test.YtmpcbaflcogmmaaGreatDoorEmit9
namespace Go.Proofs.YtmpcbaflcogmmaaGreatDoor
open Go.RowKit
set_option linter.all false
set_option maxHeartbeats 1600000
set_option maxRecDepth 100000
section
variable (w0:World) (B kb:Nat) (tv im tm mb:Value) (ts:List Au) (rec:Nat→MS→MS) (hgr:Do rec) (i:Nat) (x:Au) (hr:∀ j∈Am ts i,E6 w0 B kb tv im tm mb rec j) (hkl:(Am ts i).length≤100000)
include hgr hr hkl
theorem QN (j0 j1:Nat) (hkk:Am ts i=[j0,j1]) (hop:x.op=13):BH w0 B kb tv im tm mb ts (fun s=>Ds rec x (Am ts i) s) i x 153 #[]:=by
 intro s w A n c base hb0 h0 ho0 hm
 obtain⟨wl0,HW,S0,HO,F0,KN⟩:=CE x hb0 h0 ho0
 rw [hop] at HW KN
 obtain⟨s1,HS1,m1⟩:=sN hgr j0 s
 obtain⟨s2,HS2,m2⟩:=sA 31 s1
 obtain⟨s3,HS3,m3⟩:=sN hgr j1 s2
 obtain⟨s4,HS4,m4⟩:=sH s2.at_ s3
 have hF:(fun s=>Ds rec x (Am ts i) s) s=s4:=by
  rw [HS4.out,HS3.out,HS2.out,HS1.out]
  simp [Ds,D1,DK,hkk,hop]
 rw [hF] at hm ⊢
 have hq0:(Am ts i)[0]? = some j0:=by rw [hkk];rfl
 have hq1:(Am ts i)[1]? = some j1:=by rw [hkk];rfl
 obtain⟨g,hn,rfl,hgw⟩:=Fs ho0 hq0
 rw [hkk] at hn
 obtain rfl:n=2:=hn
 obtain⟨HO0,HR,HKK⟩:=Hd3 ho0 hr hkk
 clear hr hkk hb0 h0 ho0 hF hgr hkl
 go_in
 have kc1:=S0.kid HO hq0
 have kw1:=Bo HO0.out hq0
 rw [HW.out] at kc1
 go_wp2_with fail
 rw [← HW.out]
 refine (S0.node (HR.out j0 (CT hq0)) HS1 (by omega)).mono ?_
 rintro e wl1 ⟨rfl,S1,f⟩
 have nc2_0:=S1.cell (.int .i8 13) 0 KN rfl
 go_wp2_with fail
 refine (S1.ah0 31 HS2 (by omega)).mono ?_
 rintro e wl2 ⟨ga2,gb2,rfl,S2,f,KA2⟩
 have kc3:=S2.kid HO hq1
 go_wp2_with fail
 refine (S2.node (HR.out j1 (CT hq1)) HS3 (by omega)).mono ?_
 rintro e wl3 ⟨rfl,S3,f⟩
 replace KA2:=AhE.up KA2 f
 go_wp2_with fail
 refine (S3.here KA2 HS4 (by omega)).mono ?_
 rintro e wl4 ⟨rfl,S4,f⟩
 go_wp2_with fail
 refine bodyPost_ret (results_none rfl _ _ _) rfl ?_
 exact ⟨rfl,S4.k,F0.trans S4.f⟩
theorem Rj (j0 j1 j2:Nat) (hkk:Am ts i=[j0,j1,j2]) (hop:x.op=13):BH w0 B kb tv im tm mb ts (fun s=>Ds rec x (Am ts i) s) i x 153 #[]:=by
 intro s w A n c base hb0 h0 ho0 hm
 obtain⟨wl0,HW,S0,HO,F0,KN⟩:=CE x hb0 h0 ho0
 rw [hop] at HW KN
 obtain⟨s1,HS1,m1⟩:=sN hgr j0 s
 obtain⟨s2,HS2,m2⟩:=sA 31 s1
 obtain⟨s3,HS3,m3⟩:=sN hgr j1 s2
 obtain⟨s4,HS4,m4⟩:=sA 30 s3
 obtain⟨s5,HS5,m5⟩:=sH s2.at_ s4
 obtain⟨s6,HS6,m6⟩:=sN hgr j2 s5
 obtain⟨s7,HS7,m7⟩:=sH s4.at_ s6
 have hF:(fun s=>Ds rec x (Am ts i) s) s=s7:=by
  rw [HS7.out,HS6.out,HS5.out,HS4.out,HS3.out,HS2.out,HS1.out]
  simp [Ds,D1,DK,hkk,hop]
 rw [hF] at hm ⊢
 have hq0:(Am ts i)[0]? = some j0:=by rw [hkk];rfl
 have hq1:(Am ts i)[1]? = some j1:=by rw [hkk];rfl
 have hq2:(Am ts i)[2]? = some j2:=by rw [hkk];rfl
 obtain⟨g,hn,rfl,hgw⟩:=Fs ho0 hq0
 rw [hkk] at hn
 obtain rfl:n=3:=hn
 obtain⟨HO0,HR,HKK⟩:=Hd3 ho0 hr hkk
 clear hr hkk hb0 h0 ho0 hF hgr hkl
 go_in
 have kc1:=S0.kid HO hq0
 have kw1:=Bo HO0.out hq0
 rw [HW.out] at kc1
 go_wp2_with fail
 rw [← HW.out]
 refine (S0.node (HR.out j0 (CT hq0)) HS1 (by omega)).mono ?_
 rintro e wl1 ⟨rfl,S1,f⟩
 have nc2_0:=S1.cell (.int .i8 13) 0 KN rfl
 go_wp2_with fail
 refine (S1.ah0 31 HS2 (by omega)).mono ?_
 rintro e wl2 ⟨ga2,gb2,rfl,S2,f,KA2⟩
 have kc3:=S2.kid HO hq1
 go_wp2_with fail
 refine (S2.node (HR.out j1 (CT hq1)) HS3 (by omega)).mono ?_
 rintro e wl3 ⟨rfl,S3,f⟩
 replace KA2:=AhE.up KA2 f
 go_wp2_with fail
 refine (S3.ah0 30 HS4 (by omega)).mono ?_
 rintro e wl4 ⟨ga4,gb4,rfl,S4,f,KA4⟩
 replace KA2:=AhE.up KA2 f
 go_wp2_with fail
 refine (S4.here KA2 HS5 (by omega)).mono ?_
 rintro e wl5 ⟨rfl,S5,f⟩
 replace KA4:=AhE.up KA4 f
 have kc6:=S5.kid HO hq2
 go_wp2_with fail
 refine (S5.node (HR.out j2 (CT hq2)) HS6 (by omega)).mono ?_
 rintro e wl6 ⟨rfl,S6,f⟩
 replace KA4:=AhE.up KA4 f
 go_wp2_with fail
 refine (S6.here KA4 HS7 (by omega)).mono ?_
 rintro e wl7 ⟨rfl,S7,f⟩
 go_wp2_with fail
 go_end0
 exact ⟨rfl,S7.k,F0.trans S7.f⟩
theorem RF (j0 j1:Nat) (hkk:Am ts i=[j0,j1]) (hop:x.op=16):BH w0 B kb tv im tm mb ts (fun s=>Ds rec x (Am ts i) s) i x 153 #[]:=by
 intro s w A n c base hb0 h0 ho0 hm
 obtain⟨wl0,HW,S0,HO,F0,KN⟩:=CE x hb0 h0 ho0
 rw [hop] at HW KN
 obtain⟨s1,HS1,m1⟩:=sN hgr j0 s
 obtain⟨s2,HS2,m2⟩:=sA 33 s1
 obtain⟨s3,HS3,m3⟩:=sI 5 (u8 x.n) s2
 obtain⟨s4,HS4,m4⟩:=sN hgr j1 s3
 obtain⟨s5,HS5,m5⟩:=sH s2.at_ s4
 have hF:(fun s=>Ds rec x (Am ts i) s) s=s5:=by
  rw [HS5.out,HS4.out,HS3.out,HS2.out,HS1.out]
  simp [Ds,D1,DK,hkk,hop]
 rw [hF] at hm ⊢
 have hq0:(Am ts i)[0]? = some j0:=by rw [hkk];rfl
 have hq1:(Am ts i)[1]? = some j1:=by rw [hkk];rfl
 obtain⟨g,hn,rfl,hgw⟩:=Fs ho0 hq0
 rw [hkk] at hn
 obtain rfl:n=2:=hn
 obtain⟨HO0,HR,HKK⟩:=Hd3 ho0 hr hkk
 clear hr hkk hb0 h0 ho0 hF hgr hkl
 obtain⟨e1,e2,e3⟩:=u8e x
 go_in
 have kc1:=S0.kid HO hq0
 have kw1:=Bo HO0.out hq0
 rw [HW.out] at kc1
 go_wp2_with fail
 rw [← HW.out]
 refine (S0.node (HR.out j0 (CT hq0)) HS1 (by omega)).mono ?_
 rintro e wl1 ⟨rfl,S1,f⟩
 have nc2_0:=S1.cell (.int .i8 16) 0 KN rfl
 go_wp2_with fail
 refine (S1.ah0 33 HS2 (by omega)).mono ?_
 rintro e wl2 ⟨ga2,gb2,rfl,S2,f,KA2⟩
 have nc3_2:=S2.cell (.int .i64 x.n) 2 KN rfl
 go_wp2_with fail
 refine (S2.op1 5 (u8 x.n) HS3 (by omega)).mono ?_
 rintro e wl3 ⟨rfl,S3,f⟩
 replace KA2:=AhE.up KA2 f
 have kc4:=S3.kid HO hq1
 go_wp2_with fail
 refine (S3.node (HR.out j1 (CT hq1)) HS4 (by omega)).mono ?_
 rintro e wl4 ⟨rfl,S4,f⟩
 replace KA2:=AhE.up KA2 f
 go_wp2_with fail
 refine (S4.here KA2 HS5 (by omega)).mono ?_
 rintro e wl5 ⟨rfl,S5,f⟩
 go_wp2_with fail
 refine bodyPost_ret (results_none rfl _ _ _) rfl ?_
 exact ⟨rfl,S5.k,F0.trans S5.f⟩
theorem Si (j0 j1 j2:Nat) (hkk:Am ts i=[j0,j1,j2]) (hop:x.op=16):BH w0 B kb tv im tm mb ts (fun s=>Ds rec x (Am ts i) s) i x 153 #[]:=by
 intro s w A n c base hb0 h0 ho0 hm
 obtain⟨wl0,HW,S0,HO,F0,KN⟩:=CE x hb0 h0 ho0
 rw [hop] at HW KN
 obtain⟨s1,HS1,m1⟩:=sN hgr j0 s
 obtain⟨s2,HS2,m2⟩:=sA 33 s1
 obtain⟨s3,HS3,m3⟩:=sI 5 (u8 x.n) s2
 obtain⟨s4,HS4,m4⟩:=sN hgr j1 s3
 obtain⟨s5,HS5,m5⟩:=sA 30 s4
 obtain⟨s6,HS6,m6⟩:=sH s2.at_ s5
 obtain⟨s7,HS7,m7⟩:=sN hgr j2 s6
 obtain⟨s8,HS8,m8⟩:=sH s5.at_ s7
 have hF:(fun s=>Ds rec x (Am ts i) s) s=s8:=by
  rw [HS8.out,HS7.out,HS6.out,HS5.out,HS4.out,HS3.out,HS2.out,HS1.out]
  simp [Ds,D1,DK,hkk,hop]
 rw [hF] at hm ⊢
 have hq0:(Am ts i)[0]? = some j0:=by rw [hkk];rfl
 have hq1:(Am ts i)[1]? = some j1:=by rw [hkk];rfl
 have hq2:(Am ts i)[2]? = some j2:=by rw [hkk];rfl
 obtain⟨g,hn,rfl,hgw⟩:=Fs ho0 hq0
 rw [hkk] at hn
 obtain rfl:n=3:=hn
 obtain⟨HO0,HR,HKK⟩:=Hd3 ho0 hr hkk
 clear hr hkk hb0 h0 ho0 hF hgr hkl
 obtain⟨e1,e2,e3⟩:=u8e x
 go_in
 have kc1:=S0.kid HO hq0
 have kw1:=Bo HO0.out hq0
 rw [HW.out] at kc1
 go_wp2_with fail
 rw [← HW.out]
 refine (S0.node (HR.out j0 (CT hq0)) HS1 (by omega)).mono ?_
 rintro e wl1 ⟨rfl,S1,f⟩
 have nc2_0:=S1.cell (.int .i8 16) 0 KN rfl
 go_wp2_with fail
 refine (S1.ah0 33 HS2 (by omega)).mono ?_
 rintro e wl2 ⟨ga2,gb2,rfl,S2,f,KA2⟩
 have nc3_2:=S2.cell (.int .i64 x.n) 2 KN rfl
 go_wp2_with fail
 refine (S2.op1 5 (u8 x.n) HS3 (by omega)).mono ?_
 rintro e wl3 ⟨rfl,S3,f⟩
 replace KA2:=AhE.up KA2 f
 have kc4:=S3.kid HO hq1
 go_wp2_with fail
 refine (S3.node (HR.out j1 (CT hq1)) HS4 (by omega)).mono ?_
 rintro e wl4 ⟨rfl,S4,f⟩
 replace KA2:=AhE.up KA2 f
 go_wp2_with fail
 refine (S4.ah0 30 HS5 (by omega)).mono ?_
 rintro e wl5 ⟨ga5,gb5,rfl,S5,f,KA5⟩
 replace KA2:=AhE.up KA2 f
 go_wp2_with fail
 refine (S5.here KA2 HS6 (by omega)).mono ?_
 rintro e wl6 ⟨rfl,S6,f⟩
 replace KA5:=AhE.up KA5 f
 have kc7:=S6.kid HO hq2
 go_wp2_with fail
 refine (S6.node (HR.out j2 (CT hq2)) HS7 (by omega)).mono ?_
 rintro e wl7 ⟨rfl,S7,f⟩
 replace KA5:=AhE.up KA5 f
 go_wp2_with fail
 refine (S7.here KA5 HS8 (by omega)).mono ?_
 rintro e wl8 ⟨rfl,S8,f⟩
 go_wp2_with fail
 go_end0
 exact ⟨rfl,S8.k,F0.trans S8.f⟩
end
section
variable (w0:World) (B kb:Nat) (tv im tm mb:Value) (ts:List Au) (rec:Nat→MS→MS) (hgr:Do rec) (i:Nat) (x:Au) (hr:∀ j∈Am ts i,E6 w0 B kb tv im tm mb rec j) (hkl:(Am ts i).length≤100000)
include hgr hr hkl
omit hr in
theorem UC (j0 j1:Nat) (hkk:Am ts i=[j0,j1]) (hr0:E6 w0 B kb tv im tm mb rec j0) (pt:ByteArray→Option Int) (hxn:x.n=1) (tb toff cap:Nat) (htv:tv=.slice (some ⟨tb,toff,none⟩) ts.length cap) (htb:tb < B) (hn0:As w0 tb toff ts) (y:Au) (hy:ts[j1]? = some y):BH w0 B kb tv im tm mb ts (fun s=>Bi pt ts rec x (Am ts i) s) i x 152 #[]:=by
 intro s w A n c base hb0 h0 ho0 hm
 obtain⟨wl0,HW,S0,HO,F0,KN⟩:=CE x hb0 h0 ho0
 rw [hxn] at HW KN
 obtain⟨s1,HS1,m1⟩:=sN hgr j0 s
 obtain⟨s2,HS2,m2⟩:=sI 41 (u8 y.n) s1
 have hF:(fun s=>Bi pt ts rec x (Am ts i) s) s=s2:=by
  rw [HS2.out,HS1.out]
  simp [Bi,hxn,hkk,hy]
 rw [hF] at hm ⊢
 have hq0:(Am ts i)[0]? = some j0:=by rw [hkk];rfl
 have hq1:(Am ts i)[1]? = some j1:=by rw [hkk];rfl
 obtain⟨g,hn,rfl,hgw⟩:=Fs ho0 hq0
 rw [hkk] at hn
 obtain rfl:n=2:=hn
 have HO0:=Lh ho0
 have hjl:j1 < ts.length:=(List.getElem?_eq_some_iff.1 hy).1
 obtain⟨HY,HN0⟩:=Hd2 hy hn0
 have hji:(j1:Int) < ts.length:=by omega
 have ey:IntKind.u8.wrap y.n=u8 y.n:=rfl
 have HTV:=Lh htv
 clear hy hn0 htv
 obtain⟨HR,HKK⟩:=Hd2 hr0 hkk
 clear hr0 hkk hb0 h0 ho0 hF hgr hkl
 go_in
 have nc1_2:=S0.cell (.int .i64 1) 2 KN rfl
 have kc1:=S0.kid HO hq0
 have kw1:=Bo HO0.out hq0
 rw [HW.out] at kc1
 go_wp2_with fail
 rw [← HW.out]
 refine (S0.node (HR.out) HS1 (by omega)).mono ?_
 rintro e wl1 ⟨rfl,S1,f⟩
 have nc2_2:=S1.cell (.int .i64 1) 2 KN rfl
 go_wp2_with fail
 have hS:∀ (wx:World) (sx:MS),StE w0 wl0 B kb tv im tm mb sx wx→(wx.cell? ⟨kb,0,none⟩=some (.slice (some ⟨tb,toff,none⟩) ts.length cap)∧wx.cell? ⟨g,1,none⟩=some (.int .i64 j1)∧wx.cell? ⟨tb,toff + j1 * 7 + 2,none⟩=some (.int .i64 y.n)):=fun wx sx h=>⟨by have:=h.k.cells.1;rw [HTV.out] at this;exact this,h.kid HO hq1,((HN0.out.below h.low htb).all HY.out).2.2.1⟩
 have SD:StE w0 wl0 B kb tv im tm mb s1 wl1.drew:=⟨S1.be,S1.k.drew,S1.f.drew⟩
 have hsA:=hS _ _ SD
 have hsB:=hS (wl1.drew.alloc (.cells #[.int .u8 (u8 y.n)] 5)) s1 ⟨SD.be,SD.k.alloc _,SD.f.alloc (by have:=SD.k.size;omega) _⟩
 go_region_held3 (fun wx=>wx.cell? ⟨kb,0,none⟩=some (.slice (some ⟨tb,toff,none⟩) ts.length cap)∧wx.cell? ⟨g,1,none⟩=some (.int .i64 j1)∧wx.cell? ⟨tb,toff + j1 * 7 + 2,none⟩=some (.int .i64 y.n)) (first | exact hsA | exact hsB | exact hsC) ((first | (go_at_call 108;refine (SD.op1 41 (u8 y.n) HS2 (by omega)).mono ?_;rintro e wl2 ⟨rfl,S2,f⟩;have hsC:=hS _ _ S2)))
 go_wp2_with fail
 go_end0
 exact ⟨rfl,S2.k,F0.trans S2.f⟩
theorem RO (j0 j1:Nat) (hkk:Am ts i=[j0,j1]) (hop:x.op=38) (tb toff cap:Nat) (htv:tv=.slice (some ⟨tb,toff,none⟩) ts.length cap) (htb:tb < B) (hn0:As w0 tb toff ts) (y:Au) (hy:ts[j0]? = some y):BH w0 B kb tv im tm mb ts (fun s=>Dt ts rec x (Am ts i) s) i x 151 #[]:=by
 intro s w A n c base hb0 h0 ho0 hm
 obtain⟨wl0,HW,S0,HO,F0,KN⟩:=CE x hb0 h0 ho0
 rw [hop] at HW KN
 obtain⟨s1,HS1,m1⟩:=sL hgr (Am ts i) s
 obtain⟨s2,HS2,m2⟩:=sI 24 (u8 y.kind) s1
 have hF:(fun s=>Dt ts rec x (Am ts i) s) s=s2:=by
  rw [HS2.out,HS1.out]
  simp [Dt,hop,hkk,hy]
 rw [hF] at hm ⊢
 have hq0:(Am ts i)[0]? = some j0:=by rw [hkk];rfl
 have hq1:(Am ts i)[1]? = some j1:=by rw [hkk];rfl
 obtain⟨g,hn,rfl,hgw⟩:=Fs ho0 hq0
 rw [hkk] at hn
 obtain rfl:n=2:=hn
 have HO0:=Lh ho0
 have hjl:j0 < ts.length:=(List.getElem?_eq_some_iff.1 hy).1
 obtain⟨HY,HN0⟩:=Hd2 hy hn0
 have hji:(j0:Int) < ts.length:=by omega
 have ey:IntKind.u8.wrap y.kind=u8 y.kind:=rfl
 have HTV:=Lh htv
 clear hy hn0 htv
 obtain⟨HR,HKL,HGR,HKK⟩:=Hd4 hr hkl hgr hkk
 clear hr hkl hgr hkk hb0 h0 ho0 hF
 go_in
 have nc1_0:=S0.cell (.int .i8 38) 0 KN rfl
 go_wp2_with fail
 rw [← HW.out]
 refine (S0.nodes HGR HKL HR HO HS1 (by omega)).mono ?_
 rintro e wl1 ⟨rfl,S1,f⟩
 have nc2_0:=S1.cell (.int .i8 38) 0 KN rfl
 go_wp2_with fail
 have hS:∀ (wx:World) (sx:MS),StE w0 wl0 B kb tv im tm mb sx wx→(wx.cell? ⟨kb,0,none⟩=some (.slice (some ⟨tb,toff,none⟩) ts.length cap)∧wx.cell? ⟨g,0,none⟩=some (.int .i64 j0)∧wx.cell? ⟨tb,toff + j0 * 7 + 1,none⟩=some (.int .i8 y.kind)):=fun wx sx h=>⟨by have:=h.k.cells.1;rw [HTV.out] at this;exact this,h.kid HO hq0,((HN0.out.below h.low htb).all HY.out).2.1⟩
 have SD:StE w0 wl0 B kb tv im tm mb s1 wl1.drew:=⟨S1.be,S1.k.drew,S1.f.drew⟩
 have hsA:=hS _ _ SD
 have hsB:=hS (wl1.drew.alloc (.cells #[.int .u8 (u8 y.kind)] 5)) s1 ⟨SD.be,SD.k.alloc _,SD.f.alloc (by have:=SD.k.size;omega) _⟩
 go_region_held3 (fun wx=>wx.cell? ⟨kb,0,none⟩=some (.slice (some ⟨tb,toff,none⟩) ts.length cap)∧wx.cell? ⟨g,0,none⟩=some (.int .i64 j0)∧wx.cell? ⟨tb,toff + j0 * 7 + 1,none⟩=some (.int .i8 y.kind)) (first | exact hsA | exact hsB | exact hsC) ((first | (go_at_call 108;refine (SD.op1 24 (u8 y.kind) HS2 (by omega)).mono ?_;rintro e wl2 ⟨rfl,S2,f⟩;have hsC:=hS _ _ S2)))
 have ncL_0:=S2.cell (.int .i8 38) 0 KN rfl
 go_wp2_with fail
 go_end0
 exact ⟨rfl,S2.k,F0.trans S2.f⟩
theorem Rb (j0 j1:Nat) (hkk:Am ts i=[j0,j1]) (hop:x.op=39) (tb toff cap:Nat) (htv:tv=.slice (some ⟨tb,toff,none⟩) ts.length cap) (htb:tb < B) (hn0:As w0 tb toff ts) (y:Au) (hy:ts[j0]? = some y):BH w0 B kb tv im tm mb ts (fun s=>Dt ts rec x (Am ts i) s) i x 151 #[]:=by
 intro s w A n c base hb0 h0 ho0 hm
 obtain⟨wl0,HW,S0,HO,F0,KN⟩:=CE x hb0 h0 ho0
 rw [hop] at HW KN
 obtain⟨s1,HS1,m1⟩:=sL hgr (Am ts i) s
 obtain⟨s2,HS2,m2⟩:=sI 24 (u8 y.kind) s1
 obtain⟨s3,HS3,m3⟩:=sO 23 s2
 have hF:(fun s=>Dt ts rec x (Am ts i) s) s=s3:=by
  rw [HS3.out,HS2.out,HS1.out]
  simp [Dt,hop,hkk,hy]
 rw [hF] at hm ⊢
 have hq0:(Am ts i)[0]? = some j0:=by rw [hkk];rfl
 have hq1:(Am ts i)[1]? = some j1:=by rw [hkk];rfl
 obtain⟨g,hn,rfl,hgw⟩:=Fs ho0 hq0
 rw [hkk] at hn
 obtain rfl:n=2:=hn
 have HO0:=Lh ho0
 have hjl:j0 < ts.length:=(List.getElem?_eq_some_iff.1 hy).1
 obtain⟨HY,HN0⟩:=Hd2 hy hn0
 have hji:(j0:Int) < ts.length:=by omega
 have ey:IntKind.u8.wrap y.kind=u8 y.kind:=rfl
 have HTV:=Lh htv
 clear hy hn0 htv
 obtain⟨HR,HKL,HGR,HKK⟩:=Hd4 hr hkl hgr hkk
 clear hr hkl hgr hkk hb0 h0 ho0 hF
 go_in
 have nc1_0:=S0.cell (.int .i8 39) 0 KN rfl
 go_wp2_with fail
 rw [← HW.out]
 refine (S0.nodes HGR HKL HR HO HS1 (by omega)).mono ?_
 rintro e wl1 ⟨rfl,S1,f⟩
 have nc2_0:=S1.cell (.int .i8 39) 0 KN rfl
 go_wp2_with fail
 have hS:∀ (wx:World) (sx:MS),StE w0 wl0 B kb tv im tm mb sx wx→(wx.cell? ⟨kb,0,none⟩=some (.slice (some ⟨tb,toff,none⟩) ts.length cap)∧wx.cell? ⟨g,0,none⟩=some (.int .i64 j0)∧wx.cell? ⟨tb,toff + j0 * 7 + 1,none⟩=some (.int .i8 y.kind)):=fun wx sx h=>⟨by have:=h.k.cells.1;rw [HTV.out] at this;exact this,h.kid HO hq0,((HN0.out.below h.low htb).all HY.out).2.1⟩
 have SD:StE w0 wl0 B kb tv im tm mb s1 wl1.drew:=⟨S1.be,S1.k.drew,S1.f.drew⟩
 have hsA:=hS _ _ SD
 have hsB:=hS (wl1.drew.alloc (.cells #[.int .u8 (u8 y.kind)] 5)) s1 ⟨SD.be,SD.k.alloc _,SD.f.alloc (by have:=SD.k.size;omega) _⟩
 go_region_held3 (fun wx=>wx.cell? ⟨kb,0,none⟩=some (.slice (some ⟨tb,toff,none⟩) ts.length cap)∧wx.cell? ⟨g,0,none⟩=some (.int .i64 j0)∧wx.cell? ⟨tb,toff + j0 * 7 + 1,none⟩=some (.int .i8 y.kind)) (first | exact hsA | exact hsB | exact hsC) ((first | (go_at_call 108;refine (SD.op1 24 (u8 y.kind) HS2 (by omega)).mono ?_;rintro e wl2 ⟨rfl,S2,f⟩;have hsC:=hS _ _ S2)))
 have nc3_0:=S2.cell (.int .i8 39) 0 KN rfl
 go_wp2_with fail
 refine (S2.op0 23 HS3 (by omega)).mono ?_
 rintro e wl3 ⟨rfl,S3,f⟩
 go_wp2_with fail
 go_end0
 exact ⟨rfl,S3.k,F0.trans S3.f⟩
end
end Go.Proofs.YtmpcbaflcogmmaaGreatDoor
