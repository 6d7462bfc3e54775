/- Ref5 -/
import Derived.Test.YtmpcbaflcogmmaaGreatDoorRef8
namespace Go.Proofs.YtmpcbaflcogmmaaGreatDoor
open Go.RowKit
set_option linter.all false
set_option maxHeartbeats 3200000
set_option maxRecDepth 100000
section
variable {w0:World} {B kb:Nat} {tv iv xv:Value} {pi:Int→Option Int} {pt:ByteArray→Option Int} {ts:List Au} {rec:Nat→MS→MS} {i:Nat} {x:Au} (H0:G3 w0 B kb tv iv xv pi pt ts)
include H0
theorem SC (hgr:Do rec) (j0:Nat) (hkk:Am ts i=[j0]) (hr0:Bs 49 w0 B kb tv iv xv (rec j0) j0) (hxn:x.n=0):D6 114 w0 B kb tv iv xv ts (fun s=>Bi pt ts rec x (Am ts i) s) i x:=by
 intro s b w A n c base hb0 h0 ho0 hm
 obtain⟨wl0,HW,S0,HO,F0,KN⟩:=Eo x hb0 h0 ho0
 obtain⟨s1,HS1⟩:=exH (rec j0 s)
 have m1:s.ms≤s1.ms:=by rw [HS1.out];exact hgr _ _
 obtain⟨s2,HS2⟩:=exH (opE 40 [] s1)
 have m2:s2.ms=s1.ms + 1:=by rw [HS2.out,AL];try rfl
 have hF:(fun s=>Bi pt ts rec x (Am ts i) s) s=s2:=by
  rw [HS2.out,HS1.out]
  simp [Bi,hkk,hxn,Bw,CP]
 rw [hF] at hm ⊢
 clear hF
 rw [hxn] at HW KN
 obtain rfl:1=n:=by have:=ho0.1;rw [hkk] at this;simpa [AQ] using this
 obtain⟨_,_,g,rfl,hgw⟩:=By (k:=0) (j:=j0) ho0 (by rw [hkk];rfl)
 have hq0:(Am ts i)[0]? = some j0:=by rw [hkk];rfl
 obtain⟨HO0,HH,HKK,HR0⟩:=Hd4 ho0 H0 hkk hr0
 clear hkk hr0 hb0 h0 ho0
 go_in
 have p0_0:=S0.cell 0 KN
 have p0_2:=S0.cell 2 KN
 have kc0_0:=S0.kid HO hq0
 have kw:=Bo HO0.out hq0
 rw [HW.out] at kc0_0
 rw [HW.out] at p0_0
 rw [HW.out] at p0_2
 go_wp2_with fail
 try rw [← HW.out]
 refine (S0.node HR0 HS1 (by omega)).mono ?_
 rintro e wl1 ⟨rfl,b1,S1,jj⟩
 have p1_2:=S1.cell 2 KN
 go_wp2_with fail
 refine (S1.op0 40 HS2 (by omega)).mono ?_
 rintro e wl2 ⟨rfl,b2,S2,jj⟩
 go_wp2_with fail
 go_end0
 exact ⟨rfl,_,S2.k,S2.u,F0.trans S2.f⟩
theorem TN (hgr:Do rec) (j0:Nat) (hkk:Am ts i=[j0]) (hr0:Bs 49 w0 B kb tv iv xv (rec j0) j0) (hxn:x.n=2):D6 114 w0 B kb tv iv xv ts (fun s=>Bi pt ts rec x (Am ts i) s) i x:=by
 intro s b w A n c base hb0 h0 ho0 hm
 obtain⟨wl0,HW,S0,HO,F0,KN⟩:=Eo x hb0 h0 ho0
 obtain⟨s1,HS1⟩:=exH (rec j0 s)
 have m1:s.ms≤s1.ms:=by rw [HS1.out];exact hgr _ _
 obtain⟨s2,HS2⟩:=exH (opE 42 [] s1)
 have m2:s2.ms=s1.ms + 1:=by rw [HS2.out,AL];try rfl
 have hF:(fun s=>Bi pt ts rec x (Am ts i) s) s=s2:=by
  rw [HS2.out,HS1.out]
  simp [Bi,hkk,hxn,Bw,CP]
 rw [hF] at hm ⊢
 clear hF
 rw [hxn] at HW KN
 obtain rfl:1=n:=by have:=ho0.1;rw [hkk] at this;simpa [AQ] using this
 obtain⟨_,_,g,rfl,hgw⟩:=By (k:=0) (j:=j0) ho0 (by rw [hkk];rfl)
 have hq0:(Am ts i)[0]? = some j0:=by rw [hkk];rfl
 obtain⟨HO0,HH,HKK,HR0⟩:=Hd4 ho0 H0 hkk hr0
 clear hkk hr0 hb0 h0 ho0
 go_in
 have p0_0:=S0.cell 0 KN
 have p0_2:=S0.cell 2 KN
 have kc0_0:=S0.kid HO hq0
 have kw:=Bo HO0.out hq0
 rw [HW.out] at kc0_0
 rw [HW.out] at p0_0
 rw [HW.out] at p0_2
 go_wp2_with fail
 try rw [← HW.out]
 refine (S0.node HR0 HS1 (by omega)).mono ?_
 rintro e wl1 ⟨rfl,b1,S1,jj⟩
 have p1_2:=S1.cell 2 KN
 go_wp2_with fail
 refine (S1.op0 42 HS2 (by omega)).mono ?_
 rintro e wl2 ⟨rfl,b2,S2,jj⟩
 go_wp2_with fail
 go_end0
 exact ⟨rfl,_,S2.k,S2.u,F0.trans S2.f⟩
theorem Tq (hgr:Do rec) (j0:Nat) (hkk:Am ts i=[j0]) (hr0:Bs 49 w0 B kb tv iv xv (rec j0) j0) (hxn:x.n=3):D6 114 w0 B kb tv iv xv ts (fun s=>Bi pt ts rec x (Am ts i) s) i x:=by
 intro s b w A n c base hb0 h0 ho0 hm
 obtain⟨wl0,HW,S0,HO,F0,KN⟩:=Eo x hb0 h0 ho0
 obtain⟨s1,HS1⟩:=exH (rec j0 s)
 have m1:s.ms≤s1.ms:=by rw [HS1.out];exact hgr _ _
 obtain⟨s2,HS2⟩:=exH (opE 43 [] s1)
 have m2:s2.ms=s1.ms + 1:=by rw [HS2.out,AL];try rfl
 have hF:(fun s=>Bi pt ts rec x (Am ts i) s) s=s2:=by
  rw [HS2.out,HS1.out]
  simp [Bi,hkk,hxn,Bw,CP]
 rw [hF] at hm ⊢
 clear hF
 rw [hxn] at HW KN
 obtain rfl:1=n:=by have:=ho0.1;rw [hkk] at this;simpa [AQ] using this
 obtain⟨_,_,g,rfl,hgw⟩:=By (k:=0) (j:=j0) ho0 (by rw [hkk];rfl)
 have hq0:(Am ts i)[0]? = some j0:=by rw [hkk];rfl
 obtain⟨HO0,HH,HKK,HR0⟩:=Hd4 ho0 H0 hkk hr0
 clear hkk hr0 hb0 h0 ho0
 go_in
 have p0_0:=S0.cell 0 KN
 have p0_2:=S0.cell 2 KN
 have kc0_0:=S0.kid HO hq0
 have kw:=Bo HO0.out hq0
 rw [HW.out] at kc0_0
 rw [HW.out] at p0_0
 rw [HW.out] at p0_2
 go_wp2_with fail
 try rw [← HW.out]
 refine (S0.node HR0 HS1 (by omega)).mono ?_
 rintro e wl1 ⟨rfl,b1,S1,jj⟩
 have p1_2:=S1.cell 2 KN
 go_wp2_with fail
 refine (S1.op0 43 HS2 (by omega)).mono ?_
 rintro e wl2 ⟨rfl,b2,S2,jj⟩
 go_wp2_with fail
 go_end0
 exact ⟨rfl,_,S2.k,S2.u,F0.trans S2.f⟩
theorem Ui (hgr:Do rec) (j0:Nat) (hkk:Am ts i=[j0]) (hr0:Bs 49 w0 B kb tv iv xv (rec j0) j0) (hxn:x.n=6):D6 114 w0 B kb tv iv xv ts (fun s=>Bi pt ts rec x (Am ts i) s) i x:=by
 intro s b w A n c base hb0 h0 ho0 hm
 obtain⟨wl0,HW,S0,HO,F0,KN⟩:=Eo x hb0 h0 ho0
 obtain⟨s1,HS1⟩:=exH (rec j0 s)
 have m1:s.ms≤s1.ms:=by rw [HS1.out];exact hgr _ _
 obtain⟨s2,HS2⟩:=exH (opE 16 [] s1)
 have m2:s2.ms=s1.ms + 1:=by rw [HS2.out,AL];try rfl
 have hF:(fun s=>Bi pt ts rec x (Am ts i) s) s=s2:=by
  rw [HS2.out,HS1.out]
  simp [Bi,hkk,hxn,Bw,CP]
 rw [hF] at hm ⊢
 clear hF
 rw [hxn] at HW KN
 obtain rfl:1=n:=by have:=ho0.1;rw [hkk] at this;simpa [AQ] using this
 obtain⟨_,_,g,rfl,hgw⟩:=By (k:=0) (j:=j0) ho0 (by rw [hkk];rfl)
 have hq0:(Am ts i)[0]? = some j0:=by rw [hkk];rfl
 obtain⟨HO0,HH,HKK,HR0⟩:=Hd4 ho0 H0 hkk hr0
 clear hkk hr0 hb0 h0 ho0
 go_in
 have p0_0:=S0.cell 0 KN
 have p0_2:=S0.cell 2 KN
 have kc0_0:=S0.kid HO hq0
 have kw:=Bo HO0.out hq0
 rw [HW.out] at kc0_0
 rw [HW.out] at p0_0
 rw [HW.out] at p0_2
 go_wp2_with fail
 try rw [← HW.out]
 refine (S0.node HR0 HS1 (by omega)).mono ?_
 rintro e wl1 ⟨rfl,b1,S1,jj⟩
 have p1_2:=S1.cell 2 KN
 go_wp2_with fail
 refine (S1.op0 16 HS2 (by omega)).mono ?_
 rintro e wl2 ⟨rfl,b2,S2,jj⟩
 go_wp2_with fail
 go_end0
 exact ⟨rfl,_,S2.k,S2.u,F0.trans S2.f⟩
theorem ST (hgr:Do rec) (j0:Nat) (j1:Nat) (hkk:Am ts i=[j0,j1]) (hr0:Bs 49 w0 B kb tv iv xv (rec j0) j0) (hr1:Bs 49 w0 B kb tv iv xv (rec j1) j1) (hxn:x.n=4):D6 114 w0 B kb tv iv xv ts (fun s=>Bi pt ts rec x (Am ts i) s) i x:=by
 intro s b w A n c base hb0 h0 ho0 hm
 obtain⟨wl0,HW,S0,HO,F0,KN⟩:=Eo x hb0 h0 ho0
 obtain⟨s1,HS1⟩:=exH (rec j0 s)
 have m1:s.ms≤s1.ms:=by rw [HS1.out];exact hgr _ _
 obtain⟨s2,HS2⟩:=exH (rec j1 s1)
 have m2:s1.ms≤s2.ms:=by rw [HS2.out];exact hgr _ _
 obtain⟨s3,HS3⟩:=exH (opE 44 [] s2)
 have m3:s3.ms=s2.ms + 1:=by rw [HS3.out,AL];try rfl
 have hF:(fun s=>Bi pt ts rec x (Am ts i) s) s=s3:=by
  rw [HS3.out,HS2.out,HS1.out]
  simp [Bi,hkk,hxn,Bw,CP]
 rw [hF] at hm ⊢
 clear hF
 rw [hxn] at HW KN
 obtain rfl:2=n:=by have:=ho0.1;rw [hkk] at this;simpa [AQ] using this
 obtain⟨_,_,g,rfl,hgw⟩:=By (k:=0) (j:=j0) ho0 (by rw [hkk];rfl)
 have hq0:(Am ts i)[0]? = some j0:=by rw [hkk];rfl
 have hq1:(Am ts i)[1]? = some j1:=by rw [hkk];rfl
 obtain⟨HO0,HH,HKK,HR0,HR1⟩:=Hd5 ho0 H0 hkk hr0 hr1
 clear hkk hr0 hr1 hb0 h0 ho0
 go_in
 have p0_0:=S0.cell 0 KN
 have p0_2:=S0.cell 2 KN
 have kc0_0:=S0.kid HO hq0
 have kw:=Bo HO0.out hq0
 rw [HW.out] at kc0_0
 rw [HW.out] at p0_0
 rw [HW.out] at p0_2
 go_wp2_with fail
 try rw [← HW.out]
 refine (S0.node HR0 HS1 (by omega)).mono ?_
 rintro e wl1 ⟨rfl,b1,S1,jj⟩
 have p1_2:=S1.cell 2 KN
 have kc1_1:=S1.kid HO hq1
 go_wp2_with fail
 refine (S1.node HR1 HS2 (by omega)).mono ?_
 rintro e wl2 ⟨rfl,b2,S2,jj⟩
 go_wp2_with fail
 refine (S2.op0 44 HS3 (by omega)).mono ?_
 rintro e wl3 ⟨rfl,b3,S3,jj⟩
 go_wp2_with fail
 go_end0
 exact ⟨rfl,_,S3.k,S3.u,F0.trans S3.f⟩
theorem Tg (hgr:Do rec) (j0:Nat) (j1:Nat) (hkk:Am ts i=[j0,j1]) (hr0:Bs 49 w0 B kb tv iv xv (rec j0) j0) (hr1:Bs 49 w0 B kb tv iv xv (rec j1) j1) (hxn:x.n=7):D6 114 w0 B kb tv iv xv ts (fun s=>Bi pt ts rec x (Am ts i) s) i x:=by
 intro s b w A n c base hb0 h0 ho0 hm
 obtain⟨wl0,HW,S0,HO,F0,KN⟩:=Eo x hb0 h0 ho0
 obtain⟨s1,HS1⟩:=exH (rec j0 s)
 have m1:s.ms≤s1.ms:=by rw [HS1.out];exact hgr _ _
 obtain⟨s2,HS2⟩:=exH (rec j1 s1)
 have m2:s1.ms≤s2.ms:=by rw [HS2.out];exact hgr _ _
 obtain⟨s3,HS3⟩:=exH (opE 17 [] s2)
 have m3:s3.ms=s2.ms + 1:=by rw [HS3.out,AL];try rfl
 have hF:(fun s=>Bi pt ts rec x (Am ts i) s) s=s3:=by
  rw [HS3.out,HS2.out,HS1.out]
  simp [Bi,hkk,hxn,Bw,CP]
 rw [hF] at hm ⊢
 clear hF
 rw [hxn] at HW KN
 obtain rfl:2=n:=by have:=ho0.1;rw [hkk] at this;simpa [AQ] using this
 obtain⟨_,_,g,rfl,hgw⟩:=By (k:=0) (j:=j0) ho0 (by rw [hkk];rfl)
 have hq0:(Am ts i)[0]? = some j0:=by rw [hkk];rfl
 have hq1:(Am ts i)[1]? = some j1:=by rw [hkk];rfl
 obtain⟨HO0,HH,HKK,HR0,HR1⟩:=Hd5 ho0 H0 hkk hr0 hr1
 clear hkk hr0 hr1 hb0 h0 ho0
 go_in
 have p0_0:=S0.cell 0 KN
 have p0_2:=S0.cell 2 KN
 have kc0_0:=S0.kid HO hq0
 have kw:=Bo HO0.out hq0
 rw [HW.out] at kc0_0
 rw [HW.out] at p0_0
 rw [HW.out] at p0_2
 go_wp2_with fail
 try rw [← HW.out]
 refine (S0.node HR0 HS1 (by omega)).mono ?_
 rintro e wl1 ⟨rfl,b1,S1,jj⟩
 have p1_2:=S1.cell 2 KN
 have kc1_1:=S1.kid HO hq1
 go_wp2_with fail
 refine (S1.node HR1 HS2 (by omega)).mono ?_
 rintro e wl2 ⟨rfl,b2,S2,jj⟩
 go_wp2_with fail
 refine (S2.op0 17 HS3 (by omega)).mono ?_
 rintro e wl3 ⟨rfl,b3,S3,jj⟩
 go_wp2_with fail
 go_end0
 exact ⟨rfl,_,S3.k,S3.u,F0.trans S3.f⟩
theorem TL (hgr:Do rec) (j0:Nat) (j1:Nat) (hkk:Am ts i=[j0,j1]) (hr0:Bs 49 w0 B kb tv iv xv (rec j0) j0) (hr1:Bs 49 w0 B kb tv iv xv (rec j1) j1) (hxn:x.n=8):D6 114 w0 B kb tv iv xv ts (fun s=>Bi pt ts rec x (Am ts i) s) i x:=by
 intro s b w A n c base hb0 h0 ho0 hm
 obtain⟨wl0,HW,S0,HO,F0,KN⟩:=Eo x hb0 h0 ho0
 obtain⟨s1,HS1⟩:=exH (rec j0 s)
 have m1:s.ms≤s1.ms:=by rw [HS1.out];exact hgr _ _
 obtain⟨s2,HS2⟩:=exH (rec j1 s1)
 have m2:s1.ms≤s2.ms:=by rw [HS2.out];exact hgr _ _
 obtain⟨s3,HS3⟩:=exH (opE 18 [] s2)
 have m3:s3.ms=s2.ms + 1:=by rw [HS3.out,AL];try rfl
 have hF:(fun s=>Bi pt ts rec x (Am ts i) s) s=s3:=by
  rw [HS3.out,HS2.out,HS1.out]
  simp [Bi,hkk,hxn,Bw,CP]
 rw [hF] at hm ⊢
 clear hF
 rw [hxn] at HW KN
 obtain rfl:2=n:=by have:=ho0.1;rw [hkk] at this;simpa [AQ] using this
 obtain⟨_,_,g,rfl,hgw⟩:=By (k:=0) (j:=j0) ho0 (by rw [hkk];rfl)
 have hq0:(Am ts i)[0]? = some j0:=by rw [hkk];rfl
 have hq1:(Am ts i)[1]? = some j1:=by rw [hkk];rfl
 obtain⟨HO0,HH,HKK,HR0,HR1⟩:=Hd5 ho0 H0 hkk hr0 hr1
 clear hkk hr0 hr1 hb0 h0 ho0
 go_in
 have p0_0:=S0.cell 0 KN
 have p0_2:=S0.cell 2 KN
 have kc0_0:=S0.kid HO hq0
 have kw:=Bo HO0.out hq0
 rw [HW.out] at kc0_0
 rw [HW.out] at p0_0
 rw [HW.out] at p0_2
 go_wp2_with fail
 try rw [← HW.out]
 refine (S0.node HR0 HS1 (by omega)).mono ?_
 rintro e wl1 ⟨rfl,b1,S1,jj⟩
 have p1_2:=S1.cell 2 KN
 have kc1_1:=S1.kid HO hq1
 go_wp2_with fail
 refine (S1.node HR1 HS2 (by omega)).mono ?_
 rintro e wl2 ⟨rfl,b2,S2,jj⟩
 go_wp2_with fail
 refine (S2.op0 18 HS3 (by omega)).mono ?_
 rintro e wl3 ⟨rfl,b3,S3,jj⟩
 go_wp2_with fail
 go_end0
 exact ⟨rfl,_,S3.k,S3.u,F0.trans S3.f⟩
theorem T5 (hgr:Do rec) (j0:Nat) (j1:Nat) (hkk:Am ts i=[j0,j1]) (hr0:Bs 49 w0 B kb tv iv xv (rec j0) j0) (hxn:x.n=1) (y:Au) (hy:ts[j1]? = some y):D6 114 w0 B kb tv iv xv ts (fun s=>Bi pt ts rec x (Am ts i) s) i x:=by
 intro s b w A n c base hb0 h0 ho0 hm
 obtain⟨wl0,HW,S0,HO,F0,KN⟩:=Eo x hb0 h0 ho0
 obtain⟨s1,HS1⟩:=exH (rec j0 s)
 have m1:s.ms≤s1.ms:=by rw [HS1.out];exact hgr _ _
 obtain⟨s2,HS2⟩:=exH (opE 41 [u8 y.n] s1)
 have m2:s2.ms=s1.ms + 2:=by rw [HS2.out,AL];try rfl
 have hF:(fun s=>Bi pt ts rec x (Am ts i) s) s=s2:=by
  rw [HS2.out,HS1.out]
  simp [Bi,hkk,hxn,hy]
 rw [hF] at hm ⊢
 clear hF
 rw [hxn] at HW KN
 obtain rfl:2=n:=by have:=ho0.1;rw [hkk] at this;simpa [AQ] using this
 obtain⟨_,_,g,rfl,hgw⟩:=By (k:=0) (j:=j0) ho0 (by rw [hkk];rfl)
 have hq0:(Am ts i)[0]? = some j0:=by rw [hkk];rfl
 have hq1:(Am ts i)[1]? = some j1:=by rw [hkk];rfl
 have hjl:=(List.getElem?_eq_some_iff.1 hy).1
 have hji:(j1:Int) < ts.length:=by omega
 have HY:=Lh hy
 clear hy
 obtain⟨HO0,HH,HKK,HR0⟩:=Hd4 ho0 H0 hkk hr0
 clear hkk hr0 hb0 h0 ho0
 go_in
 have p0_0:=S0.cell 0 KN
 have p0_2:=S0.cell 2 KN
 have kc0_0:=S0.kid HO hq0
 have kw:=Bo HO0.out hq0
 rw [HW.out] at kc0_0
 rw [HW.out] at p0_0
 rw [HW.out] at p0_2
 go_wp2_with fail
 try rw [← HW.out]
 refine (S0.node HR0 HS1 (by omega)).mono ?_
 rintro e wl1 ⟨rfl,b1,S1,jj⟩
 have p1_2:=S1.cell 2 KN
 go_wp2_with fail
 obtain⟨tb,toff,cap,htv,htb,hn0⟩:=HH.out.tree
 have hS:∀ (wx:World) (sx:MS) (bx:List Int),StR w0 wl0 B kb tv iv xv s b sx bx wx→(wx.cell? ⟨kb,0,none⟩=some (.slice (some ⟨tb,toff,none⟩) ts.length cap)∧wx.cell? ⟨g,1,none⟩=some (.int .i64 j1)∧wx.cell? ⟨tb,toff + j1 * 7 + 2,none⟩=some (.int .i64 y.n)):=
  fun wx sx bx h=>⟨by have:=h.k.mem.cells.1;rw [htv] at this;exact this,h.kid HO hq1,((hn0.below h.low htb).all HY.out).2.2.1⟩
 have HSX:=Lh hS
 clear hS htv hn0
 have SD:StR w0 wl0 B kb tv iv xv s b s1 b1 wl1.drew:=S1.step S1.k.drew (JUp.refl _ _) (Frm.refl _ _ _).drew
 have hsA:=HSX.out _ _ _ SD
 have hsB:=HSX.out _ _ _ (SD.step (SD.k.alloc (.cells #[.int .i64 y.n] 3)) (JUp.refl _ _) ((Frm.refl _ _ _).alloc (by have:=SD.k.size;omega) _))
 go_region_held3 (fun wx=>wx.cell? ⟨kb,0,none⟩=some (.slice (some ⟨tb,toff,none⟩) ts.length cap)∧wx.cell? ⟨g,1,none⟩=some (.int .i64 j1)∧wx.cell? ⟨tb,toff + j1 * 7 + 2,none⟩=some (.int .i64 y.n)) (first | exact hsA | exact hsB | exact hsC) ((first | (go_at_call 54;refine (SD.op1 41 y.n HS2 (by omega)).mono ?_;rintro e wl2 ⟨rfl,b2,S2,jj⟩;have hsC:=HSX.out _ _ _ S2)))
 clear hsA hsC HSX SD hsB
 go_wp2_with fail
 go_end0
 exact ⟨rfl,_,S2.k,S2.u,F0.trans S2.f⟩
theorem Tm (hgr:Do rec) (j0:Nat) (j1:Nat) (hkk:Am ts i=[j0,j1]) (hr0:Bs 49 w0 B kb tv iv xv (rec j0) j0) (hxn:x.n=5) (y:Au) (hy:ts[j1]? = some y):D6 114 w0 B kb tv iv xv ts (fun s=>Bi pt ts rec x (Am ts i) s) i x:=by
 intro s b w A n c base hb0 h0 ho0 hm
 obtain⟨wl0,HW,S0,HO,F0,KN⟩:=Eo x hb0 h0 ho0
 obtain⟨s1,HS1⟩:=exH (rec j0 s)
 have m1:s.ms≤s1.ms:=by rw [HS1.out];exact hgr _ _
 obtain⟨s2,HS2⟩:=exH (opE 45 [] s1)
 have m2:s2.ms=s1.ms + 1:=by rw [HS2.out,AL];try rfl
 obtain⟨s3,HS3⟩:=exH (ID (pt y.text) s2)
 have m3:s3.ms=s2.ms + 2:=by rw [HS3.out,TS];try rfl
 have hF:(fun s=>Bi pt ts rec x (Am ts i) s) s=s3:=by
  rw [HS3.out,HS2.out,HS1.out]
  simp [Bi,hkk,hxn,hy,Ru]
 rw [hF] at hm ⊢
 clear hF
 rw [hxn] at HW KN
 obtain rfl:2=n:=by have:=ho0.1;rw [hkk] at this;simpa [AQ] using this
 obtain⟨_,_,g,rfl,hgw⟩:=By (k:=0) (j:=j0) ho0 (by rw [hkk];rfl)
 have hq0:(Am ts i)[0]? = some j0:=by rw [hkk];rfl
 have hq1:(Am ts i)[1]? = some j1:=by rw [hkk];rfl
 have hjl:=(List.getElem?_eq_some_iff.1 hy).1
 have hji:(j1:Int) < ts.length:=by omega
 have HY:=Lh hy
 clear hy
 obtain⟨HO0,HH,HKK,HR0⟩:=Hd4 ho0 H0 hkk hr0
 clear hkk hr0 hb0 h0 ho0
 go_in
 have p0_0:=S0.cell 0 KN
 have p0_2:=S0.cell 2 KN
 have kc0_0:=S0.kid HO hq0
 have kw:=Bo HO0.out hq0
 rw [HW.out] at kc0_0
 rw [HW.out] at p0_0
 rw [HW.out] at p0_2
 go_wp2_with fail
 try rw [← HW.out]
 refine (S0.node HR0 HS1 (by omega)).mono ?_
 rintro e wl1 ⟨rfl,b1,S1,jj⟩
 have p1_2:=S1.cell 2 KN
 go_wp2_with fail
 refine (S1.op0 45 HS2 (by omega)).mono ?_
 rintro e wl2 ⟨rfl,b2,S2,jj⟩
 go_wp2_with fail
 obtain⟨tb,toff,cap,htv,htb,hn0⟩:=HH.out.tree
 have hS:∀ (wx:World) (sx:MS) (bx:List Int),StR w0 wl0 B kb tv iv xv s b sx bx wx→(wx.cell? ⟨kb,0,none⟩=some (.slice (some ⟨tb,toff,none⟩) ts.length cap)∧wx.cell? ⟨g,1,none⟩=some (.int .i64 j1)∧wx.cell? ⟨tb,toff + j1 * 7 + 4,none⟩=some (.string y.text)):=
  fun wx sx bx h=>⟨by have:=h.k.mem.cells.1;rw [htv] at this;exact this,h.kid HO hq1,((hn0.below h.low htb).all HY.out).2.2.2.2.1⟩
 have HSX:=Lh hS
 clear hS htv hn0
 have SD:StR w0 wl0 B kb tv iv xv s b s2 b2 wl2.drew:=S2.step S2.k.drew (JUp.refl _ _) (Frm.refl _ _ _).drew
 have hsA:=HSX.out _ _ _ SD
 go_region_held3 (fun wx=>wx.cell? ⟨kb,0,none⟩=some (.slice (some ⟨tb,toff,none⟩) ts.length cap)∧wx.cell? ⟨g,1,none⟩=some (.int .i64 j1)∧wx.cell? ⟨tb,toff + j1 * 7 + 4,none⟩=some (.string y.text)) (first | exact hsA | exact hsC) ((first | (go_at_call 170;refine (HH.out.text y.text _ _ _ SD.low SD.k (by omega)).mono ?_;rintro e wl3 rr;rw [← HS3.out] at rr;obtain⟨rfl,b3,S3,jj⟩:=SD.of_rp rr;have hsC:=HSX.out _ _ _ S3)))
 clear hsA hsC HSX SD
 go_wp2_with fail
 go_end0
 exact ⟨rfl,_,S3.k,S3.u,F0.trans S3.f⟩
end
end Go.Proofs.YtmpcbaflcogmmaaGreatDoor
