/- Ref9 -/
import Derived.Test.YtmpcbaflcogmmaaGreatDoorRef8
namespace Go.Proofs.YtmpcbaflcogmmaaGreatDoor
open Go.RowKit
set_option linter.all false
set_option maxHeartbeats 3200000
set_option maxRecDepth 100000
section
variable {w0:World} {B kb:Nat} {tv iv xv:Value} {pi:Int→Option Int} {pt:ByteArray→Option Int} {ts:List Au} {rec:Nat→MS→MS} {i:Nat} {x:Au} (H0:G3 w0 B kb tv iv xv pi pt ts)
include H0
variable (hx:ts[i]? = some x) (hbe:0≤Ap ts i)
include hx hbe
theorem TU (hgr:Do rec) (hkl:(Am ts i).length≤100000) (hr:∀ j∈Am ts i,Bs 51 w0 B kb tv iv xv (rec j) j) (hop:x.op=10):Bs 51 w0 B kb tv iv xv (fun s=>Bw rec (Am ts i) s) i:=by
 intro s b w hb0 h0 hm
 obtain⟨tb,toff,cap,w1,HW,hiI,hks,hc0,h1c,⟨c0,c1,c2,c3,c4,c5,c6⟩,HKI⟩:=Dj H0 hx hbe hb0 h0
 obtain⟨s1,HS1⟩:=exH (Bw rec (Am ts i) s)
 have m1:s.ms≤s1.ms:=by rw [HS1.out];exact Cy hgr _ _
 have hF:(fun s=>Bw rec (Am ts i) s) s=s1:=by
  rw [HS1.out]
 rw [hF] at hm ⊢
 clear hF
 rw [hop] at HW c0 h1c
 obtain⟨HH,HR,HGR,HKL⟩:=Hd4 H0 hr hgr hkl
 clear hr hgr hkl hb0 h0
 go_in
 go_wp2_with fail
 rw [← HW.out]
 refine HKI.out.mono ?_
 rintro e wl0 ⟨A,c,rfl,HO,KN,S0,F0⟩
 rw [hop] at KN
 obtain⟨n,hn⟩:∃ n,(Am ts i).length=n:=⟨_,rfl⟩
 have hn9:n≤100000:=by have:=HKL.out;omega
 rw [hn] at HO ⊢
 have HN:=Lh hn
 clear hn c0 c1 c2 c3 c4 c5 c6 h1c hc0 hks
 have p0_0:=S0.cell 0 KN
 have p0_2:=S0.cell 2 KN
 go_wp2_with fail
 go_loopw [6] (fun iv2 wr=>∃ (k:Nat) (s2:MS) (b2:List Int),k≤n∧iv2=.int .i64 k∧Hid (s1=Bw rec ((Am ts i).drop k) s2)∧StR w0 wl0 B kb tv iv xv s b s2 b2 wr) (fun iv2 _=>n - (intOf iv2).toNat)
 case atStart=>exact ⟨0,s,b,by omega,rfl,HS1,S0⟩
 case round =>
  obtain⟨kk,s9,b9,hkn2,rfl,HRk,S9⟩:=hrel
  by_cases hlt:kk < n
  ·obtain⟨j,hj⟩:∃ j,(Am ts i)[kk]? = some j:=⟨_,List.getElem?_eq_getElem (by rw [HN.out];exact hlt)⟩
   obtain⟨_,_,gk,rfl,_⟩:=By HO.out hj
   have hcj:=S9.kid HO hj
   have HSS:Hid (s1=Bw rec ((Am ts i).drop (kk + 1)) (rec j s9)):=EM HRk hj
   have hmj:(rec j s9).ms≤1000000:=by have h1:=Cy HGR.out ((Am ts i).drop (kk + 1)) (rec j s9);rw [← HSS.out] at h1;omega
   have HC:=S9.node (HR.out j (List.mem_of_getElem? hj)) rfl hmj
   have hkI:(kk:Int) < n:=by omega
   have HC2:=Lh HC
   clear hj hmj HC
   go_wp2_with fail
   refine HC2.out.mono ?_
   rintro e w2 ⟨rfl,b3,S8,_⟩
   go_wp2_with fail
   go_roundw
   case rel=>exact ⟨kk + 1,rec j s9,b3,by omega,by go_num,HSS,S8⟩
   case measure=>(simp [intOf];try omega)
  ·have hfin:Hid (s9=s1):=EP HRk (by rw [HN.out];omega)
   have S1:StR w0 wl0 B kb tv iv xv s b s1 b9 wr:=hfin.out▸S9
   clear S9 hfin
   go_wp2_with fail
   go_end0
   exact ⟨rfl,_,S1.k,S1.u,F0.trans S1.f⟩
theorem Vb (hgr:Do rec) (j0:Nat) (hkk:Am ts i=[j0]) (hr0:Bs 49 w0 B kb tv iv xv (rec j0) j0) (hop:x.op=11):Bs 51 w0 B kb tv iv xv (fun s=>opE 5 [u8 x.n] (Bw rec (Am ts i) s)) i:=by
 intro s b w hb0 h0 hm
 obtain⟨tb,toff,cap,w1,HW,hiI,hks,hc0,h1c,⟨c0,c1,c2,c3,c4,c5,c6⟩,HKI⟩:=Dj H0 hx hbe hb0 h0
 obtain⟨s1,HS1⟩:=exH (rec j0 s)
 have m1:s.ms≤s1.ms:=by rw [HS1.out];exact hgr _ _
 obtain⟨s2,HS2⟩:=exH (opE 5 [u8 x.n] s1)
 have m2:s2.ms=s1.ms + 2:=by rw [HS2.out,AL];try rfl
 have hF:(fun s=>opE 5 [u8 x.n] (Bw rec (Am ts i) s)) s=s2:=by
  rw [HS2.out,HS1.out]
  simp [hkk,Bw]
 rw [hF] at hm ⊢
 clear hF
 rw [hop] at HW c0 h1c
 have hq0:(Am ts i)[0]? = some j0:=by rw [hkk];rfl
 obtain⟨HH,HKK,HR0⟩:=Hd3 H0 hkk hr0
 clear hkk hr0 hb0 h0
 go_in
 go_wp2_with fail
 rw [← HW.out]
 refine HKI.out.mono ?_
 rintro e wl0 ⟨A,c,rfl,HO,KN,S0,F0⟩
 rw [hop] at KN
 have hn:(Am ts i).length=1:=by rw [HKK.out];rfl
 rw [hn] at HO ⊢
 obtain⟨_,_,g,rfl,_⟩:=By (k:=0) (j:=j0) HO.out hq0
 have HN:=Lh hn
 clear hn c0 c1 c2 c3 c4 c5 c6 h1c hc0 hks
 have p0_0:=S0.cell 0 KN
 have p0_2:=S0.cell 2 KN
 have kc0_0:=S0.kid HO hq0
 go_wp2_with fail
 refine (S0.node HR0 HS1 (by omega)).mono ?_
 rintro e wl1 ⟨rfl,b1,S1,jj⟩
 have p1_2:=S1.cell 2 KN
 go_wp2_with fail
 refine (S1.op1 5 x.n HS2 (by omega)).mono ?_
 rintro e wl2 ⟨rfl,b2,S2,jj⟩
 go_wp2_with fail
 go_end0
 exact ⟨rfl,_,S2.k,S2.u,F0.trans S2.f⟩
theorem UU (hgr:Do rec) (j0:Nat) (hkk:Am ts i=[j0]) (hr0:Bs 49 w0 B kb tv iv xv (rec j0) j0) (hop:x.op=12):Bs 51 w0 B kb tv iv xv (fun s=>opE 5 [u8 x.n] (Bw rec (Am ts i) s)) i:=by
 intro s b w hb0 h0 hm
 obtain⟨tb,toff,cap,w1,HW,hiI,hks,hc0,h1c,⟨c0,c1,c2,c3,c4,c5,c6⟩,HKI⟩:=Dj H0 hx hbe hb0 h0
 obtain⟨s1,HS1⟩:=exH (rec j0 s)
 have m1:s.ms≤s1.ms:=by rw [HS1.out];exact hgr _ _
 obtain⟨s2,HS2⟩:=exH (opE 5 [u8 x.n] s1)
 have m2:s2.ms=s1.ms + 2:=by rw [HS2.out,AL];try rfl
 have hF:(fun s=>opE 5 [u8 x.n] (Bw rec (Am ts i) s)) s=s2:=by
  rw [HS2.out,HS1.out]
  simp [hkk,Bw]
 rw [hF] at hm ⊢
 clear hF
 rw [hop] at HW c0 h1c
 have hq0:(Am ts i)[0]? = some j0:=by rw [hkk];rfl
 obtain⟨HH,HKK,HR0⟩:=Hd3 H0 hkk hr0
 clear hkk hr0 hb0 h0
 go_in
 go_wp2_with fail
 rw [← HW.out]
 refine HKI.out.mono ?_
 rintro e wl0 ⟨A,c,rfl,HO,KN,S0,F0⟩
 rw [hop] at KN
 have hn:(Am ts i).length=1:=by rw [HKK.out];rfl
 rw [hn] at HO ⊢
 obtain⟨_,_,g,rfl,_⟩:=By (k:=0) (j:=j0) HO.out hq0
 have HN:=Lh hn
 clear hn c0 c1 c2 c3 c4 c5 c6 h1c hc0 hks
 have p0_0:=S0.cell 0 KN
 have p0_2:=S0.cell 2 KN
 have kc0_0:=S0.kid HO hq0
 go_wp2_with fail
 refine (S0.node HR0 HS1 (by omega)).mono ?_
 rintro e wl1 ⟨rfl,b1,S1,jj⟩
 have p1_2:=S1.cell 2 KN
 go_wp2_with fail
 refine (S1.op1 5 x.n HS2 (by omega)).mono ?_
 rintro e wl2 ⟨rfl,b2,S2,jj⟩
 go_wp2_with fail
 go_end0
 exact ⟨rfl,_,S2.k,S2.u,F0.trans S2.f⟩
theorem U0 (hop:x.op=17):Bs 51 w0 B kb tv iv xv (fun s=>opE 34 [] s) i:=by
 intro s b w hb0 h0 hm
 obtain⟨tb,toff,cap,w1,HW,hiI,hks,hc0,h1c,⟨c0,c1,c2,c3,c4,c5,c6⟩,HKI⟩:=Dj H0 hx hbe hb0 h0
 obtain⟨s1,HS1⟩:=exH (opE 34 [] s)
 have m1:s1.ms=s.ms + 1:=by rw [HS1.out,AL];try rfl
 have hF:(fun s=>opE 34 [] s) s=s1:=by
  rw [HS1.out]
 rw [hF] at hm ⊢
 clear hF
 rw [hop] at HW c0 h1c
 have HH:=Lh H0
 clear hb0 h0
 go_in
 go_wp2_with fail
 rw [← HW.out]
 refine HKI.out.mono ?_
 rintro e wl0 ⟨A,c,rfl,HO,KN,S0,F0⟩
 rw [hop] at KN
 obtain⟨n,hn⟩:∃ n,(Am ts i).length=n:=⟨_,rfl⟩
 rw [hn] at HO ⊢
 have HN:=Lh hn
 clear hn c0 c1 c2 c3 c4 c5 c6 h1c hc0 hks
 have p0_0:=S0.cell 0 KN
 have p0_2:=S0.cell 2 KN
 go_wp2_with fail
 refine (S0.op0 34 HS1 (by omega)).mono ?_
 rintro e wl1 ⟨rfl,b1,S1,jj⟩
 go_wp2_with fail
 go_end0
 exact ⟨rfl,_,S1.k,S1.u,F0.trans S1.f⟩
theorem SW (hop:x.op=18):Bs 51 w0 B kb tv iv xv (fun s=>opE 35 [] s) i:=by
 intro s b w hb0 h0 hm
 obtain⟨tb,toff,cap,w1,HW,hiI,hks,hc0,h1c,⟨c0,c1,c2,c3,c4,c5,c6⟩,HKI⟩:=Dj H0 hx hbe hb0 h0
 obtain⟨s1,HS1⟩:=exH (opE 35 [] s)
 have m1:s1.ms=s.ms + 1:=by rw [HS1.out,AL];try rfl
 have hF:(fun s=>opE 35 [] s) s=s1:=by
  rw [HS1.out]
 rw [hF] at hm ⊢
 clear hF
 rw [hop] at HW c0 h1c
 have HH:=Lh H0
 clear hb0 h0
 go_in
 go_wp2_with fail
 rw [← HW.out]
 refine HKI.out.mono ?_
 rintro e wl0 ⟨A,c,rfl,HO,KN,S0,F0⟩
 rw [hop] at KN
 obtain⟨n,hn⟩:∃ n,(Am ts i).length=n:=⟨_,rfl⟩
 rw [hn] at HO ⊢
 have HN:=Lh hn
 clear hn c0 c1 c2 c3 c4 c5 c6 h1c hc0 hks
 have p0_0:=S0.cell 0 KN
 have p0_2:=S0.cell 2 KN
 go_wp2_with fail
 refine (S0.op0 35 HS1 (by omega)).mono ?_
 rintro e wl1 ⟨rfl,b1,S1,jj⟩
 go_wp2_with fail
 go_end0
 exact ⟨rfl,_,S1.k,S1.u,F0.trans S1.f⟩
theorem UN (hgr:Do rec) (hop:x.op=13) (j0:Nat) (hq0:(Am ts i)[0]? = some j0) (hr0:Bs 49 w0 B kb tv iv xv (rec j0) j0) (G:Nat→MS→MS) (hG:Oe w0 B kb tv iv xv ts G i) (hGg:∀ p s,s.ms≤(G p s).ms):Bs 51 w0 B kb tv iv xv (fun s=>G (AI 31 [] (rec j0 s)).at_ (AI 31 [] (rec j0 s))) i:=by
 intro s b w hb0 h0 hm
 obtain⟨tb,toff,cap,w1,HW,hiI,hks,hc0,h1c,⟨c0,c1,c2,c3,c4,c5,c6⟩,HKI⟩:=Dj H0 hx hbe hb0 h0
 obtain⟨s1,HS1⟩:=exH (rec j0 s)
 have m1:s.ms≤s1.ms:=by rw [HS1.out];exact hgr _ _
 obtain⟨s2,HS2⟩:=exH (AI 31 [] s1)
 have m2:s2.ms=s1.ms + 3:=by rw [HS2.out,Bk];try rfl
 obtain⟨s3,HS3⟩:=exH (G s2.at_ s2)
 have m3:s2.ms≤s3.ms:=by rw [HS3.out];exact hGg _ _
 have hF:(fun s=>G (AI 31 [] (rec j0 s)).at_ (AI 31 [] (rec j0 s))) s=s3:=by
  rw [HS3.out,HS2.out,HS1.out]
 rw [hF] at hm ⊢
 clear hF
 rw [hop] at HW c0 h1c
 obtain⟨HH,HR0,HG⟩:=Hd3 H0 hr0 hG
 clear hr0 hG hb0 h0 hGg
 go_in
 go_wp2_with fail
 rw [← HW.out]
 refine HKI.out.mono ?_
 rintro e wl0 ⟨A,c,rfl,HO,KN,S0,F0⟩
 rw [hop] at KN
 obtain⟨n,hn⟩:∃ n,(Am ts i).length=n:=⟨_,rfl⟩
 rw [hn] at HO ⊢
 obtain⟨_,_,g,rfl,_⟩:=By (k:=0) (j:=j0) HO.out hq0
 have HN:=Lh hn
 clear hn c0 c1 c2 c3 c4 c5 c6 h1c hc0 hks
 have p0_0:=S0.cell 0 KN
 have p0_2:=S0.cell 2 KN
 have kc0_0:=S0.kid HO hq0
 go_wp2_with fail
 refine (S0.node HR0 HS1 (by omega)).mono ?_
 rintro e wl1 ⟨rfl,b1,S1,jj⟩
 go_wp2_with fail
 refine (S1.jump 31 HS2 (by omega)).mono ?_
 rintro e wl2 ⟨q2,b2,rfl,S2,jj,JM2⟩
 go_wp2_with fail
 refine (S2.fork HG JM2 HO HS3 (by omega)).mono ?_
 rintro e wl3 ⟨rfl,b3,S3,jj⟩
 replace JM2:=Jmp.upH JM2 jj
 go_wp2_with fail
 go_end0
 exact ⟨rfl,_,S3.k,S3.u,F0.trans S3.f⟩
theorem MM (hgr:Do rec) (hop:x.op=16) (j0:Nat) (hq0:(Am ts i)[0]? = some j0) (hr0:Bs 49 w0 B kb tv iv xv (rec j0) j0) (G:Nat→MS→MS) (hG:Oe w0 B kb tv iv xv ts G i) (hGg:∀ p s,s.ms≤(G p s).ms):Bs 51 w0 B kb tv iv xv (fun s=>G (AI 33 [] (rec j0 s)).at_ (opE 5 [u8 x.n] (AI 33 [] (rec j0 s)))) i:=by
 intro s b w hb0 h0 hm
 obtain⟨tb,toff,cap,w1,HW,hiI,hks,hc0,h1c,⟨c0,c1,c2,c3,c4,c5,c6⟩,HKI⟩:=Dj H0 hx hbe hb0 h0
 obtain⟨s1,HS1⟩:=exH (rec j0 s)
 have m1:s.ms≤s1.ms:=by rw [HS1.out];exact hgr _ _
 obtain⟨s2,HS2⟩:=exH (AI 33 [] s1)
 have m2:s2.ms=s1.ms + 3:=by rw [HS2.out,Bk];try rfl
 obtain⟨s3,HS3⟩:=exH (opE 5 [u8 x.n] s2)
 have m3:s3.ms=s2.ms + 2:=by rw [HS3.out,AL];try rfl
 obtain⟨s4,HS4⟩:=exH (G s2.at_ s3)
 have m4:s3.ms≤s4.ms:=by rw [HS4.out];exact hGg _ _
 have hF:(fun s=>G (AI 33 [] (rec j0 s)).at_ (opE 5 [u8 x.n] (AI 33 [] (rec j0 s)))) s=s4:=by
  rw [HS4.out,HS3.out,HS2.out,HS1.out]
 rw [hF] at hm ⊢
 clear hF
 rw [hop] at HW c0 h1c
 obtain⟨HH,HR0,HG⟩:=Hd3 H0 hr0 hG
 clear hr0 hG hb0 h0 hGg
 go_in
 go_wp2_with fail
 rw [← HW.out]
 refine HKI.out.mono ?_
 rintro e wl0 ⟨A,c,rfl,HO,KN,S0,F0⟩
 rw [hop] at KN
 obtain⟨n,hn⟩:∃ n,(Am ts i).length=n:=⟨_,rfl⟩
 rw [hn] at HO ⊢
 obtain⟨_,_,g,rfl,_⟩:=By (k:=0) (j:=j0) HO.out hq0
 have HN:=Lh hn
 clear hn c0 c1 c2 c3 c4 c5 c6 h1c hc0 hks
 have p0_0:=S0.cell 0 KN
 have p0_2:=S0.cell 2 KN
 have kc0_0:=S0.kid HO hq0
 go_wp2_with fail
 refine (S0.node HR0 HS1 (by omega)).mono ?_
 rintro e wl1 ⟨rfl,b1,S1,jj⟩
 go_wp2_with fail
 refine (S1.jump 33 HS2 (by omega)).mono ?_
 rintro e wl2 ⟨q2,b2,rfl,S2,jj,JM2⟩
 have p2_2:=S2.cell 2 KN
 go_wp2_with fail
 refine (S2.op1 5 x.n HS3 (by omega)).mono ?_
 rintro e wl3 ⟨rfl,b3,S3,jj⟩
 replace JM2:=Jmp.upH JM2 jj
 go_wp2_with fail
 refine (S3.fork HG JM2 HO HS4 (by omega)).mono ?_
 rintro e wl4 ⟨rfl,b4,S4,jj⟩
 replace JM2:=Jmp.upH JM2 jj
 go_wp2_with fail
 go_end0
 exact ⟨rfl,_,S4.k,S4.u,F0.trans S4.f⟩
theorem Om (hop:x.op=14) (G:MS→MS) (hG:D6 119 w0 B kb tv iv xv ts G i x) (hGg:∀ s,s.ms≤(G s).ms):Bs 51 w0 B kb tv iv xv (fun s=>G s) i:=by
 intro s b w hb0 h0 hm
 obtain⟨tb,toff,cap,w1,HW,hiI,hks,hc0,h1c,⟨c0,c1,c2,c3,c4,c5,c6⟩,HKI⟩:=Dj H0 hx hbe hb0 h0
 obtain⟨s1,HS1⟩:=exH (G s)
 have m1:s.ms≤s1.ms:=by rw [HS1.out];exact hGg _
 have hF:(fun s=>G s) s=s1:=by
  rw [HS1.out]
 rw [hF] at hm ⊢
 clear hF
 rw [hop] at HW c0 h1c
 unfold D6 at hG
 rw [hop] at hG
 obtain⟨HH,HG⟩:=Hd2 H0 hG
 clear hG hb0 h0 hGg
 go_in
 go_wp2_with fail
 rw [← HW.out]
 refine HKI.out.mono ?_
 rintro e wl0 ⟨A,c,rfl,HO,KN,S0,F0⟩
 rw [hop] at KN
 obtain⟨n,hn⟩:∃ n,(Am ts i).length=n:=⟨_,rfl⟩
 rw [hn] at HO ⊢
 have HN:=Lh hn
 clear hn c0 c1 c2 c3 c4 c5 c6 h1c hc0 hks
 have p0_0:=S0.cell 0 KN
 have p0_1:=S0.cell 1 KN
 have p0_2:=S0.cell 2 KN
 have p0_3:=S0.cell 3 KN
 have p0_4:=S0.cell 4 KN
 have p0_5:=S0.cell 5 KN
 have p0_6:=S0.cell 6 KN
 go_wp2_with fail
 refine (S0.part (x:={ x with op:=14 }) HG HO HS1 (by omega)).mono ?_
 rintro e wl1 ⟨rfl,b1,S1,jj⟩
 go_wp2_with fail
 go_end0
 exact ⟨rfl,_,S1.k,S1.u,F0.trans S1.f⟩
theorem Sh (hop:x.op=15) (G:MS→MS) (hG:D6 119 w0 B kb tv iv xv ts G i x) (hGg:∀ s,s.ms≤(G s).ms):Bs 51 w0 B kb tv iv xv (fun s=>G s) i:=by
 intro s b w hb0 h0 hm
 obtain⟨tb,toff,cap,w1,HW,hiI,hks,hc0,h1c,⟨c0,c1,c2,c3,c4,c5,c6⟩,HKI⟩:=Dj H0 hx hbe hb0 h0
 obtain⟨s1,HS1⟩:=exH (G s)
 have m1:s.ms≤s1.ms:=by rw [HS1.out];exact hGg _
 have hF:(fun s=>G s) s=s1:=by
  rw [HS1.out]
 rw [hF] at hm ⊢
 clear hF
 rw [hop] at HW c0 h1c
 unfold D6 at hG
 rw [hop] at hG
 obtain⟨HH,HG⟩:=Hd2 H0 hG
 clear hG hb0 h0 hGg
 go_in
 go_wp2_with fail
 rw [← HW.out]
 refine HKI.out.mono ?_
 rintro e wl0 ⟨A,c,rfl,HO,KN,S0,F0⟩
 rw [hop] at KN
 obtain⟨n,hn⟩:∃ n,(Am ts i).length=n:=⟨_,rfl⟩
 rw [hn] at HO ⊢
 have HN:=Lh hn
 clear hn c0 c1 c2 c3 c4 c5 c6 h1c hc0 hks
 have p0_0:=S0.cell 0 KN
 have p0_1:=S0.cell 1 KN
 have p0_2:=S0.cell 2 KN
 have p0_3:=S0.cell 3 KN
 have p0_4:=S0.cell 4 KN
 have p0_5:=S0.cell 5 KN
 have p0_6:=S0.cell 6 KN
 go_wp2_with fail
 refine (S0.part (x:={ x with op:=15 }) HG HO HS1 (by omega)).mono ?_
 rintro e wl1 ⟨rfl,b1,S1,jj⟩
 go_wp2_with fail
 go_end0
 exact ⟨rfl,_,S1.k,S1.u,F0.trans S1.f⟩
theorem Vt (hgr:Do rec) (hkl:(Am ts i).length≤100000) (hr:∀ j∈Am ts i,Bs 49 w0 B kb tv iv xv (rec j) j) (hop:x.op=19):Bs 51 w0 B kb tv iv xv (fun s=>opE 60 [u8 x.n] (Bw rec (Am ts i) s)) i:=by
 intro s b w hb0 h0 hm
 obtain⟨tb,toff,cap,w1,HW,hiI,hks,hc0,h1c,⟨c0,c1,c2,c3,c4,c5,c6⟩,HKI⟩:=Dj H0 hx hbe hb0 h0
 obtain⟨s1,HS1⟩:=exH (Bw rec (Am ts i) s)
 have m1:s.ms≤s1.ms:=by rw [HS1.out];exact Cy hgr _ _
 obtain⟨s2,HS2⟩:=exH (opE 60 [u8 x.n] s1)
 have m2:s2.ms=s1.ms + 2:=by rw [HS2.out,AL];try rfl
 have hF:(fun s=>opE 60 [u8 x.n] (Bw rec (Am ts i) s)) s=s2:=by
  rw [HS2.out,HS1.out]
 rw [hF] at hm ⊢
 clear hF
 rw [hop] at HW c0 h1c
 obtain⟨HH,HR,HGR,HKL⟩:=Hd4 H0 hr hgr hkl
 clear hr hgr hkl hb0 h0
 go_in
 go_wp2_with fail
 rw [← HW.out]
 refine HKI.out.mono ?_
 rintro e wl0 ⟨A,c,rfl,HO,KN,S0,F0⟩
 rw [hop] at KN
 obtain⟨n,hn⟩:∃ n,(Am ts i).length=n:=⟨_,rfl⟩
 have hn9:n≤100000:=by have:=HKL.out;omega
 rw [hn] at HO ⊢
 have HN:=Lh hn
 clear hn c0 c1 c2 c3 c4 c5 c6 h1c hc0 hks
 have p0_0:=S0.cell 0 KN
 have p0_2:=S0.cell 2 KN
 go_wp2_with fail
 go_loopw [8] (fun iv2 wr=>∃ (k:Nat) (s2:MS) (b2:List Int),k≤n∧iv2=.int .i64 k∧Hid (s1=Bw rec ((Am ts i).drop k) s2)∧StR w0 wl0 B kb tv iv xv s b s2 b2 wr) (fun iv2 _=>n - (intOf iv2).toNat)
 case atStart=>exact ⟨0,s,b,by omega,rfl,HS1,S0⟩
 case round =>
  obtain⟨kk,s9,b9,hkn2,rfl,HRk,S9⟩:=hrel
  by_cases hlt:kk < n
  ·obtain⟨j,hj⟩:∃ j,(Am ts i)[kk]? = some j:=⟨_,List.getElem?_eq_getElem (by rw [HN.out];exact hlt)⟩
   obtain⟨_,_,gk,rfl,_⟩:=By HO.out hj
   have hcj:=S9.kid HO hj
   have HSS:Hid (s1=Bw rec ((Am ts i).drop (kk + 1)) (rec j s9)):=EM HRk hj
   have hmj:(rec j s9).ms≤1000000:=by have h1:=Cy HGR.out ((Am ts i).drop (kk + 1)) (rec j s9);rw [← HSS.out] at h1;omega
   have HC:=S9.node (HR.out j (List.mem_of_getElem? hj)) rfl hmj
   have hkI:(kk:Int) < n:=by omega
   have HC2:=Lh HC
   clear hj hmj HC
   go_wp2_with fail
   refine HC2.out.mono ?_
   rintro e w2 ⟨rfl,b3,S8,_⟩
   go_wp2_with fail
   go_roundw
   case rel=>exact ⟨kk + 1,rec j s9,b3,by omega,by go_num,HSS,S8⟩
   case measure=>(simp [intOf];try omega)
  ·have hfin:Hid (s9=s1):=EP HRk (by rw [HN.out];omega)
   have S1:StR w0 wl0 B kb tv iv xv s b s1 b9 wr:=hfin.out▸S9
   clear S9 hfin
   have p1_0:=S1.cell 0 KN
   have p1_2:=S1.cell 2 KN
   go_wp2_with fail
   refine (S1.op1 60 x.n HS2 (by omega)).mono ?_
   rintro e wl2 ⟨rfl,b2,S2,jj⟩
   go_wp2_with fail
   go_end0
   exact ⟨rfl,_,S2.k,S2.u,F0.trans S2.f⟩
end
end Go.Proofs.YtmpcbaflcogmmaaGreatDoor
