/- Ref7 EmitBy Ref10 -/
import Derived.Test.YtmpcbaflcogmmaaGreatDoorEmitC
import Derived.Test.YtmpcbaflcogmmaaGreatDoorRef5
import Derived.Test.YtmpcbaflcogmmaaGreatDoorRef6
import Derived.Test.YtmpcbaflcogmmaaGreatDoorRef8
import Derived.Test.YtmpcbaflcogmmaaGreatDoorRef9
import Derived.Test.YtmpcbaflcogmmaaGreatDoorSizesT
namespace Go.Proofs.YtmpcbaflcogmmaaGreatDoor
open Go.RowKit
set_option linter.all false
set_option maxHeartbeats 3200000
set_option maxRecDepth 100000
section
variable {w0:World} {B kb:Nat} {tv iv xv:Value} {pi:Int→Option Int} {pt:ByteArray→Option Int} {ts:List Au} {rec:Nat→MS→MS} {i:Nat} {x:Au} (H0:G3 w0 B kb tv iv xv pi pt ts)
include H0
variable (hx:ts[i]? = some x) (hbe:0≤Ap ts i)
include hx hbe
theorem UY (hop:x.op=30):Bs 49 w0 B kb tv iv xv (fun s=>Dn (pi x.n) s) i:=by
 intro s b w hb0 h0 hm
 obtain⟨tb,toff,cap,w1,HW,hiI,hks,hc0,h1c,⟨c0,c1,c2,c3,c4,c5,c6⟩,HKI⟩:=Dj H0 hx hbe hb0 h0
 obtain⟨s1,HS1⟩:=exH (Dn (pi x.n) s)
 have m1:s1.ms=s.ms + 3:=by rw [HS1.out,CC];try rfl
 have hF:(fun s=>Dn (pi x.n) s) s=s1:=by
  rw [HS1.out]
 rw [hF] at hm ⊢
 clear hF
 rw [hop] at HW c0 h1c
 have HH:=Lh H0
 clear hb0 h0
 go_in
 go_wp2_with fail
 rw [← HW.out]
 refine HKI.out.mono ?_
 rintro e wl0 ⟨A,c,rfl,HO,KN,S0,F0⟩
 rw [hop] at KN
 obtain⟨n,hn⟩:∃ n,(Am ts i).length=n:=⟨_,rfl⟩
 rw [hn] at HO ⊢
 have HN:=Lh hn
 clear hn c0 c1 c2 c3 c4 c5 c6 h1c hc0 hks
 have p0_0:=S0.cell 0 KN
 have p0_2:=S0.cell 2 KN
 go_wp2_with fail
 refine (S0.push HH.out x.n HS1 (by omega)).mono ?_
 rintro e wl1 ⟨rfl,b1,S1,jj⟩
 go_wp2_with fail
 go_end0
 exact ⟨rfl,_,S1.k,S1.u,F0.trans S1.f⟩
theorem UG (hop:x.op=31):Bs 49 w0 B kb tv iv xv (fun s=>opE 2 [] s) i:=by
 intro s b w hb0 h0 hm
 obtain⟨tb,toff,cap,w1,HW,hiI,hks,hc0,h1c,⟨c0,c1,c2,c3,c4,c5,c6⟩,HKI⟩:=Dj H0 hx hbe hb0 h0
 obtain⟨s1,HS1⟩:=exH (opE 2 [] s)
 have m1:s1.ms=s.ms + 1:=by rw [HS1.out,AL];try rfl
 have hF:(fun s=>opE 2 [] s) s=s1:=by
  rw [HS1.out]
 rw [hF] at hm ⊢
 clear hF
 rw [hop] at HW c0 h1c
 have HH:=Lh H0
 clear hb0 h0
 go_in
 go_wp2_with fail
 rw [← HW.out]
 refine HKI.out.mono ?_
 rintro e wl0 ⟨A,c,rfl,HO,KN,S0,F0⟩
 rw [hop] at KN
 obtain⟨n,hn⟩:∃ n,(Am ts i).length=n:=⟨_,rfl⟩
 rw [hn] at HO ⊢
 have HN:=Lh hn
 clear hn c0 c1 c2 c3 c4 c5 c6 h1c hc0 hks
 have p0_0:=S0.cell 0 KN
 have p0_2:=S0.cell 2 KN
 go_wp2_with fail
 refine (S0.op0 2 HS1 (by omega)).mono ?_
 rintro e wl1 ⟨rfl,b1,S1,jj⟩
 go_wp2_with fail
 go_end0
 exact ⟨rfl,_,S1.k,S1.u,F0.trans S1.f⟩
theorem SU (hop:x.op=32):Bs 49 w0 B kb tv iv xv (fun s=>opE 3 [] s) i:=by
 intro s b w hb0 h0 hm
 obtain⟨tb,toff,cap,w1,HW,hiI,hks,hc0,h1c,⟨c0,c1,c2,c3,c4,c5,c6⟩,HKI⟩:=Dj H0 hx hbe hb0 h0
 obtain⟨s1,HS1⟩:=exH (opE 3 [] s)
 have m1:s1.ms=s.ms + 1:=by rw [HS1.out,AL];try rfl
 have hF:(fun s=>opE 3 [] s) s=s1:=by
  rw [HS1.out]
 rw [hF] at hm ⊢
 clear hF
 rw [hop] at HW c0 h1c
 have HH:=Lh H0
 clear hb0 h0
 go_in
 go_wp2_with fail
 rw [← HW.out]
 refine HKI.out.mono ?_
 rintro e wl0 ⟨A,c,rfl,HO,KN,S0,F0⟩
 rw [hop] at KN
 obtain⟨n,hn⟩:∃ n,(Am ts i).length=n:=⟨_,rfl⟩
 rw [hn] at HO ⊢
 have HN:=Lh hn
 clear hn c0 c1 c2 c3 c4 c5 c6 h1c hc0 hks
 have p0_0:=S0.cell 0 KN
 have p0_2:=S0.cell 2 KN
 go_wp2_with fail
 refine (S0.op0 3 HS1 (by omega)).mono ?_
 rintro e wl1 ⟨rfl,b1,S1,jj⟩
 go_wp2_with fail
 go_end0
 exact ⟨rfl,_,S1.k,S1.u,F0.trans S1.f⟩
theorem UD (hop:x.op=33):Bs 49 w0 B kb tv iv xv (fun s=>opE 4 [u8 x.n] s) i:=by
 intro s b w hb0 h0 hm
 obtain⟨tb,toff,cap,w1,HW,hiI,hks,hc0,h1c,⟨c0,c1,c2,c3,c4,c5,c6⟩,HKI⟩:=Dj H0 hx hbe hb0 h0
 obtain⟨s1,HS1⟩:=exH (opE 4 [u8 x.n] s)
 have m1:s1.ms=s.ms + 2:=by rw [HS1.out,AL];try rfl
 have hF:(fun s=>opE 4 [u8 x.n] s) s=s1:=by
  rw [HS1.out]
 rw [hF] at hm ⊢
 clear hF
 rw [hop] at HW c0 h1c
 have HH:=Lh H0
 clear hb0 h0
 go_in
 go_wp2_with fail
 rw [← HW.out]
 refine HKI.out.mono ?_
 rintro e wl0 ⟨A,c,rfl,HO,KN,S0,F0⟩
 rw [hop] at KN
 obtain⟨n,hn⟩:∃ n,(Am ts i).length=n:=⟨_,rfl⟩
 rw [hn] at HO ⊢
 have HN:=Lh hn
 clear hn c0 c1 c2 c3 c4 c5 c6 h1c hc0 hks
 have p0_0:=S0.cell 0 KN
 have p0_2:=S0.cell 2 KN
 go_wp2_with fail
 refine (S0.op1 4 x.n HS1 (by omega)).mono ?_
 rintro e wl1 ⟨rfl,b1,S1,jj⟩
 go_wp2_with fail
 go_end0
 exact ⟨rfl,_,S1.k,S1.u,F0.trans S1.f⟩
theorem U7 (hop:x.op=50) (G:MS→MS) (hG:D6 114 w0 B kb tv iv xv ts G i x) (hGg:∀ s,s.ms≤(G s).ms):Bs 49 w0 B kb tv iv xv (fun s=>G s) i:=by
 intro s b w hb0 h0 hm
 obtain⟨tb,toff,cap,w1,HW,hiI,hks,hc0,h1c,⟨c0,c1,c2,c3,c4,c5,c6⟩,HKI⟩:=Dj H0 hx hbe hb0 h0
 obtain⟨s1,HS1⟩:=exH (G s)
 have m1:s.ms≤s1.ms:=by rw [HS1.out];exact hGg _
 have hF:(fun s=>G s) s=s1:=by
  rw [HS1.out]
 rw [hF] at hm ⊢
 clear hF
 rw [hop] at HW c0 h1c
 unfold D6 at hG
 rw [hop] at hG
 obtain⟨HH,HG⟩:=Hd2 H0 hG
 clear hG hb0 h0 hGg
 go_in
 go_wp2_with fail
 rw [← HW.out]
 refine HKI.out.mono ?_
 rintro e wl0 ⟨A,c,rfl,HO,KN,S0,F0⟩
 rw [hop] at KN
 obtain⟨n,hn⟩:∃ n,(Am ts i).length=n:=⟨_,rfl⟩
 rw [hn] at HO ⊢
 have HN:=Lh hn
 clear hn c0 c1 c2 c3 c4 c5 c6 h1c hc0 hks
 have p0_0:=S0.cell 0 KN
 have p0_1:=S0.cell 1 KN
 have p0_2:=S0.cell 2 KN
 have p0_3:=S0.cell 3 KN
 have p0_4:=S0.cell 4 KN
 have p0_5:=S0.cell 5 KN
 have p0_6:=S0.cell 6 KN
 go_wp2_with fail
 refine (S0.part (x:={ x with op:=50 }) HG HO HS1 (by omega)).mono ?_
 rintro e wl1 ⟨rfl,b1,S1,jj⟩
 go_wp2_with fail
 go_end0
 exact ⟨rfl,_,S1.k,S1.u,F0.trans S1.f⟩
theorem Ot (hop:x.op=36) (G:MS→MS) (hG:D6 115 w0 B kb tv iv xv ts G i x) (hGg:∀ s,s.ms≤(G s).ms):Bs 49 w0 B kb tv iv xv (fun s=>G s) i:=by
 intro s b w hb0 h0 hm
 obtain⟨tb,toff,cap,w1,HW,hiI,hks,hc0,h1c,⟨c0,c1,c2,c3,c4,c5,c6⟩,HKI⟩:=Dj H0 hx hbe hb0 h0
 obtain⟨s1,HS1⟩:=exH (G s)
 have m1:s.ms≤s1.ms:=by rw [HS1.out];exact hGg _
 have hF:(fun s=>G s) s=s1:=by
  rw [HS1.out]
 rw [hF] at hm ⊢
 clear hF
 rw [hop] at HW c0 h1c
 unfold D6 at hG
 rw [hop] at hG
 obtain⟨HH,HG⟩:=Hd2 H0 hG
 clear hG hb0 h0 hGg
 go_in
 go_wp2_with fail
 rw [← HW.out]
 refine HKI.out.mono ?_
 rintro e wl0 ⟨A,c,rfl,HO,KN,S0,F0⟩
 rw [hop] at KN
 obtain⟨n,hn⟩:∃ n,(Am ts i).length=n:=⟨_,rfl⟩
 rw [hn] at HO ⊢
 have HN:=Lh hn
 clear hn c0 c1 c2 c3 c4 c5 c6 h1c hc0 hks
 have p0_0:=S0.cell 0 KN
 have p0_1:=S0.cell 1 KN
 have p0_2:=S0.cell 2 KN
 have p0_3:=S0.cell 3 KN
 have p0_4:=S0.cell 4 KN
 have p0_5:=S0.cell 5 KN
 have p0_6:=S0.cell 6 KN
 go_wp2_with fail
 refine (S0.part (x:={ x with op:=36 }) HG HO HS1 (by omega)).mono ?_
 rintro e wl1 ⟨rfl,b1,S1,jj⟩
 go_wp2_with fail
 go_end0
 exact ⟨rfl,_,S1.k,S1.u,F0.trans S1.f⟩
theorem O8 (hop:x.op=37) (G:MS→MS) (hG:D6 115 w0 B kb tv iv xv ts G i x) (hGg:∀ s,s.ms≤(G s).ms):Bs 49 w0 B kb tv iv xv (fun s=>G s) i:=by
 intro s b w hb0 h0 hm
 obtain⟨tb,toff,cap,w1,HW,hiI,hks,hc0,h1c,⟨c0,c1,c2,c3,c4,c5,c6⟩,HKI⟩:=Dj H0 hx hbe hb0 h0
 obtain⟨s1,HS1⟩:=exH (G s)
 have m1:s.ms≤s1.ms:=by rw [HS1.out];exact hGg _
 have hF:(fun s=>G s) s=s1:=by
  rw [HS1.out]
 rw [hF] at hm ⊢
 clear hF
 rw [hop] at HW c0 h1c
 unfold D6 at hG
 rw [hop] at hG
 obtain⟨HH,HG⟩:=Hd2 H0 hG
 clear hG hb0 h0 hGg
 go_in
 go_wp2_with fail
 rw [← HW.out]
 refine HKI.out.mono ?_
 rintro e wl0 ⟨A,c,rfl,HO,KN,S0,F0⟩
 rw [hop] at KN
 obtain⟨n,hn⟩:∃ n,(Am ts i).length=n:=⟨_,rfl⟩
 rw [hn] at HO ⊢
 have HN:=Lh hn
 clear hn c0 c1 c2 c3 c4 c5 c6 h1c hc0 hks
 have p0_0:=S0.cell 0 KN
 have p0_1:=S0.cell 1 KN
 have p0_2:=S0.cell 2 KN
 have p0_3:=S0.cell 3 KN
 have p0_4:=S0.cell 4 KN
 have p0_5:=S0.cell 5 KN
 have p0_6:=S0.cell 6 KN
 go_wp2_with fail
 refine (S0.part (x:={ x with op:=37 }) HG HO HS1 (by omega)).mono ?_
 rintro e wl1 ⟨rfl,b1,S1,jj⟩
 go_wp2_with fail
 go_end0
 exact ⟨rfl,_,S1.k,S1.u,F0.trans S1.f⟩
end
def GY (slots:List Int) (ts:List Au) (ints:List Int) (texts:List ByteArray):Bool:=
 decide (16777216 < (slots.length:Int) + DN ts ts.length) || decide (16777216 < (ints.length:Int)) || decide (16777216 < Gy texts texts.length)
theorem Qr (on:Int) (SA TA:Option Addr) (slots:List Int) (sc tc:Nat) (wh:Bool) (ts:List Au) (IA XA:Option Addr) (ints:List Int) (texts:List ByteArray) (ic xc:Nat) (w:World) (hl:slots.length≤281474976710656) (ht:ts.length≤281474976710656) (hil:ints.length≤281474976710656) (hxl:texts.length≤281474976710656) (hT:Bv w TA ts) (hX:BE w XA texts) (htx:∀ x∈ts,x.text.size≤4611686018427387904) (hxx:∀ x∈texts,x.size≤4611686018427387904) :
  Calls Tryz.prog 6 #[.agg #[.int .i64 on,.slice SA slots.length sc,.bool wh,.slice TA ts.length tc,.slice IA ints.length ic,.slice XA texts.length xc]] w fun e w'=>e=.returned (.bool (GY slots ts ints texts))∧Below w.heap.size w w':=by
 obtain⟨W,hW⟩:=Ex0 (w.alloc (.cells #[.int .i64 on,.slice SA slots.length sc,.bool wh,.slice TA ts.length tc,.slice IA ints.length ic,.slice XA texts.length xc] 29))
 have hBW:Below w.heap.size w W:=by rw [hW];exact (Below.refl _ _).alloc (Nat.le_refl _) _
 have hb0:Blk W w.heap.size 29 #[.int .i64 on,.slice SA slots.length sc,.bool wh,.slice TA ts.length tc,.slice IA ints.length ic,.slice XA texts.length xc]:=by rw [hW];exact Blk.new _ _ _
 have hsz:=NH on SA TA slots sc tc wh ts W hl ht (hT.below hBW) htx
 have hst:=fun (w':World) (h:Below w.heap.size w w')=>Mv XA texts xc w' hxl (hX.below h) hxx
 obtain⟨B,hB⟩:=Ex0 (GY slots ts ints texts)
 rw [← hB]
 unfold GY at hB
 obtain⟨R,hR⟩:=Ex0 (DN ts ts.length)
 obtain⟨X,hX'⟩:∃ X,X=Gy texts texts.length:=⟨_,rfl⟩
 rw [← hR] at hB hsz
 simp only [← hX'] at hB hst
 obtain⟨p,hp⟩:∃ p,slots.length=p:=⟨_,rfl⟩
 obtain⟨m,hm⟩:∃ m,ts.length=m:=⟨_,rfl⟩
 obtain⟨ni,hni⟩:∃ n,ints.length=n:=⟨_,rfl⟩
 obtain⟨nx,hnx⟩:∃ n,texts.length=n:=⟨_,rfl⟩
 simp only [hp,hm,hni,hnx] at hB hb0 hW hsz hst ⊢
 obtain⟨b1,h1⟩:∃ b,decide (16777216 < (p:Int) + R)=b:=⟨_,rfl⟩
 obtain⟨b2,h2⟩:∃ b,decide (16777216 < (ni:Int))=b:=⟨_,rfl⟩
 obtain⟨b3,h3⟩:∃ b,decide (16777216 < X)=b:=⟨_,rfl⟩
 rw [h1,h2,h3] at hB
 obtain⟨HB,H1,H2,H3,HW,HSZ,HST,HBW,HK⟩:=Hd9 hB h1 h2 h3 hW hsz hst hBW hb0
 clear hB h1 h2 h3 hW hsz hst hBW hb0 hT hX htx hxx hR hX' hp hm hni hnx hl ht hil hxl
 go_in
 go_wp2_with fail
 rw [← HW.out]
 have z0:=HK.out.cell 0
 have z1:=HK.out.cell 1
 have z2:=HK.out.cell 2
 have z3:=HK.out.cell 3
 go_wp2_with fail
 refine HSZ.out.mono ?_
 rintro e w1 ⟨rfl,hb1⟩
 have k1:=HK.out.below hb1 HK.out.lt
 have c4:=k1.cell 4
 have c5:=k1.cell 5
 have B1:=Lh (HBW.out.trans (hb1.mono HBW.out.size))
 clear hb1 k1 z0 z1 z2 z3
 go_wp2_with fail
 refine (KQ _ _).mono ?_
 rintro e w' ⟨rfl,rfl⟩
 rw [H1.out]
 cases b1 with
 | true =>
  have hq:B=true:=HB.out
  subst hq
  go_wp2_with fail
  go_ret
  exact ⟨rfl,B1.out⟩
 | false =>
  go_wp2_with fail
  refine (KQ _ _).mono ?_
  rintro e w' ⟨rfl,rfl⟩
  rw [H2.out]
  cases b2 with
  | true =>
   have hq:B=true:=by rw [HB.out];rfl
   subst hq
   go_wp2_with fail
   go_ret
   exact ⟨rfl,B1.out⟩
  | false =>
   go_wp2_with fail
   refine (HST.out _ B1.out).mono ?_
   rintro e w' ⟨rfl,rfl⟩
   go_wp2_with fail
   refine (KQ _ _).mono ?_
   rintro e w' ⟨rfl,rfl⟩
   rw [H3.out]
   have hq:B=b3:=by rw [HB.out];rfl
   subst hq
   go_wp2_with fail
   go_ret
   exact ⟨rfl,B1.out⟩
theorem PF {slots:List Int} {ts:List Au} {ints:List Int} {texts:List ByteArray} (h:GY slots ts ints texts=false):slots.length≤16777216∧ts.length≤16777216∧ints.length≤16777216∧texts.length≤16777216∧∀ x∈ts,x.text.size≤1099511627776:=by
 unfold GY at h
 simp only [Bool.or_eq_false_iff,decide_eq_false_iff_not] at h
 have h1:=IL ts ts.length
 have h2:=OI texts texts.length
 have h3:=LO ts ts.length (by omega)
 exact ⟨by omega,by omega,by omega,by omega,fun x hx=>by have:=h3 (by omega) x hx;omega⟩
theorem BM {K:FuncId} {w0:World} {B kb:Nat} {tv iv xv:Value} {F G:MS→MS} {i:Nat} (h:Bs K w0 B kb tv iv xv F i) (e:∀ s,G s=F s):Bs K w0 B kb tv iv xv G i:=by
 have:G=F:=funext e
 rw [this]
 exact h
theorem T6 {x:Au} {l:List Nat} {k j:Nat} (h:(Cz x l)[k]? = some j):j∈l:=by
 have:=List.mem_of_getElem? h
 unfold Cz at this
 split at this
 ·exact List.mem_of_mem_take this
 ·exact this
theorem GO (w0:World) (B kb:Nat) (tv iv xv:Value) (pi:Int→Option Int) (pt:ByteArray→Option Int) (ts:List Au) (H0:G3 w0 B kb tv iv xv pi pt ts) :
  ∀ (f i:Nat),ts.length≤i + f→i < ts.length→0≤Ap ts i→(EF ts f true i→Bs 49 w0 B kb tv iv xv (CJ pi pt ts f i) i)∧(EF ts f false i→Bs 51 w0 B kb tv iv xv (CJ pi pt ts f i) i)
 | 0,i,h2,h3,_=>absurd h3 (by omega)
 | f + 1,i,h2,hi,hbe=>by
  obtain⟨x,hx⟩:∃ x,ts[i]? = some x:=⟨_,List.getElem?_eq_getElem hi⟩
  have hgx:ts.getD i AF=x:=by rw [List.getD_eq_getElem?_getD,hx];rfl
  have hkr:∀ j∈Am ts i,j < ts.length:=fun j hj=>(AU hj).2.1
  have ih:∀ j∈Am ts i,_∧_:=fun j hj=>by
   obtain⟨g1,g2,g3,_⟩:=AU hj
   exact GO w0 B kb tv iv xv pi pt ts H0 f j (by omega) g2 g3
  have hgr:=Fd pi pt ts f
  have hkl:(Am ts i).length≤100000:=AM hbe (by have:=H0.small;omega)
  have hE:CJ pi pt ts (f + 1) i=Cs pi pt ts (CJ pi pt ts f) i:=rfl
  rw [hE]
  refine ⟨fun hf=>?_,fun hf=>?_⟩
  ·obtain⟨hs,ha,hk⟩:=hf
   rw [hgx] at hs ha hk
   have hs2:30≤x.op∧x.op≤50:=by simpa [Tz] using hs
   have hv:=fun (k j:Nat) (h:(Cz x (Am ts i))[k]? = some j)=>(ih j (T6 h)).1 (by have:=hk k j h;rw [ME hs2.1] at this;exact this)
   clear ih hk hs hE
   generalize CJ pi pt ts f=rec at *
   by_cases q50:x.op=50
   ·have hs:∃ sg,Bp Bz x.n=some sg:=by
     cases hsg:Bp Bz x.n with
     | none=>simp [Bb,q50,hsg] at ha
     | some sg=>exact ⟨sg,rfl⟩
    obtain⟨sg,hsg⟩:=hs
    obtain⟨g1,g2,_⟩:=CA hsg
    have g2:x.n.toNat < 9:=g2
    have hxn:x.n=0∨x.n=1∨x.n=2∨x.n=3∨x.n=4∨x.n=5∨x.n=6∨x.n=7∨x.n=8:=by omega
    refine BM (U7 H0 hx hbe q50 (fun s=>Bi pt ts rec x (Am ts i) s) ?_ (fun s=>OV hgr x _ s pt ts)) (fun s=>by unfold Cs;simp only [hgx];simp [q50])
    have l1:∀ {l:List Nat},l.length=1→∃ a,l=[a]:=fun {l} h=>by
     match l,h with
     | [a],_=>exact ⟨a,rfl⟩
    rcases hxn with q | q | q | q | q | q | q | q | q
    ·obtain⟨j0,hkk⟩:=l1 (l:=Am ts i) (by simpa [Bb,q50,q,Bp,Bz] using ha)
     exact SC H0 hgr j0 hkk (hv 0 j0 (by simp [Cz,q50,q,hkk])) q
    ·obtain⟨j0,j1,hkk⟩:=Ey (l:=Am ts i) (by simpa [Bb,q50,q,Bp,Bz] using ha)
     obtain⟨y,hy⟩:∃ y,ts[j1]? = some y:=⟨_,List.getElem?_eq_getElem (hkr j1 (by rw [hkk];simp))⟩
     exact T5 H0 hgr j0 j1 hkk (hv 0 j0 (by simp [Cz,q50,q,hkk])) q y hy
    ·obtain⟨j0,hkk⟩:=l1 (l:=Am ts i) (by simpa [Bb,q50,q,Bp,Bz] using ha)
     exact TN H0 hgr j0 hkk (hv 0 j0 (by simp [Cz,q50,q,hkk])) q
    ·obtain⟨j0,hkk⟩:=l1 (l:=Am ts i) (by simpa [Bb,q50,q,Bp,Bz] using ha)
     exact Tq H0 hgr j0 hkk (hv 0 j0 (by simp [Cz,q50,q,hkk])) q
    ·obtain⟨j0,j1,hkk⟩:=Ey (l:=Am ts i) (by simpa [Bb,q50,q,Bp,Bz] using ha)
     exact ST H0 hgr j0 j1 hkk (hv 0 j0 (by simp [Cz,q50,q,hkk])) (hv 1 j1 (by simp [Cz,q50,q,hkk])) q
    ·obtain⟨j0,j1,hkk⟩:=Ey (l:=Am ts i) (by simpa [Bb,q50,q,Bp,Bz] using ha)
     obtain⟨y,hy⟩:∃ y,ts[j1]? = some y:=⟨_,List.getElem?_eq_getElem (hkr j1 (by rw [hkk];simp))⟩
     exact Tm H0 hgr j0 j1 hkk (hv 0 j0 (by simp [Cz,q50,q,hkk])) q y hy
    ·obtain⟨j0,hkk⟩:=l1 (l:=Am ts i) (by simpa [Bb,q50,q,Bp,Bz] using ha)
     exact Ui H0 hgr j0 hkk (hv 0 j0 (by simp [Cz,q50,q,hkk])) q
    ·obtain⟨j0,j1,hkk⟩:=Ey (l:=Am ts i) (by simpa [Bb,q50,q,Bp,Bz] using ha)
     exact Tg H0 hgr j0 j1 hkk (hv 0 j0 (by simp [Cz,q50,q,hkk])) (hv 1 j1 (by simp [Cz,q50,q,hkk])) q
    ·obtain⟨j0,j1,hkk⟩:=Ey (l:=Am ts i) (by simpa [Bb,q50,q,Bp,Bz] using ha)
     exact TL H0 hgr j0 j1 hkk (hv 0 j0 (by simp [Cz,q50,q,hkk])) (hv 1 j1 (by simp [Cz,q50,q,hkk])) q
   rw [Cx _ q50] at hv
   have hr:∀ j∈Am ts i,Bs 49 w0 B kb tv iv xv (rec j) j:=fun j hj=>by
    obtain⟨k,hk,e⟩:=List.mem_iff_getElem.1 hj
    exact hv k j (by rw [List.getElem?_eq_getElem hk,e])
   by_cases q30:x.op=30
   ·exact BM (UY H0 hx hbe q30) (fun s=>by unfold Cs;simp only [hgx];simp [q30])
   by_cases q31:x.op=31
   ·have h0:Am ts i=[]:=List.length_eq_zero_iff.1 (by simpa [Bb,q31] using ha)
    exact BM (UG H0 hx hbe q31) (fun s=>by unfold Cs;simp only [hgx];simp [q31,Cf,EX,h0,Bw])
   by_cases q32:x.op=32
   ·have h0:Am ts i=[]:=List.length_eq_zero_iff.1 (by simpa [Bb,q32] using ha)
    exact BM (SU H0 hx hbe q32) (fun s=>by unfold Cs;simp only [hgx];simp [q32,Cf,EX,h0,Bw])
   by_cases q33:x.op=33
   ·exact BM (UD H0 hx hbe q33) (fun s=>by unfold Cs;simp only [hgx];simp [q33])
   by_cases q36:x.op=36
   ·obtain⟨j0,j1,hkk⟩:=Ey (l:=Am ts i) (by simpa [Bb,q36] using ha)
    exact BM (Ot H0 hx hbe q36 (fun s=>orE rec (Am ts i) s) (Vi H0 hgr j0 j1 hkk (hr j0 (by rw [hkk];simp)) (hr j1 (by rw [hkk];simp)) q36) (fun s=>Tb hgr _ s)) (fun s=>by unfold Cs;simp only [hgx];simp [q36])
   by_cases q37:x.op=37
   ·obtain⟨j0,j1,hkk⟩:=Ey (l:=Am ts i) (by simpa [Bb,q37] using ha)
    exact BM (O8 H0 hx hbe q37 (fun s=>II rec (Am ts i) s) (Vc H0 hgr j0 j1 hkk (hr j0 (by rw [hkk];simp)) (hr j1 (by rw [hkk];simp)) q37) (fun s=>QL hgr _ s)) (fun s=>by unfold Cs;simp only [hgx];simp [q37])
   by_cases q38:x.op=38
   ·obtain⟨j0,j1,hkk⟩:=Ey (l:=Am ts i) (by simpa [Bb,q38] using ha)
    obtain⟨y,hy⟩:∃ y,ts[j0]? = some y:=⟨_,List.getElem?_eq_getElem (hkr j0 (by rw [hkk];simp))⟩
    exact BM (Vu H0 hx hbe hgr hkl j0 j1 hkk hr q38 y hy) (fun s=>by unfold Cs;simp only [hgx];simp [q38])
   by_cases q39:x.op=39
   ·obtain⟨j0,j1,hkk⟩:=Ey (l:=Am ts i) (by simpa [Bb,q39] using ha)
    obtain⟨y,hy⟩:∃ y,ts[j0]? = some y:=⟨_,List.getElem?_eq_getElem (hkr j0 (by rw [hkk];simp))⟩
    exact BM (Vq H0 hx hbe hgr hkl j0 j1 hkk hr q39 y hy) (fun s=>by unfold Cs;simp only [hgx];simp [q39])
   by_cases q49:x.op=49
   ·exact BM (TG H0 hx hbe hgr hkl hr q49) (fun s=>by unfold Cs;simp only [hgx];simp [q49])
   obtain⟨pc,hpc⟩:∃ pc,Cf x.op=some pc:=Pm (by omega) ha
   refine BM (Ug H0 hx hbe hgr hkl hr pc ⟨q30,q31,q32,q33,q50,q36,q37,q49,q38,q39⟩ (fun w=>Mj x.op pc w hpc (by omega))) (fun s=>?_)
   unfold Cs
   simp only [hgx]
   rw [if_neg (by omega),if_neg (by omega),if_neg (by omega),if_neg (by omega),if_neg (by omega),if_neg (by omega),if_neg (by omega),if_neg (by omega),if_neg (by omega),if_neg (by omega),if_neg (by omega),if_neg (by omega),if_neg (by omega),hpc]
   rfl
  ·obtain⟨hs,ha,hk⟩:=hf
   rw [hgx] at hs ha hk
   have hs2:10≤x.op∧x.op≤19:=by simpa [Tz] using hs
   rw [Cx _ (by omega)] at hk
   have hvE:=fun (k j:Nat) (h:(Am ts i)[k]? = some j) (hv:LZ x.op k=true)=>(ih j (List.mem_of_getElem? h)).1 (by have:=hk k j h;rw [hv] at this;exact this)
   have hvS:=fun (k j:Nat) (h:(Am ts i)[k]? = some j) (hv:LZ x.op k=false)=>(ih j (List.mem_of_getElem? h)).2 (by have:=hk k j h;rw [hv] at this;exact this)
   clear ih hk hs hE
   generalize CJ pi pt ts f=rec at *
   have at_:∀ j∈Am ts i,∃ k:Nat,(Am ts i)[k]? = some j:=fun j hj=>by
    obtain⟨k,hk,e⟩:=List.mem_iff_getElem.1 hj
    exact ⟨k,by rw [List.getElem?_eq_getElem hk,e]⟩
   by_cases q10:x.op=10
   ·exact BM (TU H0 hx hbe hgr hkl (fun j hj=>by obtain⟨k,hk⟩:=at_ j hj;exact hvS k j hk (by rw [q10];rfl)) q10) (fun s=>by unfold Cs;simp only [hgx];simp [q10])
   by_cases q19:x.op=19
   ·exact BM (Vt H0 hx hbe hgr hkl (fun j hj=>by obtain⟨k,hk⟩:=at_ j hj;exact hvE k j hk (by rw [q19];rfl)) q19) (fun s=>by unfold Cs;simp only [hgx];simp [q19])
   by_cases q17:x.op=17
   ·have h0:Am ts i=[]:=List.length_eq_zero_iff.1 (by simpa [Bb,q17] using ha)
    exact BM (U0 H0 hx hbe q17) (fun s=>by unfold Cs;simp only [hgx];simp [q17,Cf,EX,h0,Bw])
   by_cases q18:x.op=18
   ·have h0:Am ts i=[]:=List.length_eq_zero_iff.1 (by simpa [Bb,q18] using ha)
    exact BM (SW H0 hx hbe q18) (fun s=>by unfold Cs;simp only [hgx];simp [q18,Cf,EX,h0,Bw])
   have l1:∀ {l:List Nat},l.length=1→∃ a,l=[a]:=fun {l} h=>by
    match l,h with
    | [a],_=>exact ⟨a,rfl⟩
   by_cases q11:x.op=11
   ·obtain⟨j0,hkk⟩:=l1 (l:=Am ts i) (by simpa [Bb,q11] using ha)
    exact BM (Vb H0 hx hbe hgr j0 hkk (hvE 0 j0 (by rw [hkk];rfl) (by rw [q11];rfl)) q11) (fun s=>by unfold Cs;simp only [hgx];simp [q11])
   by_cases q12:x.op=12
   ·obtain⟨j0,hkk⟩:=l1 (l:=Am ts i) (by simpa [Bb,q12] using ha)
    exact BM (UU H0 hx hbe hgr j0 hkk (hvE 0 j0 (by rw [hkk];rfl) (by rw [q12];rfl)) q12) (fun s=>by unfold Cs;simp only [hgx];simp [q12])
   by_cases q14:x.op=14
   ·have hl1:(Am ts i).length=1:=by
     simp [Bb,q14] at ha
     exact ha.1.1
    obtain⟨j0,hkk⟩:=l1 hl1
    exact BM (Om H0 hx hbe q14 (fun s=>D9 pi rec x (Am ts i) s) (QV H0 hgr j0 hkk (hvS 0 j0 (by rw [hkk];rfl) (by rw [q14];rfl)) q14) (fun s=>Kx hgr x _ s pi)) (fun s=>by unfold Cs;simp only [hgx];simp [q14])
   by_cases q15:x.op=15
   ·obtain⟨j0,j1,hkk⟩:=Ey (l:=Am ts i) (by simpa [Bb,q15] using ha)
    exact BM (Sh H0 hx hbe q15 (fun s=>Fq pi rec x (Am ts i) s) (Uu H0 hgr j0 j1 hkk (hvE 0 j0 (by rw [hkk];rfl) (by rw [q15];rfl)) (hvS 1 j1 (by rw [hkk];rfl) (by rw [q15];rfl)) q15) (fun s=>NQ hgr x _ s pi)) (fun s=>by unfold Cs;simp only [hgx];simp [q15])
   have hq:x.op=13∨x.op=16:=by omega
   have h23:(Am ts i).length=2∨(Am ts i).length=3:=by rcases hq with q | q <;> simpa [Bb,q] using ha
   have hE0:∀ j,(Am ts i)[0]? = some j→_:=fun j h=>hvE 0 j h (by rcases hq with q | q <;> rw [q] <;> rfl)
   have hS1:∀ k j,(Am ts i)[k + 1]? = some j→_:=fun k j h=>hvS (k + 1) j h (by rcases hq with q | q <;> rw [q] <;> rfl)
   rcases h23 with hn | hn
   ·obtain⟨j0,j1,hkk⟩:=Ey hn
    have hq0:(Am ts i)[0]? = some j0:=by rw [hkk];rfl
    have hfk:=Sx H0 hgr j0 j1 hkk (hS1 0 j1 (by rw [hkk];rfl))
    have hgg:∀ (p:Nat) (s:MS),s.ms≤(Bq p (rec j1 s)).ms:=fun p s=>by rw [Bj];have:=hgr j1 s;omega
    rcases hq with q | q
    ·exact BM (UN H0 hx hbe hgr q j0 hq0 (hE0 j0 hq0) (fun p s=>Bq p (rec j1 s)) hfk hgg) (fun s=>by unfold Cs;simp only [hgx];simp [q,Ds,D1,DK,hkk])
    ·exact BM (MM H0 hx hbe hgr q j0 hq0 (hE0 j0 hq0) (fun p s=>Bq p (rec j1 s)) hfk hgg) (fun s=>by unfold Cs;simp only [hgx];simp [q,Ds,D1,DK,hkk])
   ·obtain⟨j0,j1,j2,hkk⟩:=UO hn
    have hq0:(Am ts i)[0]? = some j0:=by rw [hkk];rfl
    have hfk:=Te H0 hgr j0 j1 j2 hkk (hS1 0 j1 (by rw [hkk];rfl)) (hS1 1 j2 (by rw [hkk];rfl))
    have hgg:∀ (p:Nat) (s:MS),s.ms≤(Bq (AI 30 [] (rec j1 s)).at_ (rec j2 (Bq p (AI 30 [] (rec j1 s))))).ms:=fun p s=>by
     rw [Bj]
     have h1:=hgr j1 s
     have h2:=hgr j2 (Bq p (AI 30 [] (rec j1 s)))
     rw [Bj,Bk] at h2
     omega
    rcases hq with q | q
    ·exact BM (UN H0 hx hbe hgr q j0 hq0 (hE0 j0 hq0) (fun p s=>Bq (AI 30 [] (rec j1 s)).at_ (rec j2 (Bq p (AI 30 [] (rec j1 s))))) hfk hgg) (fun s=>by unfold Cs;simp only [hgx];simp [q,Ds,D1,DK,hkk])
    ·exact BM (MM H0 hx hbe hgr q j0 hq0 (hE0 j0 hq0) (fun p s=>Bq (AI 30 [] (rec j1 s)).at_ (rec j2 (Bq p (AI 30 [] (rec j1 s))))) hfk hgg) (fun s=>by unfold Cs;simp only [hgx];simp [q,Ds,D1,DK,hkk])
end Go.Proofs.YtmpcbaflcogmmaaGreatDoor
