/- Able6 Able7 Able8 Able9 Able10 EmitM EmitUp EmitFit EmitLen EmitLow Whole EmitAbl -/
import Derived.Deep.RegionWith
import Derived.Test.YtmpcbaflcogmmaaGreatDoorAble
import Derived.Test.YtmpcbaflcogmmaaGreatDoorExpr
namespace Go.Proofs.YtmpcbaflcogmmaaGreatDoor
open Go.RowKit
set_option linter.all false
set_option maxHeartbeats 1000000
set_option maxRecDepth 100000
theorem ZpAble10:0≤1∧0≤1∧0≤1∧0≤1∧0≤1∧0≤1∧0≤1∧0≤1∧0≤1∧0≤1∧0≤1∧0≤1∧0≤1:=by decide
theorem Lg (on:Int) (SA:Option Addr) (slots:List Int) (sc tb toff tc:Nat) (ts:List Au) (w:World) (h0:0≤on) (h1:on≤4) (h2:slots.length≤32) (h3:ts.length≤2000) (htb:tb < w.heap.size) (hn:As w tb toff ts) (hS:AV w SA slots) (htxt:∀ y∈ts,y.text.size≤1099511627776) (hpos:0 < ts.length)
  (m:Nat) (hm:Ap ts 0=m) (hml:m < ts.length) (hb:Ap ts m=ts.length) (hv1:(AD ts 0 2 Bn).bad=true) :
  Calls Tryz.prog 44 #[.agg #[.int .i64 on,.slice SA slots.length sc,.bool true,.slice (some ⟨tb,toff,none⟩) ts.length tc]] w fun e w'=>e=.returned (.bool false)∧Below w.heap.size w w':=by
 have hl:ts.length≤100000:=by omega
 obtain⟨n,hn2⟩:∃ n,ts.length=n:=⟨_,rfl⟩
 have hn3:n≤2000:=by omega
 have hmm:=@run_makeMap Tryz.prog
 obtain⟨w3,w4,hr1,hr2,hC⟩:=D3 w #[.int .i64 on,.slice SA slots.length sc,.bool true,.slice (some ⟨tb,toff,none⟩) ts.length tc]
 have AC:=Lh (hC.1 (.slice (some ⟨tb,toff,none⟩) ts.length tc) hn htb rfl)
 obtain⟨A0,A1,A2,A3⟩:=AC.out.cells
 obtain⟨HS,HT,HP,HN2⟩:=Hd4 hS htxt hpos hn2
 have hb0:=fun k (hk:k < ts.length) wx (hx:As wx tb toff ts)=>CL tb toff tc ts k wx hl hx hk
 obtain⟨HB0,HM⟩:=Hd2 hb0 hm
 clear hm
 have hbb:(Ap ts m != (ts.length:Int))=false:=by rw [hb];simp
 have HB:=Lh hb
 clear hb
 have HV1:=Lh hv1
 clear hv1
 clear hC hS htxt hpos hb0 hn2
 obtain⟨_,_,_,_,_,_,_,_,_,_,_,_,_⟩:=ZpAble10
 go_in
 go_wp2_with fail
 refine (HB0.out 0 HP.out _ AC.out.nodes).mono ?_
 rintro e w5 ⟨rfl,rfl⟩
 rw [HM.out]
 go_wp2_with fail
 go_region_held3 (fun w'=>w'.cell? ⟨w.heap.size,3,none⟩=some (.slice (some ⟨tb,toff,none⟩) ts.length tc)) (first | exact A3) ((first | (go_at_call 101;refine (HB0.out m hml _ (AC.out.drew).nodes).mono ?_;rintro e w5 ⟨rfl,rfl⟩;skip)))
 all_goals go_wp2_with fail
 refine (DH w.heap.size w4.heap.size tb toff tc ts hl AC.out.tbB HT.out 0 2 Bn _ HP.out Kw AC.out.drew.lk AC.out.drew.nodes).mono ?_
 rintro e w5 ⟨rfl,h5,f5⟩
 have AC5:=Lh (AC.out.drew.step (by simp) h5 f5)
 clear A0 A1 A2 A3 h5 f5
 obtain⟨A0,A1,A2,A3⟩:=AC5.out.cells
 obtain⟨ky0,ky3⟩:=AC5.out.lk.cells
 rw [HV1.out] at ky3
 go_wp2_with fail
 refine A8 (by kernel_rfl) (by kernel_rfl) ?_
 go_wp2_with fail
 refine AX.normal ?_
 go_wp2_with fail
 go_ret
 exact ⟨rfl,AC5.out.fr.below.drew⟩
theorem Lx (on:Int) (SA:Option Addr) (slots:List Int) (sc tb toff tc:Nat) (ts:List Au) (w:World) (h0:0≤on) (h1:on≤4) (h2:slots.length≤32) (h3:ts.length≤2000) (htb:tb < w.heap.size) (hn:As w tb toff ts) (hS:AV w SA slots) (htxt:∀ y∈ts,y.text.size≤1099511627776) (hpos:0 < ts.length)
  (m:Nat) (hm:Ap ts 0=m) (hml:m < ts.length) (hb:Ap ts m=ts.length) (hv1:(AD ts 0 2 Bn).bad=false) (hbad:((sbM ts (ts.length + 1)).2 m (AD ts 0 2 Bn)).bad=false) (hlen:((sbM ts (ts.length + 1)).2 m (AD ts 0 2 Bn)).slots.length≤1099511627776) :
  Calls Tryz.prog 44 #[.agg #[.int .i64 on,.slice SA slots.length sc,.bool true,.slice (some ⟨tb,toff,none⟩) ts.length tc]] w fun e w'=>e=.returned (.bool (decide (((sbM ts (ts.length + 1)).2 m (AD ts 0 2 Bn)).slots=slots)))∧Below w.heap.size w w':=by
 have hl:ts.length≤100000:=by omega
 obtain⟨n,hn2⟩:∃ n,ts.length=n:=⟨_,rfl⟩
 have hn3:n≤2000:=by omega
 have hmm:=@run_makeMap Tryz.prog
 obtain⟨w3,w4,hr1,hr2,hC⟩:=D3 w #[.int .i64 on,.slice SA slots.length sc,.bool true,.slice (some ⟨tb,toff,none⟩) ts.length tc]
 have AC:=Lh (hC.1 (.slice (some ⟨tb,toff,none⟩) ts.length tc) hn htb rfl)
 obtain⟨A0,A1,A2,A3⟩:=AC.out.cells
 obtain⟨HS,HT,HP,HN2⟩:=Hd4 hS htxt hpos hn2
 have hb0:=fun k (hk:k < ts.length) wx (hx:As wx tb toff ts)=>CL tb toff tc ts k wx hl hx hk
 obtain⟨HB0,HM⟩:=Hd2 hb0 hm
 clear hm
 have hbb:(Ap ts m != (ts.length:Int))=false:=by rw [hb];simp
 have HB:=Lh hb
 clear hb
 have HV1:=Lh hv1
 clear hv1
 have HBAD:=Lh hbad
 clear hbad
 have HLEN:=Lh hlen
 clear hlen
 clear hC hS htxt hpos hb0 hn2
 obtain⟨_,_,_,_,_,_,_,_,_,_,_,_,_⟩:=ZpAble10
 obtain⟨_,_,_,_,_,_,_,_,_,_,_,_,_⟩:=ZpAble10
 go_in
 go_wp2_with fail
 refine (HB0.out 0 HP.out _ AC.out.nodes).mono ?_
 rintro e w5 ⟨rfl,rfl⟩
 rw [HM.out]
 go_wp2_with fail
 go_region_held3 (fun w'=>w'.cell? ⟨w.heap.size,3,none⟩=some (.slice (some ⟨tb,toff,none⟩) ts.length tc)) (first | exact A3) ((first | (go_at_call 101;refine (HB0.out m hml _ (AC.out.drew).nodes).mono ?_;rintro e w5 ⟨rfl,rfl⟩;skip)))
 all_goals go_wp2_with fail
 refine (DH w.heap.size w4.heap.size tb toff tc ts hl AC.out.tbB HT.out 0 2 Bn _ HP.out Kw AC.out.drew.lk AC.out.drew.nodes).mono ?_
 rintro e w5 ⟨rfl,h5,f5⟩
 have AC5:=Lh (AC.out.drew.step (by simp) h5 f5)
 clear A0 A1 A2 A3 h5 f5
 obtain⟨A0,A1,A2,A3⟩:=AC5.out.cells
 obtain⟨ky0,ky3⟩:=AC5.out.lk.cells
 rw [HV1.out] at ky3
 go_wp2_with fail
 refine ((LJ AC.out.tbB hl HT.out (ts.length + 1) (m) (by omega) hml (by rw [HB.out];omega)).2 ((AD ts 0 2 Bn)) _ HV1.out (Kw.value ts 0 2) (by show 2≤_;omega) (AC5.out).lk (AC5.out).nodes).mono ?_
 rintro e w6 ⟨rfl,h6,f6⟩
 have AC6:=Lh ((AC5.out).step (by simp) h6 f6)
 clear A0 A1 A2 A3 h6 f6 ky0 ky3
 obtain⟨A0,A1,A2,A3⟩:=AC6.out.cells
 obtain⟨kx0,kx3⟩:=AC6.out.lk.cells
 rw [HBAD.out] at kx3
 obtain⟨svf,mbf,_,kx1,_,_,ownf,_⟩:=AC6.out.lk.parts
 obtain⟨Af,cf,rfl⟩:=AJ ownf
 have hq:Calls Tryz.prog 104 #[.slice Af (((sbM ts (ts.length + 1)).2 m (AD ts 0 2 Bn))).slots.length cf,.slice SA slots.length sc] w6.drew fun e w'=>e=.returned (.bool (decide ((((sbM ts (ts.length + 1)).2 m (AD ts 0 2 Bn))).slots=slots)))∧∃ n,w'=w6.drew.drewN n:=
  KH Af SA cf sc (((sbM ts (ts.length + 1)).2 m (AD ts 0 2 Bn))).slots slots w6.drew HLEN.out (by omega) (GT ownf) (fun q x hx=>by
   obtain⟨b,off,r1,r2,r3⟩:=HS.out q x hx
   exact ⟨b,off,r1,(AC6.out.fr.below.cell (p:=⟨b,_,none⟩) r2).trans r3⟩)
 have HQ:=Lh hq
 clear ownf hq
 go_wp2_with fail
 refine A8 (by kernel_rfl) (by kernel_rfl) ?_
 go_wp2_with fail
 refine HQ.out.mono ?_
 rintro e wz ⟨rfl,nz,rfl⟩
 go_wp2_with fail
 refine AX.normal ?_
 go_wp2_with fail
 go_ret
 exact ⟨rfl,(AC6.out.fr.drewN (1 + nz)).below⟩
theorem LV (on:Int) (SA:Option Addr) (slots:List Int) (sc tb toff tc:Nat) (ts:List Au) (w:World) (h0:0≤on) (h1:on≤4) (h2:slots.length≤32) (h3:ts.length≤2000) (htb:tb < w.heap.size) (hn:As w tb toff ts) (hS:AV w SA slots) (htxt:∀ y∈ts,y.text.size≤1099511627776) (hpos:0 < ts.length)
  (m:Nat) (hm:Ap ts 0=m) (hml:m < ts.length) (hb:Ap ts m=ts.length) (hv1:(AD ts 0 2 Bn).bad=false) (hbad:((sbM ts (ts.length + 1)).2 m (AD ts 0 2 Bn)).bad=true) :
  Calls Tryz.prog 44 #[.agg #[.int .i64 on,.slice SA slots.length sc,.bool true,.slice (some ⟨tb,toff,none⟩) ts.length tc]] w fun e w'=>e=.returned (.bool false)∧Below w.heap.size w w':=by
 have hl:ts.length≤100000:=by omega
 obtain⟨n,hn2⟩:∃ n,ts.length=n:=⟨_,rfl⟩
 have hn3:n≤2000:=by omega
 have hmm:=@run_makeMap Tryz.prog
 obtain⟨w3,w4,hr1,hr2,hC⟩:=D3 w #[.int .i64 on,.slice SA slots.length sc,.bool true,.slice (some ⟨tb,toff,none⟩) ts.length tc]
 have AC:=Lh (hC.1 (.slice (some ⟨tb,toff,none⟩) ts.length tc) hn htb rfl)
 obtain⟨A0,A1,A2,A3⟩:=AC.out.cells
 obtain⟨HS,HT,HP,HN2⟩:=Hd4 hS htxt hpos hn2
 have hb0:=fun k (hk:k < ts.length) wx (hx:As wx tb toff ts)=>CL tb toff tc ts k wx hl hx hk
 obtain⟨HB0,HM⟩:=Hd2 hb0 hm
 clear hm
 have hbb:(Ap ts m != (ts.length:Int))=false:=by rw [hb];simp
 have HB:=Lh hb
 clear hb
 have HV1:=Lh hv1
 clear hv1
 have HBAD:=Lh hbad
 clear hbad
 clear hC hS htxt hpos hb0 hn2
 obtain⟨_,_,_,_,_,_,_,_,_,_,_,_,_⟩:=ZpAble10
 obtain⟨_,_,_,_,_,_,_,_,_,_,_,_,_⟩:=ZpAble10
 obtain⟨_,_,_,_,_,_,_,_,_,_,_,_,_⟩:=ZpAble10
 go_in
 go_wp2_with fail
 refine (HB0.out 0 HP.out _ AC.out.nodes).mono ?_
 rintro e w5 ⟨rfl,rfl⟩
 rw [HM.out]
 go_wp2_with fail
 go_region_held3 (fun w'=>w'.cell? ⟨w.heap.size,3,none⟩=some (.slice (some ⟨tb,toff,none⟩) ts.length tc)) (first | exact A3) ((first | (go_at_call 101;refine (HB0.out m hml _ (AC.out.drew).nodes).mono ?_;rintro e w5 ⟨rfl,rfl⟩;skip)))
 all_goals go_wp2_with fail
 refine (DH w.heap.size w4.heap.size tb toff tc ts hl AC.out.tbB HT.out 0 2 Bn _ HP.out Kw AC.out.drew.lk AC.out.drew.nodes).mono ?_
 rintro e w5 ⟨rfl,h5,f5⟩
 have AC5:=Lh (AC.out.drew.step (by simp) h5 f5)
 clear A0 A1 A2 A3 h5 f5
 obtain⟨A0,A1,A2,A3⟩:=AC5.out.cells
 obtain⟨ky0,ky3⟩:=AC5.out.lk.cells
 rw [HV1.out] at ky3
 go_wp2_with fail
 refine ((LJ AC.out.tbB hl HT.out (ts.length + 1) (m) (by omega) hml (by rw [HB.out];omega)).2 ((AD ts 0 2 Bn)) _ HV1.out (Kw.value ts 0 2) (by show 2≤_;omega) (AC5.out).lk (AC5.out).nodes).mono ?_
 rintro e w6 ⟨rfl,h6,f6⟩
 have AC6:=Lh ((AC5.out).step (by simp) h6 f6)
 clear A0 A1 A2 A3 h6 f6 ky0 ky3
 obtain⟨A0,A1,A2,A3⟩:=AC6.out.cells
 obtain⟨kx0,kx3⟩:=AC6.out.lk.cells
 rw [HBAD.out] at kx3
 go_wp2_with fail
 refine A8 (by kernel_rfl) (by kernel_rfl) ?_
 go_wp2_with fail
 refine AX.normal ?_
 go_wp2_with fail
 go_ret
 exact ⟨rfl,AC6.out.fr.below.drew⟩
theorem Gz (on:Int) (SA TA:Option Addr) (sn sc tc:Nat) (w:World) (h0:0≤on) (h1:on≤4) (h2:sn≤32) :
  Calls Tryz.prog 44 #[.agg #[.int .i64 on,.slice SA sn sc,.bool false,.slice TA 0 tc]] w fun e w'=>e=.returned (.bool false)∧Below w.heap.size w w':=by
 have hmm:=@run_makeMap Tryz.prog
 obtain⟨w3,w4,hr1,hr2,hC⟩:=D3 w #[.int .i64 on,.slice SA sn sc,.bool false,.slice TA 0 tc]
 obtain⟨hb,bb⟩:=hC.2 (.slice TA 0 tc)
 have A0:=bb.cell 0
 have A1:=bb.cell 1
 have A2:=bb.cell 2
 have A3:=bb.cell 3
 have hbo:=fun wx (k:Int) (hk:k < 0∨((0:Nat):Int)≤k)=>Hv (.slice TA 0 tc) TA 0 tc k wx rfl hk (by omega)
 obtain⟨HBO,HB⟩:=Hd2 hbo hb
 clear hC hbo hb
 obtain⟨_,_,_,_,_,_,_,_,_,_,_,_,_⟩:=ZpAble10
 obtain⟨_,_,_,_,_,_,_,_,_,_,_,_,_⟩:=ZpAble10
 obtain⟨_,_,_,_,_,_,_,_,_,_,_,_,_⟩:=ZpAble10
 obtain⟨_,_,_,_,_,_,_,_,_,_,_,_,_⟩:=ZpAble10
 go_in
 go_wp2_with fail
 go_region_held3 (fun w'=>w'.cell? ⟨w.heap.size,3,none⟩=some (.slice TA 0 tc)) (first | exact A3) ((first | (go_at_call 101;refine (HBO.out _ 0 (.inr (by omega))).mono ?_;rintro e w5 ⟨rfl,rfl⟩)))
 all_goals go_wp2_with fail
 all_goals go_ret
 all_goals exact ⟨rfl,HB.out.drew⟩
theorem Hj (on:Int) (SA TA:Option Addr) (sn sc tc:Nat) (w:World) (h0:0≤on) (h1:on≤4) (h2:sn≤32) :
  Calls Tryz.prog 44 #[.agg #[.int .i64 on,.slice SA sn sc,.bool true,.slice TA 0 tc]] w fun e w'=>e=.returned (.bool false)∧Below w.heap.size w w':=by
 have hmm:=@run_makeMap Tryz.prog
 obtain⟨w3,w4,hr1,hr2,hC⟩:=D3 w #[.int .i64 on,.slice SA sn sc,.bool true,.slice TA 0 tc]
 obtain⟨hb,bb⟩:=hC.2 (.slice TA 0 tc)
 have A0:=bb.cell 0
 have A1:=bb.cell 1
 have A2:=bb.cell 2
 have A3:=bb.cell 3
 have hbo:=fun wx (k:Int) (hk:k < 0∨((0:Nat):Int)≤k)=>Hv (.slice TA 0 tc) TA 0 tc k wx rfl hk (by omega)
 obtain⟨HBO,HB⟩:=Hd2 hbo hb
 clear hC hbo hb
 obtain⟨_,_,_,_,_,_,_,_,_,_,_,_,_⟩:=ZpAble10
 obtain⟨_,_,_,_,_,_,_,_,_,_,_,_,_⟩:=ZpAble10
 obtain⟨_,_,_,_,_,_,_,_,_,_,_,_,_⟩:=ZpAble10
 obtain⟨_,_,_,_,_,_,_,_,_,_,_,_,_⟩:=ZpAble10
 obtain⟨_,_,_,_,_,_,_,_,_,_,_,_,_⟩:=ZpAble10
 go_in
 go_wp2_with fail
 refine (HBO.out _ 0 (.inr (by omega))).mono ?_
 rintro e w5 ⟨rfl,rfl⟩
 go_wp2_with fail
 go_quiet (fail)
 all_goals go_wp2_with fail
 all_goals go_ret
 all_goals exact ⟨rfl,Br HB.out _⟩
structure MS where
 b:List Int
 bad:Bool
 later:List (Nat × Nat)
def MS.ms (s:MS):Nat:=s.b.length + s.later.length
def u8 (n:Int):Int:=IntKind.u8.wrap n
def hi8 (n:Int):Int:=IntKind.u8.wrap (n / 256)
def opE (c:Int) (x:List Int) (s:MS):MS:={ s with b:=s.b ++ c :: x }
def Ec (c n:Int) (s:MS):MS:=opE c [hi8 n,u8 n] s
def C9 (o:Option Int) (s:MS):MS:={ s with bad:=s.bad || o.isNone }
def Dn (o:Option Int) (s:MS):MS:=Ec 1 (o.getD 0) (C9 o s)
def AI (c:Int) (x:List Int) (s:MS):MS:=opE c (x ++ [0,0]) s
def Bq (p:Nat) (s:MS):MS:={ s with later:=s.later ++ [(p,s.b.length)] }
def MS.at_ (s:MS):Nat:=s.b.length - 2
def Cf (op:Int):Option Int:=
 if op=40 then some 19 else if op=41 then some 20 else if op=42 then some 21 else if op=43 then some 22 else if op=44 then some 10 else if op=45 then some 11 else if op=46 then some 12
 else if op=47 then some 13 else if op=48 then some 14 else if op=34 then some 23 else if op=35 then some 15 else if op=31 then some 2 else if op=32 then some 3 else if op=17 then some 34 else if op=18 then some 35 else none
def CP (n:Int):Int:=[40,0,42,43,44,0,16,17,18].getD n.toNat 0
section
variable (pi:Int→Option Int) (pt:ByteArray→Option Int) (ts:List Au) (rec:Nat→MS→MS)
def Bw (l:List Nat) (s:MS):MS:=l.foldl (fun s j=>rec j s) s
def orE (l:List Nat) (s:MS):MS:=
 let s1:=AI 31 [] (rec (l.getD 0 0) s)
 let s2:=AI 30 [] (opE 2 [] s1)
 Bq s2.at_ (rec (l.getD 1 0) (Bq s1.at_ s2))
def II (l:List Nat) (s:MS):MS:=
 let s1:=AI 31 [] (rec (l.getD 0 0) s)
 let s2:=AI 30 [] (rec (l.getD 1 0) s1)
 Bq s2.at_ (opE 3 [] (Bq s1.at_ s2))
def Dt (x:Au) (l:List Nat) (s:MS):MS:=
 let s1:=opE 24 [u8 (ts.getD (l.getD 0 0) AF).kind] (Bw rec l s)
 if x.op=39 then opE 23 [] s1 else s1
def MR (o:Option Int) (s:MS):MS:=Ec 45 (o.getD 0) (C9 o s)
def Bi (x:Au) (l:List Nat) (s:MS):MS:=
 if x.n=1 then opE 41 [u8 (ts.getD (l.getD 1 0) AF).n] (rec (l.getD 0 0) s)
 else if x.n=5 then MR (pt (ts.getD (l.getD 1 0) AF).text) (rec (l.getD 0 0) s)
 else opE (CP x.n) [] (Bw rec l s)
def D1 (x:Au) (s:MS):MS:=AI (if x.op=13 then 31 else 33) [] s
def DK (x:Au) (s:MS):MS:=if x.op=13 then s else opE 5 [u8 x.n] s
def Ds (x:Au) (l:List Nat) (s:MS):MS:=
 let s1:=D1 x (rec (l.getD 0 0) s)
 let s2:=rec (l.getD 1 0) (DK x s1)
 if l.length < 3 then Bq s1.at_ s2
 else
  let s3:=AI 30 [] s2
  Bq s3.at_ (rec (l.getD 2 0) (Bq s1.at_ s3))
def D5 (x:Au) (s:MS):MS:=opE 5 [u8 x.m] (Dn (pi 0) s)
def Ee (x:Au) (s:MS):MS:=AI 31 [] (opE 19 [] (Dn (pi x.n) (opE 4 [u8 x.m] s)))
def GR (x:Au) (top:Nat) (s:MS):MS:=Ec 30 top (opE 5 [u8 x.m] (opE 10 [] (Dn (pi 1) (opE 4 [u8 x.m] s))))
def D9 (x:Au) (l:List Nat) (s:MS):MS:=
 let s1:=D5 pi x s
 let s2:=Ee pi x s1
 Bq s2.at_ (GR pi x s1.b.length (Bw rec l s2))
def Gx (x:Au) (s:MS):MS:=opE 5 [u8 (u8 x.m + 1)] (Dn (pi 0) (opE 5 [u8 x.m] s))
def Fq (x:Au) (l:List Nat) (s:MS):MS:=
 let s1:=Gx pi x (rec (l.getD 0 0) (C9 (pi 1) s))
 let s2:=AI 32 [u8 x.m,u8 (u8 x.m + 1)] s1
 Bq s2.at_ (Ec 30 s1.b.length (rec (l.getD 1 0) (opE 5 [u8 x.n] s2)))
def EX (o:Option Int) (l:List Nat) (s:MS):MS:=
 match o with
 | some c=>opE c [] (Bw rec l s)
 | none=>s
def Cs (i:Nat) (s:MS):MS:=
 let x:=ts.getD i AF
 let l:=Am ts i
 if x.op=10 then Bw rec l s
 else if x.op=30 then Dn (pi x.n) s
 else if x.op=33 then opE 4 [u8 x.n] s
 else if x.op=36 then orE rec l s
 else if x.op=37 then II rec l s
 else if x.op=38∨x.op=39 then Dt ts rec x l s
 else if x.op=50 then Bi pt ts rec x l s
 else if x.op=13∨x.op=16 then Ds rec x l s
 else if x.op=14 then D9 pi rec x l s
 else if x.op=15 then Fq pi rec x l s
 else if x.op=49 then opE 46 [u8 x.n] (Bw rec l s)
 else if x.op=19 then opE 60 [u8 x.n] (Bw rec l s)
 else if x.op=11∨x.op=12 then opE 5 [u8 x.n] (Bw rec l s)
 else EX rec (Cf x.op) l s
end
def CJ (pi:Int→Option Int) (pt:ByteArray→Option Int) (ts:List Au):Nat→Nat→MS→MS
 | 0,_,s=>s
 | f + 1,i,s=>Cs pi pt ts (CJ pi pt ts f) i s
def Du (l:List (Nat × Nat)) (b:List Int):List Int:=l.foldl (fun b p=>(b.set p.1 (hi8 p.2)).set (p.1 + 1) (u8 p.2)) b
def BY (pi:Int→Option Int) (pt:ByteArray→Option Int) (when_:Bool) (ts:List Au):MS:=
 let s0:MS:=⟨[],false,[]⟩
 opE 34 [] (if when_ then
  let s1:=AI 31 [] (CJ pi pt ts ts.length 0 s0)
  Bq s1.at_ (CJ pi pt ts ts.length (Ap ts 0).toNat s1)
 else CJ pi pt ts ts.length 0 s0)
theorem AL (c:Int) (x:List Int) (s:MS):(opE c x s).ms=s.ms + 1 + x.length:=by simp [opE,MS.ms];omega
theorem DE (c n:Int) (s:MS):(Ec c n s).ms=s.ms + 3:=by simp [Ec,AL]
theorem EC (o:Option Int) (s:MS):(C9 o s).ms=s.ms:=rfl
theorem CC (o:Option Int) (s:MS):(Dn o s).ms=s.ms + 3:=by simp [Dn,DE,EC]
theorem Bk (c:Int) (x:List Int) (s:MS):(AI c x s).ms=s.ms + 3 + x.length:=by simp [AI,AL];omega
theorem Bj (p:Nat) (s:MS):(Bq p s).ms=s.ms + 1:=by simp [Bq,MS.ms];omega
def Do (r:Nat→MS→MS):Prop:=∀ i s,s.ms≤(r i s).ms
theorem Cy {rec:Nat→MS→MS} (hr:Do rec):∀ (l:List Nat) (s:MS),s.ms≤(Bw rec l s).ms
 | [],s=>Nat.le_refl _
 | j :: l,s=>Nat.le_trans (hr j s) (Cy hr l (rec j s))
section
variable {rec:Nat→MS→MS} (hr:Do rec) (x:Au) (l:List Nat) (s:MS)
include hr
theorem Tb:s.ms≤(orE rec l s).ms:=by
 unfold orE
 dsimp only
 rw [Bj]
 refine Nat.le_trans ?_ (Nat.le_trans (hr _ _) (Nat.le_succ _))
 rw [Bj,Bk,AL,Bk]
 have:=hr (l.getD 0 0) s
 omega
theorem QL:s.ms≤(II rec l s).ms:=by
 unfold II
 dsimp only
 rw [Bj,AL,Bj,Bk]
 have h1:=hr (l.getD 0 0) s
 have h2:=hr (l.getD 1 0) (AI 31 [] (rec (l.getD 0 0) s))
 rw [Bk] at h2
 omega
theorem RC (ts:List Au):s.ms≤(Dt ts rec x l s).ms:=by
 have:=Cy hr l s
 unfold Dt
 dsimp only
 split
 ·rw [AL,AL];omega
 ·rw [AL];omega
theorem OV (pt:ByteArray→Option Int) (ts:List Au):s.ms≤(Bi pt ts rec x l s).ms:=by
 have h1:=hr (l.getD 0 0) s
 unfold Bi
 split
 ·rw [AL];omega
 split
 ·unfold MR;rw [DE,EC];omega
 ·have:=Cy hr l s
  rw [AL];omega
omit hr in
theorem Lb:(D1 x s).ms=s.ms + 3:=by unfold D1;rw [Bk];rfl
omit hr in
theorem Tl:s.ms≤(DK x s).ms:=by
 unfold DK
 split
 ·exact Nat.le_refl _
 ·rw [AL];omega
theorem SR:s.ms≤(Ds rec x l s).ms:=by
 unfold Ds
 dsimp only
 have h1:=hr (l.getD 0 0) s
 have h2:=Tl x (D1 x (rec (l.getD 0 0) s))
 rw [Lb] at h2
 have h3:=hr (l.getD 1 0) (DK x (D1 x (rec (l.getD 0 0) s)))
 split
 ·rw [Bj];omega
 ·rw [Bj]
  refine Nat.le_trans ?_ (Nat.le_trans (hr _ _) (Nat.le_succ _))
  rw [Bj,Bk]
  omega
theorem Kx (pi:Int→Option Int):s.ms≤(D9 pi rec x l s).ms:=by
 unfold D9
 dsimp only
 have h:=Cy hr l (Ee pi x (D5 pi x s))
 have e:(Ee pi x (D5 pi x s)).ms=s.ms + 14:=by
  unfold Ee D5
  rw [Bk,AL,CC,AL,AL,CC]
  simp
 rw [Bj]
 unfold GR
 rw [DE,AL,AL,CC,AL]
 omega
theorem NQ (pi:Int→Option Int):s.ms≤(Fq pi rec x l s).ms:=by
 unfold Fq
 dsimp only
 have h2:=hr (l.getD 1 0) (opE 5 [u8 x.n] (AI 32 [u8 x.m,u8 (u8 x.m + 1)] (Gx pi x (rec (l.getD 0 0) (C9 (pi 1) s)))))
 have h1:=hr (l.getD 0 0) (C9 (pi 1) s)
 rw [EC] at h1
 have h3:(Gx pi x (rec (l.getD 0 0) (C9 (pi 1) s))).ms=(rec (l.getD 0 0) (C9 (pi 1) s)).ms + 7:=by
  unfold Gx
  rw [AL,CC,AL]
  simp
 rw [AL,Bk,h3] at h2
 rw [Bj,DE]
 omega
theorem Rd (o:Option Int):s.ms≤(EX rec o l s).ms:=by
 have:=Cy hr l s
 unfold EX
 split
 ·rw [AL];omega
 ·exact Nat.le_refl _
end
theorem PW (pi:Int→Option Int) (pt:ByteArray→Option Int) (ts:List Au) {rec:Nat→MS→MS} (hr:Do rec):Do (Cs pi pt ts rec):=by
 intro i s
 have ha:=Cy hr (Am ts i) s
 unfold Cs
 obtain⟨x,hx⟩:=Ex0 (ts.getD i AF)
 obtain⟨l,hl⟩:=Ex0 (Am ts i)
 rw [← hl] at ha
 simp only [← hx,← hl]
 by_cases q0:x.op=10
 ·rw [if_pos q0];exact ha
 rw [if_neg q0]
 by_cases q1:x.op=30
 ·rw [if_pos q1];rw [CC];omega
 rw [if_neg q1]
 by_cases q2:x.op=33
 ·rw [if_pos q2];rw [AL];omega
 rw [if_neg q2]
 by_cases q3:x.op=36
 ·rw [if_pos q3];exact Tb hr _ _
 rw [if_neg q3]
 by_cases q4:x.op=37
 ·rw [if_pos q4];exact QL hr _ _
 rw [if_neg q4]
 by_cases q5:x.op=38∨x.op=39
 ·rw [if_pos q5];exact RC hr _ _ _ _
 rw [if_neg q5]
 by_cases q6:x.op=50
 ·rw [if_pos q6];exact OV hr _ _ _ _ _
 rw [if_neg q6]
 by_cases q7:x.op=13∨x.op=16
 ·rw [if_pos q7];exact SR hr _ _ _
 rw [if_neg q7]
 by_cases q8:x.op=14
 ·rw [if_pos q8];exact Kx hr _ _ _ _
 rw [if_neg q8]
 by_cases q9:x.op=15
 ·rw [if_pos q9];exact NQ hr _ _ _ _
 rw [if_neg q9]
 by_cases q10:x.op=49
 ·rw [if_pos q10];rw [AL];omega
 rw [if_neg q10]
 by_cases q11:x.op=19
 ·rw [if_pos q11];rw [AL];omega
 rw [if_neg q11]
 by_cases q12:x.op=11∨x.op=12
 ·rw [if_pos q12];rw [AL];omega
 rw [if_neg q12]
 exact Rd hr _ _ _
theorem Fd (pi:Int→Option Int) (pt:ByteArray→Option Int) (ts:List Au):∀ f,Do (CJ pi pt ts f)
 | 0=>fun _ _=>Nat.le_refl _
 | f + 1=>PW pi pt ts (Fd pi pt ts f)
def OKm (s:MS):Prop:=∀ p∈s.later,p.1 + 1 < s.b.length∧p.2≤s.b.length
def Up (s s':MS):Prop:=s.b.length≤s'.b.length∧(OKm s→OKm s')
theorem Up.refl (s:MS):Up s s:=⟨Nat.le_refl _,id⟩
theorem Up.trans {a b c:MS} (h:Up a b) (k:Up b c):Up a c:=⟨Nat.le_trans h.1 k.1,fun x=>k.2 (h.2 x)⟩
theorem Cv (c:Int) (x:List Int) (s:MS):Up s (opE c x s):=by
 refine ⟨by simp [opE],fun h p hp=>?_⟩
 have:=h p hp
 simp only [opE,List.length_append,List.length_cons]
 omega
theorem IH (c n:Int) (s:MS):Up s (Ec c n s):=Cv _ _ _
theorem Kq (o:Option Int) (s:MS):Up s (C9 o s):=⟨Nat.le_refl _,fun h=>h⟩
theorem GL (o:Option Int) (s:MS):Up s (Dn o s):=(Kq o s).trans (IH _ _ _)
theorem DJ (c:Int) (x:List Int) (s:MS):Up s (AI c x s):=Cv _ _ _
theorem Pd (c:Int) (x:List Int) (s:MS):(AI c x s).at_ + 1 < (AI c x s).b.length:=by
 unfold MS.at_
 simp only [AI,opE,List.length_append,List.length_cons,List.length_nil]
 omega
theorem OG {p:Nat} {s:MS} (hp:p + 1 < s.b.length):Up s (Bq p s):=by
 refine ⟨Nat.le_refl _,fun h q hq=>?_⟩
 simp only [Bq,List.mem_append,List.mem_singleton] at hq
 rcases hq with hq | rfl
 ·exact h q hq
 ·exact ⟨hp,Nat.le_refl _⟩
theorem Ev {c:Int} {x:List Int} {s s':MS} (h:Up (AI c x s) s'):Up s' (Bq (AI c x s).at_ s'):=OG (Nat.lt_of_lt_of_le (Pd c x s) h.1)
section
variable {rec:Nat→MS→MS} (hr:∀ i s,Up s (rec i s)) (x:Au) (l:List Nat) (s:MS)
include hr
theorem FL:∀ (l:List Nat) (s:MS),Up s (Bw rec l s)
 | [],s=>Up.refl s
 | j :: l,s=>(hr j s).trans (FL l (rec j s))
theorem UR:Up s (orE rec l s):=by
 unfold orE
 dsimp only
 have h1:=(hr (l.getD 0 0) s).trans (DJ 31 [] _)
 have h2:=(Cv 2 [] (AI 31 [] (rec (l.getD 0 0) s))).trans (DJ 30 [] _)
 have h3:=Ev h2
 have h4:=h3.trans (hr (l.getD 1 0) _)
 exact ((h1.trans h2).trans h4).trans (Ev h4)
theorem Ux:Up s (II rec l s):=by
 unfold II
 dsimp only
 have h1:=(hr (l.getD 0 0) s).trans (DJ 31 [] _)
 have h2:=(hr (l.getD 1 0) (AI 31 [] (rec (l.getD 0 0) s))).trans (DJ 30 [] _)
 have h3:=Ev h2
 have h4:=h3.trans (Cv 3 [] _)
 exact ((h1.trans h2).trans h4).trans (Ev h4)
theorem Se (ts:List Au):Up s (Dt ts rec x l s):=by
 unfold Dt
 dsimp only
 split
 ·exact ((FL hr l s).trans (Cv _ _ _)).trans (Cv _ _ _)
 ·exact (FL hr l s).trans (Cv _ _ _)
theorem Ud (pt:ByteArray→Option Int) (ts:List Au):Up s (Bi pt ts rec x l s):=by
 unfold Bi
 split
 ·exact (hr _ s).trans (Cv _ _ _)
 split
 ·exact ((hr _ s).trans (Kq _ _)).trans (IH _ _ _)
 ·exact (FL hr l s).trans (Cv _ _ _)
theorem SG:Up s (Ds rec x l s):=by
 unfold Ds
 dsimp only
 have h1:=(hr (l.getD 0 0) s).trans (DJ (if x.op=13 then 31 else 33) [] _)
 have hB:∀ s,Up s (DK x s):=fun s=>by
  unfold DK
  split
  ·exact Up.refl _
  ·exact Cv _ _ _
 have h2:=(hB (D1 x (rec (l.getD 0 0) s))).trans (hr (l.getD 1 0) _)
 split
 ·exact (h1.trans h2).trans (Ev h2)
 ·have h3:=h2.trans (DJ 30 [] _)
  have h4:=(Ev h3).trans (hr (l.getD 2 0) _)
  exact ((h1.trans h3).trans h4).trans (Ev h4)
theorem Q2 (pi:Int→Option Int):Up s (D9 pi rec x l s):=by
 unfold D9
 dsimp only
 have h1:Up s (D5 pi x s):=(GL _ _).trans (Cv _ _ _)
 have h2:Up (D5 pi x s) (Ee pi x (D5 pi x s)):=(((Cv _ _ _).trans (GL _ _)).trans (Cv _ _ _)).trans (DJ _ _ _)
 have h3:=FL hr l (Ee pi x (D5 pi x s))
 have h4:∀ s n,Up s (GR pi x n s):=fun s n=>(((((Cv _ _ _).trans (GL _ _)).trans (Cv _ _ _)).trans (Cv _ _ _))).trans (IH _ _ _)
 have h5:=h3.trans (h4 _ (D5 pi x s).b.length)
 exact ((h1.trans h2).trans h5).trans (Ev h5)
theorem TQ (pi:Int→Option Int):Up s (Fq pi rec x l s):=by
 unfold Fq
 dsimp only
 have h1:=(Kq (pi 1) s).trans (hr (l.getD 0 0) _)
 have h2:∀ s,Up s (Gx pi x s):=fun s=>((Cv _ _ _).trans (GL _ _)).trans (Cv _ _ _)
 have h3:=(h1.trans (h2 _)).trans (DJ 32 [u8 x.m,u8 (u8 x.m + 1)] _)
 have h4:=((Cv 5 [u8 x.n] (AI 32 [u8 x.m,u8 (u8 x.m + 1)] (Gx pi x (rec (l.getD 0 0) (C9 (pi 1) s))))).trans (hr (l.getD 1 0) _)).trans (IH 30 (Gx pi x (rec (l.getD 0 0) (C9 (pi 1) s))).b.length _)
 exact (h3.trans h4).trans (Ev h4)
theorem R0 (o:Option Int):Up s (EX rec o l s):=by
 unfold EX
 split
 ·exact (FL hr l s).trans (Cv _ _ _)
 ·exact Up.refl _
end
theorem Ua (pi:Int→Option Int) (pt:ByteArray→Option Int) (ts:List Au) {rec:Nat→MS→MS} (hr:∀ i s,Up s (rec i s)) (i:Nat) (s:MS):Up s (Cs pi pt ts rec i s):=by
 have ha:=FL hr (Am ts i) s
 unfold Cs
 obtain⟨x,hx⟩:=Ex0 (ts.getD i AF)
 obtain⟨l,hl⟩:=Ex0 (Am ts i)
 rw [← hl] at ha
 simp only [← hx,← hl]
 by_cases q0:x.op=10
 ·rw [if_pos q0];exact ha
 rw [if_neg q0]
 by_cases q1:x.op=30
 ·rw [if_pos q1];exact GL _ _
 rw [if_neg q1]
 by_cases q2:x.op=33
 ·rw [if_pos q2];exact Cv _ _ _
 rw [if_neg q2]
 by_cases q3:x.op=36
 ·rw [if_pos q3];exact UR hr _ _
 rw [if_neg q3]
 by_cases q4:x.op=37
 ·rw [if_pos q4];exact Ux hr _ _
 rw [if_neg q4]
 by_cases q5:x.op=38∨x.op=39
 ·rw [if_pos q5];exact Se hr _ _ _ _
 rw [if_neg q5]
 by_cases q6:x.op=50
 ·rw [if_pos q6];exact Ud hr _ _ _ _ _
 rw [if_neg q6]
 by_cases q7:x.op=13∨x.op=16
 ·rw [if_pos q7];exact SG hr _ _ _
 rw [if_neg q7]
 by_cases q8:x.op=14
 ·rw [if_pos q8];exact Q2 hr _ _ _ _
 rw [if_neg q8]
 by_cases q9:x.op=15
 ·rw [if_pos q9];exact TQ hr _ _ _ _
 rw [if_neg q9]
 by_cases q10:x.op=49
 ·rw [if_pos q10];exact ha.trans (Cv _ _ _)
 rw [if_neg q10]
 by_cases q11:x.op=19
 ·rw [if_pos q11];exact ha.trans (Cv _ _ _)
 rw [if_neg q11]
 by_cases q12:x.op=11∨x.op=12
 ·rw [if_pos q12];exact ha.trans (Cv _ _ _)
 rw [if_neg q12]
 exact R0 hr _ _ _
theorem NT (pi:Int→Option Int) (pt:ByteArray→Option Int) (ts:List Au):∀ f i s,Up s (CJ pi pt ts f i s)
 | 0,_,s=>Up.refl s
 | f + 1,i,s=>Ua pi pt ts (NT pi pt ts f) i s
theorem Pb (pi:Int→Option Int) (pt:ByteArray→Option Int) (wh:Bool) (ts:List Au):OKm (BY pi pt wh ts):=by
 have h0:OKm ⟨[],false,[]⟩:=fun p hp=>by simp at hp
 unfold BY
 dsimp only
 have hn:=NT pi pt ts ts.length
 cases wh with
 | false=>exact ((hn 0 _).trans (Cv _ _ _)).2 h0
 | true =>
  have h1:=(hn 0 ⟨[],false,[]⟩).trans (DJ 31 [] _)
  have h2:=hn (Ap ts 0).toNat (AI 31 [] (CJ pi pt ts ts.length 0 ⟨[],false,[]⟩))
  exact (((h1.trans h2).trans (Ev h2)).trans (Cv _ _ _)).2 h0
def Cz (x:Au) (l:List Nat):List Nat:=if x.op=50∧(x.n=1∨x.n=5) then l.take 1 else l
def Fc (ts:List Au):Nat→Nat→Prop
 | 0,_=>True
 | f + 1,i=>Bb (ts.getD i AF) (Am ts i).length=true∧(ts.getD i AF).op≠51∧(ts.getD i AF).op≠52∧∀ k∈Cz (ts.getD i AF) (Am ts i),Fc ts f k
theorem Cx {x:Au} (l:List Nat) (h:x.op≠50):Cz x l=l:=by
 unfold Cz
 rw [if_neg (fun q=>h q.1)]
theorem Pm {x:Au} {n:Nat} (h:¬ (x.op=10∨x.op=30∨x.op=33∨x.op=36∨x.op=37∨(x.op=38∨x.op=39)∨x.op=50∨(x.op=13∨x.op=16)∨x.op=14∨x.op=15∨x.op=49∨x.op=19∨(x.op=11∨x.op=12)∨x.op=51∨x.op=52)) (ha:Bb x n=true):∃ c,Cf x.op=some c:=by
 by_cases hr:x.op=17∨x.op=18∨x.op=31∨x.op=32∨x.op=34∨x.op=35∨x.op=40∨x.op=41∨x.op=42∨x.op=43∨x.op=44∨x.op=45∨x.op=46∨x.op=47∨x.op=48
 ·rcases hr with q | q | q | q | q | q | q | q | q | q | q | q | q | q | q <;> rw [q] <;> exact ⟨_,rfl⟩
 ·exfalso
  unfold Bb at ha
  rw [if_neg (by omega),if_neg (by omega),if_neg (by omega),if_neg (by omega),if_neg (by omega),if_neg (by omega),if_neg (by omega),if_neg (by omega),if_neg (by omega),if_neg (by omega),if_neg (by omega),if_neg (by omega),if_neg (by omega),if_neg (by omega)] at ha
  cases ha
theorem Fc.le {ts:List Au}:∀ {f g i:Nat},Fc ts f i→g≤f→Fc ts g i
 | _,0,_,_,_=>trivial
 | 0,g + 1,_,_,h=>absurd h (by omega)
 | f + 1,g + 1,i,hf,h=>⟨hf.1,hf.2.1,hf.2.2.1,fun k hk=>(hf.2.2.2 k hk).le (by omega)⟩
section
variable {n:Int} {s:B8} (h:Bp Bz n=some s)
include n s h
theorem Mx (h1:n≠1) (h5:n≠5):∀ u∈s.args,u≠-1∧u≠-2:=by
 obtain⟨g1,g2,g3,_⟩:=CA h
 have g2:n.toNat < 9:=g2
 have:n.toNat=0∨n.toNat=2∨n.toNat=3∨n.toNat=4∨n.toNat=6∨n.toNat=7∨n.toNat=8:=by omega
 rcases this with q | q | q | q | q | q | q <;> rw [q] at g3 <;> simp [Bz] at g3 <;> subst g3 <;> simp
theorem Gm (h1:n=1∨n=5):s.args=[4,-1]∨s.args=[3,-2]:=by
 obtain⟨g1,g2,g3,_⟩:=CA h
 rcases h1 with q | q <;> subst q <;> simp [Bz] at g3 <;> subst g3 <;> simp
end
theorem J6 {s:B8} (h:s∈Bu):∀ u∈s.args,u≠-1∧u≠-2:=by
 have:∀ s∈Bu,∀ u∈s.args,u≠-1∧u≠-2:=by simp [Bu]
 exact this s h
section
variable {ts:List Au} (P:Nat→Prop)
section
variable {rec:Nat→Bool→ER} (hrec:∀ i,(rec i true).2.2=true) (hfit:∀ i,(rec i false).2.2=false→P i)
include hrec hfit
theorem Ex:∀ (l:List (Nat × Int)) (high values:Int),(AW rec ts l high values false).2=false→∀ k u,(k,u)∈l→u≠-1→u≠-2→P k
 | [],_,_,_,k,u,h,_,_=>by simp at h
 | (kid,arg) :: r,high,values,hb,k,u,h,hu1,hu2=>by
  simp only [AW] at hb
  split at hb
  ·rename_i ha
   generalize hc:(false || !((ts.getD kid AF).op == 51 && (ts.getD kid AF).kids == 0 && decide (0≤(ts.getD kid AF).n) && decide ((ts.getD kid AF).n≤3)) || !(AO (ts.getD kid AF) 0 (ts.getD kid AF).n 0))=c at hb
   cases c with
   | true=>rw [Co hrec] at hb;cases hb
   | false =>
    rcases List.mem_cons.1 h with h | h
    ·cases h;exact absurd ha hu1
    ·exact Ex r _ _ hb k u h hu1 hu2
  ·split at hb
   ·rename_i ha
    generalize hc:(false || !((ts.getD kid AF).op == 52 && (ts.getD kid AF).kids == 0 && CV (ts.getD kid AF).text) || !(AO (ts.getD kid AF) 0 0 0))=c at hb
    cases c with
    | true=>rw [Co hrec] at hb;cases hb
    | false =>
     rcases List.mem_cons.1 h with h | h
     ·cases h;exact absurd ha hu2
     ·exact Ex r _ _ hb k u h hu1 hu2
   ·generalize hc:(AA (rec kid false) arg).2=c at hb
    cases c with
    | true=>rw [Co hrec] at hb;cases hb
    | false =>
     simp only [AA,Bool.or_eq_false_iff] at hc
     rcases List.mem_cons.1 h with h | h
     ·cases h;exact hfit _ hc.1
     ·exact Ex r _ _ hb k u h hu1 hu2
theorem Hq {i:Nat} {s:B8} (h:(Cu rec ts i (Am ts i) s).2=false):(Am ts i).length=s.args.length∧∀ k u,(k,u)∈(Am ts i).zip s.args→u≠-1→u≠-2→P k:=by
 unfold Cu at h
 simp only at h
 split at h
 ·rename_i hc
  exact ⟨hc.1,Ex P hrec hfit _ _ _ h⟩
 ·cases h
theorem GW {i:Nat} {s:B8} (h:(Cu rec ts i (Am ts i) s).2=false) (hs:∀ u∈s.args,u≠-1∧u≠-2):∀ k∈Am ts i,P k:=by
 obtain⟨h1,h2⟩:=Hq P hrec hfit h
 intro k hk
 obtain⟨u,hu⟩:=ND hk h1
 have:=hs u (List.of_mem_zip hu).2
 exact h2 k u hu this.1 this.2
omit hrec in
theorem GJ {i:Nat} (h:(Bd rec ts i (Am ts i)).2.2=false):(34≤(ts.getD i AF).op∧(ts.getD i AF).op≤48)∧∀ k∈Am ts i,P k:=by
 unfold Bd at h
 simp only at h
 by_cases hm:(ts.getD i AF).op=34∨(ts.getD i AF).op=35
 ·simp only [hm,if_true] at h
  split at h
  ·rename_i hc
   obtain⟨hr,hl,-⟩:=hc
   refine ⟨hr,?_⟩
   match hk:Am ts i,hl with
   | [a],_ =>
    rw [hk] at h
    have h1:¬ ((1:Nat)=2):=by omega
    simp only [h1,false_and,if_false] at h
    intro k hk
    rw [List.mem_singleton] at hk
    subst hk
    have hq:¬ ((ts.getD i AF).op=38∨(ts.getD i AF).op=39):=by omega
    simp only [hq,if_false,AA,Bool.or_eq_false_iff] at h
    exact hfit _ h.1
  ·cases h
 ·simp only [hm,if_false] at h
  split at h
  ·rename_i hc
   obtain⟨hr,hl,-⟩:=hc
   refine ⟨hr,?_⟩
   match hk:Am ts i,hl with
   | [a,b],_ =>
    rw [hk] at h
    simp only [true_and] at h
    have e0:([a,b]:List Nat).getD 0 0=a:=rfl
    have e1:([a,b]:List Nat).getD 1 0=b:=rfl
    rw [e0,e1] at h
    have hab:(rec a false).2.2=false∧(rec b false).2.2=false:=by
     by_cases q:(ts.getD i AF).op=38∨(ts.getD i AF).op=39
     ·simp only [q,if_true] at h
      split at h
      ·rename_i hf
       exact ⟨(Bool.or_eq_false_iff.1 hf).1,(Bool.or_eq_false_iff.1 h).1⟩
      ·rename_i hf
       exact absurd h hf
     ·simp only [q,if_false] at h
      split at h
      ·rename_i hf
       exact ⟨(Bool.or_eq_false_iff.1 hf).1,(Bool.or_eq_false_iff.1 h).1⟩
      ·rename_i hf
       exact absurd h hf
    obtain⟨h1,h2⟩:=hab
    intro k hk
    simp only [List.mem_cons,List.not_mem_nil,or_false] at hk
    rcases hk with rfl | rfl
    ·exact hfit _ h1
    ·exact hfit _ h2
  ·cases h
end
section
variable {recS recB:Nat→LSt→LSt} (hS:∀ i s,(recS i s).bad=false→P i) (hB:∀ i s,(recB i s).bad=false→P i)
include hS
theorem DV:∀ (l:List Nat) (own:List Int) (s:LSt),(Bl ts recS l own s).bad=false→s.bad=false∧∀ k∈l,P k
 | [],[],s,h=>⟨h,fun k hk=>by simp at hk⟩
 | [],n :: o,s,h=>by
  have:=DV [] o (forget n s) (by simpa only [Bl,List.foldl_cons] using h)
  exact ⟨this.1,fun k hk=>by simp at hk⟩
 | k :: r,own,s,h=>by
  rw [Bl] at h
  split at h
  ·rename_i hb;rw [hb] at h;cases h
  ·rename_i hb
   obtain⟨h1,h2⟩:=DV r _ _ h
   refine ⟨by simpa using hb,fun j hj=>?_⟩
   rcases List.mem_cons.1 hj with rfl | hj
   ·exact hS _ _ h1
   ·exact h2 j hj
include hB
theorem Gd:∀ (l:List Nat) (i:Nat) (s:LSt),(AS ts recS recB i l s).bad=false→s.bad=false∧∀ k∈l,P k
 | [],i,s,h=>⟨h,fun k hk=>by simp at hk⟩
 | k :: r,i,s,h=>by
  rw [AS] at h
  have ih:=Gd r _ _ h
  obtain⟨h1,h2⟩:=ih
  split at h1
  ·rename_i hb;rw [hb] at h1;cases h1
  ·rename_i hb
   refine ⟨by simpa using hb,fun j hj=>?_⟩
   rcases List.mem_cons.1 hj with rfl | hj
   ·split at h1
    ·exact hS _ _ h1
    ·exact hB _ _ h1
   ·exact h2 j hj
theorem P5 (hE:∀ (s:LSt) (k:Nat),(Dl ts s k false).2.2=false→P k) (i:Nat) (s:LSt) (h:(DL ts recS recB i s).bad=false):(11≤(ts.getD i AF).op∧(ts.getD i AF).op≤19)∧∀ k∈Am ts i,P k:=by
 have h0:(Am ts i).length=0→∀ k∈Am ts i,P k:=fun h k hk=>by rw [List.length_eq_zero_iff.1 h] at hk;simp at hk
 have hV:∀ {s:LSt} {k:Nat} {kd:Int},s.bad=false→(AD ts k kd s).bad=false→P k:=fun hb h=>by
  unfold AD Cr at h
  rw [hb] at h
  simp only [AA,Bool.or_eq_false_iff] at h
  exact hE _ _ h.1.1
 have hVb:∀ {s:LSt} {k:Nat} {kd:Int},(AD ts k kd s).bad=false→s.bad=false:=fun {s k kd} h=>by
  unfold AD Cr at h
  simp only [AA,Bool.or_eq_false_iff] at h
  cases hb:s.bad with
  | false=>rfl
  | true=>have h1:=h.1.1;rw [hb] at h1;unfold Dl at h1;rw [Dz] at h1;cases h1
 have hD:∀ {n:Int} {b:Bool} {l:List Int} {s:LSt},(AE n b l s).bad=false→s.bad=false:=fun {n b l s} h=>by
  unfold AE at h
  split at h
  ·exact h
  ·rename_i hb;simpa using hb
 have hb:=fun l i s h=>Gd (ts:=ts) P hS hB l i s h
 unfold DL at h
 simp only at h
 split at h
 ·rename_i q
  refine ⟨by omega,?_⟩
  split at h
  ·rename_i hc
   have h1:=hD h
   simp only [Cr,Bool.or_eq_false_iff] at h1
   intro k hk
   match hk2:Am ts i,hc.1 with
   | [a],_=>rw [hk2] at hk h1;rw [List.mem_singleton] at hk;subst hk;exact hE _ _ h1.1
  ·cases h
 split at h
 ·rename_i q
  refine ⟨by omega,?_⟩
  split at h
  ·rename_i hc
   intro k hk
   match hk2:Am ts i,hc.1 with
   | [a],_=>rw [hk2] at hk h;rw [List.mem_singleton] at hk;subst hk;exact hV (hVb h) h
  ·cases h
 split at h
 ·rename_i q
  refine ⟨by omega,?_⟩
  split at h
  ·rename_i hc
   have h1:=hb _ _ _ h
   intro k hk
   match hk2:Am ts i,hc.1 with
   | a :: r,_ =>
    rw [hk2] at hk h1
    rcases List.mem_cons.1 hk with rfl | hk
    ·exact hV (hVb h1.1) h1.1
    ·exact h1.2 k (by simpa using hk)
   | [],hl=>simp at hl
  ·cases h
 split at h
 ·rename_i q
  refine ⟨by omega,?_⟩
  split at h
  ·exact (hb _ _ _ h).2
  ·cases h
 split at h
 ·rename_i q
  refine ⟨by omega,?_⟩
  split at h
  ·rename_i hc
   have h1:=hb _ _ _ h
   intro k hk
   match hk2:Am ts i,hc.1 with
   | a :: r,_ =>
    rw [hk2] at hk h1
    rcases List.mem_cons.1 hk with rfl | hk
    ·exact hV (hVb (hD h1.1)) (hD h1.1)
    ·exact h1.2 k (by simpa using hk)
  ·cases h
 split at h
 ·rename_i q
  refine ⟨by omega,?_⟩
  split at h
  ·rename_i hc
   have key:∀ l,(forget (ts.getD i AF).n (AS ts recS recB 0 l (AE (ts.getD i AF).n false [3] (AD ts ((Am ts i).getD 0 0) 6 s)))).bad=false→P ((Am ts i).getD 0 0)∧∀ k∈l,P k:=fun l h=>by
    have h1:=hb _ _ _ (show (AS ts recS recB 0 l _).bad=false from h)
    exact ⟨hV (hVb (hD h1.1)) (hD h1.1),h1.2⟩
   match hk2:Am ts i,hc.1 with
   | [a,b],_ =>
    rw [hk2] at h key
    rw [if_neg (by simp)] at h
    obtain⟨k1,k2⟩:=key _ h
    intro k hk
    simp only [List.mem_cons,List.not_mem_nil,or_false] at hk
    rcases hk with rfl | rfl
    ·exact k1
    ·exact k2 _ (by simp)
   | [a,b,d],_ =>
    rw [hk2] at h key
    by_cases hb2:(forget (ts.getD i AF).n (AS ts recS recB 0 (List.take 1 (List.drop 1 [a,b,d])) (AE (ts.getD i AF).n false [3] (AD ts ([a,b,d].getD 0 0) 6 s)))).bad=false
    ·rw [if_pos ⟨rfl,hb2⟩] at h
     obtain⟨k1,k2⟩:=key _ hb2
     intro k hk
     simp only [List.mem_cons,List.not_mem_nil,or_false] at hk
     rcases hk with rfl | rfl | rfl
     ·exact k1
     ·exact k2 _ (by simp)
     ·exact hB _ _ h
    ·rw [if_neg (by simp only [not_and];exact fun _=>hb2)] at h
     exact absurd h hb2
   | [],hl=>simp at hl
   | [_],hl=>simp at hl
   | _ :: _ :: _ :: _ :: _,hl=>simp at hl
  ·cases h
 split at h
 ·rename_i q
  refine ⟨by omega,?_⟩
  simp only [Bool.or_eq_false_iff,Bool.not_eq_false',decide_eq_true_eq] at h
  exact h0 h.1
 split at h
 ·rename_i q
  refine ⟨by omega,?_⟩
  split at h
  ·cases h
  ·rename_i sg hs
   simp only [Cr,Bool.or_eq_false_iff] at h
   exact GW P (ts:=ts) (rec:=Dl ts s) (fun j=>Dz _ _ _ _) (fun j hj=>hE _ _ hj) h.1 (J6 (CA hs).2.2.2)
 ·cases h
end
end
theorem Hz (ts:List Au) (slots:List Int) (seen:Int→Option Value):∀ (f i:Nat),(BR ts slots seen f i false).2.2=false→Fc ts f i
 | 0,_,_=>trivial
 | f + 1,i,h=>by
  have ih:=Hz ts slots seen f
  have ht:=Dz (ts:=ts) slots seen f
  have har:=(FC slots seen (f + 1) i h).1
  have h0:(Am ts i).length=0→∀ k∈Cz (ts.getD i AF) (Am ts i),Fc ts f k:=fun h k hk=>by rw [List.length_eq_zero_iff.1 h] at hk;simp [Cz] at hk
  have hk:∀ x:Au,x.op≠50→(∀ k∈Am ts i,Fc ts f k)→∀ k∈Cz x (Am ts i),Fc ts f k:=fun x hx h=>by rw [Cx _ hx];exact h
  rw [BR] at h
  generalize BR ts slots seen f=rec at h ih ht
  show _∧_
  refine ⟨har,?_⟩
  unfold BW at h
  simp only [Bool.false_eq_true,if_false] at h
  split at h
  ·rename_i q
   simp only [Bool.or_eq_false_iff,Bool.not_eq_false',Bool.and_eq_true,decide_eq_true_eq] at h
   exact ⟨by omega,by omega,h0 h.1.2⟩
  split at h
  ·rename_i q
   simp only [Bool.or_eq_false_iff,Bool.not_eq_false',decide_eq_true_eq] at h
   exact ⟨by omega,by omega,h0 h.1⟩
  split at h
  ·rename_i q
   split at h
   ·rename_i hc
    exact ⟨by omega,by omega,h0 hc.2.2.2⟩
   ·cases h
  split at h
  ·rename_i q
   split at h
   ·cases h
   ·rename_i s hs
    split at h
    ·rename_i hc
     refine ⟨by omega,by omega,hk _ (by omega) ?_⟩
     simp only [AA,Bool.or_eq_false_iff] at h
     match hk2:Am ts i,hc.1 with
     | [a],_ =>
      rw [hk2] at h
      intro k hk
      rw [List.mem_singleton] at hk
      subst hk
      exact ih _ h.1
    ·cases h
  split at h
  ·rename_i q
   split at h
   ·cases h
   ·rename_i s hs
    refine ⟨by omega,by omega,?_⟩
    by_cases hn:(ts.getD i AF).n=1∨(ts.getD i AF).n=5
    ·obtain⟨h1,h2⟩:=Hq (Fc ts f) ht ih h
     unfold Cz
     rw [if_pos ⟨q,hn⟩]
     have hl:(Am ts i).length=2:=by rw [h1];rcases Gm hs hn with e | e <;> rw [e] <;> rfl
     match hk2:Am ts i,hl with
     | [a,b],_ =>
      rw [hk2] at h2
      intro k hk
      simp at hk
      subst hk
      rcases Gm hs hn with e | e <;> rw [e] at h2
      ·exact h2 _ 4 (by simp) (by decide) (by decide)
      ·exact h2 _ 3 (by simp) (by decide) (by decide)
    ·unfold Cz
     rw [if_neg (fun h=>hn h.2)]
     exact GW (Fc ts f) ht ih h (Mx hs (by omega) (by omega))
  ·obtain⟨h1,h2⟩:=GJ (Fc ts f) ih h
   exact ⟨by omega,by omega,hk _ (by omega) h2⟩
theorem NW (ts:List Au):∀ f,f≤ts.length + 1→(∀ i s,((sbM ts f).1 i s).bad=false→Fc ts f i)∧(∀ i s,((sbM ts f).2 i s).bad=false→Fc ts f i)
 | 0,_=>⟨fun _ _ _=>trivial,fun _ _ _=>trivial⟩
 | f + 1,h=>by
  obtain⟨i1,i2⟩:=NW ts f (by omega)
  obtain⟨a1,a2⟩:=GN ts (f + 1) h
  refine ⟨fun i s hb=>?_,fun i s hb=>?_⟩
  ·obtain⟨h1,h2⟩:=P5 (Fc ts f) i1 i2 (fun s k hk=>(Hz ts _ _ _ _ hk).le (by omega)) i s hb
   exact ⟨(a1 i s hb).1,by omega,by omega,by rw [Cx _ (by omega)];exact h2⟩
  ·have hb2:=hb
   simp only [sbM] at hb2
   unfold CW at hb2
   simp only at hb2
   split at hb2
   ·rename_i hc
    have hop:=hc.1
    exact ⟨(a2 i s hb).1,by omega,by omega,by rw [Cx _ (by omega)];exact (DV (Fc ts f) i1 _ _ _ hb2).2⟩
   ·cases hb2
section
variable {ts:List Au} {rec:Nat→MS→MS}
def Bnd (ts:List Au) (rec:Nat→MS→MS) (j:Nat):Prop:=∀ s,0≤Ap ts j→j < (Ap ts j).toNat→(rec j s).ms≤s.ms + 26 * ((Ap ts j).toNat - j)
theorem I3:∀ (l:List Nat) (p q:Nat) (s:MS),(∀ j∈l,Bnd ts rec j)→Cj ts p q l→(Bw rec l s).ms≤s.ms + 26 * (q - p)
 | [],p,q,s,_,hc=>by simp [Bw]
 | j :: l,p,q,s,h,hc=>by
  obtain⟨rfl,h1,h2,h3⟩:=hc
  have h4:=h j (by simp) s h1 h2
  have h5:=I3 l _ q (rec j s) (fun k hk=>h k (by simp [hk])) h3
  have h6:=Cj.le h3
  have e:Bw rec (j :: l) s=Bw rec l (rec j s):=rfl
  rw [e]
  omega
theorem DO {p q j:Nat} {l:List Nat} (hc:Cj ts p q (j :: l)) (hb:Bnd ts rec j) (s:MS):∃ r,Cj ts r q l∧p < r∧r≤q∧(rec j s).ms≤s.ms + 26 * (r - p):=by
 obtain⟨rfl,h1,h2,h3⟩:=hc
 exact ⟨_,h3,h2,Cj.le h3,hb s h1 h2⟩
end
theorem IV (pi:Int→Option Int) (pt:ByteArray→Option Int) (ts:List Au):∀ f i,Fc ts f i→Bnd ts (CJ pi pt ts f) i
 | 0,i,_=>fun s _ _=>by show s.ms≤_;omega
 | f + 1,i,hf=>by
  intro s h0 h1
  obtain⟨ha,n51,n52,hk⟩:=hf
  have hr:∀ k∈Cz (ts.getD i AF) (Am ts i),Bnd ts (CJ pi pt ts f) k:=fun k hk'=>IV pi pt ts f k (hk k hk')
  have hc:=Ca h0
  have hle:=Cj.le hc
  show (Cs pi pt ts (CJ pi pt ts f) i s).ms≤_
  clear hk
  generalize CJ pi pt ts f=rec at hr
  obtain⟨q,hq⟩:=Ex0 ((Ap ts i).toNat)
  rw [← hq] at hc hle h1 ⊢
  unfold Cs
  obtain⟨x,hx⟩:=Ex0 (ts.getD i AF)
  obtain⟨l,hl⟩:=Ex0 (Am ts i)
  rw [← hx] at ha n51 n52 hr
  rw [← hl] at ha hc hr
  simp only [← hx,← hl]
  clear hq hx hl
  have hA:x.op≠50→(Bw rec l s).ms≤s.ms + 26 * (q - (i + 1)):=fun h=>I3 l _ _ s (by rw [Cx l h] at hr;exact hr) hc
  by_cases q0:x.op=10
  ·rw [if_pos q0];have:=hA (by omega);omega
  rw [if_neg q0]
  by_cases q1:x.op=30
  ·rw [if_pos q1,CC];omega
  rw [if_neg q1]
  by_cases q2:x.op=33
  ·rw [if_pos q2,AL];simp only [List.length_cons,List.length_nil];omega
  rw [if_neg q2]
  by_cases q3:x.op=36
  ·rw [if_pos q3]
   rw [Cx l (by omega)] at hr
   have hl2:l.length=2:=by simpa [Bb,q3] using ha
   match l,hl2 with
   | [a,b],_ =>
    obtain⟨r,hc2,hp,hrq,hb1⟩:=DO hc (hr a (by simp)) s
    obtain⟨r2,hc3,hp2,hrq2,hb2⟩:=DO hc2 (hr b (by simp)) (Bq (AI 31 [] (rec a s)).at_ (AI 30 [] (opE 2 [] (AI 31 [] (rec a s)))))
    rw [Bj,Bk,AL,Bk] at hb2
    simp only [List.length_nil] at hb2
    have e:orE rec [a,b] s=Bq (AI 30 [] (opE 2 [] (AI 31 [] (rec a s)))).at_ (rec b (Bq (AI 31 [] (rec a s)).at_ (AI 30 [] (opE 2 [] (AI 31 [] (rec a s)))))):=rfl
    rw [e,Bj]
    omega
  rw [if_neg q3]
  by_cases q4:x.op=37
  ·rw [if_pos q4]
   rw [Cx l (by omega)] at hr
   have hl2:l.length=2:=by simpa [Bb,q4] using ha
   match l,hl2 with
   | [a,b],_ =>
    obtain⟨r,hc2,hp,hrq,hb1⟩:=DO hc (hr a (by simp)) s
    obtain⟨r2,hc3,hp2,hrq2,hb2⟩:=DO hc2 (hr b (by simp)) (AI 31 [] (rec a s))
    rw [Bk] at hb2
    simp only [List.length_nil] at hb2
    have e:II rec [a,b] s=Bq (AI 30 [] (rec b (AI 31 [] (rec a s)))).at_ (opE 3 [] (Bq (AI 31 [] (rec a s)).at_ (AI 30 [] (rec b (AI 31 [] (rec a s)))))):=rfl
    rw [e,Bj,AL,Bj,Bk]
    simp only [List.length_nil]
    omega
  rw [if_neg q4]
  by_cases q5:x.op=38∨x.op=39
  ·rw [if_pos q5]
   have h:=hA (by omega)
   unfold Dt
   dsimp only
   split
   ·rw [AL,AL];simp only [List.length_cons,List.length_nil];omega
   ·rw [AL];simp only [List.length_cons,List.length_nil];omega
  rw [if_neg q5]
  by_cases q6:x.op=50
  ·rw [if_pos q6]
   unfold Bi
   by_cases hn:x.n=1∨x.n=5
   ·have hl2:l.length=2:=by
     rcases hn with q | q <;> simp [Bb,q6,q,Bp,Bz] at ha <;> exact ha
    unfold Cz at hr
    rw [if_pos ⟨q6,hn⟩] at hr
    match l,hl2 with
    | [a,b],_ =>
     obtain⟨r,hc2,hp,hrq,hb1⟩:=DO hc (hr a (by simp)) s
     have e:([a,b]:List Nat).getD 0 0=a:=rfl
     rw [e]
     split
     ·rw [AL];simp only [List.length_cons,List.length_nil];omega
     split
     ·unfold MR;rw [DE,EC];omega
     ·omega
   ·unfold Cz at hr
    rw [if_neg (fun h=>hn h.2)] at hr
    have h:=I3 l _ _ s hr hc
    rw [if_neg (fun h=>hn (.inl h)),if_neg (fun h=>hn (.inr h)),AL]
    simp only [List.length_nil]
    omega
  rw [if_neg q6]
  by_cases q7:x.op=13∨x.op=16
  ·rw [if_pos q7]
   rw [Cx l (by omega)] at hr
   have hl2:l.length=2∨l.length=3:=by rcases q7 with q | q <;> simpa [Bb,q] using ha
   have hB:∀ s,(DK x s).ms≤s.ms + 2:=fun s=>by
    unfold DK
    split
    ·omega
    ·rw [AL];simp only [List.length_cons,List.length_nil];omega
   match l,hl2 with
   | [a,b],_ =>
    obtain⟨r,hc2,hp,hrq,hb1⟩:=DO hc (hr a (by simp)) s
    obtain⟨r2,hc3,hp2,hrq2,hb2⟩:=DO hc2 (hr b (by simp)) (DK x (D1 x (rec a s)))
    have h3:=hB (D1 x (rec a s))
    rw [Lb] at h3
    have e:Ds rec x [a,b] s=Bq (D1 x (rec a s)).at_ (rec b (DK x (D1 x (rec a s)))):=rfl
    rw [e,Bj]
    omega
   | [a,b,d],_ =>
    obtain⟨r,hc2,hp,hrq,hb1⟩:=DO hc (hr a (by simp)) s
    obtain⟨r2,hc3,hp2,hrq2,hb2⟩:=DO hc2 (hr b (by simp)) (DK x (D1 x (rec a s)))
    have h3:=hB (D1 x (rec a s))
    rw [Lb] at h3
    obtain⟨r3,hc4,hp3,hrq3,hb3⟩:=DO hc3 (hr d (by simp)) (Bq (D1 x (rec a s)).at_ (AI 30 [] (rec b (DK x (D1 x (rec a s))))))
    rw [Bj,Bk] at hb3
    simp only [List.length_nil] at hb3
    have e:Ds rec x [a,b,d] s=Bq (AI 30 [] (rec b (DK x (D1 x (rec a s))))).at_ (rec d (Bq (D1 x (rec a s)).at_ (AI 30 [] (rec b (DK x (D1 x (rec a s))))))):=rfl
    rw [e,Bj]
    omega
   | [],hl=>simp at hl
   | [_],hl=>simp at hl
   | _ :: _ :: _ :: _ :: _,hl=>simp at hl
  rw [if_neg q7]
  by_cases q8:x.op=14
  ·rw [if_pos q8]
   rw [Cx l (by omega)] at hr
   unfold D9
   dsimp only
   have h:=I3 l _ _ (Ee pi x (D5 pi x s)) hr hc
   have e:(Ee pi x (D5 pi x s)).ms=s.ms + 14:=by
    unfold Ee D5
    rw [Bk,AL,CC,AL,AL,CC]
    simp
   rw [Bj]
   unfold GR
   rw [DE,AL,AL,CC,AL]
   simp only [List.length_cons,List.length_nil]
   omega
  rw [if_neg q8]
  by_cases q9:x.op=15
  ·rw [if_pos q9]
   rw [Cx l (by omega)] at hr
   have hl2:l.length=2:=by simpa [Bb,q9] using ha
   match l,hl2 with
   | [a,b],_ =>
    obtain⟨r,hc2,hp,hrq,hb1⟩:=DO hc (hr a (by simp)) (C9 (pi 1) s)
    obtain⟨r2,hc3,hp2,hrq2,hb2⟩:=DO hc2 (hr b (by simp)) (opE 5 [u8 x.n] (AI 32 [u8 x.m,u8 (u8 x.m + 1)] (Gx pi x (rec a (C9 (pi 1) s)))))
    have h3:(Gx pi x (rec a (C9 (pi 1) s))).ms=(rec a (C9 (pi 1) s)).ms + 7:=by
     unfold Gx
     rw [AL,CC,AL]
     simp
    rw [AL,Bk,h3] at hb2
    rw [EC] at hb1
    simp only [List.length_cons,List.length_nil] at hb2
    unfold Fq
    dsimp only
    have e0:([a,b]:List Nat).getD 0 0=a:=rfl
    have e1:([a,b]:List Nat).getD 1 0=b:=rfl
    rw [e0,e1,Bj,DE]
    omega
  rw [if_neg q9]
  have h:=hA (by omega)
  by_cases q10:x.op=49
  ·rw [if_pos q10,AL];simp only [List.length_cons,List.length_nil];omega
  rw [if_neg q10]
  by_cases q11:x.op=19
  ·rw [if_pos q11,AL];simp only [List.length_cons,List.length_nil];omega
  rw [if_neg q11]
  by_cases q12:x.op=11∨x.op=12
  ·rw [if_pos q12,AL];simp only [List.length_cons,List.length_nil];omega
  rw [if_neg q12]
  unfold EX
  split
  ·rw [AL];simp only [List.length_nil];omega
  ·omega
def Au.low (x:Au):Au:={ x with pos:=0 }
section
variable {ts:List Au}
section
variable {rec rec':Nat→Bool→ER} (ht:∀ i,(rec i true).2.2=true) (hr:∀ i,(rec i false).2.2=false→rec' i false=rec i false)
include ht hr
end
end
section
variable {ts:List Au}
section
variable {recS recB recS' recB':Nat→LSt→LSt} (hS:∀ i s,(recS i s).bad=false→recS' i s=recS i s) (hB:∀ i s,(recB i s).bad=false→recB' i s=recB i s)
include hS
include hB
end
end
theorem Ij {on:Int} {slots:List Int} {when_:Bool} {ts:List Au} (h:Bg on slots when_ ts=true):ts.length≤2000∧0 < ts.length ∧
  ∃ m:Nat,CU when_ ts=m∧m < ts.length∧Ap ts m=ts.length∧Fit ts (ts.length + 1) m∧(when_=true→Ap ts 0=m∧Fit ts (ts.length) 0)∧(when_=false→m=0):=by
 unfold Bg at h
 simp only [Bool.and_eq_true,decide_eq_true_eq,Bool.not_eq_true'] at h
 obtain⟨⟨⟨⟨⟨⟨h0,h1⟩,h2⟩,h3⟩,h4⟩,h5⟩,h6⟩:=h
 unfold CI at h4
 simp only [Bool.and_eq_true,decide_eq_true_eq] at h4
 obtain⟨hb,he⟩:=h4
 obtain⟨m,hm⟩:=Int.eq_ofNat_of_zero_le hb
 rw [hm,Int.toNat_natCast] at he
 have hml:m < ts.length:=by
  by_cases h:m < ts.length
  ·exact h
  ·have e:Ap ts m = -1:=by unfold Ap;rw [if_neg h]
   rw [e] at he;omega
 have hb1:(Eh when_ ts).bad=false:=by
  unfold DS at h5
  split at h5
  ·rename_i hh;rw [hh] at h5;cases h5
  ·rename_i hh;simpa using hh
 have hb2:((sbM ts (ts.length + 1)).2 m (Eh when_ ts)).bad=false:=by
  unfold DS at h5
  rw [if_neg (by rw [hb1];decide),hm,Int.toNat_natCast] at h5
  exact h5
 refine ⟨h3,by omega,m,hm,hml,he,(GN ts (ts.length + 1) (Nat.le_refl _)).2 m _ hb2,fun hw=>?_,fun hw=>?_⟩
 ·subst hw
  refine ⟨by unfold CU at hm;rw [if_pos rfl] at hm;exact hm,?_⟩
  unfold Eh at hb1
  rw [if_pos rfl] at hb1
  unfold AD Cr at hb1
  simp only [AA,Bool.or_eq_false_iff] at hb1
  exact FC _ _ _ _ hb1.1.1
 ·subst hw
  unfold CU at hm
  rw [if_neg (by decide)] at hm
  omega
theorem JH {on:Int} {slots:List Int} {when_:Bool} {ts:List Au} (h:Bg on slots when_ ts=true):Fc ts ts.length (CU when_ ts).toNat∧(when_=true→Fc ts ts.length 0):=by
 unfold Bg at h
 simp only [Bool.and_eq_true,decide_eq_true_eq,Bool.not_eq_true'] at h
 obtain⟨⟨⟨⟨⟨⟨h0,h1⟩,h2⟩,h3⟩,h4⟩,h5⟩,h6⟩:=h
 have hb1:(Eh when_ ts).bad=false:=by
  unfold DS at h5
  split at h5
  ·rename_i hh;rw [hh] at h5;cases h5
  ·rename_i hh;simpa using hh
 have hb2:((sbM ts (ts.length + 1)).2 (CU when_ ts).toNat (Eh when_ ts)).bad=false:=by
  unfold DS at h5
  rw [if_neg (by rw [hb1];decide)] at h5
  exact h5
 refine ⟨((NW ts (ts.length + 1) (Nat.le_refl _)).2 _ _ hb2).le (by omega),fun hw=>?_⟩
 subst hw
 unfold Eh at hb1
 rw [if_pos rfl] at hb1
 unfold AD Cr at hb1
 simp only [AA,Bool.or_eq_false_iff] at hb1
 exact Hz ts _ _ _ _ hb1.1.1
theorem GA (pi:Int→Option Int) (pt:ByteArray→Option Int) {on:Int} {slots:List Int} {when_:Bool} {ts:List Au} (h:Bg on slots when_ ts=true):(BY pi pt when_ ts).ms≤1000000:=by
 obtain⟨f1,f2⟩:=JH h
 obtain⟨hl,hp,m,hm,hml,he,_,hwt,hwf⟩:=Ij h
 rw [hm,Int.toNat_natCast] at f1
 have z0:(⟨[],false,[]⟩:MS).ms=0:=rfl
 have b1:=IV pi pt ts ts.length m f1
 unfold BY
 dsimp only
 rw [AL]
 cases when_ with
 | false =>
  have hm0:=hwf rfl
  subst hm0
  have h1:=b1 ⟨[],false,[]⟩ (by rw [he];omega) (by rw [he];simpa using hp)
  rw [he,z0,Int.toNat_natCast] at h1
  simp only [Bool.false_eq_true,if_false,List.length_nil]
  omega
 | true =>
  obtain⟨hb0,_⟩:=hwt rfl
  have h0:0 < m:=by
   have hb:=hb0
   rcases Nat.eq_zero_or_pos m with h | h
   ·rw [h] at hb he;rw [he] at hb;omega
   ·exact h
  have h1:=IV pi pt ts ts.length 0 (f2 rfl) ⟨[],false,[]⟩ (by rw [hb0];omega) (by rw [hb0,Int.toNat_natCast];exact h0)
  have h2:=b1 (AI 31 [] (CJ pi pt ts ts.length 0 ⟨[],false,[]⟩)) (by rw [he];omega) (by rw [he,Int.toNat_natCast];exact hml)
  rw [hb0,z0,Int.toNat_natCast] at h1
  rw [he,Bk,Int.toNat_natCast] at h2
  simp only [if_true,hb0,Int.toNat_natCast,List.length_nil] at h2 ⊢
  rw [Bj]
  omega
end Go.Proofs.YtmpcbaflcogmmaaGreatDoor
