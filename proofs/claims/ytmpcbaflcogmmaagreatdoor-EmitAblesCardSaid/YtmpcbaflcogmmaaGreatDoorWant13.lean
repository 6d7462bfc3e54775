/- Leaf13 Want13 -/
import Derived.Test.YtmpcbaflcogmmaaGreatDoorSeen13
import Derived.Test.YtmpcbaflcogmmaaGreatDoorSizesT
namespace Go.Proofs.YtmpcbaflcogmmaaGreatDoor
open Go.RowKit
set_option linter.all false
set_option maxHeartbeats 4000000
set_option maxRecDepth 100000
def Dg (B kb:Nat) (tv:Value) (slots:List Int) (vars:List Vr) (w:World) (r:ER) (H:Int) (e:Ending) (w':World):Prop:=
 ∃ k h:Int,e=.returned (.tuple #[.int .i8 k,.int .i64 h])∧0≤h∧h≤H∧RK w' B kb tv ⟨slots,vars,r.2.2⟩∧Frm B [158] w w'∧(r.2.2=false→k=r.1∧h=r.2.1)
def Kp (slots:List Int) (vars:List Vr) (seen:Int→Option Value):Prop:=
 ∀ n,(Da vars n=none∧¬ ((seen n).isSome=true∧0≤n∧n < 1048576))∨∃ v,Da vars n=some v∧0≤n∧n < 1048576∧seen n=some (.bool v.let_)∧v.kind=slots.getD n.toNat 0
section
variable (B kb tb toff cap:Nat) (ts:List Au) (slots:List Int) (vars:List Vr) (seen:Int→Option Value) (hlt:ts.length≤100000) (htb:tb < B) (hvl:vars.length≤100000) (hrel:Kp slots vars seen)
include hlt htb hvl hrel
theorem Qx (rec:Nat→Bool→ER) (i:Nat) (x:Au) (w:World) (h:RK w B kb (.slice (some ⟨tb,toff,none⟩) ts.length cap) ⟨slots,vars,false⟩) (hx:ts[i]? = some x) (hn:As w tb toff ts) (hbe:0≤Ap ts i) (hop:x.op=30∨x.op=31∨x.op=32∨x.op=33) :
  Calls Tryz.prog 248 #[.pointer (some ⟨kb,0,none⟩),.int .i64 i] w fun e w'=>Dg B kb (.slice (some ⟨tb,toff,none⟩) ts.length cap) slots vars w (BW rec ts slots seen i false) 2 e w':=by
 have hi:i < ts.length:=(List.getElem?_eq_some_iff.1 hx).1
 obtain⟨K,hK,hKl⟩:=PN hx hbe
 obtain⟨R,hR⟩:=Ex0 (BW rec ts slots seen i false)
 rw [← hR]
 have hxg:ts.getD i AF=x:=by rw [List.getD_eq_getElem?_getD,hx];rfl
 unfold BW at hR
 simp only [hxg,hKl] at hR
 rw [if_neg (by decide)] at hR
 obtain⟨c0,c1,c2,c3,c4,c5,c6⟩:=hn.all hx
 obtain⟨k0,k3,kf⟩:=h.cells
 obtain⟨hB,hks⟩:=h.size
 have hpl:=fun (s:RS) (kind n m:Int) wx hx' hn'=>BT B kb tb toff cap ts s i x kind n m wx hx' hx hn' hlt
 obtain⟨len,hlen⟩:∃ len,ts.length=len:=⟨_,rfl⟩
 simp only [hlen] at hpl
 rw [hlen] at h hi hlt k0 ⊢
 have hiI:(i:Int) < len:=by omega
 have hmu:=fun (s:RS) x wx hx=>BC B kb (.slice (some ⟨tb,toff,none⟩) len cap) s x wx hx
 have hse:=fun n wx hx=>Dy B kb (.slice (some ⟨tb,toff,none⟩) len cap) ⟨slots,vars,false⟩ n wx hx hvl
 obtain⟨xo,xk,xn,xm,xt,xp,xq⟩:=x
 simp only at c0 c1 c2 c3 c4 c5 c6 hop hR hK
 subst hK
 obtain⟨z,hz⟩:=Ex0 (decide (K=0))
 have hz2:((K:Int) == 0)=z:=by rw [hz,Bool.eq_iff_iff,beq_iff_eq,decide_eq_true_eq];omega
 obtain⟨H,HPL,HMU,HSE,HN,HXB,HF0,HZ,HZ1,HR,HREL⟩:=Hd11 h hpl hmu hse hn (Blk.new w 120 #[.int .i8 xo,.int .i8 xk,.int .i64 xn,.int .i64 xm,.string xt,.int .i64 xp,.int .i64 (K:Int)]) ((Frm.refl B [158] w).alloc (by omega) (.cells #[.int .i8 xo,.int .i8 xk,.int .i64 xn,.int .i64 xm,.string xt,.int .i64 xp,.int .i64 (K:Int)] 120)) hz2 hz hR hrel
 clear h hpl hmu hse hn hxg hx hlen hz hz2 hR hrel hKl
 rcases hop with rfl | rfl | rfl | rfl
 ·go_in
  go_wp2_with fail
  rw [HZ.out]
  refine (HMU.out ⟨slots,vars,false⟩ z _ (H.out.alloc _)).mono ?_
  rintro e w1 ⟨rfl,h1,f1⟩
  have F1:=Lh (HF0.out.trans f1)
  have x1:=f1.blk HXB.out (by decide)
  have y0:=x1.cell 0
  have y2:=x1.cell 2
  have hz1:=f1.size
  simp only [World.size_alloc] at hz1
  obtain⟨HN1,HX1,H1⟩:=Hd3 (F1.out.nodes HN.out htb) x1 h1
  clear h1 f1 x1
  obtain⟨q,hq⟩:=Ex0 (decide (0≤xn))
  go_wp2_with fail
  rw [← hq]
  refine (HMU.out _ q _ H1.out).mono ?_
  rintro e w2 ⟨rfl,h2,f2⟩
  have F2:=Lh (F1.out.trans f2)
  have x2:=f2.blk HX1.out (by decide)
  have y22:=x2.cell 2
  obtain⟨HN2,H2⟩:=Hd2 (f2.nodes HN1.out htb) h2
  clear h2 f2 x2 y0 y2
  go_wp2_with fail
  refine (HPL.out _ 1 xn 0 _ H2.out HN2.out).mono ?_
  rintro e w3 ⟨rfl,h3,f3⟩
  obtain⟨HFF,H3,HQ⟩:=Hd3 (F2.out.trans f3) h3 hq
  clear f3 h3 hq
  go_wp2_with fail
  go_ret2
  have hres:R=(1,1,!(decide (0≤xn) && decide (K=0)) || !(AO ⟨30,xk,xn,xm,xt,xp,(K:Int)⟩ 1 xn 0)):=by rw [HR.out];simp
  refine ⟨1,1,rfl,by omega,by omega,H3.out.same ?_,HFF.out,fun _=>by rw [hres];exact ⟨rfl,rfl⟩⟩
  rw [hres,← HQ.out,← HZ1.out]
  simp only [RS.must]
  cases z <;> cases q <;> simp
 ·go_in
  go_wp2_with fail
  rw [HZ.out]
  refine (HMU.out ⟨slots,vars,false⟩ z _ (H.out.alloc _)).mono ?_
  rintro e w1 ⟨rfl,h1,f1⟩
  have F1:=Lh (HF0.out.trans f1)
  have x1:=f1.blk HXB.out (by decide)
  have y0:=x1.cell 0
  have y2:=x1.cell 2
  have hz1:=f1.size
  simp only [World.size_alloc] at hz1
  obtain⟨HN1,HX1,H1⟩:=Hd3 (F1.out.nodes HN.out htb) x1 h1
  clear h1 f1 x1
  go_wp2_with fail
  refine (HPL.out _ 2 0 0 _ H1.out HN1.out).mono ?_
  rintro e w3 ⟨rfl,h3,f3⟩
  obtain⟨HFF,H3⟩:=Hd2 (F1.out.trans f3) h3
  clear f3 h3
  go_wp2_with fail
  go_ret2
  have hres:R=(2,1,!(decide (K=0)) || !(AO ⟨31,xk,xn,xm,xt,xp,(K:Int)⟩ 2 0 0)):=by rw [HR.out];simp
  refine ⟨2,1,rfl,by omega,by omega,H3.out.same ?_,HFF.out,fun _=>by rw [hres];exact ⟨rfl,rfl⟩⟩
  rw [hres,← HZ1.out]
  simp only [RS.must]
  cases z <;> simp
 ·go_in
  go_wp2_with fail
  rw [HZ.out]
  refine (HMU.out ⟨slots,vars,false⟩ z _ (H.out.alloc _)).mono ?_
  rintro e w1 ⟨rfl,h1,f1⟩
  have F1:=Lh (HF0.out.trans f1)
  have x1:=f1.blk HXB.out (by decide)
  have y0:=x1.cell 0
  have y2:=x1.cell 2
  have hz1:=f1.size
  simp only [World.size_alloc] at hz1
  obtain⟨HN1,HX1,H1⟩:=Hd3 (F1.out.nodes HN.out htb) x1 h1
  clear h1 f1 x1
  go_wp2_with fail
  refine (HPL.out _ 2 0 0 _ H1.out HN1.out).mono ?_
  rintro e w3 ⟨rfl,h3,f3⟩
  obtain⟨HFF,H3⟩:=Hd2 (F1.out.trans f3) h3
  clear f3 h3
  go_wp2_with fail
  go_ret2
  have hres:R=(2,1,!(decide (K=0)) || !(AO ⟨32,xk,xn,xm,xt,xp,(K:Int)⟩ 2 0 0)):=by rw [HR.out];simp
  refine ⟨2,1,rfl,by omega,by omega,H3.out.same ?_,HFF.out,fun _=>by rw [hres];exact ⟨rfl,rfl⟩⟩
  rw [hres,← HZ1.out]
  simp only [RS.must]
  cases z <;> simp
 ·go_in
  go_wp2_with fail
  rw [HZ.out]
  refine (HMU.out ⟨slots,vars,false⟩ z _ (H.out.alloc _)).mono ?_
  rintro e w1 ⟨rfl,h1,f1⟩
  have F1:=Lh (HF0.out.trans f1)
  have x1:=f1.blk HXB.out (by decide)
  have y0:=x1.cell 0
  have y2:=x1.cell 2
  have hz1:=f1.size
  simp only [World.size_alloc] at hz1
  obtain⟨HN1,HX1,H1⟩:=Hd3 (F1.out.nodes HN.out htb) x1 h1
  clear h1 f1 x1
  have hse2:=Dy B kb (.slice (some ⟨tb,toff,none⟩) len cap) ((⟨slots,vars,false⟩:RS).must z) xn w1 H1.out hvl
  have hvv:((⟨slots,vars,false⟩:RS).must z).vars=vars:=rfl
  rw [hvv] at hse2
  rcases HREL.out xn with ⟨hnone,hno⟩ | ⟨v,hsome,hv0,hv1,hv2,hv3⟩
  ·rw [hnone] at hse2
   simp only [Mb,Option.isSome] at hse2
   have HSE2:=Lh hse2
   clear hse2
   go_wp2_with fail
   refine HSE2.out.mono ?_
   rintro e w2 ⟨rfl,h2,b2⟩
   have f2:Frm B [158] w1 w2:=Frm.of_below b2 (by omega)
   have F2:=Lh (F1.out.trans f2)
   have x2:=f2.blk HX1.out (by decide)
   have y22:=x2.cell 2
   obtain⟨HN2,H2⟩:=Hd2 (f2.nodes HN1.out htb) h2
   have hzz2:=b2.size
   clear h2 b2 f2 y0 y2
   go_wp2_with fail
   refine (HMU.out _ false _ (H2.out.alloc _)).mono ?_
   rintro e w3 ⟨rfl,h3,f3⟩
   have hb3:=f3.blk (Blk.new w2 160 #[.string ByteArray.empty,.int .i64 0,.int .i8 0,.bool false]) (by decide)
   have v2:=hb3.cell 2
   have x3:=(f3.blk (x2.alloc _) (by decide)).cell 2
   have FA:=(Frm.refl B [158] w2).alloc (by omega) (.cells #[.string ByteArray.empty,.int .i64 0,.int .i8 0,.bool false] 160)
   obtain⟨HN3,F3,H3,HB3⟩:=Hd4 ((FA.trans f3).nodes HN2.out htb) (F2.out.trans (FA.trans f3)) h3 hb3
   clear h3 f3 hb3 x2 FA
   go_wp2_with fail
   refine (HPL.out _ 0 xn 0 _ H3.out HN3.out).mono ?_
   rintro e w4 ⟨rfl,h4,f4⟩
   have v4:=(f4.blk HB3.out (by decide)).cell 2
   obtain⟨HFF,H4⟩:=Hd2 (F3.out.trans f4) h4
   clear f4 h4
   go_wp2_with fail
   go_ret2
   have hres:R=(0,0,true):=by
    rw [HR.out]
    simp only [show ¬ ((33:Int)=30) by decide,show ¬ ((33:Int)=31∨(33:Int)=32) by decide,if_false,if_true]
    rw [if_neg (fun h=>hno ⟨h.1,h.2.1,h.2.2.1⟩)]
   refine ⟨0,1,rfl,by omega,by omega,H4.out.same ?_,HFF.out,fun h=>by rw [hres] at h;cases h⟩
   rw [hres]
   simp [RS.must]
  ·rw [hsome] at hse2
   obtain⟨vs,vk,vl⟩:=v
   simp only [Mb,Option.isSome,Vr.cells] at hse2
   simp only at hv2 hv3
   obtain⟨HV2,HV3⟩:=Hd2 hv2 hv3
   clear hv2 hv3
   have HSE2:=Lh hse2
   clear hse2
   go_wp2_with fail
   refine HSE2.out.mono ?_
   rintro e w2 ⟨rfl,h2,b2⟩
   have f2:Frm B [158] w1 w2:=Frm.of_below b2 (by omega)
   have F2:=Lh (F1.out.trans f2)
   have x2:=f2.blk HX1.out (by decide)
   have y22:=x2.cell 2
   obtain⟨HN2,H2⟩:=Hd2 (f2.nodes HN1.out htb) h2
   have hzz2:=b2.size
   clear h2 b2 f2 y0 y2
   go_wp2_with fail
   refine (HMU.out _ true _ (H2.out.alloc _)).mono ?_
   rintro e w3 ⟨rfl,h3,f3⟩
   have hb3:=f3.blk (Blk.new w2 160 #[.string ByteArray.empty,.int .i64 vs,.int .i8 vk,.bool vl]) (by decide)
   have v2:=hb3.cell 2
   have x3:=(f3.blk (x2.alloc _) (by decide)).cell 2
   have FA:=(Frm.refl B [158] w2).alloc (by omega) (.cells #[.string ByteArray.empty,.int .i64 vs,.int .i8 vk,.bool vl] 160)
   obtain⟨HN3,F3,H3,HB3⟩:=Hd4 ((FA.trans f3).nodes HN2.out htb) (F2.out.trans (FA.trans f3)) h3 hb3
   clear h3 f3 hb3 x2 FA
   go_wp2_with fail
   refine (HPL.out _ vk xn 0 _ H3.out HN3.out).mono ?_
   rintro e w4 ⟨rfl,h4,f4⟩
   have v4:=(f4.blk HB3.out (by decide)).cell 2
   obtain⟨HFF,H4⟩:=Hd2 (F3.out.trans f4) h4
   clear f4 h4
   go_wp2_with fail
   go_ret2
   have hk0:=HZ1.out
   have hres:R=if K=0 then (vk,1,!(AO ⟨33,xk,xn,xm,xt,xp,(K:Int)⟩ vk xn 0)) else (0,0,true):=by
    rw [HR.out,← HV3.out]
    simp only [show ¬ ((33:Int)=30) by decide,show ¬ ((33:Int)=31∨(33:Int)=32) by decide,if_false,if_true]
    by_cases hK0:K=0
    ·rw [if_pos ⟨by rw [HV2.out];rfl,hv0,hv1,hK0⟩,if_pos hK0]
    ·rw [if_neg (fun h=>hK0 h.2.2.2),if_neg hK0]
   refine ⟨vk,1,rfl,by omega,by omega,H4.out.same ?_,HFF.out,fun h=>?_⟩
   ·rw [hres,hk0]
    by_cases hK0:K=0 <;> simp [RS.must,hK0]
   ·rw [hres] at h ⊢
    by_cases hK0:K=0
    ·rw [if_pos hK0];exact ⟨rfl,rfl⟩
    ·rw [if_neg hK0] at h;cases h
end
def En (B kb tb toff cap:Nat) (ts:List Au) (slots:List Int) (vars:List Vr) (r:Bool→ER) (H:Int) (i:Nat):Prop:=
 ∀ (bad:Bool) (w:World),RK w B kb (.slice (some ⟨tb,toff,none⟩) ts.length cap) ⟨slots,vars,bad⟩→As w tb toff ts →
  Calls Tryz.prog 204 #[.pointer (some ⟨kb,0,none⟩),.int .i64 i] w fun e w'=>Dg B kb (.slice (some ⟨tb,toff,none⟩) ts.length cap) slots vars w (r bad) H e w'
theorem BP (B kb tb toff cap:Nat) (ts:List Au) (slots:List Int) (vars:List Vr) (r:Bool→ER) (H:Int) (i:Nat) (kind:Int) (bad:Bool) (w:World) (he:En B kb tb toff cap ts slots vars r H i)
  (h:RK w B kb (.slice (some ⟨tb,toff,none⟩) ts.length cap) ⟨slots,vars,bad⟩) (hn:As w tb toff ts) :
  Calls Tryz.prog 164 #[.pointer (some ⟨kb,0,none⟩),.int .i64 i,.int .i8 kind] w fun e w'=>∃ hh:Int,e=.returned (.int .i64 hh)∧0≤hh∧hh≤H ∧
   RK w' B kb (.slice (some ⟨tb,toff,none⟩) ts.length cap) ⟨slots,vars,(AA (r bad) kind).2⟩∧Frm B [158] w w'∧((AA (r bad) kind).2=false→hh=(AA (r bad) kind).1):=by
 have he1:=he bad w h hn
 have hmu:=fun (s:RS) x wx hx=>BC B kb (.slice (some ⟨tb,toff,none⟩) ts.length cap) s x wx hx
 obtain⟨R,hR⟩:=Ex0 (r bad)
 rw [← hR] at he1 ⊢
 obtain⟨HE,HMU⟩:=Hd2 he1 hmu
 clear he he1 hmu hn h hR
 obtain⟨rk,rh,rb⟩:=R
 go_in
 go_wp2_with fail
 refine HE.out.mono ?_
 rintro e w1 ⟨k,hh,rfl,h0,h1,hr1,f1,hg⟩
 obtain⟨q,hq⟩:=Ex0 ((k == kind))
 obtain⟨HG,HR1,F1⟩:=Hd3 hg hr1 f1
 clear hg hr1 f1
 go_wp2_with fail
 rw [← hq]
 refine (HMU.out _ q _ HR1.out).mono ?_
 rintro e w2 ⟨rfl,h2,f2⟩
 obtain⟨HQ,H2,F2⟩:=Hd3 hq h2 (F1.out.trans f2)
 clear hq h2 f2
 go_wp2_with fail
 go_ret
 have hg:=HG.out
 cases rb with
 | true=>exact ⟨hh,rfl,h0,h1,H2.out.same (by simp [RS.must,AA]),F2.out,fun h=>by simp [AA] at h⟩
 | false =>
  obtain⟨rfl,rfl⟩:=hg rfl
  refine ⟨_,rfl,h0,h1,H2.out.same (by simp [RS.must,AA,HQ.out]),F2.out,fun _=>rfl⟩
theorem MH (B kb:Nat) (tv:Value) (s:RS) (hh:Int) (w:World) (h:RK w B kb tv s) :
  Calls Tryz.prog 163 #[.pointer (some ⟨kb,0,none⟩),.int .i64 hh] w fun e w'=>e=.returned (.tuple #[])∧RK w' B kb tv (s.must (decide (hh≤256)))∧Frm B [158] w w':=by
 have hmu:=fun (s:RS) x wx hx=>BC B kb tv s x wx hx
 obtain⟨HMU,H⟩:=Hd2 hmu h
 clear h hmu
 obtain⟨q,hq⟩:=Ex0 (decide (hh≤256))
 go_in
 go_wp2_with fail
 rw [← hq]
 have HQ:=Lh hq
 clear hq
 refine (HMU.out _ q _ H.out).mono ?_
 rintro e w1 ⟨rfl,h1,f1⟩
 obtain⟨H1,F1⟩:=Hd2 h1 f1
 clear h1 f1
 go_wp2_with fail
 go_end0
 exact ⟨rfl,by rw [← HQ.out];exact H1.out,F1.out⟩
theorem DD (op:Int) (w:World) (h:34≤op∧op≤48):Calls Tryz.prog 250 #[.int .i8 op] w fun e w'=>e=.returned (.int .i8 (AG op).2)∧w=w':=by
 unfold AG
 by_cases q1:op=35
 ·subst q1
  go_in
  go_wp2
  go_ret
  exact ⟨rfl,rfl⟩
 have s1:(op == 35)=false:=by simp [q1]
 by_cases q2:44≤op
 ·have d1:decide (44≤op)=true:=decide_eq_true q2
  have d2:decide (op≤48)=true:=decide_eq_true h.2
  rw [if_pos (.inr ⟨q2,h.2⟩)]
  go_in
  go_wp2
  go_ret
  exact ⟨rfl,rfl⟩
 ·have d1:decide (44≤op)=false:=decide_eq_false q2
  have e:(if op=35∨(44≤op∧op≤48) then ((1:Int),(1:Int)) else if 40≤op∧op≤43 then (1,2) else (2,2)).2=2:=by
   rw [if_neg (by omega)];split <;> rfl
  rw [e]
  go_in
  go_wp2
  go_ret
  exact ⟨rfl,rfl⟩
def Ce (op:Int):Int:=if op=34∨op=36∨op=37 then 2 else if op=38∨op=39 then -1 else 1
theorem CN (op:Int) (w:World):Calls Tryz.prog 251 #[.int .i8 op] w fun e w'=>e=.returned (.int .i8 (Ce op))∧w=w':=by
 unfold Ce
 by_cases q:op=34∨op=36∨op=37∨op=38∨op=39
 ·rcases q with rfl | rfl | rfl | rfl | rfl
  all_goals (
   go_in
   go_wp2
   go_ret
   exact ⟨rfl,rfl⟩)
 ·rw [if_neg (by omega),if_neg (by omega)]
  have s1:(op == 34)=false:=by simp;omega
  have s2:(op == 36)=false:=by simp;omega
  have s3:(op == 37)=false:=by simp;omega
  have s4:(op == 38)=false:=by simp;omega
  have s5:(op == 39)=false:=by simp;omega
  go_in
  go_wp2
  go_ret
  exact ⟨rfl,rfl⟩
theorem R6 (s:ByteArray) (w:World) (hs:s.size≤1099511627776):Calls Tryz.prog 253 #[.string s] w fun e w'=>e=.returned (.bool (CV s))∧w=w':=by
 by_cases hbig:64 < s.size
 ·have hbI:(64:Int) < s.size:=by omega
  have hf:CV s=false:=by simp only [CV];rw [decide_eq_false (by omega),Bool.and_false]
  rw [hf]
  clear hf
  go_in
  go_wp2
  go_ret
  exact ⟨rfl,rfl⟩
 have hbI:(s.size:Int)≤64:=by omega
 go_in
 go_wp2
 go_loop [3] (fun i=>∃ k:Nat,k≤s.size∧i=.int .i64 k∧Hid ((s.data.toList.take k).all (fun c=>32≤c.toNat && c.toNat≤126)=true)) (fun i=>s.size - (intOf i).toNat)
 case atStart=>exact ⟨0,by omega,rfl,rfl⟩
 case round =>
  obtain⟨k,hk,rfl,H⟩:=hrel
  by_cases hlt:k < s.size
  ·have htake:s.data.toList.take (k + 1)=s.data.toList.take k ++ [s[k]]:=by
    rw [List.take_succ_eq_append_getElem (by simpa using hlt)];rfl
   have HT:=Lh htake
   clear htake
   by_cases h1:(s[k].toNat:Int) < 32
   ·have hf:CV s=false:=by
     have h2:¬ (s.data.toList.all (fun c=>32≤c.toNat && c.toNat≤126)=true):=by
      intro h
      rw [List.all_eq_true] at h
      have:=h s[k] (by rw [← Array.mem_def];exact Array.getElem_mem hlt)
      simp at this;omega
     simp [CV,Bool.eq_false_iff.2 h2]
    have HF:=Lh hf
    clear hf
    go_wp2
    go_ret
    exact ⟨Ck HF.out.symm,rfl⟩
   ·by_cases h2:(126:Int) < (s[k].toNat:Int)
    ·have hf:CV s=false:=by
      have h2:¬ (s.data.toList.all (fun c=>32≤c.toNat && c.toNat≤126)=true):=by
       intro h
       rw [List.all_eq_true] at h
       have:=h s[k] (by rw [← Array.mem_def];exact Array.getElem_mem hlt)
       simp at this;omega
      simp [CV,Bool.eq_false_iff.2 h2]
     have HF:=Lh hf
     clear hf
     go_wp2
     go_ret
     exact ⟨Ck HF.out.symm,rfl⟩
    ·go_wp2
     go_round
     case rel =>
      refine ⟨k + 1,by omega,by go_num,?_⟩
      unfold Hid
      rw [HT.out,List.all_append,H.out]
      simp;omega
     case measure=>(simp [intOf];try omega)
  ·have hk2:k=s.size:=by omega
   have hall:(s.data.toList.all (fun c=>32≤c.toNat && c.toNat≤126))=true:=by
    have:=H.out
    rwa [List.take_of_length_le (by simp;omega)] at this
   have hf:CV s=decide (s.size≤64):=by simp only [CV,hall,Bool.true_and]
   have HF:=Lh hf
   clear hf hall
   go_wp2
   go_ret
   exact ⟨Ck (by rw [HF.out];exact (decide_eq_true (by omega)).symm),rfl⟩
end Go.Proofs.YtmpcbaflcogmmaaGreatDoor
