/- ExprH13 ExprI13 ExprAll13 RL13 Decl13 -/
import Derived.Maps.AppendAt
import Derived.Test.YtmpcbaflcogmmaaGreatDoorExprF13
import Derived.Test.YtmpcbaflcogmmaaGreatDoorExprG13
import Derived.Test.YtmpcbaflcogmmaaGreatDoorSerial3
namespace Go.Proofs.YtmpcbaflcogmmaaGreatDoor
open Go.RowKit
set_option linter.all false
set_option maxHeartbeats 16000000
set_option maxRecDepth 100000
section
variable (B kb tb toff cap:Nat) (ts:List Au) (slots:List Int) (vars:List Vr) (seen:Int→Option Value) (hlt:ts.length≤100000) (htb:tb < B) (htxt:∀ y∈ts,y.text.size≤1099511627776)
include hlt htb htxt
theorem Qh (rec:Nat→Bool→ER) (H:Int) (hH0:0≤H) (hH1:H≤300000) (hrb:∀ j,(rec j true).2.2=true) (i:Nat) (x:Au) (w:World)
  (h:RK w B kb (.slice (some ⟨tb,toff,none⟩) ts.length cap) ⟨slots,vars,false⟩) (hx:ts[i]? = some x) (hn:As w tb toff ts) (hbe:0≤Ap ts i) (he:∀ j∈Am ts i,En B kb tb toff cap ts slots vars (rec j) H j) (hop:40≤x.op∧x.op≤48) (hcnt:(Am ts i).length=2) :
  Calls Tryz.prog 204 #[.pointer (some ⟨kb,0,none⟩),.int .i64 i] w fun e w'=>Dg B kb (.slice (some ⟨tb,toff,none⟩) ts.length cap) slots vars w (BW rec ts slots seen i false) (H + 3) e w':=by
 have hi:i < ts.length:=(List.getElem?_eq_some_iff.1 hx).1
 obtain⟨hB,hks⟩:=h.size
 have htw:tb < w.heap.size:=by omega
 have hki:=fun wx (hx':As wx tb toff ts) (hl:tb < wx.heap.size)=>CY (some ⟨tb,toff,none⟩) ts cap i wx hlt (.inr ⟨tb,toff,rfl,hl,hx'⟩) hi
 have hpl:=fun (s:RS) (kind n m:Int) wx hx' hn'=>BT B kb tb toff cap ts s i x kind n m wx hx' hx hn' hlt
 obtain⟨R,hR⟩:=Ex0 (BW rec ts slots seen i false)
 have hxg:ts.getD i AF=x:=by rw [List.getD_eq_getElem?_getD,hx];rfl
 rw [← hR]
 unfold BW at hR
 simp only [hxg] at hR
 rw [if_neg (by decide)] at hR
 obtain⟨kids,hkids⟩:=Ex0 (Am ts i)
 obtain⟨nk,hnk⟩:∃ nk,kids.length=nk:=⟨_,rfl⟩
 have hnkb:nk≤100000:=by rw [← hnk,hkids];exact AM hbe hlt
 rw [← hkids] at he
 simp only [← hkids,hnk] at hki hR
 obtain⟨c0,c1,c2,c3,c4,c5,c6⟩:=hn.all hx
 obtain⟨k0,k3,kf⟩:=h.cells
 have HKL:=Lh (show ∀ j∈kids,j < ts.length by rw [hkids];exact fun j hj=>(AU hj).2.1)
 rw [if_neg (by omega),if_neg (by omega),if_neg (by omega),if_neg (by omega),if_neg (by omega)] at hR
 unfold Bd at hR
 simp only [hxg,hnk] at hR
 rw [← hkids,hnk] at hcnt
 obtain⟨len,hlen⟩:∃ len,ts.length=len:=⟨_,rfl⟩
 simp only [hlen] at hki hpl
 rw [hlen] at h hi k0 ⊢
 have hlt2:len≤100000:=by omega
 have hiI:(i:Int) < len:=by omega
 have hmu:=fun (s:RS) x wx hx=>BC B kb (.slice (some ⟨tb,toff,none⟩) len cap) s x wx hx
 obtain⟨xo,xk,xn,xm,xt,xp,xq⟩:=x
 simp only at c0 c1 c2 c3 c4 c5 c6 hR hop
 obtain⟨HRK0,HPL,HMU,HKI,HE,HN0,HL,HNK,HX,HRB,HTX,HR⟩:=Hd12 h hpl hmu hki he hn hlen hnk hx hrb htxt hR
 have hxb:=Blk.new w 120 #[.int .i8 xo,.int .i8 xk,.int .i64 xn,.int .i64 xm,.string xt,.int .i64 xp,.int .i64 xq]
 obtain⟨HF0,HXB⟩:=Hd2 ((Frm.refl B [158] w).alloc (by omega) (.cells #[.int .i8 xo,.int .i8 xk,.int .i64 xn,.int .i64 xm,.string xt,.int .i64 xp,.int .i64 xq] 120)) hxb
 obtain⟨W0,hW0⟩:=Ex0 (w.alloc (.cells #[.int .i8 xo,.int .i8 xk,.int .i64 xn,.int .i64 xm,.string xt,.int .i64 xp,.int .i64 xq] 120))
 have HW0:=Lh hW0
 have zW0:W0.heap.size=w.heap.size + 1:=by rw [hW0];simp
 rw [← hW0] at HXB HF0
 obtain⟨HRKW,HNW⟩:=Hd2 (show RK W0 B kb _ _ by rw [hW0];exact HRK0.out.alloc _) (HF0.out.nodes HN0.out htb)
 have kw0:=HRKW.out.cells.1
 clear h hpl hmu hki he hn hlen hnk hx hrb htxt hxb hW0 hkids hR hxg hbe
 have s50:(xo == 50)=false:=by simp;omega
 have h50:¬ xo=50:=by omega
 have s49:(xo == 49)=false:=by simp;omega
 have h49:¬ xo=49:=by omega
 have s34:(xo == 34)=false:=by simp;omega
 have s35:(xo == 35)=false:=by simp;omega
 have s36:(xo == 36)=false:=by simp;omega
 have s37:(xo == 37)=false:=by simp;omega
 have h34:¬ xo=34:=by omega
 have h35:¬ xo=35:=by omega
 have h36:¬ xo=36:=by omega
 have h37:¬ xo=37:=by omega
 have d1:decide (30≤xo)=true:=decide_eq_true (by omega)
 have d2:decide (xo≤33)=false:=decide_eq_false (by omega)
 have d3:decide (xo < 34)=false:=decide_eq_false (by omega)
 have d4:decide (48 < xo)=false:=decide_eq_false (by omega)
 go_in
 go_wp2_with fail
 rw [← HW0.out]
 refine (HKI.out _ HNW.out (by omega)).mono ?_
 rintro e w2 ⟨kv,rfl,hown,hb2⟩
 obtain⟨AK,ck,rfl⟩:=AJ hown
 have hz2:=hb2.size
 obtain⟨HF2,HRK2⟩:=Hd2 (HF0.out.trans (Frm.of_below hb2 (by omega))) (HRKW.out.below hb2)
 have hx2:=HXB.out.below hb2 (by omega)
 have x20:=hx2.cell 0
 have x22:=hx2.cell 2
 obtain⟨k02,k32,kf2⟩:=HRK2.out.cells
 obtain⟨HSET,HSF,HKO,HX2,HN2⟩:=Hd5 (HRK2.out.setBad true) (HRK2.out.frm 3 (.bool true)) hown hx2 (HF2.out.nodes HN0.out htb)
 clear hown hb2 hx2
 have hmany:nk=2:=hcnt
 subst hmany
 obtain⟨like,hlike⟩:=Ex0 (AO ⟨xo,xk,xn,xm,xt,xp,xq⟩ (AG xo).2 0 0)
 obtain⟨tl,htl⟩:=Ex0 ((AG xo).2)
 have hR1:=HR.out
 have hR1:R=if (True∧True∧like=true) then (if (True∧((1,(AA (rec (kids.getD 0 0) false) 1).1,(AA (rec (kids.getD 0 0) false) 1).2)).2.2=false) then (tl,max ((1,(AA (rec (kids.getD 0 0) false) 1).1,(AA (rec (kids.getD 0 0) false) 1).2)).2.1 ((AA (rec (kids.getD 1 0) false) 1).1 + 1),(AA (rec (kids.getD 1 0) false) 1).2) else (tl,((1,(AA (rec (kids.getD 0 0) false) 1).1,(AA (rec (kids.getD 0 0) false) 1).2)).2.1,((1,(AA (rec (kids.getD 0 0) false) 1).1,(AA (rec (kids.getD 0 0) false) 1).2)).2.2)) else (0,0,true):=by
  rw [hR1]
  have e1:(AG xo).1=1:=by unfold AG;split;rfl;split;rfl;omega
  rw [hlike,htl,e1]
  rw [if_neg (show ¬ (xo=34∨xo=35) by omega),if_neg (show ¬ (xo=38∨xo=39) by omega)]
  simp only [show (34≤xo∧xo≤48) from by omega,true_and,and_true]
  rw [if_pos (show (xo≠37∧xo≠36) by omega)]
 rw [← htl] at hlike
 have hpl0:=HPL.out ⟨slots,vars,false⟩ tl 0 0
 rw [← hlike] at hpl0
 obtain⟨HPL0,HRR,HTL,HOPR⟩:=Hd4 hpl0 hR1 (fun wx=>by have:=DD xo wx (by omega);rw [← htl] at this;exact this:∀ wx,Calls Tryz.prog 250 #[.int .i8 xo] wx fun e w'=>e=.returned (.int .i8 tl)∧wx=w') (fun wx=>by have:=CN xo wx;rw [show Ce xo=1 by (unfold Ce;rw [if_neg (by omega),if_neg (by omega)])] at this;exact this:∀ wx,Calls Tryz.prog 251 #[.int .i8 xo] wx fun e w'=>e=.returned (.int .i8 (1))∧wx=w')
 obtain⟨j0,hj0⟩:∃ j,kids[0]? = some j:=⟨_,List.getElem?_eq_getElem (by rw [HNK.out];omega)⟩
 have hJ0:(kids.map (fun j:Nat=>(j:Int)))[0]? = some (j0:Int):=by rw [List.getElem?_map,hj0];rfl
 obtain⟨HJM0,HG0⟩:=Hd2 (List.mem_of_getElem? hj0) (show kids.getD 0 0=j0 by rw [List.getD_eq_getElem?_getD,hj0];rfl)
 obtain⟨j1,hj1⟩:∃ j,kids[1]? = some j:=⟨_,List.getElem?_eq_getElem (by rw [HNK.out];omega)⟩
 have hJ1:(kids.map (fun j:Nat=>(j:Int)))[1]? = some (j1:Int):=by rw [List.getElem?_map,hj1];rfl
 obtain⟨HJM1,HG1,HJ1⟩:=Hd3 (List.mem_of_getElem? hj1) (show kids.getD 1 0=j1 by rw [List.getD_eq_getElem?_getD,hj1];rfl) hJ1
 clear hj1 hJ1
 have HJ0:=Lh hJ0
 clear hR1 hpl0 hlike htl hj0 hJ0
 have hk2:((2:Nat):Int)=2:=rfl
 go_wp2_with fail
 refine (HTL.out _).mono ?_
 rintro e w2' ⟨rfl,rfl⟩
 go_wp2_with fail
 refine (HPL0.out _ HRK2.out HN2.out).mono ?_
 rintro e w3 ⟨rfl,h3,f3⟩
 have hz3:=f3.size
 have HF3:=Lh (HF2.out.trans f3)
 have x30:=(f3.blk HX2.out (by decide)).cell 0
 obtain⟨HXC,HKO3,H3,HN3⟩:=Hd4 (show ∀ wx,Frm B [158] w3 wx→wx.cell? ⟨w.heap.size,0,none⟩=some (.int .i8 xo) from fun wx fx=>(fx.blk (f3.blk HX2.out (by decide)) (by decide)).cell 0) (f3.own HKO.out (by decide)) (h3.same (s':=⟨slots,vars,!like⟩) (by simp [RS.must])) (f3.nodes HN2.out htb)
 obtain⟨kb3,ko3,ke3,kl3,kc3⟩:=(Bt HKO3.out).1 0 _ HJ0.out
 subst ke3
 simp only [Nat.add_zero] at kc3
 have hk5:∀ wx,Frm B [158] w3 wx→wx.cell? ⟨kb3,ko3 + 1,none⟩=some (.int .i64 (j1:Int)):=by
  intro wx fx
  obtain⟨kb5,ko5,ke5,kl5,kc5⟩:=(Bt (fx.own HKO3.out (by decide))).1 1 _ HJ1.out
  simp only [Option.some.injEq,Addr.mk.injEq,and_true] at ke5
  obtain⟨rfl,rfl⟩:=ke5
  exact kc5
 have HK1:=Lh hk5
 clear hk5
 clear h3 f3 x20 x22
 go_wp2_with fail
 refine (HOPR.out _).mono ?_
 rintro e w3' ⟨rfl,rfl⟩
 go_wp2_with fail
 refine (BP B kb tb toff cap ts slots vars (rec j0) H j0 1 (!like) _ (HE.out j0 HJM0.out) (by rw [HL.out];exact H3.out) HN3.out).mono ?_
 rintro e w5 ⟨h4v,rfl,h40,h41,h5,f5,hg4⟩
 rw [HL.out] at h5
 have x50:=HXC.out _ f5
 have kw1:=HK1.out _ f5
 have F5:=Lh f5
 obtain⟨b5,hb5⟩:=Ex0 ((AA (rec j0 (!like)) 1).2)
 obtain⟨H5,HB5,HG4⟩:=Hd3 (h5.same (s':=⟨slots,vars,b5⟩) (by rw [hb5])) hb5 hg4
 clear h5 f5 hb5 hg4
 go_wp2_with fail
 refine (BP B kb tb toff cap ts slots vars (rec j1) H j1 1 b5 _ (HE.out j1 HJM1.out) (by rw [HL.out];exact H5.out) (F5.out.nodes HN3.out htb)).mono ?_
 rintro e w6 ⟨hr,rfl,hr0,hr1,h6,f6,hg6⟩
 rw [HL.out] at h6
 have x60:=HXC.out _ (F5.out.trans f6)
 obtain⟨F6,H6,HG6⟩:=Hd3 (F5.out.trans f6) h6 hg6
 clear h6 f6 hg6
 go_wp2_with fail
 refine (HTL.out _).mono ?_
 rintro e w6' ⟨rfl,rfl⟩
 have fin:∀ hv:Int,hv=max h4v (hr + 1)→Dg B kb (.slice (some ⟨tb,toff,none⟩) len cap) slots vars w R (H + 3) (.returned (.tuple #[.int .i8 tl,.int .i64 hv])) w6:=by
  intro hv hhv
  cases like with
  | false =>
   have hr:R=(0,0,true):=by rw [HRR.out,if_neg (fun h=>by cases h.2.2)]
   have hb5:b5=true:=by rw [HB5.out];simp [AA,HRB.out j0]
   subst hb5
   have hbt:(AA (rec j1 true) 1).2=true:=by simp [AA,HRB.out j1]
   exact ⟨tl,hv,rfl,by omega,by omega,by rw [hr];rw [← hbt];exact H6.out,HF3.out.trans F6.out,fun hb=>by rw [hr] at hb;cases hb⟩
  | true =>
   have hr:=HRR.out
   rw [if_pos ⟨trivial,trivial,rfl⟩,HG0.out,HG1.out] at hr
   have hb5e:b5=(AA (rec j0 false) 1).2:=HB5.out
   cases b5 with
   | true =>
    have hbt:(AA (rec j1 true) 1).2=true:=by simp [AA,HRB.out j1]
    rw [← hb5e] at hr
    simp only [Bool.true_eq_false,and_false,if_false] at hr
    exact ⟨tl,hv,rfl,by omega,by omega,by rw [hr];rw [← hbt];exact H6.out,HF3.out.trans F6.out,fun hb=>by rw [hr] at hb;cases hb⟩
   | false =>
    have g2:h4v=(AA (rec j0 false) 1).1:=HG4.out hb5e.symm
    rw [← hb5e] at hr
    simp only [and_true,if_true] at hr
    refine ⟨tl,hv,rfl,by omega,by omega,by rw [hr];exact H6.out,HF3.out.trans F6.out,fun hb=>?_⟩
    rw [hr] at hb ⊢
    have g6:=HG6.out hb
    refine ⟨rfl,?_⟩
    rw [hhv,g2,g6]
 rcases Int.lt_trichotomy h4v (hr + 1) with hq | hq | hq
 ·go_wp2_with fail
  go_ret2
  exact fin _ (by omega)
 ·go_wp2_with fail
  go_ret2
  exact fin _ (by omega)
 ·go_wp2_with fail
  go_ret2
  exact fin _ (by omega)
end
section
variable (B kb tb toff cap:Nat) (ts:List Au) (slots:List Int) (vars:List Vr) (seen:Int→Option Value) (hlt:ts.length≤100000) (htb:tb < B) (htxt:∀ y∈ts,y.text.size≤1099511627776)
include hlt htb htxt
theorem Oz (rec:Nat→Bool→ER) (H:Int) (hH0:0≤H) (hH1:H≤300000) (hrb:∀ j,(rec j true).2.2=true) (i:Nat) (x:Au) (w:World)
  (h:RK w B kb (.slice (some ⟨tb,toff,none⟩) ts.length cap) ⟨slots,vars,false⟩) (hx:ts[i]? = some x) (hn:As w tb toff ts) (hbe:0≤Ap ts i) (he:∀ j∈Am ts i,En B kb tb toff cap ts slots vars (rec j) H j) (hop:x.op≠50∧x.op≠49∧x.op≠30∧x.op≠31∧x.op≠32∧x.op≠33) (hcnt:¬ ((34≤x.op∧x.op≤48)∧(Am ts i).length=if x.op=34∨x.op=35 then 1 else 2)) :
  Calls Tryz.prog 204 #[.pointer (some ⟨kb,0,none⟩),.int .i64 i] w fun e w'=>Dg B kb (.slice (some ⟨tb,toff,none⟩) ts.length cap) slots vars w (BW rec ts slots seen i false) (H + 3) e w':=by
 have hi:i < ts.length:=(List.getElem?_eq_some_iff.1 hx).1
 obtain⟨hB,hks⟩:=h.size
 have htw:tb < w.heap.size:=by omega
 have hki:=fun wx (hx':As wx tb toff ts) (hl:tb < wx.heap.size)=>CY (some ⟨tb,toff,none⟩) ts cap i wx hlt (.inr ⟨tb,toff,rfl,hl,hx'⟩) hi
 have hpl:=fun (s:RS) (kind n m:Int) wx hx' hn'=>BT B kb tb toff cap ts s i x kind n m wx hx' hx hn' hlt
 obtain⟨R,hR⟩:=Ex0 (BW rec ts slots seen i false)
 have hxg:ts.getD i AF=x:=by rw [List.getD_eq_getElem?_getD,hx];rfl
 rw [← hR]
 unfold BW at hR
 simp only [hxg] at hR
 rw [if_neg (by decide)] at hR
 obtain⟨kids,hkids⟩:=Ex0 (Am ts i)
 obtain⟨nk,hnk⟩:∃ nk,kids.length=nk:=⟨_,rfl⟩
 have hnkb:nk≤100000:=by rw [← hnk,hkids];exact AM hbe hlt
 rw [← hkids] at he
 simp only [← hkids,hnk] at hki hR
 obtain⟨c0,c1,c2,c3,c4,c5,c6⟩:=hn.all hx
 obtain⟨k0,k3,kf⟩:=h.cells
 have HKL:=Lh (show ∀ j∈kids,j < ts.length by rw [hkids];exact fun j hj=>(AU hj).2.1)
 rw [if_neg (by omega),if_neg (by omega),if_neg (by omega),if_neg (by omega),if_neg (by omega)] at hR
 unfold Bd at hR
 simp only [hxg,hnk] at hR
 rw [← hkids,hnk] at hcnt
 have hres:R=(0,0,true):=by
  rw [hR,if_neg]
  intro h
  exact hcnt ⟨h.1,h.2.1⟩
 obtain⟨len,hlen⟩:∃ len,ts.length=len:=⟨_,rfl⟩
 simp only [hlen] at hki hpl
 rw [hlen] at h hi k0 ⊢
 have hlt2:len≤100000:=by omega
 have hiI:(i:Int) < len:=by omega
 have hmu:=fun (s:RS) x wx hx=>BC B kb (.slice (some ⟨tb,toff,none⟩) len cap) s x wx hx
 obtain⟨xo,xk,xn,xm,xt,xp,xq⟩:=x
 simp only at c0 c1 c2 c3 c4 c5 c6 hR hop hcnt
 obtain⟨HRK0,HPL,HMU,HKI,HE,HN0,HL,HNK,HX,HRB,HTX,HR⟩:=Hd12 h hpl hmu hki he hn hlen hnk hx hrb htxt hR
 have hxb:=Blk.new w 120 #[.int .i8 xo,.int .i8 xk,.int .i64 xn,.int .i64 xm,.string xt,.int .i64 xp,.int .i64 xq]
 obtain⟨HF0,HXB⟩:=Hd2 ((Frm.refl B [158] w).alloc (by omega) (.cells #[.int .i8 xo,.int .i8 xk,.int .i64 xn,.int .i64 xm,.string xt,.int .i64 xp,.int .i64 xq] 120)) hxb
 obtain⟨W0,hW0⟩:=Ex0 (w.alloc (.cells #[.int .i8 xo,.int .i8 xk,.int .i64 xn,.int .i64 xm,.string xt,.int .i64 xp,.int .i64 xq] 120))
 have HW0:=Lh hW0
 have zW0:W0.heap.size=w.heap.size + 1:=by rw [hW0];simp
 rw [← hW0] at HXB HF0
 obtain⟨HRKW,HNW⟩:=Hd2 (show RK W0 B kb _ _ by rw [hW0];exact HRK0.out.alloc _) (HF0.out.nodes HN0.out htb)
 have kw0:=HRKW.out.cells.1
 clear h hpl hmu hki he hn hlen hnk hx hrb htxt hxb hW0 hkids hR hxg hbe
 have HRES:=Lh hres
 clear hres HR
 have s50:(xo == 50)=false:=by simp;omega
 have h50:¬ xo=50:=by omega
 have s49:(xo == 49)=false:=by simp;omega
 have h49:¬ xo=49:=by omega
 go_in
 go_wp2_with fail
 rw [← HW0.out]
 refine (HKI.out _ HNW.out (by omega)).mono ?_
 rintro e w2 ⟨kv,rfl,hown,hb2⟩
 obtain⟨AK,ck,rfl⟩:=AJ hown
 have hz2:=hb2.size
 obtain⟨HF2,HRK2⟩:=Hd2 (HF0.out.trans (Frm.of_below hb2 (by omega))) (HRKW.out.below hb2)
 have hx2:=HXB.out.below hb2 (by omega)
 have x20:=hx2.cell 0
 have x22:=hx2.cell 2
 obtain⟨k02,k32,kf2⟩:=HRK2.out.cells
 obtain⟨HSET,HSF,HKO,HX2,HN2⟩:=Hd5 (HRK2.out.setBad true) (HRK2.out.frm 3 (.bool true)) hown hx2 (HF2.out.nodes HN0.out htb)
 clear hown hb2 hx2
 by_cases q1:xo < 34
 ·have d1:decide (30≤xo)=false:=decide_eq_false (by omega)
  have d3:decide (xo < 34)=true:=decide_eq_true q1
  have h34:¬ xo=34:=by omega
  have h35:¬ xo=35:=by omega
  have s34:(xo == 34)=false:=by simp;omega
  have s35:(xo == 35)=false:=by simp;omega
  go_wp2_with fail
  go_ret2
  exact ⟨0,0,rfl,by omega,by omega,by rw [HRES.out];exact HSET.out,HF2.out.trans HSF.out,fun h=>by rw [HRES.out] at h;cases h⟩
 have d1:decide (30≤xo)=true:=decide_eq_true (by omega)
 have d2:decide (xo≤33)=false:=decide_eq_false (by omega)
 have d3:decide (xo < 34)=false:=decide_eq_false q1
 by_cases q2:48 < xo
 ·have d4:decide (48 < xo)=true:=decide_eq_true q2
  have h34:¬ xo=34:=by omega
  have h35:¬ xo=35:=by omega
  have s34:(xo == 34)=false:=by simp;omega
  have s35:(xo == 35)=false:=by simp;omega
  go_wp2_with fail
  go_ret2
  exact ⟨0,0,rfl,by omega,by omega,by rw [HRES.out];exact HSET.out,HF2.out.trans HSF.out,fun h=>by rw [HRES.out] at h;cases h⟩
 have d4:decide (48 < xo)=false:=decide_eq_false q2
 by_cases q34:xo=34
 ·subst q34
  have hc:¬ (nk:Int)=1:=by intro h;exact hcnt ⟨by omega,by rw [if_pos (by simp)];omega⟩
  have e1:((nk:Int) == 1)=false:=by simp;omega
  go_wp2_with fail
  go_ret2
  exact ⟨0,0,rfl,by omega,by omega,by rw [HRES.out];exact HSET.out,HF2.out.trans HSF.out,fun h=>by rw [HRES.out] at h;cases h⟩
 by_cases q35:xo=35
 ·subst q35
  have hc:¬ (nk:Int)=1:=by intro h;exact hcnt ⟨by omega,by rw [if_pos (by simp)];omega⟩
  have e1:((nk:Int) == 1)=false:=by simp;omega
  go_wp2_with fail
  go_ret2
  exact ⟨0,0,rfl,by omega,by omega,by rw [HRES.out];exact HSET.out,HF2.out.trans HSF.out,fun h=>by rw [HRES.out] at h;cases h⟩
 have s34:(xo == 34)=false:=by simp;omega
 have s35:(xo == 35)=false:=by simp;omega
 have hc:¬ (nk:Int)=2:=by intro h;exact hcnt ⟨by omega,by rw [if_neg (by omega)];omega⟩
 have e1:((nk:Int) == 2)=false:=by simp;omega
 go_wp2_with fail
 go_ret2
 exact ⟨0,0,rfl,by omega,by omega,by rw [HRES.out];exact HSET.out,HF2.out.trans HSF.out,fun h=>by rw [HRES.out] at h;cases h⟩
end
theorem GX (ts:List Au) (slots:List Int) (seen:Int→Option Value):∀ (f j:Nat),BR ts slots seen f j true=(0,0,true)
 | 0,_=>rfl
 | f + 1,j=>by
  rw [BR]
  unfold BW
  simp
section
variable (B kb tb toff cap:Nat) (ts:List Au) (slots:List Int) (vars:List Vr) (seen:Int→Option Value) (hlt:ts.length≤100000) (htb:tb < B) (htxt:∀ y∈ts,y.text.size≤1099511627776) (hvl:vars.length≤100000) (hrel:Kp slots vars seen)
include hlt htb htxt hvl hrel
omit hlt htb htxt hvl hrel in
theorem Qp (i:Nat) (H:Int) (hH:0≤H) (w:World) (h:RK w B kb (.slice (some ⟨tb,toff,none⟩) ts.length cap) ⟨slots,vars,true⟩) :
  Calls Tryz.prog 204 #[.pointer (some ⟨kb,0,none⟩),.int .i64 i] w fun e w'=>Dg B kb (.slice (some ⟨tb,toff,none⟩) ts.length cap) slots vars w (0,0,true) H e w':=by
 obtain⟨k0,k3,kf⟩:=h.cells
 have HH:=Lh h
 clear h
 go_in
 go_wp2
 go_ret2
 exact ⟨0,0,rfl,by omega,hH,HH.out,Frm.refl _ _ _,fun h=>by cases h⟩
theorem Gf:∀ (f i:Nat),f≤100000→ts.length≤i + f→i < ts.length→0≤Ap ts i→En B kb tb toff cap ts slots vars (fun b=>BR ts slots seen f i b) (3 * f) i
 | 0,i,_,h1,h2,_=>by omega
 | f + 1,i,hf,h1,h2,hbe=>by
  intro bad w h hn
  cases bad with
  | true =>
   show Calls _ _ _ w fun e w'=>Dg B kb _ slots vars w (BR ts slots seen (f + 1) i true) _ e w'
   rw [GX]
   exact Qp B kb tb toff cap ts slots vars i _ (by omega) w h
  | false =>
   show Calls _ _ _ w fun e w'=>Dg B kb _ slots vars w (BR ts slots seen (f + 1) i false) _ e w'
   rw [BR]
   have he:∀ j∈Am ts i,En B kb tb toff cap ts slots vars (BR ts slots seen f j) (3 * f) j:=fun j hj=>by
    obtain⟨g1,g2,g3,_⟩:=AU hj
    exact Gf f j (by omega) (by omega) g2 g3
   have hrb:∀ j,(BR ts slots seen f j true).2.2=true:=fun j=>by rw [GX]
   have hx:ts[i]? = some (ts.getD i AF):=by rw [List.getD_eq_getElem?_getD,List.getElem?_eq_getElem h2];rfl
   obtain⟨x,hxx⟩:=Ex0 (ts.getD i AF)
   rw [← hxx] at hx
   have e3:((3:Int) * ((f + 1:Nat):Int))=3 * (f:Int) + 3:=by omega
   rw [e3]
   have H0:(0:Int)≤3 * (f:Int):=by omega
   have H1:3 * (f:Int)≤300000:=by omega
   by_cases q50:x.op=50
   ·exact O7 B kb tb toff cap ts slots vars seen hlt htb htxt _ _ H0 H1 hrb i x w h hx hn hbe he q50
   by_cases ql:x.op=30∨x.op=31∨x.op=32∨x.op=33
   ·exact NO B kb tb toff cap ts slots vars seen hlt htb htxt _ _ H0 H1 hrb i x w h hx hn hbe he hvl hrel ql
   by_cases q49:x.op=49
   ·exact Nl B kb tb toff cap ts slots vars seen hlt htb htxt _ _ H0 H1 hrb i x w h hx hn hbe he q49
   by_cases hc:(34≤x.op∧x.op≤48)∧(Am ts i).length=if x.op=34∨x.op=35 then 1 else 2
   ·obtain⟨hc1,hc2⟩:=hc
    by_cases q34:x.op=34
    ·exact PC B kb tb toff cap ts slots vars seen hlt htb htxt _ _ H0 H1 hrb i x w h hx hn hbe he q34 (by rw [hc2,if_pos (.inl q34)])
    by_cases q35:x.op=35
    ·exact Q5 B kb tb toff cap ts slots vars seen hlt htb htxt _ _ H0 H1 hrb i x w h hx hn hbe he q35 (by rw [hc2,if_pos (.inr q35)])
    rw [if_neg (by omega)] at hc2
    by_cases qa:x.op=36∨x.op=37
    ·exact Qo B kb tb toff cap ts slots vars seen hlt htb htxt _ _ H0 H1 hrb i x w h hx hn hbe he qa hc2
    by_cases qs:x.op=38∨x.op=39
    ·exact OO B kb tb toff cap ts slots vars seen hlt htb htxt _ _ H0 H1 hrb i x w h hx hn hbe he qs hc2
    ·exact Qh B kb tb toff cap ts slots vars seen hlt htb htxt _ _ H0 H1 hrb i x w h hx hn hbe he (by omega) hc2
   ·exact Oz B kb tb toff cap ts slots vars seen hlt htb htxt _ _ H0 H1 hrb i x w h hx hn hbe he (by omega) hc
end
theorem KC {n:Int} {u:Vr}:∀ {l:List Vr},Da l n=some u→u∈l∧u.slot=n
 | [],h=>by cases h
 | v :: r,h=>by
  rw [Da] at h
  split at h
  ·rename_i he
   injection h with h
   subst h
   exact ⟨by simp,he⟩
  ·have:=KC h
   exact ⟨List.mem_cons_of_mem _ this.1,this.2⟩
theorem FQ {n:Int}:∀ {l:List Vr},Da l n=none↔∀ v∈l,v.slot≠n
 | []=>by simp [Da]
 | v :: r=>by
  rw [Da]
  split
  ·rename_i he
   simp [he]
  ·rename_i he
   rw [FQ]
   simp [he]
theorem FP (n:Int):∀ (l m:List Vr),Da (l ++ m) n=(Da l n).or (Da m n)
 | [],m=>by simp [Da]
 | v :: r,m=>by
  rw [List.cons_append,Da,Da,FP n r m]
  split <;> simp
structure Hn (slots:List Int) (vars:List Vr) (seen:Int→Option Value):Prop where
 rel:Kp slots vars seen
 lt:∀ v∈vars,0≤v.slot∧v.slot < slots.length
 len:vars.length≤slots.length
theorem Hn.declare {slots:List Int} {vars:List Vr} {seen:Int→Option Value} (h:Hn slots vars seen) (hl:slots.length < 1048576) {l:List Int} (hne:l≠[]) (b:Bool) :
  Hn (slots ++ l) (vars ++ [⟨(slots.length:Int),l.headD 0,b⟩]) (upd CB seen (slots.length:Int) (some (.bool b))):=by
 have hp:0 < l.length:=List.length_pos_iff.2 hne
 refine ⟨?_,?_,?_⟩
 ·intro n
  rw [FP]
  simp only [Fp]
  rcases h.rel n with ⟨h1,h2⟩ | ⟨v,h1,h2,h3,h4,h5⟩
  ·rw [h1,Option.none_or]
   by_cases hn:n=slots.length
   ·right
    refine ⟨⟨(slots.length:Int),l.headD 0,b⟩,by rw [Da,if_pos hn.symm],by omega,by omega,by rw [if_pos hn],?_⟩
    subst hn
    cases l with
    | nil=>exact absurd rfl hne
    | cons a r=>simp
   ·left
    refine ⟨by rw [Da,if_neg (fun h=>hn h.symm)];rfl,?_⟩
    rw [if_neg hn]
    exact h2
  ·right
   obtain⟨m1,m2⟩:=KC h1
   have hlt:=h.lt v m1
   refine ⟨v,by rw [h1];rfl,h2,h3,by rw [if_neg (by omega)];exact h4,?_⟩
   rw [h5,List.getD_eq_getElem?_getD,List.getD_eq_getElem?_getD,List.getElem?_append_left (by omega)]
 ·intro v hv
  rw [List.mem_append] at hv
  rw [List.length_append]
  rcases hv with hv | hv
  ·have:=h.lt v hv;omega
  ·simp only [List.mem_singleton] at hv
   subst hv
   simp only
   omega
 ·have:=h.len
  rw [List.length_append,List.length_append]
  simp;omega
def FK (own:List Int) (s:LSt):LSt:=⟨s.slots,fun n=>if n∈own then none else s.seen n,s.bad⟩
theorem Gn:∀ (own:List Int) (s:LSt),own.foldl (fun s n=>forget n s) s=FK own s
 | [],s=>by simp [FK]
 | n :: o,s=>by
  rw [List.foldl_cons,Gn o]
  unfold FK forget
  congr 1
  funext m
  simp only [Fp,List.mem_cons]
  by_cases h1:m∈o
  ·simp [h1]
  ·by_cases h2:m=n
   ·simp [h2]
   ·simp [h1,h2]
theorem GQ (n:Int) (s:LSt):forget n s=FK [n] s:=Gn [n] s
theorem Hn.forget {slots:List Int} {vars ext:List Vr} {seen:Int→Option Value} (h:Hn slots (vars ++ ext) seen) {k:Nat} (hv:∀ v∈vars,v.slot < k) (he:∀ v∈ext,(k:Int)≤v.slot) :
  Hn slots vars (FK (ext.map Vr.slot) ⟨slots,seen,false⟩).seen:=by
 refine ⟨?_,fun v hv'=>h.lt v (List.mem_append_left _ hv'),by have:=h.len;rw [List.length_append] at this;omega⟩
 intro n
 simp only [FK]
 have hr:=h.rel n
 rw [FP] at hr
 by_cases hn:n∈ext.map Vr.slot
 ·rw [if_pos hn]
  left
  refine ⟨?_,by simp⟩
  rw [FQ]
  intro v hv' e
  obtain⟨u,hu,rfl⟩:=List.mem_map.1 hn
  have:=hv v hv'
  have:=he u hu
  omega
 ·rw [if_neg hn]
  have hne:Da ext n=none:=FQ.2 (fun v hv' e=>hn (List.mem_map.2 ⟨v,hv',e⟩))
  rw [hne,Option.or_none] at hr
  exact hr
def RL (w:World) (B kb:Nat) (tv:Value) (vars:List Vr) (s:LSt):Prop:=∃ slots,RK w B kb tv ⟨slots,vars,s.bad⟩∧(s.bad=false→slots=s.slots∧Hn s.slots vars s.seen)
section
variable {w:World} {B kb:Nat} {tv:Value} {vars:List Vr}
include w B kb tv vars
theorem RL.good {slots:List Int} {seen:Int→Option Value} (h:RL w B kb tv vars ⟨slots,seen,false⟩):RK w B kb tv ⟨slots,vars,false⟩∧Hn slots vars seen:=by
 obtain⟨sl,h1,h2⟩:=h
 obtain⟨rfl,h3⟩:=h2 rfl
 exact ⟨h1,h3⟩
theorem RL.of {slots:List Int} {seen:Int→Option Value} {b:Bool} (h:RK w B kb tv ⟨slots,vars,b⟩) (hi:Hn slots vars seen):RL w B kb tv vars ⟨slots,seen,b⟩:=⟨slots,h,fun _=>⟨rfl,hi⟩⟩
theorem RL.isBad {sl:List Int} {s:LSt} (h:RK w B kb tv ⟨sl,vars,true⟩) (hb:s.bad=true):RL w B kb tv vars s:=⟨sl,by rw [hb];exact h,fun h=>by rw [hb] at h;cases h⟩
theorem RL.alloc {s:LSt} (h:RL w B kb tv vars s) (o:Obj):RL (w.alloc o) B kb tv vars s:=by
 obtain⟨sl,h1,h2⟩:=h
 exact ⟨sl,h1.alloc o,h2⟩
theorem RL.size {s:LSt} (h:RL w B kb tv vars s):B≤kb∧kb < w.heap.size:=by
 obtain⟨sl,h1,h2⟩:=h
 exact h1.size
theorem RL.cells {s:LSt} (h:RL w B kb tv vars s):w.cell? ⟨kb,0,none⟩=some tv∧w.cell? ⟨kb,3,none⟩=some (.bool s.bad)∧w.frozen? ⟨kb,3,none⟩=false:=by
 obtain⟨sl,h1,h2⟩:=h
 exact h1.cells
end
theorem RL.below {w w':World} {B kb:Nat} {tv:Value} {vars:List Vr} {s:LSt} (h:RL w B kb tv vars s) (hb:Below w.heap.size w w'):RL w' B kb tv vars s:=by
 obtain⟨sl,h1,h2⟩:=h
 exact ⟨sl,h1.below hb,h2⟩
section
variable {w:World} {B size n c:Nat} {e:TypeId} {A:Option Addr} {xs:List Value} (h:w.ownsRow B e size (.slice A n c) n xs)
include w B size n c e A xs h
theorem N3 {k:Nat} (hk:k≤n):w.ownsRow B e size (.slice A k c) k (xs.take (k * size)):=by
 obtain⟨h1,h2⟩:=h
 have hm:k * size≤n * size:=Nat.mul_le_mul_right _ hk
 refine ⟨by rw [List.length_take,h1];omega,?_⟩
 rcases h2 with ⟨h2,h3⟩ | ⟨g,cap,cur,h2,h3,h4,h5,h6,h7,h8⟩
 ·injection h2 with e1 e2 e3
  subst e1 e3 h3
  have:k=0:=by omega
  subst this
  exact .inl ⟨rfl,rfl⟩
 ·injection h2 with e1 e2 e3
  subst e1 e3
  exact .inr ⟨g,c,cur,rfl,h3,h4,by omega,h6,h7,by rw [← h8,List.take_take,Nat.min_eq_left hm]⟩
theorem UI:n≤c∧c≤maxLen:=by
 rcases h.2 with ⟨h2,h3⟩ | ⟨g,cap,cur,h2,h3,h4,h5,h6,h7,h8⟩
 ·injection h2 with e1 e2 e3
  subst e3 h3
  exact ⟨Nat.le_refl _,by decide⟩
 ·injection h2 with e1 e2 e3
  subst e1 e3
  exact ⟨h5,h6⟩
end
theorem RK.trunc {w:World} {B kb:Nat} {tv:Value} {slots:List Int} {vars ext:List Vr} {bad:Bool} (h:RK w B kb tv ⟨slots,vars ++ ext,bad⟩) {A:Option Addr} {n c:Nat} (hv:w.cell? ⟨kb,2,none⟩=some (.slice A n c)) :
  RK (w.setCell ⟨kb,2,none⟩ (.slice A vars.length c)) B kb tv ⟨slots,vars,bad⟩∧Frm B [158] w (w.setCell ⟨kb,2,none⟩ (.slice A vars.length c)):=by
 obtain⟨sv,vv,h1,h3,h4,h5⟩:=h
 have e:vv=.slice A n c:=by
  have:=(h3.cell 2).symm.trans hv
  simpa using this
 subst e
 have hn:n=(vars ++ ext).length:=by
  obtain⟨A',c',e⟩:=AJ h5
  injection e
 subst hn
 have ht:=N3 h5 (k:=vars.length) (by rw [List.length_append];omega)
 have e2:(Cq (vars ++ ext)).take (vars.length * 4)=Cq vars:=by
  rw [show Cq (vars ++ ext)=Cq vars ++ Cq ext by simp [Cq],← Pj]
  simp
 simp only at ht h5
 rw [e2] at ht
 exact ⟨⟨sv,_,h1,h3.set_ 2 _,Bm h4 (AR h4 h3 (by decide)) _,Bm ht (AR ht h3 (by decide)) _⟩,(Frm.refl _ _ _).set_ h3 h1 (by simp) _⟩
theorem RK.vars {w:World} {B kb:Nat} {tv:Value} {s:RS} (h:RK w B kb tv s):∃ A c,w.cell? ⟨kb,2,none⟩=some (.slice A s.vars.length c)∧w.frozen? ⟨kb,2,none⟩=false∧s.vars.length≤c∧c≤maxLen:=by
 obtain⟨sv,vv,h1,h3,h4,h5⟩:=h
 obtain⟨A,c,rfl⟩:=AJ h5
 exact ⟨A,c,h3.cell 2,h3.frozen 2,UI h5⟩
theorem TJ:(Tryz.prog.info? 160).map (fun i=>(i.zero,i.size,i.bytes))=some (some (.agg #[.string ByteArray.empty,.int .i64 0,.int .i8 0,.bool false]),4,32):=by kernel_rfl
theorem SV:ElT Tryz.prog 156 160 4 32:=⟨Tryz.underlying156,by decide,by
 obtain⟨i0,hi,hz0,hz1,hz2⟩:=info_parts TJ
 exact ⟨i0,_,hi,hz0,hz1,hz2,rfl⟩⟩
theorem MJ {w w':World} {B B' s1 s2 n1 n2:Nat} {e1 e2:TypeId} {v1 v2:Value} {x1 x2:List Value} (h1:w.ownsRow B e1 s1 v1 n1 x1) (h2:w.ownsRow B' e2 s2 v2 n2 x2) (hne:e2≠e1) (hg:w.grownBy w' v2.ownBlock):w'.ownsRow B e1 s1 v1 n1 x1:=by
 refine h1.kept hg ?_
 rcases h1.2 with ⟨rfl,_⟩ | ⟨g',cp,cu,rfl,_,hh,_⟩
 ·exact .inl rfl
 ·right
  intro e
  exact AR h2 (g:=g') (t:=e1) (cs:=cu) hh hne e.symm
def Fi (slot:Int) (b:Bool) (l:List Int) (s:LSt):List Vr:=if s.bad=false∧slot=s.slots.length then [⟨(s.slots.length:Int),l.headD 0,b⟩] else []
theorem OS (B kb:Nat) (tv:Value) (vars:List Vr) (s:LSt) (hh:Int) (w:World) (h:RL w B kb tv vars s) :
  Calls Tryz.prog 163 #[.pointer (some ⟨kb,0,none⟩),.int .i64 hh] w fun e w'=>e=.returned (.tuple #[])∧RL w' B kb tv vars { s with bad:=s.bad || !(decide (hh≤256)) }∧Frm B [158] w w':=by
 obtain⟨sl,h1,h2⟩:=h
 refine (MH B kb tv ⟨sl,vars,s.bad⟩ hh w h1).mono ?_
 rintro e w1 ⟨rfl,g1,f1⟩
 refine ⟨rfl,⟨sl,g1,fun h=>h2 ?_⟩,f1⟩
 cases hb:s.bad with
 | true=>rw [hb] at h;cases h
 | false=>rfl
section
variable (B kb tb toff cap:Nat) (ts:List Au) (hlt:ts.length≤100000) (htb:tb < B) (htxt:∀ y∈ts,y.text.size≤1099511627776)
include hlt htb htxt in
theorem Rk (i:Nat) (slots:List Int) (vars:List Vr) (seen:Int→Option Value) (w:World) (hi:i < ts.length) (hbe:0≤Ap ts i) (hsl:slots.length≤100000)
  (h:RL w B kb (.slice (some ⟨tb,toff,none⟩) ts.length cap) vars ⟨slots,seen,false⟩) (hn:As w tb toff ts) :
  Calls Tryz.prog 204 #[.pointer (some ⟨kb,0,none⟩),.int .i64 i] w fun e w'=>Dg B kb (.slice (some ⟨tb,toff,none⟩) ts.length cap) slots vars w (Dl ts ⟨slots,seen,false⟩ i false) (3 * ts.length) e w':=by
 obtain⟨h1,h2⟩:=h.good
 have hl:=h2.len
 exact Gf B kb tb toff cap ts slots vars seen hlt htb htxt (by omega) h2.rel ts.length i hlt (by omega) hi hbe false w h1 hn
include hlt htb htxt in
theorem Db (i:Nat) (kind:Int) (slots:List Int) (vars:List Vr) (seen:Int→Option Value) (w:World) (hi:i < ts.length) (hbe:0≤Ap ts i) (hsl:slots.length≤100000)
  (h:RL w B kb (.slice (some ⟨tb,toff,none⟩) ts.length cap) vars ⟨slots,seen,false⟩) (hn:As w tb toff ts) :
  Calls Tryz.prog 110 #[.pointer (some ⟨kb,0,none⟩),.int .i64 i,.int .i8 kind] w fun e w'=>e=.returned (.tuple #[]) ∧
   RL w' B kb (.slice (some ⟨tb,toff,none⟩) ts.length cap) vars (AD ts i kind ⟨slots,seen,false⟩)∧Frm B [158] w w':=by
 obtain⟨h1,h2⟩:=h.good
 have hl:=h2.len
 have he:=Gf B kb tb toff cap ts slots vars seen hlt htb htxt (by omega) h2.rel ts.length i hlt (by omega) hi hbe
 have hw:=BP B kb tb toff cap ts slots vars _ _ i kind false w he h1 hn
 have hlo:=fun (s:RS) (hh:Int) wx hx=>MH B kb (.slice (some ⟨tb,toff,none⟩) ts.length cap) s hh wx hx
 obtain⟨HW,HLO,HI⟩:=Hd3 hw hlo h2
 clear he hw hlo h h1 h2 hn
 go_in
 go_wp2_with fail
 refine HW.out.mono ?_
 rintro e w1 ⟨hh,rfl,h0,hH,hr,f1,hg⟩
 obtain⟨HR,HG,F1⟩:=Hd3 hr hg f1
 clear hr hg f1
 go_wp2_with fail
 refine (HLO.out _ hh _ HR.out).mono ?_
 rintro e w2 ⟨rfl,h3,f3⟩
 obtain⟨H3,F3⟩:=Hd2 h3 f3
 clear h3 f3
 go_wp2_with fail
 go_end0
 have hv:AD ts i kind ⟨slots,seen,false⟩=⟨slots,seen,(AA (BR ts slots seen ts.length i false) kind).2 || !(decide ((AA (BR ts slots seen ts.length i false) kind).1≤256))⟩:=rfl
 refine ⟨rfl,?_,F1.out.trans F3.out⟩
 rw [hv]
 refine RL.of (H3.out.same ?_) HI.out
 simp only [RS.must]
 cases hb:(AA (BR ts slots seen ts.length i false) kind).2 with
 | true=>simp
 | false=>rw [HG.out hb]
omit hlt htb htxt in
theorem Cp (slot:Int) (b:Bool) (l:List Int) (lb c:Nat) (s:LSt) (vars:List Vr) (tv:Value) (w:World) (hs:s.slots.length≤100000) (hll:l.length≤3) (hne:l≠[]) (h:RL w B kb tv vars s) (hlb:Blk w lb 118 (l.map (Value.int .i8)).toArray) (hc:l.length≤c) :
  Calls Tryz.prog 205 #[.pointer (some ⟨kb,0,none⟩),.int .i64 slot,.slice (some ⟨lb,0,none⟩) l.length c,.bool b] w fun e w'=>e=.returned (.tuple #[]) ∧
   RL w' B kb tv (vars ++ Fi slot b l s) (AE slot b l s)∧Frm B [158,118,160] w w':=by
 obtain⟨slots,hrk,hgood⟩:=h
 obtain⟨sl0,seen,bad⟩:=s
 simp only at hrk hgood hs
 obtain⟨hB,hks⟩:=hrk.size
 have hmu:=fun (s:RS) x wx hx=>BC B kb tv s x wx hx
 have hrk0:=hrk
 obtain⟨sv,vv,h1,h3,h4,h5⟩:=hrk
 obtain⟨n,hn⟩:∃ n,slots.length=n:=⟨_,rfl⟩
 simp only at h4
 rw [hn] at h4
 obtain⟨A,c1,rfl⟩:=AJ h4
 have k1:=h3.cell 1
 obtain⟨q,hq⟩:∃ q:Bool,(slot == (n:Int))=q:=⟨_,rfl⟩
 obtain⟨HH,HGD,HMU,HN,HL⟩:=Hd5 hrk0 hgood hmu hn hlb
 clear hrk0 hgood hmu hn hlb h3 h4 h5
 go_in
 go_wp2_with fail
 refine (HMU.out _ q _ HH.out).mono ?_
 rintro e w1 ⟨rfl,g1,f1⟩
 have HQ:=Lh hq
 have k13:=g1.cells.2.1
 obtain⟨G1,F1⟩:=Hd2 g1 f1
 clear hq g1 f1
 cases bad with
 | true =>
  go_wp2_with fail
  refine bodyPost_ret (results_none rfl _ _ _) rfl ?_
  refine ⟨rfl,?_,F1.out.more (by simp)⟩
  have e1:Fi slot b l ⟨sl0,seen,true⟩=[]:=by simp [Fi]
  have e2:AE slot b l ⟨sl0,seen,true⟩=⟨sl0,seen,true⟩:=by simp [AE]
  rw [e1,e2,List.append_nil]
  exact RL.isBad (sl:=slots) (G1.out.same (by simp [RS.must])) rfl
 | false =>
  obtain⟨e0,hI⟩:=HGD.out rfl
  subst e0
  have HI:=Lh hI
  clear hI
  cases q with
  | false =>
   go_wp2_with fail
   refine bodyPost_ret (results_none rfl _ _ _) rfl ?_
   refine ⟨rfl,?_,F1.out.more (by simp)⟩
   have hne2:slot≠(slots.length:Int):=by rw [HN.out];simpa using HQ.out
   have e1:Fi slot b l ⟨slots,seen,false⟩=[]:=by simp [Fi,hne2]
   have e2:AE slot b l ⟨slots,seen,false⟩=⟨slots,seen,true⟩:=by simp [AE,hne2]
   rw [e1,e2,List.append_nil]
   exact RL.isBad (sl:=slots) (G1.out.same (by simp [RS.must])) rfl
  | true =>
   have heq:slot=(n:Int):=by simpa using HQ.out
   have e1:Fi slot b l ⟨slots,seen,false⟩=[⟨(slots.length:Int),l.headD 0,b⟩]:=by
    simp [Fi,heq,HN.out]
   have e2:AE slot b l ⟨slots,seen,false⟩=⟨slots ++ l,upd CB seen (slots.length:Int) (some (.bool b)),false⟩:=by
    simp [AE,heq,HN.out]
   obtain⟨HE1,HE2⟩:=Hd2 e1 e2
   have hnew:=HI.out.declare (by omega) hne b
   have HNEW:=Lh hnew
   clear hnew e1 e2
   subst heq
   rw [HN.out] at hs
   have hvn:=HI.out.len
   rw [HN.out] at hvn
   obtain⟨sv1,vv1,m1,m3,m4,m5⟩:=G1.out
   simp only [RS.must] at m3 m4 m5
   rw [HN.out] at m4
   obtain⟨nv,hnv⟩:∃ nv,vars.length=nv:=⟨_,rfl⟩
   rw [hnv] at m5 hvn
   obtain⟨A1,c2,rfl⟩:=AJ m4
   obtain⟨A2,c3,rfl⟩:=AJ m5
   have hBw1:B≤w1.heap.size:=by have:=F1.out.size;omega
   have hl1:=F1.out.blk HL.out (by decide)
   obtain⟨hd,lr,rfl⟩:∃ hd lr,l=hd :: lr:=by
    cases l with
    | nil=>exact absurd rfl hne
    | cons a r=>exact ⟨a,r,rfl⟩
   have hl0:w1.drew.cell? ⟨lb,0,none⟩=some (.int .i8 hd):=hl1.cell 0
   have kk1:=m3.drew.cell 1
   have kk2:=m3.drew.cell 2
   have kf2:=m3.drew.frozen 2
   obtain⟨ll,hll2⟩:∃ ll,(hd :: lr).length=ll:=⟨_,rfl⟩
   have hlp:0 < ll:=by rw [← hll2];simp
   rw [hll2] at hll hc ⊢
   have hv0:=SV
   obtain⟨M3,M4,M5,HL1,HNV,HLL2,F1d⟩:=Hd7 m3.drew m4.drew m5.drew hl1.drew hnv hll2 F1.out.drew
   clear m3 m4 m5 hl1 hnv hll2 hv0
   go_wp2_with fail
   refine A8 (by kernel_rfl) (by kernel_rfl) ?_
   obtain⟨W,hW⟩:=Ex0 w1.drew
   have hzW:W.heap.size=w1.heap.size:=by rw [hW];rfl
   rw [← hW] at M3 M4 M5 HL1 F1d kk1 kk2 kf2 hl0 ⊢
   have HW:=Lh hW
   clear hW
   have hBW:B≤W.heap.size:=by omega
   have HZW:=Lh hzW
   clear hzW
   go_wp2_with (at_builtin;go_loud (refine Cb SV rfl _ _ rfl B W [.string ByteArray.empty,.int .i64 (n:Int),.int .i8 hd,.bool b] rfl (.slice A2 nv c3) nv _ rfl M5.out rfl rfl (by intro u hu;simp at hu;rcases hu with rfl | rfl | rfl | rfl <;> rfl) (by unfold maxLen;omega) (by omega) hBW ?_;intro v4 w4 hown4 hg4;obtain⟨A4,c4,rfl⟩:=AJ hown4;have hk4:=M3.out.grown hg4 (AR M5.out M3.out (by decide)).symm;have z41:=hk4.frozen 2;have hk41:=hk4.cell 2))
   refine AX.normal ?_
   have hS4:=MJ M4.out M5.out (by decide) hg4
   have hL4:=HL1.out.grown hg4 (AR M5.out HL1.out (by decide)).symm
   have hF4:=(F1d.out.more (T':=[158,118,160]) (by simp)).grown M5.out hg4 (Nat.le_refl _) hBW (by simp)
   obtain⟨W5,hW5⟩:=Ex0 (w4.setCell ⟨kb,2,none⟩ (.slice A4 (nv + 1) c4))
   rw [← hW5]
   have hk5:=hk4.set_ 2 (.slice A4 (nv + 1) c4)
   have hV5:=Bm hown4 (AR hown4 hk4 (by decide)) (p:=⟨kb,2,none⟩) (.slice A4 (nv + 1) c4)
   have hS5:=Bm hS4 (AR hS4 hk4 (by decide)) (p:=⟨kb,2,none⟩) (.slice A4 (nv + 1) c4)
   have hL5:=hL4.far (p:=⟨kb,2,none⟩) (hL4.ne_ hk4 (by decide)) (.slice A4 (nv + 1) c4)
   have hF5:=hF4.set_ hk4 hB (i:=2) (by simp) (.slice A4 (nv + 1) c4)
   rw [← hW5] at hk5 hV5 hS5 hL5 hF5
   have kk51:=hk5.cell 1
   have kf51:=hk5.frozen 1
   have hBW5:B≤W5.heap.size:=Nat.le_trans hBW (by rw [hW5];simpa using hg4.size)
   obtain⟨K5,V5,S5,L5,F5⟩:=Hd5 hk5 hV5 hS5 hL5 hF5
   clear hk5 hV5 hS5 hL5 hF5 hW5 hS4 hL4 hF4 hk4 z41 hk41 hown4 hg4
   obtain⟨i0,z0,hi0,hz0,hsz0,hby0,hzc0⟩:=Km.info
   go_wp2_with (at_builtin;go_loud (refine wpList_append_own_at _ rfl _ _ 22 rfl B 118 i0 z0 1 1 Km.und hi0 hz0 hsz0 hby0 hzc0 (by decide) (.slice A1 n c2) n _ rfl S5.out ⟨lb,0,none⟩ ll c ((hd :: lr).map (Value.int .i8)) rfl (by rw [List.length_map,HLL2.out];omega) (fun j u hj=>MD L5.out hj) (by intro u hu;obtain⟨y,_,rfl⟩:=List.mem_map.1 hu;rfl) (by unfold maxLen;omega) (by omega) hBW5 ?_;intro v6 w6 hown6 hg6 _ _;obtain⟨A6,c6,rfl⟩:=AJ hown6;have hk6:=K5.out.grown hg6 (AR S5.out K5.out (by decide)).symm;have c61:=hk6.cell 1;have z61:=hk6.frozen 1;have hV6:=MJ V5.out S5.out (by decide) hg6;have hF6:=F5.out.grown S5.out hg6 (Nat.le_refl _) hBW5 (by simp)))
   go_end0
   rw [HE1.out,HE2.out]
   refine ⟨rfl,RL.of ⟨.slice A6 (n + ll) c6,.slice A4 (nv + 1) c4,hB,hk6.set_ 1 _,?_,?_⟩ HNEW.out,hF6.set_ hk6 hB (by simp) _⟩
   ·have e:(slots ++ hd :: lr).length=n + ll:=by rw [List.length_append,HN.out,HLL2.out]
    have e2:(slots ++ hd :: lr).map (Value.int .i8)=slots.map (Value.int .i8) ++ (hd :: lr).map (Value.int .i8):=List.map_append
    have:=Bm hown6 (AR hown6 hk6 (by decide)) (p:=⟨kb,1,none⟩) (.slice A6 (n + ll) c6)
    rw [← e2,← e] at this
    rw [← e]
    exact this
   ·have e:(vars ++ [(⟨(slots.length:Int),(hd :: lr).headD 0,b⟩:Vr)]).length=nv + 1:=by rw [List.length_append,HNV.out];rfl
    have e2:Cq (vars ++ [(⟨(slots.length:Int),(hd :: lr).headD 0,b⟩:Vr)])=Cq vars ++ [Value.string ByteArray.empty,Value.int .i64 (n:Int),Value.int .i8 hd,Value.bool b]:=by
     rw [HN.out]
     simp [Cq,Vr.cells]
    have:=Bm hV6 (AR hV6 hk6 (by decide)) (p:=⟨kb,1,none⟩) (.slice A6 (n + ll) c6)
    rw [← e2,← e] at this
    rw [← e]
    exact this
end
end Go.Proofs.YtmpcbaflcogmmaaGreatDoor
