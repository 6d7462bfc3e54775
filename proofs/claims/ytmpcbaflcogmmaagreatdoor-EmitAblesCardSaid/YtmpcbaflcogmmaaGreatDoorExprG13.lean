/- ExprD13 ExprG13 -/
import Derived.Test.YtmpcbaflcogmmaaGreatDoorExprF13
namespace Go.Proofs.YtmpcbaflcogmmaaGreatDoor
open Go.RowKit
set_option linter.all false
set_option maxHeartbeats 16000000
set_option maxRecDepth 100000
section
variable (B kb tb toff cap:Nat) (ts:List Au) (slots:List Int) (vars:List Vr) (seen:Int→Option Value) (hlt:ts.length≤100000) (htb:tb < B) (htxt:∀ y∈ts,y.text.size≤1099511627776)
include hlt htb htxt
theorem OO (rec:Nat→Bool→ER) (H:Int) (hH0:0≤H) (hH1:H≤300000) (hrb:∀ j,(rec j true).2.2=true) (i:Nat) (x:Au) (w:World)
  (h:RK w B kb (.slice (some ⟨tb,toff,none⟩) ts.length cap) ⟨slots,vars,false⟩) (hx:ts[i]? = some x) (hn:As w tb toff ts) (hbe:0≤Ap ts i) (he:∀ j∈Am ts i,En B kb tb toff cap ts slots vars (rec j) H j) (hop:x.op=38∨x.op=39) (hcnt:(Am ts i).length=2) :
  Calls Tryz.prog 204 #[.pointer (some ⟨kb,0,none⟩),.int .i64 i] w fun e w'=>Dg B kb (.slice (some ⟨tb,toff,none⟩) ts.length cap) slots vars w (BW rec ts slots seen i false) (H + 3) e w':=by
 have hi:i < ts.length:=(List.getElem?_eq_some_iff.1 hx).1
 obtain⟨hB,hks⟩:=h.size
 have htw:tb < w.heap.size:=by omega
 have hki:=fun wx (hx':As wx tb toff ts) (hl:tb < wx.heap.size)=>CY (some ⟨tb,toff,none⟩) ts cap i wx hlt (.inr ⟨tb,toff,rfl,hl,hx'⟩) hi
 have hpl:=fun (s:RS) (kind n m:Int) wx hx' hn'=>BT B kb tb toff cap ts s i x kind n m wx hx' hx hn' hlt
 obtain⟨R,hR⟩:=Ex0 (BW rec ts slots seen i false)
 have hxg:ts.getD i AF=x:=by rw [List.getD_eq_getElem?_getD,hx];rfl
 rw [← hR]
 unfold BW at hR
 simp only [hxg] at hR
 rw [if_neg (by decide)] at hR
 obtain⟨kids,hkids⟩:=Ex0 (Am ts i)
 obtain⟨nk,hnk⟩:∃ nk,kids.length=nk:=⟨_,rfl⟩
 have hnkb:nk≤100000:=by rw [← hnk,hkids];exact AM hbe hlt
 rw [← hkids] at he
 simp only [← hkids,hnk] at hki hR
 obtain⟨c0,c1,c2,c3,c4,c5,c6⟩:=hn.all hx
 obtain⟨k0,k3,kf⟩:=h.cells
 have HKL:=Lh (show ∀ j∈kids,j < ts.length by rw [hkids];exact fun j hj=>(AU hj).2.1)
 rw [if_neg (by omega),if_neg (by omega),if_neg (by omega),if_neg (by omega),if_neg (by omega)] at hR
 unfold Bd at hR
 simp only [hxg,hnk] at hR
 rw [← hkids,hnk] at hcnt
 obtain⟨len,hlen⟩:∃ len,ts.length=len:=⟨_,rfl⟩
 simp only [hlen] at hki hpl
 rw [hlen] at h hi k0 ⊢
 have hlt2:len≤100000:=by omega
 have hiI:(i:Int) < len:=by omega
 have hmu:=fun (s:RS) x wx hx=>BC B kb (.slice (some ⟨tb,toff,none⟩) len cap) s x wx hx
 obtain⟨xo,xk,xn,xm,xt,xp,xq⟩:=x
 simp only at c0 c1 c2 c3 c4 c5 c6 hR hop
 obtain⟨HRK0,HPL,HMU,HKI,HE,HN0,HL,HNK,HX,HRB,HTX,HR⟩:=Hd12 h hpl hmu hki he hn hlen hnk hx hrb htxt hR
 have hxb:=Blk.new w 120 #[.int .i8 xo,.int .i8 xk,.int .i64 xn,.int .i64 xm,.string xt,.int .i64 xp,.int .i64 xq]
 obtain⟨HF0,HXB⟩:=Hd2 ((Frm.refl B [158] w).alloc (by omega) (.cells #[.int .i8 xo,.int .i8 xk,.int .i64 xn,.int .i64 xm,.string xt,.int .i64 xp,.int .i64 xq] 120)) hxb
 obtain⟨W0,hW0⟩:=Ex0 (w.alloc (.cells #[.int .i8 xo,.int .i8 xk,.int .i64 xn,.int .i64 xm,.string xt,.int .i64 xp,.int .i64 xq] 120))
 have HW0:=Lh hW0
 have zW0:W0.heap.size=w.heap.size + 1:=by rw [hW0];simp
 rw [← hW0] at HXB HF0
 obtain⟨HRKW,HNW⟩:=Hd2 (show RK W0 B kb _ _ by rw [hW0];exact HRK0.out.alloc _) (HF0.out.nodes HN0.out htb)
 have kw0:=HRKW.out.cells.1
 clear h hpl hmu hki he hn hlen hnk hx hrb htxt hxb hW0 hkids hR hxg hbe
 rcases hop with rfl | rfl
 ·go_in
  go_wp2_with fail
  rw [← HW0.out]
  refine (HKI.out _ HNW.out (by omega)).mono ?_
  rintro e w2 ⟨kv,rfl,hown,hb2⟩
  obtain⟨AK,ck,rfl⟩:=AJ hown
  have hz2:=hb2.size
  obtain⟨HF2,HRK2⟩:=Hd2 (HF0.out.trans (Frm.of_below hb2 (by omega))) (HRKW.out.below hb2)
  have hx2:=HXB.out.below hb2 (by omega)
  have x20:=hx2.cell 0
  have x22:=hx2.cell 2
  obtain⟨k02,k32,kf2⟩:=HRK2.out.cells
  obtain⟨HSET,HSF,HKO,HX2,HN2⟩:=Hd5 (HRK2.out.setBad true) (HRK2.out.frm 3 (.bool true)) hown hx2 (HF2.out.nodes HN0.out htb)
  clear hown hb2 hx2
  have hmany:nk=2:=hcnt
  subst hmany
  obtain⟨like,hlike⟩:=Ex0 (AO ⟨38,xk,xn,xm,xt,xp,xq⟩ (AG 38).2 0 0)
  obtain⟨tl,htl⟩:=Ex0 ((AG 38).2)
  have hR1:=HR.out
  have hR1:R=if (True∧True∧like=true) then (if (True∧(((rec (kids.getD 0 0) false).1,(rec (kids.getD 0 0) false).2.1,(rec (kids.getD 0 0) false).2.2 || !((rec (kids.getD 0 0) false).1 != 6))).2.2=false) then (tl,max (((rec (kids.getD 0 0) false).1,(rec (kids.getD 0 0) false).2.1,(rec (kids.getD 0 0) false).2.2 || !((rec (kids.getD 0 0) false).1 != 6))).2.1 ((AA (rec (kids.getD 1 0) false) (rec (kids.getD 0 0) false).1).1 + 1),(AA (rec (kids.getD 1 0) false) (rec (kids.getD 0 0) false).1).2) else (tl,(((rec (kids.getD 0 0) false).1,(rec (kids.getD 0 0) false).2.1,(rec (kids.getD 0 0) false).2.2 || !((rec (kids.getD 0 0) false).1 != 6))).2.1,(((rec (kids.getD 0 0) false).1,(rec (kids.getD 0 0) false).2.1,(rec (kids.getD 0 0) false).2.2 || !((rec (kids.getD 0 0) false).1 != 6))).2.2)) else (0,0,true):=by
   rw [hR1]
   rw [hlike,htl]
   simp [AG]
  rw [← htl] at hlike
  have hpl0:=HPL.out ⟨slots,vars,false⟩ tl 0 0
  rw [← hlike] at hpl0
  obtain⟨HPL0,HRR,HTL,HOPR⟩:=Hd4 hpl0 hR1 (fun wx=>by have:=DD 38 wx (by omega);rw [← htl] at this;exact this:∀ wx,Calls Tryz.prog 250 #[.int .i8 38] wx fun e w'=>e=.returned (.int .i8 tl)∧wx=w') (fun wx=>by have:=CN 38 wx;rw [show Ce 38 = -1 by (unfold Ce;rfl)] at this;exact this:∀ wx,Calls Tryz.prog 251 #[.int .i8 38] wx fun e w'=>e=.returned (.int .i8 (-1))∧wx=w')
  obtain⟨j0,hj0⟩:∃ j,kids[0]? = some j:=⟨_,List.getElem?_eq_getElem (by rw [HNK.out];omega)⟩
  have hJ0:(kids.map (fun j:Nat=>(j:Int)))[0]? = some (j0:Int):=by rw [List.getElem?_map,hj0];rfl
  obtain⟨HJM0,HG0⟩:=Hd2 (List.mem_of_getElem? hj0) (show kids.getD 0 0=j0 by rw [List.getD_eq_getElem?_getD,hj0];rfl)
  obtain⟨j1,hj1⟩:∃ j,kids[1]? = some j:=⟨_,List.getElem?_eq_getElem (by rw [HNK.out];omega)⟩
  have hJ1:(kids.map (fun j:Nat=>(j:Int)))[1]? = some (j1:Int):=by rw [List.getElem?_map,hj1];rfl
  obtain⟨HJM1,HG1,HJ1⟩:=Hd3 (List.mem_of_getElem? hj1) (show kids.getD 1 0=j1 by rw [List.getD_eq_getElem?_getD,hj1];rfl) hJ1
  clear hj1 hJ1
  have HJ0:=Lh hJ0
  clear hR1 hpl0 hlike htl hj0 hJ0
  have hk2:((2:Nat):Int)=2:=rfl
  go_wp2_with fail
  refine (HTL.out _).mono ?_
  rintro e w2' ⟨rfl,rfl⟩
  go_wp2_with fail
  refine (HPL0.out _ HRK2.out HN2.out).mono ?_
  rintro e w3 ⟨rfl,h3,f3⟩
  have hz3:=f3.size
  have HF3:=Lh (HF2.out.trans f3)
  have x30:=(f3.blk HX2.out (by decide)).cell 0
  obtain⟨HXC,HKO3,H3,HN3⟩:=Hd4 (show ∀ wx,Frm B [158] w3 wx→wx.cell? ⟨w.heap.size,0,none⟩=some (.int .i8 38) from fun wx fx=>(fx.blk (f3.blk HX2.out (by decide)) (by decide)).cell 0) (f3.own HKO.out (by decide)) (h3.same (s':=⟨slots,vars,!like⟩) (by simp [RS.must])) (f3.nodes HN2.out htb)
  obtain⟨kb3,ko3,ke3,kl3,kc3⟩:=(Bt HKO3.out).1 0 _ HJ0.out
  subst ke3
  simp only [Nat.add_zero] at kc3
  have hk5:∀ wx,Frm B [158] w3 wx→wx.cell? ⟨kb3,ko3 + 1,none⟩=some (.int .i64 (j1:Int)):=by
   intro wx fx
   obtain⟨kb5,ko5,ke5,kl5,kc5⟩:=(Bt (fx.own HKO3.out (by decide))).1 1 _ HJ1.out
   simp only [Option.some.injEq,Addr.mk.injEq,and_true] at ke5
   obtain⟨rfl,rfl⟩:=ke5
   exact kc5
  have HK1:=Lh hk5
  clear hk5
  clear h3 f3 x20 x22
  go_wp2_with fail
  refine (HOPR.out _).mono ?_
  rintro e w3' ⟨rfl,rfl⟩
  go_wp2_with fail
  refine (HE.out j0 HJM0.out (!like) _ (by rw [HL.out];exact H3.out) HN3.out).mono ?_
  rintro e w4 ⟨kk,h4v,rfl,h40,h41,h4,f4,hg4⟩
  rw [HL.out] at h4
  obtain⟨ne6,hne6⟩:=Ex0 ((kk != 6))
  obtain⟨HNE,H4,F4,HG4⟩:=Hd4 hne6 h4 f4 hg4
  clear h4 f4 hg4
  go_wp2_with fail
  rw [← hne6]
  clear hne6
  refine (HMU.out _ ne6 _ H4.out).mono ?_
  rintro e w5 ⟨rfl,h5,f5⟩
  have kw1:=HK1.out _ (F4.out.trans f5)
  have x50:=HXC.out _ (F4.out.trans f5)
  have F5:=Lh (F4.out.trans f5)
  obtain⟨b5,hb5⟩:=Ex0 (((rec j0 (!like)).2.2 || !ne6))
  obtain⟨H5,HB5⟩:=Hd2 (h5.same (s':=⟨slots,vars,b5⟩) (by rw [hb5];rfl)) hb5
  clear h5 f5 hb5
  go_wp2_with fail
  refine (BP B kb tb toff cap ts slots vars (rec j1) H j1 kk b5 _ (HE.out j1 HJM1.out) (by rw [HL.out];exact H5.out) (F5.out.nodes HN3.out htb)).mono ?_
  rintro e w6 ⟨hr,rfl,hr0,hr1,h6,f6,hg6⟩
  rw [HL.out] at h6
  have x60:=HXC.out _ (F5.out.trans f6)
  obtain⟨F6,H6,HG6⟩:=Hd3 (F5.out.trans f6) h6 hg6
  clear h6 f6 hg6
  go_wp2_with fail
  refine (HTL.out _).mono ?_
  rintro e w6' ⟨rfl,rfl⟩
  have fin:∀ hv:Int,hv=max h4v (hr + 1)→Dg B kb (.slice (some ⟨tb,toff,none⟩) len cap) slots vars w R (H + 3) (.returned (.tuple #[.int .i8 tl,.int .i64 hv])) w6:=by
   intro hv hhv
   cases like with
   | false =>
    have hr:R=(0,0,true):=by rw [HRR.out,if_neg (fun h=>by cases h.2.2)]
    have hb5:b5=true:=by rw [HB5.out,show (!false)=true from rfl,HRB.out j0];rfl
    subst hb5
    have hbt:(AA (rec j1 true) kk).2=true:=by simp [AA,HRB.out j1]
    exact ⟨tl,hv,rfl,by omega,by omega,by rw [hr];rw [← hbt];exact H6.out,HF3.out.trans F6.out,fun hb=>by rw [hr] at hb;cases hb⟩
   | true =>
    have hr:=HRR.out
    rw [if_pos ⟨trivial,trivial,rfl⟩,HG0.out,HG1.out] at hr
    cases hb0:(rec j0 false).2.2 with
    | true =>
     have hb5:b5=true:=by rw [HB5.out,show (!true)=false from rfl,hb0];rfl
     subst hb5
     have hbt:(AA (rec j1 true) kk).2=true:=by simp [AA,HRB.out j1]
     simp only [hb0,Bool.true_or,if_false,and_false,Bool.true_eq_false] at hr
     exact ⟨tl,hv,rfl,by omega,by omega,by rw [hr];rw [← hbt];exact H6.out,HF3.out.trans F6.out,fun hb=>by rw [hr] at hb;cases hb⟩
    | false =>
     obtain⟨g1,g2⟩:=HG4.out hb0
     have g1:kk=(rec j0 false).1:=g1
     have g2:h4v=(rec j0 false).2.1:=g2
     have hne:ne6=((rec j0 false).1 != 6):=by rw [HNE.out,g1]
     simp only [hb0,Bool.false_or,← hne] at hr
     cases ne6 with
     | false =>
      have hb5:b5=true:=by rw [HB5.out];simp
      subst hb5
      have hbt:(AA (rec j1 true) kk).2=true:=by simp [AA,HRB.out j1]
      simp only [Bool.not_false,Bool.true_eq_false,and_false,if_false] at hr
      exact ⟨tl,hv,rfl,by omega,by omega,by rw [hr];rw [← hbt];exact H6.out,HF3.out.trans F6.out,fun hb=>by rw [hr] at hb;cases hb⟩
     | true =>
      have hb5:b5=false:=by rw [HB5.out,show (!true)=false from rfl,hb0];rfl
      subst hb5
      simp only [Bool.not_true,and_true,if_true] at hr
      rw [← g1] at hr
      refine ⟨tl,hv,rfl,by omega,by omega,by rw [hr];exact H6.out,HF3.out.trans F6.out,fun hb=>?_⟩
      rw [hr] at hb ⊢
      have g6:=HG6.out hb
      refine ⟨rfl,?_⟩
      rw [hhv,g2,g6]
  rcases Int.lt_trichotomy h4v (hr + 1) with hq | hq | hq
  ·go_wp2_with fail
   go_ret2
   exact fin _ (by omega)
  ·go_wp2_with fail
   go_ret2
   exact fin _ (by omega)
  ·go_wp2_with fail
   go_ret2
   exact fin _ (by omega)
 ·go_in
  go_wp2_with fail
  rw [← HW0.out]
  refine (HKI.out _ HNW.out (by omega)).mono ?_
  rintro e w2 ⟨kv,rfl,hown,hb2⟩
  obtain⟨AK,ck,rfl⟩:=AJ hown
  have hz2:=hb2.size
  obtain⟨HF2,HRK2⟩:=Hd2 (HF0.out.trans (Frm.of_below hb2 (by omega))) (HRKW.out.below hb2)
  have hx2:=HXB.out.below hb2 (by omega)
  have x20:=hx2.cell 0
  have x22:=hx2.cell 2
  obtain⟨k02,k32,kf2⟩:=HRK2.out.cells
  obtain⟨HSET,HSF,HKO,HX2,HN2⟩:=Hd5 (HRK2.out.setBad true) (HRK2.out.frm 3 (.bool true)) hown hx2 (HF2.out.nodes HN0.out htb)
  clear hown hb2 hx2
  have hmany:nk=2:=hcnt
  subst hmany
  obtain⟨like,hlike⟩:=Ex0 (AO ⟨39,xk,xn,xm,xt,xp,xq⟩ (AG 39).2 0 0)
  obtain⟨tl,htl⟩:=Ex0 ((AG 39).2)
  have hR1:=HR.out
  have hR1:R=if (True∧True∧like=true) then (if (True∧(((rec (kids.getD 0 0) false).1,(rec (kids.getD 0 0) false).2.1,(rec (kids.getD 0 0) false).2.2 || !((rec (kids.getD 0 0) false).1 != 6))).2.2=false) then (tl,max (((rec (kids.getD 0 0) false).1,(rec (kids.getD 0 0) false).2.1,(rec (kids.getD 0 0) false).2.2 || !((rec (kids.getD 0 0) false).1 != 6))).2.1 ((AA (rec (kids.getD 1 0) false) (rec (kids.getD 0 0) false).1).1 + 1),(AA (rec (kids.getD 1 0) false) (rec (kids.getD 0 0) false).1).2) else (tl,(((rec (kids.getD 0 0) false).1,(rec (kids.getD 0 0) false).2.1,(rec (kids.getD 0 0) false).2.2 || !((rec (kids.getD 0 0) false).1 != 6))).2.1,(((rec (kids.getD 0 0) false).1,(rec (kids.getD 0 0) false).2.1,(rec (kids.getD 0 0) false).2.2 || !((rec (kids.getD 0 0) false).1 != 6))).2.2)) else (0,0,true):=by
   rw [hR1]
   rw [hlike,htl]
   simp [AG]
  rw [← htl] at hlike
  have hpl0:=HPL.out ⟨slots,vars,false⟩ tl 0 0
  rw [← hlike] at hpl0
  obtain⟨HPL0,HRR,HTL,HOPR⟩:=Hd4 hpl0 hR1 (fun wx=>by have:=DD 39 wx (by omega);rw [← htl] at this;exact this:∀ wx,Calls Tryz.prog 250 #[.int .i8 39] wx fun e w'=>e=.returned (.int .i8 tl)∧wx=w') (fun wx=>by have:=CN 39 wx;rw [show Ce 39 = -1 by (unfold Ce;rfl)] at this;exact this:∀ wx,Calls Tryz.prog 251 #[.int .i8 39] wx fun e w'=>e=.returned (.int .i8 (-1))∧wx=w')
  obtain⟨j0,hj0⟩:∃ j,kids[0]? = some j:=⟨_,List.getElem?_eq_getElem (by rw [HNK.out];omega)⟩
  have hJ0:(kids.map (fun j:Nat=>(j:Int)))[0]? = some (j0:Int):=by rw [List.getElem?_map,hj0];rfl
  obtain⟨HJM0,HG0⟩:=Hd2 (List.mem_of_getElem? hj0) (show kids.getD 0 0=j0 by rw [List.getD_eq_getElem?_getD,hj0];rfl)
  obtain⟨j1,hj1⟩:∃ j,kids[1]? = some j:=⟨_,List.getElem?_eq_getElem (by rw [HNK.out];omega)⟩
  have hJ1:(kids.map (fun j:Nat=>(j:Int)))[1]? = some (j1:Int):=by rw [List.getElem?_map,hj1];rfl
  obtain⟨HJM1,HG1,HJ1⟩:=Hd3 (List.mem_of_getElem? hj1) (show kids.getD 1 0=j1 by rw [List.getD_eq_getElem?_getD,hj1];rfl) hJ1
  clear hj1 hJ1
  have HJ0:=Lh hJ0
  clear hR1 hpl0 hlike htl hj0 hJ0
  have hk2:((2:Nat):Int)=2:=rfl
  go_wp2_with fail
  refine (HTL.out _).mono ?_
  rintro e w2' ⟨rfl,rfl⟩
  go_wp2_with fail
  refine (HPL0.out _ HRK2.out HN2.out).mono ?_
  rintro e w3 ⟨rfl,h3,f3⟩
  have hz3:=f3.size
  have HF3:=Lh (HF2.out.trans f3)
  have x30:=(f3.blk HX2.out (by decide)).cell 0
  obtain⟨HXC,HKO3,H3,HN3⟩:=Hd4 (show ∀ wx,Frm B [158] w3 wx→wx.cell? ⟨w.heap.size,0,none⟩=some (.int .i8 39) from fun wx fx=>(fx.blk (f3.blk HX2.out (by decide)) (by decide)).cell 0) (f3.own HKO.out (by decide)) (h3.same (s':=⟨slots,vars,!like⟩) (by simp [RS.must])) (f3.nodes HN2.out htb)
  obtain⟨kb3,ko3,ke3,kl3,kc3⟩:=(Bt HKO3.out).1 0 _ HJ0.out
  subst ke3
  simp only [Nat.add_zero] at kc3
  have hk5:∀ wx,Frm B [158] w3 wx→wx.cell? ⟨kb3,ko3 + 1,none⟩=some (.int .i64 (j1:Int)):=by
   intro wx fx
   obtain⟨kb5,ko5,ke5,kl5,kc5⟩:=(Bt (fx.own HKO3.out (by decide))).1 1 _ HJ1.out
   simp only [Option.some.injEq,Addr.mk.injEq,and_true] at ke5
   obtain⟨rfl,rfl⟩:=ke5
   exact kc5
  have HK1:=Lh hk5
  clear hk5
  clear h3 f3 x20 x22
  go_wp2_with fail
  refine (HOPR.out _).mono ?_
  rintro e w3' ⟨rfl,rfl⟩
  go_wp2_with fail
  refine (HE.out j0 HJM0.out (!like) _ (by rw [HL.out];exact H3.out) HN3.out).mono ?_
  rintro e w4 ⟨kk,h4v,rfl,h40,h41,h4,f4,hg4⟩
  rw [HL.out] at h4
  obtain⟨ne6,hne6⟩:=Ex0 ((kk != 6))
  obtain⟨HNE,H4,F4,HG4⟩:=Hd4 hne6 h4 f4 hg4
  clear h4 f4 hg4
  go_wp2_with fail
  rw [← hne6]
  clear hne6
  refine (HMU.out _ ne6 _ H4.out).mono ?_
  rintro e w5 ⟨rfl,h5,f5⟩
  have kw1:=HK1.out _ (F4.out.trans f5)
  have x50:=HXC.out _ (F4.out.trans f5)
  have F5:=Lh (F4.out.trans f5)
  obtain⟨b5,hb5⟩:=Ex0 (((rec j0 (!like)).2.2 || !ne6))
  obtain⟨H5,HB5⟩:=Hd2 (h5.same (s':=⟨slots,vars,b5⟩) (by rw [hb5];rfl)) hb5
  clear h5 f5 hb5
  go_wp2_with fail
  refine (BP B kb tb toff cap ts slots vars (rec j1) H j1 kk b5 _ (HE.out j1 HJM1.out) (by rw [HL.out];exact H5.out) (F5.out.nodes HN3.out htb)).mono ?_
  rintro e w6 ⟨hr,rfl,hr0,hr1,h6,f6,hg6⟩
  rw [HL.out] at h6
  have x60:=HXC.out _ (F5.out.trans f6)
  obtain⟨F6,H6,HG6⟩:=Hd3 (F5.out.trans f6) h6 hg6
  clear h6 f6 hg6
  go_wp2_with fail
  refine (HTL.out _).mono ?_
  rintro e w6' ⟨rfl,rfl⟩
  have fin:∀ hv:Int,hv=max h4v (hr + 1)→Dg B kb (.slice (some ⟨tb,toff,none⟩) len cap) slots vars w R (H + 3) (.returned (.tuple #[.int .i8 tl,.int .i64 hv])) w6:=by
   intro hv hhv
   cases like with
   | false =>
    have hr:R=(0,0,true):=by rw [HRR.out,if_neg (fun h=>by cases h.2.2)]
    have hb5:b5=true:=by rw [HB5.out,show (!false)=true from rfl,HRB.out j0];rfl
    subst hb5
    have hbt:(AA (rec j1 true) kk).2=true:=by simp [AA,HRB.out j1]
    exact ⟨tl,hv,rfl,by omega,by omega,by rw [hr];rw [← hbt];exact H6.out,HF3.out.trans F6.out,fun hb=>by rw [hr] at hb;cases hb⟩
   | true =>
    have hr:=HRR.out
    rw [if_pos ⟨trivial,trivial,rfl⟩,HG0.out,HG1.out] at hr
    cases hb0:(rec j0 false).2.2 with
    | true =>
     have hb5:b5=true:=by rw [HB5.out,show (!true)=false from rfl,hb0];rfl
     subst hb5
     have hbt:(AA (rec j1 true) kk).2=true:=by simp [AA,HRB.out j1]
     simp only [hb0,Bool.true_or,if_false,and_false,Bool.true_eq_false] at hr
     exact ⟨tl,hv,rfl,by omega,by omega,by rw [hr];rw [← hbt];exact H6.out,HF3.out.trans F6.out,fun hb=>by rw [hr] at hb;cases hb⟩
    | false =>
     obtain⟨g1,g2⟩:=HG4.out hb0
     have g1:kk=(rec j0 false).1:=g1
     have g2:h4v=(rec j0 false).2.1:=g2
     have hne:ne6=((rec j0 false).1 != 6):=by rw [HNE.out,g1]
     simp only [hb0,Bool.false_or,← hne] at hr
     cases ne6 with
     | false =>
      have hb5:b5=true:=by rw [HB5.out];simp
      subst hb5
      have hbt:(AA (rec j1 true) kk).2=true:=by simp [AA,HRB.out j1]
      simp only [Bool.not_false,Bool.true_eq_false,and_false,if_false] at hr
      exact ⟨tl,hv,rfl,by omega,by omega,by rw [hr];rw [← hbt];exact H6.out,HF3.out.trans F6.out,fun hb=>by rw [hr] at hb;cases hb⟩
     | true =>
      have hb5:b5=false:=by rw [HB5.out,show (!true)=false from rfl,hb0];rfl
      subst hb5
      simp only [Bool.not_true,and_true,if_true] at hr
      rw [← g1] at hr
      refine ⟨tl,hv,rfl,by omega,by omega,by rw [hr];exact H6.out,HF3.out.trans F6.out,fun hb=>?_⟩
      rw [hr] at hb ⊢
      have g6:=HG6.out hb
      refine ⟨rfl,?_⟩
      rw [hhv,g2,g6]
  rcases Int.lt_trichotomy h4v (hr + 1) with hq | hq | hq
  ·go_wp2_with fail
   go_ret2
   exact fin _ (by omega)
  ·go_wp2_with fail
   go_ret2
   exact fin _ (by omega)
  ·go_wp2_with fail
   go_ret2
   exact fin _ (by omega)
end
section
variable (B kb tb toff cap:Nat) (ts:List Au) (slots:List Int) (vars:List Vr) (seen:Int→Option Value) (hlt:ts.length≤100000) (htb:tb < B) (htxt:∀ y∈ts,y.text.size≤1099511627776)
include hlt htb htxt
theorem Qo (rec:Nat→Bool→ER) (H:Int) (hH0:0≤H) (hH1:H≤300000) (hrb:∀ j,(rec j true).2.2=true) (i:Nat) (x:Au) (w:World)
  (h:RK w B kb (.slice (some ⟨tb,toff,none⟩) ts.length cap) ⟨slots,vars,false⟩) (hx:ts[i]? = some x) (hn:As w tb toff ts) (hbe:0≤Ap ts i) (he:∀ j∈Am ts i,En B kb tb toff cap ts slots vars (rec j) H j) (hop:x.op=36∨x.op=37) (hcnt:(Am ts i).length=2) :
  Calls Tryz.prog 204 #[.pointer (some ⟨kb,0,none⟩),.int .i64 i] w fun e w'=>Dg B kb (.slice (some ⟨tb,toff,none⟩) ts.length cap) slots vars w (BW rec ts slots seen i false) (H + 3) e w':=by
 have hi:i < ts.length:=(List.getElem?_eq_some_iff.1 hx).1
 obtain⟨hB,hks⟩:=h.size
 have htw:tb < w.heap.size:=by omega
 have hki:=fun wx (hx':As wx tb toff ts) (hl:tb < wx.heap.size)=>CY (some ⟨tb,toff,none⟩) ts cap i wx hlt (.inr ⟨tb,toff,rfl,hl,hx'⟩) hi
 have hpl:=fun (s:RS) (kind n m:Int) wx hx' hn'=>BT B kb tb toff cap ts s i x kind n m wx hx' hx hn' hlt
 obtain⟨R,hR⟩:=Ex0 (BW rec ts slots seen i false)
 have hxg:ts.getD i AF=x:=by rw [List.getD_eq_getElem?_getD,hx];rfl
 rw [← hR]
 unfold BW at hR
 simp only [hxg] at hR
 rw [if_neg (by decide)] at hR
 obtain⟨kids,hkids⟩:=Ex0 (Am ts i)
 obtain⟨nk,hnk⟩:∃ nk,kids.length=nk:=⟨_,rfl⟩
 have hnkb:nk≤100000:=by rw [← hnk,hkids];exact AM hbe hlt
 rw [← hkids] at he
 simp only [← hkids,hnk] at hki hR
 obtain⟨c0,c1,c2,c3,c4,c5,c6⟩:=hn.all hx
 obtain⟨k0,k3,kf⟩:=h.cells
 have HKL:=Lh (show ∀ j∈kids,j < ts.length by rw [hkids];exact fun j hj=>(AU hj).2.1)
 rw [if_neg (by omega),if_neg (by omega),if_neg (by omega),if_neg (by omega),if_neg (by omega)] at hR
 unfold Bd at hR
 simp only [hxg,hnk] at hR
 rw [← hkids,hnk] at hcnt
 obtain⟨len,hlen⟩:∃ len,ts.length=len:=⟨_,rfl⟩
 simp only [hlen] at hki hpl
 rw [hlen] at h hi k0 ⊢
 have hlt2:len≤100000:=by omega
 have hiI:(i:Int) < len:=by omega
 have hmu:=fun (s:RS) x wx hx=>BC B kb (.slice (some ⟨tb,toff,none⟩) len cap) s x wx hx
 obtain⟨xo,xk,xn,xm,xt,xp,xq⟩:=x
 simp only at c0 c1 c2 c3 c4 c5 c6 hR hop
 obtain⟨HRK0,HPL,HMU,HKI,HE,HN0,HL,HNK,HX,HRB,HTX,HR⟩:=Hd12 h hpl hmu hki he hn hlen hnk hx hrb htxt hR
 have hxb:=Blk.new w 120 #[.int .i8 xo,.int .i8 xk,.int .i64 xn,.int .i64 xm,.string xt,.int .i64 xp,.int .i64 xq]
 obtain⟨HF0,HXB⟩:=Hd2 ((Frm.refl B [158] w).alloc (by omega) (.cells #[.int .i8 xo,.int .i8 xk,.int .i64 xn,.int .i64 xm,.string xt,.int .i64 xp,.int .i64 xq] 120)) hxb
 obtain⟨W0,hW0⟩:=Ex0 (w.alloc (.cells #[.int .i8 xo,.int .i8 xk,.int .i64 xn,.int .i64 xm,.string xt,.int .i64 xp,.int .i64 xq] 120))
 have HW0:=Lh hW0
 have zW0:W0.heap.size=w.heap.size + 1:=by rw [hW0];simp
 rw [← hW0] at HXB HF0
 obtain⟨HRKW,HNW⟩:=Hd2 (show RK W0 B kb _ _ by rw [hW0];exact HRK0.out.alloc _) (HF0.out.nodes HN0.out htb)
 have kw0:=HRKW.out.cells.1
 clear h hpl hmu hki he hn hlen hnk hx hrb htxt hxb hW0 hkids hR hxg hbe
 rcases hop with rfl | rfl
 ·go_in
  go_wp2_with fail
  rw [← HW0.out]
  refine (HKI.out _ HNW.out (by omega)).mono ?_
  rintro e w2 ⟨kv,rfl,hown,hb2⟩
  obtain⟨AK,ck,rfl⟩:=AJ hown
  have hz2:=hb2.size
  obtain⟨HF2,HRK2⟩:=Hd2 (HF0.out.trans (Frm.of_below hb2 (by omega))) (HRKW.out.below hb2)
  have hx2:=HXB.out.below hb2 (by omega)
  have x20:=hx2.cell 0
  have x22:=hx2.cell 2
  obtain⟨k02,k32,kf2⟩:=HRK2.out.cells
  obtain⟨HSET,HSF,HKO,HX2,HN2⟩:=Hd5 (HRK2.out.setBad true) (HRK2.out.frm 3 (.bool true)) hown hx2 (HF2.out.nodes HN0.out htb)
  clear hown hb2 hx2
  have hmany:nk=2:=hcnt
  subst hmany
  obtain⟨like,hlike⟩:=Ex0 (AO ⟨36,xk,xn,xm,xt,xp,xq⟩ (AG 36).2 0 0)
  obtain⟨tl,htl⟩:=Ex0 ((AG 36).2)
  have hR1:=HR.out
  have hR1:R=if (True∧True∧like=true) then (if (True∧((2,(AA (rec (kids.getD 0 0) false) 2).1,(AA (rec (kids.getD 0 0) false) 2).2)).2.2=false) then (tl,max ((2,(AA (rec (kids.getD 0 0) false) 2).1,(AA (rec (kids.getD 0 0) false) 2).2)).2.1 ((AA (rec (kids.getD 1 0) false) 2).1),(AA (rec (kids.getD 1 0) false) 2).2) else (tl,((2,(AA (rec (kids.getD 0 0) false) 2).1,(AA (rec (kids.getD 0 0) false) 2).2)).2.1,((2,(AA (rec (kids.getD 0 0) false) 2).1,(AA (rec (kids.getD 0 0) false) 2).2)).2.2)) else (0,0,true):=by
   rw [hR1]
   rw [hlike,htl]
   simp [AG]
  rw [← htl] at hlike
  have hpl0:=HPL.out ⟨slots,vars,false⟩ tl 0 0
  rw [← hlike] at hpl0
  obtain⟨HPL0,HRR,HTL,HOPR⟩:=Hd4 hpl0 hR1 (fun wx=>by have:=DD 36 wx (by omega);rw [← htl] at this;exact this:∀ wx,Calls Tryz.prog 250 #[.int .i8 36] wx fun e w'=>e=.returned (.int .i8 tl)∧wx=w') (fun wx=>by have:=CN 36 wx;rw [show Ce 36=2 by (unfold Ce;rfl)] at this;exact this:∀ wx,Calls Tryz.prog 251 #[.int .i8 36] wx fun e w'=>e=.returned (.int .i8 (2))∧wx=w')
  obtain⟨j0,hj0⟩:∃ j,kids[0]? = some j:=⟨_,List.getElem?_eq_getElem (by rw [HNK.out];omega)⟩
  have hJ0:(kids.map (fun j:Nat=>(j:Int)))[0]? = some (j0:Int):=by rw [List.getElem?_map,hj0];rfl
  obtain⟨HJM0,HG0⟩:=Hd2 (List.mem_of_getElem? hj0) (show kids.getD 0 0=j0 by rw [List.getD_eq_getElem?_getD,hj0];rfl)
  obtain⟨j1,hj1⟩:∃ j,kids[1]? = some j:=⟨_,List.getElem?_eq_getElem (by rw [HNK.out];omega)⟩
  have hJ1:(kids.map (fun j:Nat=>(j:Int)))[1]? = some (j1:Int):=by rw [List.getElem?_map,hj1];rfl
  obtain⟨HJM1,HG1,HJ1⟩:=Hd3 (List.mem_of_getElem? hj1) (show kids.getD 1 0=j1 by rw [List.getD_eq_getElem?_getD,hj1];rfl) hJ1
  clear hj1 hJ1
  have HJ0:=Lh hJ0
  clear hR1 hpl0 hlike htl hj0 hJ0
  have hk2:((2:Nat):Int)=2:=rfl
  go_wp2_with fail
  refine (HTL.out _).mono ?_
  rintro e w2' ⟨rfl,rfl⟩
  go_wp2_with fail
  refine (HPL0.out _ HRK2.out HN2.out).mono ?_
  rintro e w3 ⟨rfl,h3,f3⟩
  have hz3:=f3.size
  have HF3:=Lh (HF2.out.trans f3)
  have x30:=(f3.blk HX2.out (by decide)).cell 0
  obtain⟨HXC,HKO3,H3,HN3⟩:=Hd4 (show ∀ wx,Frm B [158] w3 wx→wx.cell? ⟨w.heap.size,0,none⟩=some (.int .i8 36) from fun wx fx=>(fx.blk (f3.blk HX2.out (by decide)) (by decide)).cell 0) (f3.own HKO.out (by decide)) (h3.same (s':=⟨slots,vars,!like⟩) (by simp [RS.must])) (f3.nodes HN2.out htb)
  obtain⟨kb3,ko3,ke3,kl3,kc3⟩:=(Bt HKO3.out).1 0 _ HJ0.out
  subst ke3
  simp only [Nat.add_zero] at kc3
  have hk5:∀ wx,Frm B [158] w3 wx→wx.cell? ⟨kb3,ko3 + 1,none⟩=some (.int .i64 (j1:Int)):=by
   intro wx fx
   obtain⟨kb5,ko5,ke5,kl5,kc5⟩:=(Bt (fx.own HKO3.out (by decide))).1 1 _ HJ1.out
   simp only [Option.some.injEq,Addr.mk.injEq,and_true] at ke5
   obtain⟨rfl,rfl⟩:=ke5
   exact kc5
  have HK1:=Lh hk5
  clear hk5
  clear h3 f3 x20 x22
  go_wp2_with fail
  refine (HOPR.out _).mono ?_
  rintro e w3' ⟨rfl,rfl⟩
  go_wp2_with fail
  refine (BP B kb tb toff cap ts slots vars (rec j0) H j0 2 (!like) _ (HE.out j0 HJM0.out) (by rw [HL.out];exact H3.out) HN3.out).mono ?_
  rintro e w5 ⟨h4v,rfl,h40,h41,h5,f5,hg4⟩
  rw [HL.out] at h5
  have x50:=HXC.out _ f5
  have kw1:=HK1.out _ f5
  have F5:=Lh f5
  obtain⟨b5,hb5⟩:=Ex0 ((AA (rec j0 (!like)) 2).2)
  obtain⟨H5,HB5,HG4⟩:=Hd3 (h5.same (s':=⟨slots,vars,b5⟩) (by rw [hb5])) hb5 hg4
  clear h5 f5 hb5 hg4
  go_wp2_with fail
  refine (BP B kb tb toff cap ts slots vars (rec j1) H j1 2 b5 _ (HE.out j1 HJM1.out) (by rw [HL.out];exact H5.out) (F5.out.nodes HN3.out htb)).mono ?_
  rintro e w6 ⟨hr,rfl,hr0,hr1,h6,f6,hg6⟩
  rw [HL.out] at h6
  have x60:=HXC.out _ (F5.out.trans f6)
  obtain⟨F6,H6,HG6⟩:=Hd3 (F5.out.trans f6) h6 hg6
  clear h6 f6 hg6
  go_wp2_with fail
  refine (HTL.out _).mono ?_
  rintro e w6' ⟨rfl,rfl⟩
  have fin:∀ hv:Int,hv=max h4v (hr)→Dg B kb (.slice (some ⟨tb,toff,none⟩) len cap) slots vars w R (H + 3) (.returned (.tuple #[.int .i8 tl,.int .i64 hv])) w6:=by
   intro hv hhv
   cases like with
   | false =>
    have hr:R=(0,0,true):=by rw [HRR.out,if_neg (fun h=>by cases h.2.2)]
    have hb5:b5=true:=by rw [HB5.out];simp [AA,HRB.out j0]
    subst hb5
    have hbt:(AA (rec j1 true) 2).2=true:=by simp [AA,HRB.out j1]
    exact ⟨tl,hv,rfl,by omega,by omega,by rw [hr];rw [← hbt];exact H6.out,HF3.out.trans F6.out,fun hb=>by rw [hr] at hb;cases hb⟩
   | true =>
    have hr:=HRR.out
    rw [if_pos ⟨trivial,trivial,rfl⟩,HG0.out,HG1.out] at hr
    have hb5e:b5=(AA (rec j0 false) 2).2:=HB5.out
    cases b5 with
    | true =>
     have hbt:(AA (rec j1 true) 2).2=true:=by simp [AA,HRB.out j1]
     rw [← hb5e] at hr
     simp only [Bool.true_eq_false,and_false,if_false] at hr
     exact ⟨tl,hv,rfl,by omega,by omega,by rw [hr];rw [← hbt];exact H6.out,HF3.out.trans F6.out,fun hb=>by rw [hr] at hb;cases hb⟩
    | false =>
     have g2:h4v=(AA (rec j0 false) 2).1:=HG4.out hb5e.symm
     rw [← hb5e] at hr
     simp only [and_true,if_true] at hr
     refine ⟨tl,hv,rfl,by omega,by omega,by rw [hr];exact H6.out,HF3.out.trans F6.out,fun hb=>?_⟩
     rw [hr] at hb ⊢
     have g6:=HG6.out hb
     refine ⟨rfl,?_⟩
     rw [hhv,g2,g6]
  rcases Int.lt_trichotomy h4v (hr) with hq | hq | hq
  ·go_wp2_with fail
   go_ret2
   exact fin _ (by omega)
  ·go_wp2_with fail
   go_ret2
   exact fin _ (by omega)
  ·go_wp2_with fail
   go_ret2
   exact fin _ (by omega)
 ·go_in
  go_wp2_with fail
  rw [← HW0.out]
  refine (HKI.out _ HNW.out (by omega)).mono ?_
  rintro e w2 ⟨kv,rfl,hown,hb2⟩
  obtain⟨AK,ck,rfl⟩:=AJ hown
  have hz2:=hb2.size
  obtain⟨HF2,HRK2⟩:=Hd2 (HF0.out.trans (Frm.of_below hb2 (by omega))) (HRKW.out.below hb2)
  have hx2:=HXB.out.below hb2 (by omega)
  have x20:=hx2.cell 0
  have x22:=hx2.cell 2
  obtain⟨k02,k32,kf2⟩:=HRK2.out.cells
  obtain⟨HSET,HSF,HKO,HX2,HN2⟩:=Hd5 (HRK2.out.setBad true) (HRK2.out.frm 3 (.bool true)) hown hx2 (HF2.out.nodes HN0.out htb)
  clear hown hb2 hx2
  have hmany:nk=2:=hcnt
  subst hmany
  obtain⟨like,hlike⟩:=Ex0 (AO ⟨37,xk,xn,xm,xt,xp,xq⟩ (AG 37).2 0 0)
  obtain⟨tl,htl⟩:=Ex0 ((AG 37).2)
  have hR1:=HR.out
  have hR1:R=if (True∧True∧like=true) then (if (True∧((2,(AA (rec (kids.getD 0 0) false) 2).1,(AA (rec (kids.getD 0 0) false) 2).2)).2.2=false) then (tl,max ((2,(AA (rec (kids.getD 0 0) false) 2).1,(AA (rec (kids.getD 0 0) false) 2).2)).2.1 ((AA (rec (kids.getD 1 0) false) 2).1),(AA (rec (kids.getD 1 0) false) 2).2) else (tl,((2,(AA (rec (kids.getD 0 0) false) 2).1,(AA (rec (kids.getD 0 0) false) 2).2)).2.1,((2,(AA (rec (kids.getD 0 0) false) 2).1,(AA (rec (kids.getD 0 0) false) 2).2)).2.2)) else (0,0,true):=by
   rw [hR1]
   rw [hlike,htl]
   simp [AG]
  rw [← htl] at hlike
  have hpl0:=HPL.out ⟨slots,vars,false⟩ tl 0 0
  rw [← hlike] at hpl0
  obtain⟨HPL0,HRR,HTL,HOPR⟩:=Hd4 hpl0 hR1 (fun wx=>by have:=DD 37 wx (by omega);rw [← htl] at this;exact this:∀ wx,Calls Tryz.prog 250 #[.int .i8 37] wx fun e w'=>e=.returned (.int .i8 tl)∧wx=w') (fun wx=>by have:=CN 37 wx;rw [show Ce 37=2 by (unfold Ce;rfl)] at this;exact this:∀ wx,Calls Tryz.prog 251 #[.int .i8 37] wx fun e w'=>e=.returned (.int .i8 (2))∧wx=w')
  obtain⟨j0,hj0⟩:∃ j,kids[0]? = some j:=⟨_,List.getElem?_eq_getElem (by rw [HNK.out];omega)⟩
  have hJ0:(kids.map (fun j:Nat=>(j:Int)))[0]? = some (j0:Int):=by rw [List.getElem?_map,hj0];rfl
  obtain⟨HJM0,HG0⟩:=Hd2 (List.mem_of_getElem? hj0) (show kids.getD 0 0=j0 by rw [List.getD_eq_getElem?_getD,hj0];rfl)
  obtain⟨j1,hj1⟩:∃ j,kids[1]? = some j:=⟨_,List.getElem?_eq_getElem (by rw [HNK.out];omega)⟩
  have hJ1:(kids.map (fun j:Nat=>(j:Int)))[1]? = some (j1:Int):=by rw [List.getElem?_map,hj1];rfl
  obtain⟨HJM1,HG1,HJ1⟩:=Hd3 (List.mem_of_getElem? hj1) (show kids.getD 1 0=j1 by rw [List.getD_eq_getElem?_getD,hj1];rfl) hJ1
  clear hj1 hJ1
  have HJ0:=Lh hJ0
  clear hR1 hpl0 hlike htl hj0 hJ0
  have hk2:((2:Nat):Int)=2:=rfl
  go_wp2_with fail
  refine (HTL.out _).mono ?_
  rintro e w2' ⟨rfl,rfl⟩
  go_wp2_with fail
  refine (HPL0.out _ HRK2.out HN2.out).mono ?_
  rintro e w3 ⟨rfl,h3,f3⟩
  have hz3:=f3.size
  have HF3:=Lh (HF2.out.trans f3)
  have x30:=(f3.blk HX2.out (by decide)).cell 0
  obtain⟨HXC,HKO3,H3,HN3⟩:=Hd4 (show ∀ wx,Frm B [158] w3 wx→wx.cell? ⟨w.heap.size,0,none⟩=some (.int .i8 37) from fun wx fx=>(fx.blk (f3.blk HX2.out (by decide)) (by decide)).cell 0) (f3.own HKO.out (by decide)) (h3.same (s':=⟨slots,vars,!like⟩) (by simp [RS.must])) (f3.nodes HN2.out htb)
  obtain⟨kb3,ko3,ke3,kl3,kc3⟩:=(Bt HKO3.out).1 0 _ HJ0.out
  subst ke3
  simp only [Nat.add_zero] at kc3
  have hk5:∀ wx,Frm B [158] w3 wx→wx.cell? ⟨kb3,ko3 + 1,none⟩=some (.int .i64 (j1:Int)):=by
   intro wx fx
   obtain⟨kb5,ko5,ke5,kl5,kc5⟩:=(Bt (fx.own HKO3.out (by decide))).1 1 _ HJ1.out
   simp only [Option.some.injEq,Addr.mk.injEq,and_true] at ke5
   obtain⟨rfl,rfl⟩:=ke5
   exact kc5
  have HK1:=Lh hk5
  clear hk5
  clear h3 f3 x20 x22
  go_wp2_with fail
  refine (HOPR.out _).mono ?_
  rintro e w3' ⟨rfl,rfl⟩
  go_wp2_with fail
  refine (BP B kb tb toff cap ts slots vars (rec j0) H j0 2 (!like) _ (HE.out j0 HJM0.out) (by rw [HL.out];exact H3.out) HN3.out).mono ?_
  rintro e w5 ⟨h4v,rfl,h40,h41,h5,f5,hg4⟩
  rw [HL.out] at h5
  have x50:=HXC.out _ f5
  have kw1:=HK1.out _ f5
  have F5:=Lh f5
  obtain⟨b5,hb5⟩:=Ex0 ((AA (rec j0 (!like)) 2).2)
  obtain⟨H5,HB5,HG4⟩:=Hd3 (h5.same (s':=⟨slots,vars,b5⟩) (by rw [hb5])) hb5 hg4
  clear h5 f5 hb5 hg4
  go_wp2_with fail
  refine (BP B kb tb toff cap ts slots vars (rec j1) H j1 2 b5 _ (HE.out j1 HJM1.out) (by rw [HL.out];exact H5.out) (F5.out.nodes HN3.out htb)).mono ?_
  rintro e w6 ⟨hr,rfl,hr0,hr1,h6,f6,hg6⟩
  rw [HL.out] at h6
  have x60:=HXC.out _ (F5.out.trans f6)
  obtain⟨F6,H6,HG6⟩:=Hd3 (F5.out.trans f6) h6 hg6
  clear h6 f6 hg6
  go_wp2_with fail
  refine (HTL.out _).mono ?_
  rintro e w6' ⟨rfl,rfl⟩
  have fin:∀ hv:Int,hv=max h4v (hr)→Dg B kb (.slice (some ⟨tb,toff,none⟩) len cap) slots vars w R (H + 3) (.returned (.tuple #[.int .i8 tl,.int .i64 hv])) w6:=by
   intro hv hhv
   cases like with
   | false =>
    have hr:R=(0,0,true):=by rw [HRR.out,if_neg (fun h=>by cases h.2.2)]
    have hb5:b5=true:=by rw [HB5.out];simp [AA,HRB.out j0]
    subst hb5
    have hbt:(AA (rec j1 true) 2).2=true:=by simp [AA,HRB.out j1]
    exact ⟨tl,hv,rfl,by omega,by omega,by rw [hr];rw [← hbt];exact H6.out,HF3.out.trans F6.out,fun hb=>by rw [hr] at hb;cases hb⟩
   | true =>
    have hr:=HRR.out
    rw [if_pos ⟨trivial,trivial,rfl⟩,HG0.out,HG1.out] at hr
    have hb5e:b5=(AA (rec j0 false) 2).2:=HB5.out
    cases b5 with
    | true =>
     have hbt:(AA (rec j1 true) 2).2=true:=by simp [AA,HRB.out j1]
     rw [← hb5e] at hr
     simp only [Bool.true_eq_false,and_false,if_false] at hr
     exact ⟨tl,hv,rfl,by omega,by omega,by rw [hr];rw [← hbt];exact H6.out,HF3.out.trans F6.out,fun hb=>by rw [hr] at hb;cases hb⟩
    | false =>
     have g2:h4v=(AA (rec j0 false) 2).1:=HG4.out hb5e.symm
     rw [← hb5e] at hr
     simp only [and_true,if_true] at hr
     refine ⟨tl,hv,rfl,by omega,by omega,by rw [hr];exact H6.out,HF3.out.trans F6.out,fun hb=>?_⟩
     rw [hr] at hb ⊢
     have g6:=HG6.out hb
     refine ⟨rfl,?_⟩
     rw [hhv,g2,g6]
  rcases Int.lt_trichotomy h4v (hr) with hq | hq | hq
  ·go_wp2_with fail
   go_ret2
   exact fin _ (by omega)
  ·go_wp2_with fail
   go_ret2
   exact fin _ (by omega)
  ·go_wp2_with fail
   go_ret2
   exact fin _ (by omega)
end
end Go.Proofs.YtmpcbaflcogmmaaGreatDoor
