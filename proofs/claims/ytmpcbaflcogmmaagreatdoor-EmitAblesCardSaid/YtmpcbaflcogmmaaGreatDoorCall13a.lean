/- CallM13 Call13a -/
import Derived.Test.YtmpcbaflcogmmaaGreatDoorSerial3
import Derived.Test.YtmpcbaflcogmmaaGreatDoorTree9
import Derived.Test.YtmpcbaflcogmmaaGreatDoorWant13
namespace Go.Proofs.YtmpcbaflcogmmaaGreatDoor
open Go.RowKit
set_option linter.all false
set_option maxHeartbeats 16000000
set_option maxRecDepth 100000
def GB (rec:Nat→Bool→ER) (ts:List Au) (which:Int) (x:Au) (kids:List Nat):ER:=
 match Bp (F9 which) x.n with
 | none=>(0,0,true)
 | some s=>if kids.length=s.args.length then (s.tell,(AW rec ts (kids.zip s.args) (if which=1 then 1 else 0) 0 (!(AO x s.tell x.n 0))).1,(AW rec ts (kids.zip s.args) (if which=1 then 1 else 0) 0 (!(AO x s.tell x.n 0))).2) else (0,0,true)
theorem RR (which:Int):(F9 which).length≤13:=by unfold F9;split;decide;split <;> decide
theorem Qt {which:Int} (hw:which=1∨which=2) {s:B8} (h:s∈F9 which):s.args.length≤2:=by
 unfold F9 at h
 rcases hw with rfl | rfl
 ·exact Ie (by simpa using h)
 ·exact Iu (by simpa using h)
section
variable (B kb tb toff cap:Nat) (ts:List Au) (slots:List Int) (vars:List Vr) (hlt:ts.length≤100000) (htb:tb < B) (htxt:∀ y∈ts,y.text.size≤1099511627776)
include hlt htb htxt
theorem Oo (wh:Int) (hw:wh=1∨wh=2) (rec:Nat→Bool→ER) (H:Int) (hH0:0≤H) (hH1:H≤300000) (hrb:∀ j,(rec j true).2.2=true) (i:Nat) (x:Au) (w:World)
  (h:RK w B kb (.slice (some ⟨tb,toff,none⟩) ts.length cap) ⟨slots,vars,false⟩) (hx:ts[i]? = some x) (hn:As w tb toff ts) (he:∀ j∈Am ts i,En B kb tb toff cap ts slots vars (rec j) H j) :
  Calls Tryz.prog 208 #[.pointer (some ⟨kb,0,none⟩),.int .i64 i,.int .i64 wh] w fun e w'=>Dg B kb (.slice (some ⟨tb,toff,none⟩) ts.length cap) slots vars w (GB rec ts wh x (Am ts i)) (H + 3) e w':=by
 have hi:i < ts.length:=(List.getElem?_eq_some_iff.1 hx).1
 obtain⟨hB,hks⟩:=h.size
 have htw:tb < w.heap.size:=by omega
 have hki:=fun wx (hx':As wx tb toff ts) (hl:tb < wx.heap.size)=>CY (some ⟨tb,toff,none⟩) ts cap i wx hlt (.inr ⟨tb,toff,rfl,hl,hx'⟩) hi
 have hli:=fun wx=>PO wh wx
 have hpl:=fun (j:Nat) (y:Au) (s:RS) (kind n m:Int) wx hx' (hy:ts[j]? = some y) hn'=>BT B kb tb toff cap ts s j y kind n m wx hx' hy hn' hlt
 obtain⟨kids,hkids⟩:=Ex0 (Am ts i)
 obtain⟨nk,hnk⟩:∃ nk,kids.length=nk:=⟨_,rfl⟩
 obtain⟨L,hL⟩:=Ex0 (F9 wh)
 obtain⟨ln,hln⟩:∃ ln,L.length=ln:=⟨_,rfl⟩
 have hl13:=RR wh
 have hargs:=fun s (hs:s∈F9 wh)=>Qt hw hs
 obtain⟨R,hR⟩:=Ex0 (GB rec ts wh x (Am ts i))
 rw [← hR]
 unfold GB at hR
 rw [← hkids,← hL,hnk] at hR
 rw [← hkids] at he
 simp only [← hkids,hnk] at hki
 simp only [← hL,hln] at hli hl13 hargs
 obtain⟨c0,c1,c2,c3,c4,c5,c6⟩:=hn.all hx
 obtain⟨k0,k3,kf⟩:=h.cells
 have hwh:∃ h0:Int,h0=if (wh:Int)=1 then 1 else 0:=⟨_,rfl⟩
 obtain⟨h0,hh0⟩:=hwh
 rw [← hh0] at hR
 have hnkb:nk≤100000:=by
  rw [← hnk,hkids]
  by_cases hb:0≤Ap ts i
  ·exact AM hb hlt
  ·unfold Am;rw [if_pos (by omega)];simp
 obtain⟨len,hlen⟩:∃ len,ts.length=len:=⟨_,rfl⟩
 simp only [hlen] at hki hpl
 rw [hlen] at h hi k0 ⊢
 have hlt2:len≤100000:=by omega
 have hiI:(i:Int) < len:=by omega
 have hmu:=fun (s:RS) x wx hx=>BC B kb (.slice (some ⟨tb,toff,none⟩) len cap) s x wx hx
 obtain⟨xo,xk,xn,xm,xt,xp,xq⟩:=x
 simp only at c0 c1 c2 c3 c4 c5 c6 hR
 obtain⟨HRK0,HPL,HMU,HKI,HLI,HE,HN0,HL,HNK,HX,HRB,HTX,HARG,HLN,HH0⟩:=Hd15 h hpl hmu hki hli he hn hlen hnk hx hrb htxt hargs hln hh0
 have hxb:=Blk.new w 120 #[.int .i8 xo,.int .i8 xk,.int .i64 xn,.int .i64 xm,.string xt,.int .i64 xp,.int .i64 xq]
 obtain⟨HF0,HXB⟩:=Hd2 ((Frm.refl B [158] w).alloc (by omega) (.cells #[.int .i8 xo,.int .i8 xk,.int .i64 xn,.int .i64 xm,.string xt,.int .i64 xp,.int .i64 xq] 120)) hxb
 obtain⟨W0,hW0⟩:=Ex0 (w.alloc (.cells #[.int .i8 xo,.int .i8 xk,.int .i64 xn,.int .i64 xm,.string xt,.int .i64 xp,.int .i64 xq] 120))
 have HW0:=Lh hW0
 have zW0:W0.heap.size=w.heap.size + 1:=by rw [hW0];simp
 rw [← hW0] at HXB HF0
 obtain⟨HRKW,HKL⟩:=Hd2 (show RK W0 B kb _ _ by rw [hW0];exact HRK0.out.alloc _) (show ∀ j∈kids,j < ts.length by rw [hkids];exact fun j hj=>(AU hj).2.1)
 clear h hpl hmu hki hli he hn hlen hnk hx hrb htxt hargs hln hh0 hxb hW0 hkids hL
 rcases hw with rfl | rfl
 rotate_left
 have zp0:(0:Int)≤1:=by decide
 have zp1:(0:Int)≤1:=by decide
 have zp2:(0:Int)≤1:=by decide
 have zp3:(0:Int)≤1:=by decide
 have zp4:(0:Int)≤1:=by decide
 have zp5:(0:Int)≤1:=by decide
 have zp6:(0:Int)≤1:=by decide
 have zp7:(0:Int)≤1:=by decide
 have zp8:(0:Int)≤1:=by decide
 have zp9:(0:Int)≤1:=by decide
 have zp10:(0:Int)≤1:=by decide
 have zp11:(0:Int)≤1:=by decide
 have zp12:(0:Int)≤1:=by decide
 rotate_right
 all_goals
  go_in
  go_wp2_with fail
  rw [← HW0.out]
  refine (HLI.out _).mono ?_
  rintro e w1 ⟨b,rfl,hsg,hb1⟩
  have hz1:=hb1.size
  obtain⟨HF1,HRK1,HXB1⟩:=Hd3 (HF0.out.trans (Frm.of_below hb1 (by omega))) (HRKW.out.below hb1) (HXB.out.below hb1 (by omega))
  have HN1:=Lh (HF1.out.nodes HN0.out htb)
  have k01:=HRK1.out.cells.1
  have HSG1:=Lh hsg
  clear hsg hb1
  go_wp2_with fail
  refine (HKI.out _ HN1.out (by omega)).mono ?_
  rintro e w2 ⟨kv,rfl,hown,hb2⟩
  obtain⟨AK,ck,rfl⟩:=AJ hown
  have hz2:=hb2.size
  obtain⟨HF2,HRK2⟩:=Hd2 (HF1.out.trans (Frm.of_below hb2 (by omega))) (HRK1.out.below hb2)
  have hx2:=HXB1.out.below hb2 (by omega)
  have x22:=hx2.cell 2
  obtain⟨k02,k32,kf2⟩:=HRK2.out.cells
  have hset:=HRK2.out.setBad true
  have hsf:=HRK2.out.frm 3 (.bool true)
  obtain⟨HSET,HSF,HOWN,HB2,HX2⟩:=Hd5 hset hsf hown hb2 hx2
  clear hset hsf hown hb2 hx2
  cases hs:Bp L xn with
  | none =>
   have hres:R=(0,0,true):=by rw [hR,hs]
   have hor:xn < 0∨(0≤xn∧(ln:Int)≤xn):=by
    unfold Bp at hs
    split at hs
    ·left;assumption
    ·rw [List.getElem?_eq_none_iff,HLN.out] at hs
     right;omega
   have HRES:=Lh hres
   clear hR hres hs
   rcases hor with hor | ⟨hor0,hor⟩
   ·have d1:decide (xn < 0)=true:=decide_eq_true hor
    go_wp2_with fail
    go_ret2
    exact ⟨0,0,rfl,by omega,by omega,by rw [HRES.out];exact HSET.out,HF2.out.trans HSF.out,fun h=>by rw [HRES.out] at h;cases h⟩
   ·have d1:decide (xn < 0)=false:=decide_eq_false (by omega)
    have d2:decide ((ln:Int)≤xn)=true:=decide_eq_true hor
    go_wp2_with fail
    go_ret2
    exact ⟨0,0,rfl,by omega,by omega,by rw [HRES.out];exact HSET.out,HF2.out.trans HSF.out,fun h=>by rw [HRES.out] at h;cases h⟩
  | some s =>
   obtain⟨hn0,hn1,hns,hmem⟩:=CA hs
   obtain⟨nn,rfl⟩:=Int.eq_ofNat_of_zero_le hn0
   rw [Int.toNat_natCast,HLN.out] at hn1
   rw [Int.toNat_natCast] at hns
   have hal:=HARG.out s hmem
   obtain⟨g,hg0,hg1,hgc,hgb⟩:=HSG1.out.2.2 nn s hns
   have hbl:=HSG1.out.2.1
   rw [hs] at hR
   simp only at hR
   obtain⟨sn,sa,st,sm⟩:=s
   simp only at hR hal hgb
   have sc0:w2.cell? ⟨b,nn * 3,none⟩=some (.string sn):=(HB2.out.cell (p:=⟨b,_,none⟩) hbl).trans (hgc 0 _ rfl)
   have sc1:w2.cell? ⟨b,nn * 3 + 1,none⟩=some (.slice (some ⟨g,0,none⟩) sa.length sa.length):=(HB2.out.cell (p:=⟨b,_,none⟩) hbl).trans (hgc 1 _ rfl)
   have sc2:w2.cell? ⟨b,nn * 3 + 2,none⟩=some (.int .i8 st):=(HB2.out.cell (p:=⟨b,_,none⟩) hbl).trans (hgc 2 _ rfl)
   have HGB:=Lh (hgb.below HB2.out hg1)
   have d1:decide ((nn:Int) < 0)=false:=decide_eq_false (by omega)
   have d2:decide ((ln:Int)≤(nn:Int))=false:=decide_eq_false (by omega)
   have hnI:(nn:Int) < ln:=by omega
   obtain⟨na,hna⟩:∃ na,sa.length=na:=⟨_,rfl⟩
   rw [hna] at hR hal sc1
   have hbw2:b < w2.heap.size:=by omega
   clear hs hns hmem hgc hgb
   by_cases hne:nk=na
   ·subst hne
    rw [if_pos rfl] at hR
    obtain⟨like,hlike⟩:=Ex0 (AO ⟨xo,xk,(nn:Int),xm,xt,xp,xq⟩ st (nn:Int) 0)
    obtain⟨RL,hRL⟩:=Ex0 (AW rec ts (kids.zip sa) h0 0 (!like))
    rw [← hlike,← hRL] at hR
    have e1:((nk:Int) == (nk:Int))=true:=by simp
    obtain⟨HRL,HR,HNA⟩:=Hd3 hRL hR hna
    have hpl0:=fun wx hx' hn'=>HPL.out i ⟨xo,xk,(nn:Int),xm,xt,xp,xq⟩ ⟨slots,vars,false⟩ st (nn:Int) 0 wx hx' HX.out hn'
    rw [← hlike] at hpl0
    have HPL0:=Lh hpl0
    obtain⟨W3,hW3⟩:=Ex0 (w2.alloc (.cells #[.string sn,.slice (some ⟨g,0,none⟩) nk nk,.int .i8 st] 288))
    have zW3:W3.heap.size=w2.heap.size + 1:=by rw [hW3];simp
    have FA:=(Frm.refl B [158] w2).alloc (by omega) (.cells #[.string sn,.slice (some ⟨g,0,none⟩) nk nk,.int .i8 st] 288)
    rw [← hW3] at FA
    obtain⟨HFA,HRK3,HXS,HKW,HGW⟩:=Hd5 (HF2.out.trans FA) (show RK W3 B kb _ _ by rw [hW3];exact HRK2.out.alloc _) (show Blk W3 w2.heap.size 288 #[.string sn,.slice (some ⟨g,0,none⟩) nk nk,.int .i8 st] by rw [hW3];exact Blk.new _ _ _) (FA.own HOWN.out (by decide)) (FA.blk HGB.out (by decide))
    obtain⟨HNW,HW3⟩:=Hd2 (HFA.out.nodes HN0.out htb) hW3
    clear hRL hR hlike hna hpl0 hW3 FA
    have hxw2:w.heap.size < w2.heap.size:=by omega
    have h00:0≤h0:=by rw [HH0.out];decide
    have h01:h0≤1:=by rw [HH0.out];decide
    go_wp2_with fail
    rw [← HW3.out]
    refine (HPL0.out _ HRK3.out HNW.out).mono ?_
    rintro e w3 ⟨rfl,h3,f3⟩
    have hz3:=f3.size
    obtain⟨HFW,HXS3,HKO,HG3⟩:=Hd4 (HFA.out.trans f3) (f3.blk HXS.out (by decide)) (f3.own HKW.out (by decide)) (f3.blk HGW.out (by decide))
    obtain⟨HN3,H3⟩:=Hd2 (HFW.out.nodes HN0.out htb) h3
    have tw3:tb < w3.heap.size:=by omega
    clear h3 f3
    go_wp2_with fail
    go_loopw [12,13,14,15,108,138] (fun hv vv iv _ _ _ wr=>∃ (k:Nat) (high values:Int) (bad:Bool) (hm:Int),k≤nk∧iv=.int .i64 k∧hv=.int .i64 high∧vv=.int .i64 values∧0≤high∧high≤H + values + 1∧0≤values∧values≤k ∧
      RK wr B kb (.slice (some ⟨tb,toff,none⟩) len cap) ⟨slots,vars,bad⟩∧Frm B [158] w3 wr∧Hid (bad=false→hm=high)∧Hid (RL=AW rec ts ((kids.zip sa).drop k) hm values bad))
     (fun _ _ iv _ _ _ _=>nk - (intOf iv).toNat)
    case atStart=>exact ⟨0,h0,0,!like,h0,by omega,rfl,by rw [HH0.out];rfl,rfl,h00,by omega,by omega,by omega,H3.out.same (by simp [RS.must]),Frm.refl _ _ _,fun _=>rfl,by rw [List.drop_zero];exact HRL.out⟩
    case round =>
     obtain⟨k,high,values,bad,hm,hk,rfl,rfl,rfl,hh0',hh1,hv0,hv1,hrk,hfr,HMH,HC⟩:=hrel
     have hh0:=hh0'
     have hzr:=hfr.size
     have xs1:=(hfr.blk HXS3.out (by decide)).cell 1
     have xs2:=(hfr.blk HXS3.out (by decide)).cell 2
     by_cases hlt3:k < nk
     ·obtain⟨j,hj⟩:∃ j,kids[k]? = some j:=⟨_,List.getElem?_eq_getElem (by rw [HNK.out];exact hlt3)⟩
      obtain⟨u,hu⟩:∃ u,sa[k]? = some u:=⟨_,List.getElem?_eq_getElem (by rw [HNA.out];exact hlt3)⟩
      have hjm:j∈kids:=List.mem_of_getElem? hj
      have HJM:=Lh hjm
      have hkI:(k:Int) < nk:=by omega
      have hjl:j < len:=by rw [← HL.out];exact HKL.out j hjm
      have hjI:(j:Int) < len:=by omega
      obtain⟨y,hy⟩:∃ y,ts[j]? = some y:=⟨_,List.getElem?_eq_getElem (by rw [HL.out];exact hjl)⟩
      have hnr:=hfr.nodes HN3.out htb
      obtain⟨d0,d1,d2,d3,d4,d5,d6⟩:=hnr.all hy
      have hKJ:(kids.map (fun j:Nat=>(j:Int)))[k]? = some (j:Int):=by rw [List.getElem?_map,hj];rfl
      obtain⟨kb3,ko3,ke3,kl3,kc3⟩:=(Bt (hfr.own HKO.out (by decide))).1 k _ hKJ
      subst ke3
      have gu:=(hfr.blk HG3.out (by decide)).cell k
      rw [List.getElem?_toArray,List.getElem?_map,hu] at gu
      have gu:wr.cell? ⟨g,k,none⟩=some (.int .i8 u):=gu
      have hgl:=(hfr.blk HG3.out (by decide)).lt
      obtain⟨kr0,kr3,krf⟩:=hrk.cells
      obtain⟨hBr,hkr⟩:=hrk.size
      have hdrop:(kids.zip sa).drop k=(j,u) :: (kids.zip sa).drop (k + 1):=by
       have h1:(kids.zip sa)[k]? = some (j,u):=by rw [List.getElem?_zip_eq_some];exact ⟨hj,hu⟩
       obtain⟨h2,h3⟩:=List.getElem?_eq_some_iff.1 h1
       rw [List.drop_eq_getElem_cons h2,h3]
      have hgj:ts.getD j AF=y:=by rw [List.getD_eq_getElem?_getD,hy];rfl
      have hyt:=HTX.out y (List.mem_of_getElem? hy)
      obtain⟨yo,yk,yn,ym,yt,yp,yq⟩:=y
      simp only at d0 d1 d2 d3 d4 d5 d6 hyt
      obtain⟨WY,hWY⟩:=Ex0 ((wr.alloc (.cells #[.int .i8 yo,.int .i8 yk,.int .i64 yn,.int .i64 ym,.string yt,.int .i64 yp,.int .i64 yq] 120)).drew)
      have zWY:WY.heap.size=wr.heap.size + 1:=by rw [hWY];simp
      have FY:Frm B [158] wr WY:=by rw [hWY];exact ((Frm.refl _ _ _).alloc (by omega) _).drew
      obtain⟨HYB,HRK,HWF⟩:=Hd3 (show Blk WY wr.heap.size 120 #[.int .i8 yo,.int .i8 yk,.int .i64 yn,.int .i64 ym,.string yt,.int .i64 yp,.int .i64 yq] by rw [hWY];exact (Blk.new _ _ _).drew) (show RK WY B kb _ _ by rw [hWY];exact (hrk.alloc _).drew) (hfr.trans FY)
      have xs1W:=(HWF.out.blk HXS3.out (by decide)).cell 1
      have guW:=(HWF.out.blk HG3.out (by decide)).cell k
      rw [List.getElem?_toArray,List.getElem?_map,hu] at guW
      have guW:WY.cell? ⟨g,k,none⟩=some (.int .i8 u):=guW
      have yW0:=HYB.out.cell 0
      have yW2:=HYB.out.cell 2
      have yW4:=HYB.out.cell 4
      have yW6:=HYB.out.cell 6
      obtain⟨kb5,ko5,ke5,kl5,kc5⟩:=(Bt (HWF.out.own HKO.out (by decide))).1 k _ hKJ
      injection ke5 with ke5
      injection ke5 with ke5a ke5b
      subst ke5a ke5b
      obtain⟨HWY,HDR,HGJ,HYX,HYT,HKJ⟩:=Hd6 hWY hdrop hgj hy hyt hKJ
      clear hj hu hjm hy hnr hKJ hrk hdrop hgj hyt hWY FY hfr
      by_cases q1:u = -1
      ·subst q1
       by_cases p1:yo=51
       ·subst p1
        by_cases p2:yq=0
        ·subst p2
         by_cases p3:0≤yn
         ·by_cases p4:yn≤3
          ·have b3:decide (0≤yn)=true:=decide_eq_true p3
           have b4:decide (yn≤3)=true:=decide_eq_true p4
           go_wp2_with fail
           refine A8 (by kernel_rfl) (by kernel_rfl) ?_
           go_wp2_with fail
           refine AX.normal ?_
           rw [← HWY.out]
           go_wp2_with fail
           refine (HMU.out ⟨slots,vars,bad⟩ true _ HRK.out).mono ?_
           rintro e w4 ⟨rfl,h4,f4⟩
           have F4:=Lh (HWF.out.trans f4)
           have yb4:=(f4.blk HYB.out (by decide)).cell 2
           have kc4:=(Bt (F4.out.own HKO.out (by decide))).1 k _ HKJ.out
           obtain⟨kb4,ko4,ke4,kl4,kc4⟩:=kc4
           injection ke4 with ke4
           injection ke4 with ke4a ke4b
           subst ke4a ke4b
           obtain⟨HN4,H4⟩:=Hd2 (F4.out.nodes HN3.out htb) h4
           clear h4 f4
           go_wp2_with fail
           refine A8 (by kernel_rfl) (by kernel_rfl) ?_
           go_wp2_with (first | (go_at_call 166;refine (HPL.out j ⟨51,yk,yn,ym,yt,yp,0⟩ _ 0 yn 0 _ H4.out.drew HYX.out (HN4.out.below (Below.refl _ _).drew htb)).mono ?_;rintro e w6 ⟨rfl,h6,f6⟩;have HF6:=Lh ((F4.out.drew).trans f6);have H6:=Lh h6;clear h6 f6))
           refine AX.normal ?_
           go_wp2_with fail
           go_roundw
           case rel =>
            refine ⟨k + 1,high,values,_,hm,by omega,by go_num,rfl,rfl,hh0,by omega,hv0,by omega,H6.out,HF6.out,?_,?_⟩
            ·intro hb
             refine HMH.out ?_
             revert hb
             cases bad <;> simp [RS.must]
            ·show RL=_
             rw [HC.out,HDR.out,AW]
             simp only [HGJ.out,RS.must]
             rw [if_pos trivial]
             simp [b3,b4]
           case measure=>(simp [intOf];try omega)
          ·have b3:decide (0≤yn)=true:=decide_eq_true p3
           have b4:decide (yn≤3)=false:=decide_eq_false p4
           go_wp2_with fail
           refine A8 (by kernel_rfl) (by kernel_rfl) ?_
           go_wp2_with fail
           refine AX.normal ?_
           rw [← HWY.out]
           go_wp2_with fail
           refine (HMU.out ⟨slots,vars,bad⟩ false _ HRK.out).mono ?_
           rintro e w4 ⟨rfl,h4,f4⟩
           have F4:=Lh (HWF.out.trans f4)
           have yb4:=(f4.blk HYB.out (by decide)).cell 2
           have kc4:=(Bt (F4.out.own HKO.out (by decide))).1 k _ HKJ.out
           obtain⟨kb4,ko4,ke4,kl4,kc4⟩:=kc4
           injection ke4 with ke4
           injection ke4 with ke4a ke4b
           subst ke4a ke4b
           obtain⟨HN4,H4⟩:=Hd2 (F4.out.nodes HN3.out htb) h4
           clear h4 f4
           go_wp2_with fail
           refine A8 (by kernel_rfl) (by kernel_rfl) ?_
           go_wp2_with (first | (go_at_call 166;refine (HPL.out j ⟨51,yk,yn,ym,yt,yp,0⟩ _ 0 yn 0 _ H4.out.drew HYX.out (HN4.out.below (Below.refl _ _).drew htb)).mono ?_;rintro e w6 ⟨rfl,h6,f6⟩;have HF6:=Lh ((F4.out.drew).trans f6);have H6:=Lh h6;clear h6 f6))
           refine AX.normal ?_
           go_wp2_with fail
           go_roundw
           case rel =>
            refine ⟨k + 1,high,values,_,hm,by omega,by go_num,rfl,rfl,hh0,by omega,hv0,by omega,H6.out,HF6.out,?_,?_⟩
            ·intro hb
             refine HMH.out ?_
             revert hb
             cases bad <;> simp [RS.must]
            ·show RL=_
             rw [HC.out,HDR.out,AW]
             simp only [HGJ.out,RS.must]
             rw [if_pos trivial]
             simp [b3,b4]
           case measure=>(simp [intOf];try omega)
         ·have b3:decide (0≤yn)=false:=decide_eq_false p3
          go_wp2_with fail
          refine A8 (by kernel_rfl) (by kernel_rfl) ?_
          go_wp2_with fail
          refine AX.normal ?_
          rw [← HWY.out]
          go_wp2_with fail
          refine (HMU.out ⟨slots,vars,bad⟩ false _ HRK.out).mono ?_
          rintro e w4 ⟨rfl,h4,f4⟩
          have F4:=Lh (HWF.out.trans f4)
          have yb4:=(f4.blk HYB.out (by decide)).cell 2
          have kc4:=(Bt (F4.out.own HKO.out (by decide))).1 k _ HKJ.out
          obtain⟨kb4,ko4,ke4,kl4,kc4⟩:=kc4
          injection ke4 with ke4
          injection ke4 with ke4a ke4b
          subst ke4a ke4b
          obtain⟨HN4,H4⟩:=Hd2 (F4.out.nodes HN3.out htb) h4
          clear h4 f4
          go_wp2_with fail
          refine A8 (by kernel_rfl) (by kernel_rfl) ?_
          go_wp2_with (first | (go_at_call 166;refine (HPL.out j ⟨51,yk,yn,ym,yt,yp,0⟩ _ 0 yn 0 _ H4.out.drew HYX.out (HN4.out.below (Below.refl _ _).drew htb)).mono ?_;rintro e w6 ⟨rfl,h6,f6⟩;have HF6:=Lh ((F4.out.drew).trans f6);have H6:=Lh h6;clear h6 f6))
          refine AX.normal ?_
          go_wp2_with fail
          go_roundw
          case rel =>
           refine ⟨k + 1,high,values,_,hm,by omega,by go_num,rfl,rfl,hh0,by omega,hv0,by omega,H6.out,HF6.out,?_,?_⟩
           ·intro hb
            refine HMH.out ?_
            revert hb
            cases bad <;> simp [RS.must]
           ·show RL=_
            rw [HC.out,HDR.out,AW]
            simp only [HGJ.out,RS.must]
            rw [if_pos trivial]
            simp [b3]
          case measure=>(simp [intOf];try omega)
        ·have b2:(yq == 0)=false:=by simp [p2]
         go_wp2_with fail
         refine A8 (by kernel_rfl) (by kernel_rfl) ?_
         go_wp2_with fail
         refine AX.normal ?_
         rw [← HWY.out]
         go_wp2_with fail
         refine (HMU.out ⟨slots,vars,bad⟩ false _ HRK.out).mono ?_
         rintro e w4 ⟨rfl,h4,f4⟩
         have F4:=Lh (HWF.out.trans f4)
         have yb4:=(f4.blk HYB.out (by decide)).cell 2
         have kc4:=(Bt (F4.out.own HKO.out (by decide))).1 k _ HKJ.out
         obtain⟨kb4,ko4,ke4,kl4,kc4⟩:=kc4
         injection ke4 with ke4
         injection ke4 with ke4a ke4b
         subst ke4a ke4b
         obtain⟨HN4,H4⟩:=Hd2 (F4.out.nodes HN3.out htb) h4
         clear h4 f4
         go_wp2_with fail
         refine A8 (by kernel_rfl) (by kernel_rfl) ?_
         go_wp2_with (first | (go_at_call 166;refine (HPL.out j ⟨51,yk,yn,ym,yt,yp,yq⟩ _ 0 yn 0 _ H4.out.drew HYX.out (HN4.out.below (Below.refl _ _).drew htb)).mono ?_;rintro e w6 ⟨rfl,h6,f6⟩;have HF6:=Lh ((F4.out.drew).trans f6);have H6:=Lh h6;clear h6 f6))
         refine AX.normal ?_
         go_wp2_with fail
         go_roundw
         case rel =>
          refine ⟨k + 1,high,values,_,hm,by omega,by go_num,rfl,rfl,hh0,by omega,hv0,by omega,H6.out,HF6.out,?_,?_⟩
          ·intro hb
           refine HMH.out ?_
           revert hb
           cases bad <;> simp [RS.must]
          ·show RL=_
           rw [HC.out,HDR.out,AW]
           simp only [HGJ.out,RS.must]
           rw [if_pos trivial]
           simp [b2]
         case measure=>(simp [intOf];try omega)
       ·have b1:(yo == 51)=false:=by simp [p1]
        go_wp2_with fail
        refine A8 (by kernel_rfl) (by kernel_rfl) ?_
        go_wp2_with fail
        refine AX.normal ?_
        rw [← HWY.out]
        go_wp2_with fail
        refine (HMU.out ⟨slots,vars,bad⟩ false _ HRK.out).mono ?_
        rintro e w4 ⟨rfl,h4,f4⟩
        have F4:=Lh (HWF.out.trans f4)
        have yb4:=(f4.blk HYB.out (by decide)).cell 2
        have kc4:=(Bt (F4.out.own HKO.out (by decide))).1 k _ HKJ.out
        obtain⟨kb4,ko4,ke4,kl4,kc4⟩:=kc4
        injection ke4 with ke4
        injection ke4 with ke4a ke4b
        subst ke4a ke4b
        obtain⟨HN4,H4⟩:=Hd2 (F4.out.nodes HN3.out htb) h4
        clear h4 f4
        go_wp2_with fail
        refine A8 (by kernel_rfl) (by kernel_rfl) ?_
        go_wp2_with (first | (go_at_call 166;refine (HPL.out j ⟨yo,yk,yn,ym,yt,yp,yq⟩ _ 0 yn 0 _ H4.out.drew HYX.out (HN4.out.below (Below.refl _ _).drew htb)).mono ?_;rintro e w6 ⟨rfl,h6,f6⟩;have HF6:=Lh ((F4.out.drew).trans f6);have H6:=Lh h6;clear h6 f6))
        refine AX.normal ?_
        go_wp2_with fail
        go_roundw
        case rel =>
         refine ⟨k + 1,high,values,_,hm,by omega,by go_num,rfl,rfl,hh0,by omega,hv0,by omega,H6.out,HF6.out,?_,?_⟩
         ·intro hb
          refine HMH.out ?_
          revert hb
          cases bad <;> simp [RS.must]
         ·show RL=_
          rw [HC.out,HDR.out,AW]
          simp only [HGJ.out,RS.must]
          rw [if_pos trivial]
          simp [b1]
        case measure=>(simp [intOf];try omega)
      ·by_cases q2:u = -2
       ·subst q2
        by_cases p1:yo=52
        ·subst p1
         by_cases p2:yq=0
         ·subst p2
          go_wp2_with fail
          refine A8 (by kernel_rfl) (by kernel_rfl) ?_
          go_wp2_with fail
          refine AX.normal ?_
          rw [← HWY.out]
          go_wp2_with fail
          refine (R6 yt _ HYT.out).mono ?_
          rintro e w4' ⟨rfl,rfl⟩
          obtain⟨rt,hrt⟩:=Ex0 (CV yt)
          rw [← hrt]
          have HRT:=Lh hrt
          clear hrt
          go_wp2_with fail
          refine (HMU.out ⟨slots,vars,bad⟩ rt _ HRK.out).mono ?_
          rintro e w4 ⟨rfl,h4,f4⟩
          have F4:=Lh (HWF.out.trans f4)
          have yb4:=(f4.blk HYB.out (by decide)).cell 2
          have kc4:=(Bt (F4.out.own HKO.out (by decide))).1 k _ HKJ.out
          obtain⟨kb4,ko4,ke4,kl4,kc4⟩:=kc4
          injection ke4 with ke4
          injection ke4 with ke4a ke4b
          subst ke4a ke4b
          obtain⟨HN4,H4⟩:=Hd2 (F4.out.nodes HN3.out htb) h4
          clear h4 f4
          go_wp2_with fail
          refine (HPL.out j ⟨52,yk,yn,ym,yt,yp,0⟩ _ 0 0 0 _ H4.out HYX.out HN4.out).mono ?_
          rintro e w6 ⟨rfl,h6,f6⟩
          obtain⟨HF6,H6⟩:=Hd2 (F4.out.trans f6) h6
          clear h6 f6
          go_wp2_with fail
          go_roundw
          case rel =>
           refine ⟨k + 1,high,values,_,hm,by omega,by go_num,rfl,rfl,hh0,by omega,hv0,by omega,H6.out,HF6.out,?_,?_⟩
           ·intro hb
            refine HMH.out ?_
            revert hb
            cases bad <;> simp [RS.must]
           ·show RL=_
            rw [HC.out,HDR.out,AW]
            simp only [HGJ.out,RS.must]
            rw [if_pos trivial]
            simp [HRT.out]
          case measure=>(simp [intOf];try omega)
         ·have b2:(yq == 0)=false:=by simp [p2]
          go_wp2_with fail
          refine A8 (by kernel_rfl) (by kernel_rfl) ?_
          go_wp2_with fail
          refine AX.normal ?_
          rw [← HWY.out]
          go_wp2_with fail
          refine (HMU.out ⟨slots,vars,bad⟩ false _ HRK.out).mono ?_
          rintro e w4 ⟨rfl,h4,f4⟩
          have F4:=Lh (HWF.out.trans f4)
          have yb4:=(f4.blk HYB.out (by decide)).cell 2
          have kc4:=(Bt (F4.out.own HKO.out (by decide))).1 k _ HKJ.out
          obtain⟨kb4,ko4,ke4,kl4,kc4⟩:=kc4
          injection ke4 with ke4
          injection ke4 with ke4a ke4b
          subst ke4a ke4b
          obtain⟨HN4,H4⟩:=Hd2 (F4.out.nodes HN3.out htb) h4
          clear h4 f4
          go_wp2_with fail
          refine (HPL.out j ⟨52,yk,yn,ym,yt,yp,yq⟩ _ 0 0 0 _ H4.out HYX.out HN4.out).mono ?_
          rintro e w6 ⟨rfl,h6,f6⟩
          obtain⟨HF6,H6⟩:=Hd2 (F4.out.trans f6) h6
          clear h6 f6
          go_wp2_with fail
          go_roundw
          case rel =>
           refine ⟨k + 1,high,values,_,hm,by omega,by go_num,rfl,rfl,hh0,by omega,hv0,by omega,H6.out,HF6.out,?_,?_⟩
           ·intro hb
            refine HMH.out ?_
            revert hb
            cases bad <;> simp [RS.must]
           ·show RL=_
            rw [HC.out,HDR.out,AW]
            simp only [HGJ.out,RS.must]
            rw [if_pos trivial]
            simp [b2]
          case measure=>(simp [intOf];try omega)
        ·have b1:(yo == 52)=false:=by simp [p1]
         go_wp2_with fail
         refine A8 (by kernel_rfl) (by kernel_rfl) ?_
         go_wp2_with fail
         refine AX.normal ?_
         rw [← HWY.out]
         go_wp2_with fail
         refine (HMU.out ⟨slots,vars,bad⟩ false _ HRK.out).mono ?_
         rintro e w4 ⟨rfl,h4,f4⟩
         have F4:=Lh (HWF.out.trans f4)
         have yb4:=(f4.blk HYB.out (by decide)).cell 2
         have kc4:=(Bt (F4.out.own HKO.out (by decide))).1 k _ HKJ.out
         obtain⟨kb4,ko4,ke4,kl4,kc4⟩:=kc4
         injection ke4 with ke4
         injection ke4 with ke4a ke4b
         subst ke4a ke4b
         obtain⟨HN4,H4⟩:=Hd2 (F4.out.nodes HN3.out htb) h4
         clear h4 f4
         go_wp2_with fail
         refine (HPL.out j ⟨yo,yk,yn,ym,yt,yp,yq⟩ _ 0 0 0 _ H4.out HYX.out HN4.out).mono ?_
         rintro e w6 ⟨rfl,h6,f6⟩
         obtain⟨HF6,H6⟩:=Hd2 (F4.out.trans f6) h6
         clear h6 f6
         go_wp2_with fail
         go_roundw
         case rel =>
          refine ⟨k + 1,high,values,_,hm,by omega,by go_num,rfl,rfl,hh0,by omega,hv0,by omega,H6.out,HF6.out,?_,?_⟩
          ·intro hb
           refine HMH.out ?_
           revert hb
           cases bad <;> simp [RS.must]
          ·show RL=_
           rw [HC.out,HDR.out,AW]
           simp only [HGJ.out,RS.must]
           rw [if_pos trivial]
           simp [b1]
         case measure=>(simp [intOf];try omega)
       ·have b1:(u == -1)=false:=by simp [q1]
        have b2:(u == -2)=false:=by simp [q2]
        go_wp2_with fail
        refine A8 (by kernel_rfl) (by kernel_rfl) ?_
        go_wp2_with fail
        refine AX.normal ?_
        rw [← HWY.out]
        go_wp2_with fail
        refine A8 (by kernel_rfl) (by kernel_rfl) ?_
        go_wp2_with (first | (go_at_call 164;go_loud (refine (BP B kb tb toff cap ts slots vars (rec j) H j u bad _ (HE.out j HJM.out) (by rw [HL.out];exact HRK.out.drew) (HWF.out.drew.nodes HN3.out htb)).mono ?_;rintro e w6 ⟨hw,rfl,hw0,hw1,h6,f6,hg6⟩;have HF6:=Lh (HWF.out.drew.trans f6);rw [HL.out] at h6;have H6:=Lh h6;have HG6:=Lh hg6;clear h6 f6 hg6;rcases Int.lt_trichotomy high (values + hw) with hlt3 | hlt3 | hlt3)))
        ·go_wp2_with fail
         refine AX.normal ?_
         go_wp2_with fail
         go_roundw
         case rel =>
          refine ⟨k + 1,values + hw,values + 1,_,max hm (values + (AA (rec j bad) u).1),by omega,by go_num,by go_num,by go_num,by omega,by omega,by omega,by omega,H6.out,HF6.out,?_,?_⟩
          ·intro hb
           have e1:=HG6.out hb
           have hbad:bad=false:=by
            cases bad with
            | false=>rfl
            | true =>
             have h1:=HRB.out j
             have hb2:(AA (rec j true) u).2=false:=hb
             simp [AA,h1] at hb2
           have e2:=HMH.out hbad
           rw [← e1,e2]
           omega
          ·show RL=_
           rw [HC.out,HDR.out,AW]
           rw [if_neg q1,if_neg q2]
         case measure=>(simp [intOf];try omega)
        ·go_wp2_with fail
         refine AX.normal ?_
         go_wp2_with fail
         go_roundw
         case rel =>
          refine ⟨k + 1,high,values + 1,_,max hm (values + (AA (rec j bad) u).1),by omega,by go_num,by go_num,by go_num,by omega,by omega,by omega,by omega,H6.out,HF6.out,?_,?_⟩
          ·intro hb
           have e1:=HG6.out hb
           have hbad:bad=false:=by
            cases bad with
            | false=>rfl
            | true =>
             have h1:=HRB.out j
             have hb2:(AA (rec j true) u).2=false:=hb
             simp [AA,h1] at hb2
           have e2:=HMH.out hbad
           rw [← e1,e2]
           omega
          ·show RL=_
           rw [HC.out,HDR.out,AW]
           rw [if_neg q1,if_neg q2]
         case measure=>(simp [intOf];try omega)
        ·go_wp2_with fail
         refine AX.normal ?_
         go_wp2_with fail
         go_roundw
         case rel =>
          refine ⟨k + 1,high,values + 1,_,max hm (values + (AA (rec j bad) u).1),by omega,by go_num,by go_num,by go_num,by omega,by omega,by omega,by omega,H6.out,HF6.out,?_,?_⟩
          ·intro hb
           have e1:=HG6.out hb
           have hbad:bad=false:=by
            cases bad with
            | false=>rfl
            | true =>
             have h1:=HRB.out j
             have hb2:(AA (rec j true) u).2=false:=hb
             simp [AA,h1] at hb2
           have e2:=HMH.out hbad
           rw [← e1,e2]
           omega
          ·show RL=_
           rw [HC.out,HDR.out,AW]
           rw [if_neg q1,if_neg q2]
         case measure=>(simp [intOf];try omega)
     ·have hkn:k=nk:=by omega
      have hfin:RL=(hm,bad):=by
       rw [HC.out,List.drop_of_length_le (by rw [List.length_zip,HNK.out,HNA.out];omega)]
       rfl
      obtain⟨HFIN,HRKF,HFF⟩:=Hd3 hfin hrk (HFW.out.trans hfr)
      clear hfin hrk hfr
      go_wp2_with fail
      go_ret2
      refine ⟨st,high,rfl,hh0,by omega,by rw [HR.out,HFIN.out];exact HRKF.out,HFF.out,fun hb=>?_⟩
      rw [HR.out,HFIN.out] at hb ⊢
      exact ⟨rfl,(HMH.out hb).symm⟩
   ·have hres:R=(0,0,true):=by rw [hR,if_neg hne]
    have e1:((nk:Int) == (na:Int))=false:=by simp;omega
    have hneI:¬ (nk:Int)=na:=by omega
    have HRES:=Lh hres
    clear hR hres
    go_wp2_with fail
    go_ret2
    exact ⟨0,0,rfl,by omega,by omega,by rw [HRES.out];exact HSET.out,HF2.out.trans HSF.out,fun h=>by rw [HRES.out] at h;cases h⟩
end
end Go.Proofs.YtmpcbaflcogmmaaGreatDoor
