/- ExprB13 ExprC13 ExprA13 ExprE13 ExprF13 -/
import Derived.Test.YtmpcbaflcogmmaaGreatDoorCall13a
namespace Go.Proofs.YtmpcbaflcogmmaaGreatDoor
open Go.RowKit
set_option linter.all false
set_option maxHeartbeats 16000000
set_option maxRecDepth 100000
section
variable (B kb tb toff cap:Nat) (ts:List Au) (slots:List Int) (vars:List Vr) (seen:Int→Option Value) (hlt:ts.length≤100000) (htb:tb < B) (htxt:∀ y∈ts,y.text.size≤1099511627776)
include hlt htb htxt
theorem NO (rec:Nat→Bool→ER) (H:Int) (hH0:0≤H) (hH1:H≤300000) (hrb:∀ j,(rec j true).2.2=true) (i:Nat) (x:Au) (w:World)
  (h:RK w B kb (.slice (some ⟨tb,toff,none⟩) ts.length cap) ⟨slots,vars,false⟩) (hx:ts[i]? = some x) (hn:As w tb toff ts) (hbe:0≤Ap ts i) (he:∀ j∈Am ts i,En B kb tb toff cap ts slots vars (rec j) H j) (hvl:vars.length≤100000) (hrel:Kp slots vars seen) (hop:x.op=30∨x.op=31∨x.op=32∨x.op=33) :
  Calls Tryz.prog 204 #[.pointer (some ⟨kb,0,none⟩),.int .i64 i] w fun e w'=>Dg B kb (.slice (some ⟨tb,toff,none⟩) ts.length cap) slots vars w (BW rec ts slots seen i false) (H + 3) e w':=by
 have hi:i < ts.length:=(List.getElem?_eq_some_iff.1 hx).1
 obtain⟨hB,hks⟩:=h.size
 have htw:tb < w.heap.size:=by omega
 have hki:=fun wx (hx':As wx tb toff ts) (hl:tb < wx.heap.size)=>CY (some ⟨tb,toff,none⟩) ts cap i wx hlt (.inr ⟨tb,toff,rfl,hl,hx'⟩) hi
 have hpl:=fun (s:RS) (kind n m:Int) wx hx' hn'=>BT B kb tb toff cap ts s i x kind n m wx hx' hx hn' hlt
 obtain⟨R,hR⟩:=Ex0 (BW rec ts slots seen i false)
 have hxg:ts.getD i AF=x:=by rw [List.getD_eq_getElem?_getD,hx];rfl
 rw [← hR]
 unfold BW at hR
 simp only [hxg] at hR
 rw [if_neg (by decide)] at hR
 obtain⟨kids,hkids⟩:=Ex0 (Am ts i)
 obtain⟨nk,hnk⟩:∃ nk,kids.length=nk:=⟨_,rfl⟩
 have hnkb:nk≤100000:=by rw [← hnk,hkids];exact AM hbe hlt
 rw [← hkids] at he
 simp only [← hkids,hnk] at hki hR
 obtain⟨c0,c1,c2,c3,c4,c5,c6⟩:=hn.all hx
 obtain⟨k0,k3,kf⟩:=h.cells
 have HKL:=Lh (show ∀ j∈kids,j < ts.length by rw [hkids];exact fun j hj=>(AU hj).2.1)
 have hle:=fun wx hx' hn'=>Qx B kb tb toff cap ts slots vars seen hlt htb hvl hrel rec i x wx hx' hx hn' hbe hop
 have hle2:BW rec ts slots seen i false=R:=by rw [hR];unfold BW;simp only [hxg,← hkids,hnk];rw [if_neg (by decide)]
 rw [hle2] at hle
 obtain⟨len,hlen⟩:∃ len,ts.length=len:=⟨_,rfl⟩
 simp only [hlen] at hki hpl
 rw [hlen] at h hi k0 ⊢
 have hlt2:len≤100000:=by omega
 have hiI:(i:Int) < len:=by omega
 have hmu:=fun (s:RS) x wx hx=>BC B kb (.slice (some ⟨tb,toff,none⟩) len cap) s x wx hx
 obtain⟨xo,xk,xn,xm,xt,xp,xq⟩:=x
 simp only at c0 c1 c2 c3 c4 c5 c6 hR hop
 obtain⟨HRK0,HPL,HMU,HKI,HE,HN0,HL,HNK,HX,HRB,HTX,HR⟩:=Hd12 h hpl hmu hki he hn hlen hnk hx hrb htxt hR
 have hxb:=Blk.new w 120 #[.int .i8 xo,.int .i8 xk,.int .i64 xn,.int .i64 xm,.string xt,.int .i64 xp,.int .i64 xq]
 obtain⟨HF0,HXB⟩:=Hd2 ((Frm.refl B [158] w).alloc (by omega) (.cells #[.int .i8 xo,.int .i8 xk,.int .i64 xn,.int .i64 xm,.string xt,.int .i64 xp,.int .i64 xq] 120)) hxb
 obtain⟨W0,hW0⟩:=Ex0 (w.alloc (.cells #[.int .i8 xo,.int .i8 xk,.int .i64 xn,.int .i64 xm,.string xt,.int .i64 xp,.int .i64 xq] 120))
 have HW0:=Lh hW0
 have zW0:W0.heap.size=w.heap.size + 1:=by rw [hW0];simp
 rw [← hW0] at HXB HF0
 obtain⟨HRKW,HNW⟩:=Hd2 (show RK W0 B kb _ _ by rw [hW0];exact HRK0.out.alloc _) (HF0.out.nodes HN0.out htb)
 have kw0:=HRKW.out.cells.1
 clear h hpl hmu hki he hn hlen hnk hx hrb htxt hxb hW0 hkids hR hxg hbe
 have HC:=Lh hle
 clear hle hle2
 have d1:decide (30≤xo)=true:=decide_eq_true (by omega)
 have d2:decide (xo≤33)=true:=decide_eq_true (by omega)
 have s50:(xo == 50)=false:=by simp;omega
 have h50:¬ xo=50:=by omega
 go_in
 go_wp2_with fail
 rw [← HW0.out]
 refine (HKI.out _ HNW.out (by omega)).mono ?_
 rintro e w2 ⟨kv,rfl,hown,hb2⟩
 obtain⟨AK,ck,rfl⟩:=AJ hown
 have hz2:=hb2.size
 obtain⟨HF2,HRK2⟩:=Hd2 (HF0.out.trans (Frm.of_below hb2 (by omega))) (HRKW.out.below hb2)
 have hx2:=HXB.out.below hb2 (by omega)
 have x20:=hx2.cell 0
 have x22:=hx2.cell 2
 obtain⟨k02,k32,kf2⟩:=HRK2.out.cells
 obtain⟨HSET,HSF,HKO,HX2,HN2⟩:=Hd5 (HRK2.out.setBad true) (HRK2.out.frm 3 (.bool true)) hown hx2 (HF2.out.nodes HN0.out htb)
 clear hown hb2 hx2
 go_wp2_with fail
 refine (HC.out _ (by rw [HL.out];exact HRK2.out) HN2.out).mono ?_
 rintro e w3 ⟨k,hh,rfl,h0,h1,hr3,f3,hg⟩
 rw [HL.out] at hr3
 obtain⟨HR3,F3,HG⟩:=Hd3 hr3 (HF2.out.trans f3) hg
 clear hr3 f3 hg
 go_wp2_with fail
 go_ret2
 exact ⟨k,hh,rfl,h0,by omega,HR3.out,F3.out,HG.out⟩
end
theorem JZ (w:World) (l:List B8):Blk (Ct w l) (w.heap.size + l.length) 288 (DC w.heap.size l).toArray:=by
 have hsz:(DB w (l.map B8.argsObj)).heap.size=w.heap.size + l.length:=by rw [DU];simp
 rw [← hsz]
 exact Blk.new _ _ _
section
variable (B kb tb toff cap:Nat) (ts:List Au) (slots:List Int) (vars:List Vr) (seen:Int→Option Value) (hlt:ts.length≤100000) (htb:tb < B) (htxt:∀ y∈ts,y.text.size≤1099511627776)
include hlt htb htxt
theorem Nl (rec:Nat→Bool→ER) (H:Int) (hH0:0≤H) (hH1:H≤300000) (hrb:∀ j,(rec j true).2.2=true) (i:Nat) (x:Au) (w:World)
  (h:RK w B kb (.slice (some ⟨tb,toff,none⟩) ts.length cap) ⟨slots,vars,false⟩) (hx:ts[i]? = some x) (hn:As w tb toff ts) (hbe:0≤Ap ts i) (he:∀ j∈Am ts i,En B kb tb toff cap ts slots vars (rec j) H j) (hop:x.op=49) :
  Calls Tryz.prog 204 #[.pointer (some ⟨kb,0,none⟩),.int .i64 i] w fun e w'=>Dg B kb (.slice (some ⟨tb,toff,none⟩) ts.length cap) slots vars w (BW rec ts slots seen i false) (H + 3) e w':=by
 have hi:i < ts.length:=(List.getElem?_eq_some_iff.1 hx).1
 obtain⟨hB,hks⟩:=h.size
 have htw:tb < w.heap.size:=by omega
 have hki:=fun wx (hx':As wx tb toff ts) (hl:tb < wx.heap.size)=>CY (some ⟨tb,toff,none⟩) ts cap i wx hlt (.inr ⟨tb,toff,rfl,hl,hx'⟩) hi
 have hpl:=fun (s:RS) (kind n m:Int) wx hx' hn'=>BT B kb tb toff cap ts s i x kind n m wx hx' hx hn' hlt
 obtain⟨R,hR⟩:=Ex0 (BW rec ts slots seen i false)
 have hxg:ts.getD i AF=x:=by rw [List.getD_eq_getElem?_getD,hx];rfl
 rw [← hR]
 unfold BW at hR
 simp only [hxg] at hR
 rw [if_neg (by decide)] at hR
 obtain⟨kids,hkids⟩:=Ex0 (Am ts i)
 obtain⟨nk,hnk⟩:∃ nk,kids.length=nk:=⟨_,rfl⟩
 have hnkb:nk≤100000:=by rw [← hnk,hkids];exact AM hbe hlt
 rw [← hkids] at he
 simp only [← hkids,hnk] at hki hR
 obtain⟨c0,c1,c2,c3,c4,c5,c6⟩:=hn.all hx
 obtain⟨k0,k3,kf⟩:=h.cells
 have HKL:=Lh (show ∀ j∈kids,j < ts.length by rw [hkids];exact fun j hj=>(AU hj).2.1)
 rw [if_neg (by omega),if_neg (by omega),if_neg (by omega),if_pos hop] at hR
 obtain⟨len,hlen⟩:∃ len,ts.length=len:=⟨_,rfl⟩
 simp only [hlen] at hki hpl
 rw [hlen] at h hi k0 ⊢
 have hlt2:len≤100000:=by omega
 have hiI:(i:Int) < len:=by omega
 have hmu:=fun (s:RS) x wx hx=>BC B kb (.slice (some ⟨tb,toff,none⟩) len cap) s x wx hx
 obtain⟨xo,xk,xn,xm,xt,xp,xq⟩:=x
 simp only at c0 c1 c2 c3 c4 c5 c6 hR hop
 obtain⟨HRK0,HPL,HMU,HKI,HE,HN0,HL,HNK,HX,HRB,HTX,HR⟩:=Hd12 h hpl hmu hki he hn hlen hnk hx hrb htxt hR
 have hxb:=Blk.new w 120 #[.int .i8 xo,.int .i8 xk,.int .i64 xn,.int .i64 xm,.string xt,.int .i64 xp,.int .i64 xq]
 obtain⟨HF0,HXB⟩:=Hd2 ((Frm.refl B [158] w).alloc (by omega) (.cells #[.int .i8 xo,.int .i8 xk,.int .i64 xn,.int .i64 xm,.string xt,.int .i64 xp,.int .i64 xq] 120)) hxb
 obtain⟨W0,hW0⟩:=Ex0 (w.alloc (.cells #[.int .i8 xo,.int .i8 xk,.int .i64 xn,.int .i64 xm,.string xt,.int .i64 xp,.int .i64 xq] 120))
 have HW0:=Lh hW0
 have zW0:W0.heap.size=w.heap.size + 1:=by rw [hW0];simp
 rw [← hW0] at HXB HF0
 obtain⟨HRKW,HNW⟩:=Hd2 (show RK W0 B kb _ _ by rw [hW0];exact HRK0.out.alloc _) (HF0.out.nodes HN0.out htb)
 have kw0:=HRKW.out.cells.1
 clear h hpl hmu hki he hn hlen hnk hx hrb htxt hxb hW0 hkids hR hxg hbe
 subst hop
 obtain⟨fe,hfe⟩:=Ex0 BU
 have hfl:fe.length=13:=by rw [hfe];rfl
 have hfi:=fun wx=>IG wx
 have hfs:=fun wx=>D7 wx BU
 have hfb:=fun wx=>D8 wx BU
 have hft:=fun wx=>JZ wx BU
 have hfg:∀ s∈BU,s.args.length=1:=fun s hs=>JG hs
 have hR49:=HR.out
 rw [← hfe] at hR49 hfg
 simp only [← hfe,hfl] at hfi hfs hfb hft
 obtain⟨HFI,HFS,HFB,HFT,HFG,HFL⟩:=Hd6 hfi hfs hfb hft hfg hfl
 clear hfi hfs hfb hft hfg hfl hfe HR
 go_in
 go_wp2_with fail
 rw [← HW0.out]
 refine (HKI.out _ HNW.out (by omega)).mono ?_
 rintro e w2 ⟨kv,rfl,hown,hb2⟩
 obtain⟨AK,ck,rfl⟩:=AJ hown
 have hz2:=hb2.size
 obtain⟨HF2,HRK2⟩:=Hd2 (HF0.out.trans (Frm.of_below hb2 (by omega))) (HRKW.out.below hb2)
 have hx2:=HXB.out.below hb2 (by omega)
 have x20:=hx2.cell 0
 have x22:=hx2.cell 2
 obtain⟨k02,k32,kf2⟩:=HRK2.out.cells
 obtain⟨HSET,HSF,HKO,HX2,HN2⟩:=Hd5 (HRK2.out.setBad true) (HRK2.out.frm 3 (.bool true)) hown hx2 (HF2.out.nodes HN0.out htb)
 clear hown hb2 hx2
 go_wp2_with fail
 refine (HFI.out _).mono ?_
 rintro e w3 ⟨rfl,hw3⟩
 have hsg:=HFS.out w2
 have hb3:=HFB.out w2
 have htb3:=HFT.out w2
 rw [← hw3] at hsg hb3 htb3
 have HTB:=Lh htb3
 clear htb3
 have hz3:=hb3.size
 obtain⟨HF3,HRK3⟩:=Hd2 (HF2.out.trans (Frm.of_below hb3 (by omega))) (HRK2.out.below hb3)
 have hx3:=HX2.out.below hb3 (by omega)
 have x30:=hx3.cell 0
 have x32:=hx3.cell 2
 obtain⟨k03,k33,kf3⟩:=HRK3.out.cells
 obtain⟨HSET3,HSF3,HKO3,HX3,HN3⟩:=Hd5 (HRK3.out.setBad true) (HRK3.out.frm 3 (.bool true)) ((Frm.of_below (B:=0) (T:=[]) hb3 (Nat.zero_le _)).own HKO.out (by simp)) hx3 (HF3.out.nodes HN0.out htb)
 clear hb3 hx3 hw3 x20 x22 k02 k32 kf2
 by_cases q1:nk=1
 ·have e1:((nk:Int) == 1)=true:=by simp;omega
  cases hs:Bp fe xn with
  | none =>
   have hres:R=(0,0,true):=by rw [hR49,hs]
   have HRES:=Lh hres
   have hor:xn < 0∨(0≤xn∧(13:Int)≤xn):=by
    unfold Bp at hs
    split at hs
    ·left;assumption
    ·rw [List.getElem?_eq_none_iff,HFL.out] at hs
     right;omega
   clear hs hres hR49 hsg
   subst q1
   rcases hor with hor | ⟨hor0,hor⟩
   ·have d1:decide (xn < 0)=true:=decide_eq_true hor
    go_wp2_with fail
    go_ret2
    exact ⟨0,0,rfl,by omega,by omega,by rw [HRES.out];exact HSET3.out,HF3.out.trans HSF3.out,fun h=>by rw [HRES.out] at h;cases h⟩
   ·have d1:decide (xn < 0)=false:=decide_eq_false (by omega)
    have d2:decide ((13:Int)≤xn)=true:=decide_eq_true hor
    go_wp2_with fail
    go_ret2
    exact ⟨0,0,rfl,by omega,by omega,by rw [HRES.out];exact HSET3.out,HF3.out.trans HSF3.out,fun h=>by rw [HRES.out] at h;cases h⟩
  | some s =>
   obtain⟨hn0,hn1,hns,hmem⟩:=CA hs
   obtain⟨nn,rfl⟩:=Int.eq_ofNat_of_zero_le hn0
   rw [Int.toNat_natCast,HFL.out] at hn1
   rw [Int.toNat_natCast] at hns
   have hal:=HFG.out s hmem
   obtain⟨g,hg0,hg1,hgc,hgb⟩:=hsg.2.2 nn s hns
   rw [hs] at hR49
   obtain⟨sn,sa,st,sm⟩:=s
   simp only at hR49 hal hgb
   have sc1:w3.cell? ⟨w2.heap.size + 13,nn * 3 + 1,none⟩=some (.slice (some ⟨g,0,none⟩) sa.length sa.length):=hgc 1 _ rfl
   have sc2:w3.cell? ⟨w2.heap.size + 13,nn * 3 + 2,none⟩=some (.int .i8 st):=hgc 2 _ rfl
   rw [hal] at sc1
   obtain⟨u,hu⟩:∃ u,sa[0]? = some u:=⟨_,List.getElem?_eq_getElem (by omega)⟩
   have hsu:sa.getD 0 0=u:=by rw [List.getD_eq_getElem?_getD,hu];rfl
   have gu:w3.cell? ⟨g,0,none⟩=some (.int .i8 u):=by
    rw [hgb.cell 0,List.getElem?_toArray,List.getElem?_map,hu];rfl
   obtain⟨j,hj⟩:∃ j,kids[0]? = some j:=⟨_,List.getElem?_eq_getElem (by rw [HNK.out];omega)⟩
   have hkj:kids.getD 0 0=j:=by rw [List.getD_eq_getElem?_getD,hj];rfl
   have hjm:j∈kids:=List.mem_of_getElem? hj
   have hKJ:(kids.map (fun j:Nat=>(j:Int)))[0]? = some (j:Int):=by rw [List.getElem?_map,hj];rfl
   obtain⟨kb3,ko3,ke3,kl3,kc3⟩:=(Bt HKO3.out).1 0 _ hKJ
   subst ke3
   simp only [Nat.add_zero] at kc3
   rw [hsu,hkj] at hR49
   have d1:decide ((nn:Int) < 0)=false:=decide_eq_false (by omega)
   have d2:decide ((13:Int)≤(nn:Int))=false:=decide_eq_false (by omega)
   have hnI:(nn:Int) < 13:=by omega
   obtain⟨like,hlike⟩:=Ex0 (AO ⟨49,xk,(nn:Int),xm,xt,xp,xq⟩ st (nn:Int) 0)
   rw [← hlike] at hR49
   have hpl0:=HPL.out ⟨slots,vars,false⟩ st (nn:Int) 0
   rw [← hlike] at hpl0
   obtain⟨HPL0,HR49,HGB,HJM,HKJ⟩:=Hd5 hpl0 hR49 hgb hjm hKJ
   have tl:w2.heap.size + 13 < w3.heap.size:=hsg.2.1
   subst q1
   clear hs hns hmem hsg hgc hgb hu hsu hj hkj hjm hKJ hlike hpl0 hR49
   go_wp2_with fail
   refine A8 (by kernel_rfl) (by kernel_rfl) ?_
   go_wp2_with fail
   refine (HPL0.out _ HRK3.out.drew (HN3.out.below (Below.refl _ _).drew htb)).mono ?_
   rintro e w4 ⟨rfl,h4,f4⟩
   have F34:Frm B [158] w3 w4:=(Frm.refl _ _ _).drew.trans f4
   obtain⟨HF4,H4⟩:=Hd2 (HF3.out.trans F34) h4
   have x40:=(F34.blk HX3.out (by decide)).cell 0
   have x42:=(F34.blk HX3.out (by decide)).cell 2
   have tb4:=F34.blk HTB.out (by decide)
   obtain⟨HTB4,HG4,HKO4,HX4⟩:=Hd4 tb4 (F34.blk HGB.out (by decide)) (F34.own HKO3.out (by decide)) (F34.blk HX3.out (by decide))
   have st1:w4.cell? ⟨w2.heap.size + 13,nn * 3 + 1,none⟩=some (.slice (some ⟨g,0,none⟩) 1 1):=by rw [tb4.cell,← HTB.out.cell];exact sc1
   have st2:w4.cell? ⟨w2.heap.size + 13,nn * 3 + 2,none⟩=some (.int .i8 st):=by rw [tb4.cell,← HTB.out.cell];exact sc2
   have gu4:w4.cell? ⟨g,0,none⟩=some (.int .i8 u):=by rw [(F34.blk HGB.out (by decide)).cell 0,← HGB.out.cell 0];exact gu
   obtain⟨kb4,ko4,ke4,kl4,kc4⟩:=(Bt (F34.own HKO3.out (by decide))).1 0 _ HKJ.out
   injection ke4 with ke4
   injection ke4 with ke4a ke4b
   subst ke4a ke4b
   simp only [Nat.add_zero] at kc4
   have HN4:=Lh (F34.nodes HN3.out htb)
   have hk5:∀ wx,Frm B [158] w4 wx→wx.cell? ⟨kb3,ko3,none⟩=some (.int .i64 (j:Int)):=by
    intro wx fx
    obtain⟨kb5,ko5,ke5,kl5,kc5⟩:=(Bt (fx.own HKO4.out (by decide))).1 0 _ HKJ.out
    simp only [Option.some.injEq,Addr.mk.injEq,and_true] at ke5
    obtain⟨rfl,rfl⟩:=ke5
    exact kc5
   have HK5:=Lh hk5
   clear tb4 F34 hk5
   go_wp2_with fail
   refine AX.normal ?_
   go_wp2_with fail
   go_region_held3 (fun w'=>w'.cell? ⟨w.heap.size,2,none⟩=some (.int .i64 (nn:Int))∧w'.cell? ⟨w2.heap.size + 13,nn * 3 + 2,none⟩=some (.int .i8 st)∧w'.cell? ⟨w2.heap.size + 13,nn * 3 + 1,none⟩=some (.slice (some ⟨g,0,none⟩) 1 1)∧w'.cell? ⟨kb3,ko3,none⟩=some (.int .i64 (j:Int))∧w'.cell? ⟨g,0,none⟩=some (.int .i8 u)) (first | exact ⟨x42,st2,st1,kc4,gu4⟩ | exact C5 | go_keep) ((first | (go_at_call 164;go_loud (refine (BP B kb tb toff cap ts slots vars (rec j) H j u (!like) _ (HE.out j HJM.out) (by rw [HL.out];exact (H4.out.same (by simp [RS.must])).drew) (HN4.out.below (Below.refl _ _).drew htb)).mono ?_;rintro e w5 ⟨hw,rfl,hw0,hw1,h5,f5,hg5⟩;rw [HL.out] at h5;have f45:Frm B [158] w4 w5:=(Frm.refl _ _ _).drew.trans f5;have kc5:=HK5.out w5 f45;have C5:w5.cell? ⟨w.heap.size,2,none⟩=some (.int .i64 (nn:Int))∧w5.cell? ⟨w2.heap.size + 13,nn * 3 + 2,none⟩=some (.int .i8 st)∧w5.cell? ⟨w2.heap.size + 13,nn * 3 + 1,none⟩=some (.slice (some ⟨g,0,none⟩) 1 1)∧w5.cell? ⟨kb3,ko3,none⟩=some (.int .i64 (j:Int))∧w5.cell? ⟨g,0,none⟩=some (.int .i8 u):=⟨(f45.blk HX4.out (by decide)).cell 2,by rw [(f45.blk HTB4.out (by decide)).cell,← HTB4.out.cell];exact st2,by rw [(f45.blk HTB4.out (by decide)).cell,← HTB4.out.cell];exact st1,kc5,by rw [(f45.blk HG4.out (by decide)).cell 0,← HG4.out.cell 0];exact gu4⟩;clear kc5;have HF5:=Lh (HF4.out.trans f45);have H5:=Lh h5;have HG5:=Lh hg5;clear h5 f5 hg5 f45))))
   all_goals (
    go_wp2_with fail
    go_ret2
    cases like with
    | true =>
     have hr:R=(st,(AA (rec j false) u).1,(AA (rec j false) u).2):=by rw [HR49.out,if_pos ⟨trivial,rfl⟩]
     refine ⟨st,hw,rfl,hw0,by omega,by rw [hr];exact H5.out,HF5.out,fun hb=>?_⟩
     rw [hr] at hb ⊢
     exact ⟨rfl,HG5.out hb⟩
    | false =>
     have hr:R=(0,0,true):=by rw [HR49.out,if_neg (fun h=>by cases h.2)]
     have hbad:(AA (rec j (!false)) u).2=true:=by simp [AA,HRB.out j]
     refine ⟨st,hw,rfl,hw0,by omega,by rw [hr];rw [← hbad];exact H5.out,HF5.out,fun hb=>?_⟩
     rw [hr] at hb
     cases hb)
 ·have e1:((nk:Int) == 1)=false:=by simp;omega
  have hneI:¬ (nk:Int)=1:=by omega
  have hres:R=(0,0,true):=by
   rw [hR49]
   cases Bp fe xn with
   | none=>rfl
   | some s=>simp only;rw [if_neg (fun h=>q1 h.1)]
  have HRES:=Lh hres
  clear hres hR49 hsg
  go_wp2_with fail
  go_ret2
  exact ⟨0,0,rfl,by omega,by omega,by rw [HRES.out];exact HSET3.out,HF3.out.trans HSF3.out,fun h=>by rw [HRES.out] at h;cases h⟩
end
theorem EG (rec:Nat→Bool→ER) (ts:List Au) (a:Int):∀ (l:List (Nat × Int)) (b v:Int) (bad:Bool),AW rec ts l (max a b) v bad=(max a (AW rec ts l b v bad).1,(AW rec ts l b v bad).2)
 | [],b,v,bad=>rfl
 | (kid,arg) :: r,b,v,bad=>by
  simp only [AW]
  split
  ·exact EG rec ts a r b v _
  ·split
   ·exact EG rec ts a r b v _
   ·rw [show max (max a b) (v + (AA (rec kid bad) arg).1)=max a (max b (v + (AA (rec kid bad) arg).1)) by omega]
    exact EG rec ts a r _ _ _
theorem Ed (rec:Nat→Bool→ER) (ts:List Au) (hrb:∀ j,(rec j true).2.2=true):∀ (l:List (Nat × Int)) (b v:Int),(AW rec ts l b v true).2=true
 | [],b,v=>rfl
 | (kid,arg) :: r,b,v=>by
  simp only [AW,Bool.true_or]
  split
  ·exact Ed rec ts hrb r b v
  ·split
   ·exact Ed rec ts hrb r b v
   ·have:(AA (rec kid true) arg).2=true:=by simp [AA,hrb]
    rw [this]
    exact Ed rec ts hrb r _ _
section
variable (B kb tb toff cap:Nat) (ts:List Au) (slots:List Int) (vars:List Vr) (seen:Int→Option Value) (hlt:ts.length≤100000) (htb:tb < B) (htxt:∀ y∈ts,y.text.size≤1099511627776)
include hlt htb htxt
theorem O7 (rec:Nat→Bool→ER) (H:Int) (hH0:0≤H) (hH1:H≤300000) (hrb:∀ j,(rec j true).2.2=true) (i:Nat) (x:Au) (w:World)
  (h:RK w B kb (.slice (some ⟨tb,toff,none⟩) ts.length cap) ⟨slots,vars,false⟩) (hx:ts[i]? = some x) (hn:As w tb toff ts) (hbe:0≤Ap ts i) (he:∀ j∈Am ts i,En B kb tb toff cap ts slots vars (rec j) H j) (hop:x.op=50) :
  Calls Tryz.prog 204 #[.pointer (some ⟨kb,0,none⟩),.int .i64 i] w fun e w'=>Dg B kb (.slice (some ⟨tb,toff,none⟩) ts.length cap) slots vars w (BW rec ts slots seen i false) (H + 3) e w':=by
 have hi:i < ts.length:=(List.getElem?_eq_some_iff.1 hx).1
 obtain⟨hB,hks⟩:=h.size
 have htw:tb < w.heap.size:=by omega
 have hki:=fun wx (hx':As wx tb toff ts) (hl:tb < wx.heap.size)=>CY (some ⟨tb,toff,none⟩) ts cap i wx hlt (.inr ⟨tb,toff,rfl,hl,hx'⟩) hi
 have hpl:=fun (s:RS) (kind n m:Int) wx hx' hn'=>BT B kb tb toff cap ts s i x kind n m wx hx' hx hn' hlt
 obtain⟨R,hR⟩:=Ex0 (BW rec ts slots seen i false)
 have hxg:ts.getD i AF=x:=by rw [List.getD_eq_getElem?_getD,hx];rfl
 rw [← hR]
 unfold BW at hR
 simp only [hxg] at hR
 rw [if_neg (by decide)] at hR
 obtain⟨kids,hkids⟩:=Ex0 (Am ts i)
 obtain⟨nk,hnk⟩:∃ nk,kids.length=nk:=⟨_,rfl⟩
 have hnkb:nk≤100000:=by rw [← hnk,hkids];exact AM hbe hlt
 rw [← hkids] at he
 simp only [← hkids,hnk] at hki hR
 obtain⟨c0,c1,c2,c3,c4,c5,c6⟩:=hn.all hx
 obtain⟨k0,k3,kf⟩:=h.cells
 have HKL:=Lh (show ∀ j∈kids,j < ts.length by rw [hkids];exact fun j hj=>(AU hj).2.1)
 have hca:=fun wx hx' hn'=>Oo B kb tb toff cap ts slots vars hlt htb htxt 1 (.inl rfl) rec H hH0 hH1 hrb i x wx hx' hx hn' (by rw [← hkids];exact he)
 rw [← hkids] at hca
 obtain⟨C,hC⟩:=Ex0 (GB rec ts 1 x kids)
 rw [← hC] at hca
 have hcr:C.2.2=R.2.2∧(R.2.2=false→C.1=R.1∧C.2.1=R.2.1):=by
  have hR2:=hR
  rw [if_neg (by omega),if_neg (by omega),if_neg (by omega),if_neg (by omega),if_pos hop] at hR2
  rw [hC,hR2]
  unfold GB
  rw [show F9 1=Bz from rfl]
  cases hs:Bp Bz x.n with
  | none=>exact ⟨rfl,fun h=>by cases h⟩
  | some s =>
   simp only
   unfold Cu
   simp only [hxg]
   by_cases hl:kids.length=s.args.length
   ·rw [if_pos hl]
    simp only [if_true]
    cases hk:AO x s.tell x.n 0 with
    | true =>
     rw [if_pos ⟨hl,rfl⟩]
     have:=EG rec ts 1 (kids.zip s.args) 0 0 false
     rw [show max (1:Int) 0=1 from rfl] at this
     rw [show (!true)=false from rfl,this]
     exact ⟨rfl,fun _=>⟨trivial,rfl⟩⟩
    | false =>
     rw [if_neg (fun h=>by cases h.2),show (!false)=true from rfl]
     have:=Ed rec ts hrb (kids.zip s.args) 1 0
     exact ⟨this,fun h=>by cases h⟩
   ·rw [if_neg hl,if_neg (fun h=>hl h.1)]
    exact ⟨rfl,fun h=>by cases h⟩
 obtain⟨len,hlen⟩:∃ len,ts.length=len:=⟨_,rfl⟩
 simp only [hlen] at hki hpl
 rw [hlen] at h hi k0 ⊢
 have hlt2:len≤100000:=by omega
 have hiI:(i:Int) < len:=by omega
 have hmu:=fun (s:RS) x wx hx=>BC B kb (.slice (some ⟨tb,toff,none⟩) len cap) s x wx hx
 obtain⟨xo,xk,xn,xm,xt,xp,xq⟩:=x
 simp only at c0 c1 c2 c3 c4 c5 c6 hR hop
 obtain⟨HRK0,HPL,HMU,HKI,HE,HN0,HL,HNK,HX,HRB,HTX,HR⟩:=Hd12 h hpl hmu hki he hn hlen hnk hx hrb htxt hR
 have hxb:=Blk.new w 120 #[.int .i8 xo,.int .i8 xk,.int .i64 xn,.int .i64 xm,.string xt,.int .i64 xp,.int .i64 xq]
 obtain⟨HF0,HXB⟩:=Hd2 ((Frm.refl B [158] w).alloc (by omega) (.cells #[.int .i8 xo,.int .i8 xk,.int .i64 xn,.int .i64 xm,.string xt,.int .i64 xp,.int .i64 xq] 120)) hxb
 obtain⟨W0,hW0⟩:=Ex0 (w.alloc (.cells #[.int .i8 xo,.int .i8 xk,.int .i64 xn,.int .i64 xm,.string xt,.int .i64 xp,.int .i64 xq] 120))
 have HW0:=Lh hW0
 have zW0:W0.heap.size=w.heap.size + 1:=by rw [hW0];simp
 rw [← hW0] at HXB HF0
 obtain⟨HRKW,HNW⟩:=Hd2 (show RK W0 B kb _ _ by rw [hW0];exact HRK0.out.alloc _) (HF0.out.nodes HN0.out htb)
 have kw0:=HRKW.out.cells.1
 clear h hpl hmu hki he hn hlen hnk hx hrb htxt hxb hW0 hkids hR hxg hbe
 obtain⟨HC,HCR⟩:=Hd2 hca hcr
 subst hop
 clear hca hcr hC
 go_in
 go_wp2_with fail
 rw [← HW0.out]
 refine (HKI.out _ HNW.out (by omega)).mono ?_
 rintro e w2 ⟨kv,rfl,hown,hb2⟩
 obtain⟨AK,ck,rfl⟩:=AJ hown
 have hz2:=hb2.size
 obtain⟨HF2,HRK2⟩:=Hd2 (HF0.out.trans (Frm.of_below hb2 (by omega))) (HRKW.out.below hb2)
 have hx2:=HXB.out.below hb2 (by omega)
 have x20:=hx2.cell 0
 have x22:=hx2.cell 2
 obtain⟨k02,k32,kf2⟩:=HRK2.out.cells
 obtain⟨HSET,HSF,HKO,HX2,HN2⟩:=Hd5 (HRK2.out.setBad true) (HRK2.out.frm 3 (.bool true)) hown hx2 (HF2.out.nodes HN0.out htb)
 clear hown hb2 hx2
 go_wp2_with fail
 refine (HC.out _ (by rw [HL.out];exact HRK2.out) HN2.out).mono ?_
 rintro e w3 ⟨k,hh,rfl,h0,h1,hr3,f3,hg⟩
 rw [HL.out] at hr3
 obtain⟨HR3,F3,HG⟩:=Hd3 hr3 (HF2.out.trans f3) hg
 clear hr3 f3 hg
 go_wp2_with fail
 go_ret2
 obtain⟨e1,e2⟩:=HCR.out
 exact ⟨k,hh,rfl,h0,h1,by rw [← e1];exact HR3.out,F3.out,fun hb=>by
  obtain⟨g1,g2⟩:=HG.out (by rw [e1];exact hb)
  obtain⟨g3,g4⟩:=e2 hb
  exact ⟨g1.trans g3,g2.trans g4⟩⟩
end
section
variable (B kb tb toff cap:Nat) (ts:List Au) (slots:List Int) (vars:List Vr) (seen:Int→Option Value) (hlt:ts.length≤100000) (htb:tb < B) (htxt:∀ y∈ts,y.text.size≤1099511627776)
include hlt htb htxt
theorem PC (rec:Nat→Bool→ER) (H:Int) (hH0:0≤H) (hH1:H≤300000) (hrb:∀ j,(rec j true).2.2=true) (i:Nat) (x:Au) (w:World)
  (h:RK w B kb (.slice (some ⟨tb,toff,none⟩) ts.length cap) ⟨slots,vars,false⟩) (hx:ts[i]? = some x) (hn:As w tb toff ts) (hbe:0≤Ap ts i) (he:∀ j∈Am ts i,En B kb tb toff cap ts slots vars (rec j) H j) (hop:x.op=34) (hcnt:(Am ts i).length=1) :
  Calls Tryz.prog 204 #[.pointer (some ⟨kb,0,none⟩),.int .i64 i] w fun e w'=>Dg B kb (.slice (some ⟨tb,toff,none⟩) ts.length cap) slots vars w (BW rec ts slots seen i false) (H + 3) e w':=by
 have hi:i < ts.length:=(List.getElem?_eq_some_iff.1 hx).1
 obtain⟨hB,hks⟩:=h.size
 have htw:tb < w.heap.size:=by omega
 have hki:=fun wx (hx':As wx tb toff ts) (hl:tb < wx.heap.size)=>CY (some ⟨tb,toff,none⟩) ts cap i wx hlt (.inr ⟨tb,toff,rfl,hl,hx'⟩) hi
 have hpl:=fun (s:RS) (kind n m:Int) wx hx' hn'=>BT B kb tb toff cap ts s i x kind n m wx hx' hx hn' hlt
 obtain⟨R,hR⟩:=Ex0 (BW rec ts slots seen i false)
 have hxg:ts.getD i AF=x:=by rw [List.getD_eq_getElem?_getD,hx];rfl
 rw [← hR]
 unfold BW at hR
 simp only [hxg] at hR
 rw [if_neg (by decide)] at hR
 obtain⟨kids,hkids⟩:=Ex0 (Am ts i)
 obtain⟨nk,hnk⟩:∃ nk,kids.length=nk:=⟨_,rfl⟩
 have hnkb:nk≤100000:=by rw [← hnk,hkids];exact AM hbe hlt
 rw [← hkids] at he
 simp only [← hkids,hnk] at hki hR
 obtain⟨c0,c1,c2,c3,c4,c5,c6⟩:=hn.all hx
 obtain⟨k0,k3,kf⟩:=h.cells
 have HKL:=Lh (show ∀ j∈kids,j < ts.length by rw [hkids];exact fun j hj=>(AU hj).2.1)
 rw [if_neg (by omega),if_neg (by omega),if_neg (by omega),if_neg (by omega),if_neg (by omega)] at hR
 unfold Bd at hR
 simp only [hxg,hnk] at hR
 rw [← hkids,hnk] at hcnt
 obtain⟨len,hlen⟩:∃ len,ts.length=len:=⟨_,rfl⟩
 simp only [hlen] at hki hpl
 rw [hlen] at h hi k0 ⊢
 have hlt2:len≤100000:=by omega
 have hiI:(i:Int) < len:=by omega
 have hmu:=fun (s:RS) x wx hx=>BC B kb (.slice (some ⟨tb,toff,none⟩) len cap) s x wx hx
 obtain⟨xo,xk,xn,xm,xt,xp,xq⟩:=x
 simp only at c0 c1 c2 c3 c4 c5 c6 hR hop
 obtain⟨HRK0,HPL,HMU,HKI,HE,HN0,HL,HNK,HX,HRB,HTX,HR⟩:=Hd12 h hpl hmu hki he hn hlen hnk hx hrb htxt hR
 have hxb:=Blk.new w 120 #[.int .i8 xo,.int .i8 xk,.int .i64 xn,.int .i64 xm,.string xt,.int .i64 xp,.int .i64 xq]
 obtain⟨HF0,HXB⟩:=Hd2 ((Frm.refl B [158] w).alloc (by omega) (.cells #[.int .i8 xo,.int .i8 xk,.int .i64 xn,.int .i64 xm,.string xt,.int .i64 xp,.int .i64 xq] 120)) hxb
 obtain⟨W0,hW0⟩:=Ex0 (w.alloc (.cells #[.int .i8 xo,.int .i8 xk,.int .i64 xn,.int .i64 xm,.string xt,.int .i64 xp,.int .i64 xq] 120))
 have HW0:=Lh hW0
 have zW0:W0.heap.size=w.heap.size + 1:=by rw [hW0];simp
 rw [← hW0] at HXB HF0
 obtain⟨HRKW,HNW⟩:=Hd2 (show RK W0 B kb _ _ by rw [hW0];exact HRK0.out.alloc _) (HF0.out.nodes HN0.out htb)
 have kw0:=HRKW.out.cells.1
 clear h hpl hmu hki he hn hlen hnk hx hrb htxt hxb hW0 hkids hR hxg hbe
 subst hop
 ·go_in
  go_wp2_with fail
  rw [← HW0.out]
  refine (HKI.out _ HNW.out (by omega)).mono ?_
  rintro e w2 ⟨kv,rfl,hown,hb2⟩
  obtain⟨AK,ck,rfl⟩:=AJ hown
  have hz2:=hb2.size
  obtain⟨HF2,HRK2⟩:=Hd2 (HF0.out.trans (Frm.of_below hb2 (by omega))) (HRKW.out.below hb2)
  have hx2:=HXB.out.below hb2 (by omega)
  have x20:=hx2.cell 0
  have x22:=hx2.cell 2
  obtain⟨k02,k32,kf2⟩:=HRK2.out.cells
  obtain⟨HSET,HSF,HKO,HX2,HN2⟩:=Hd5 (HRK2.out.setBad true) (HRK2.out.frm 3 (.bool true)) hown hx2 (HF2.out.nodes HN0.out htb)
  clear hown hb2 hx2
  have hmany:nk=1:=hcnt
  subst hmany
  obtain⟨like,hlike⟩:=Ex0 (AO ⟨34,xk,xn,xm,xt,xp,xq⟩ (AG 34).2 0 0)
  obtain⟨tl,htl⟩:=Ex0 ((AG 34).2)
  have hR1:=HR.out
  have hR1:R=if (True∧True∧like=true) then (tl,((2,(AA (rec (kids.getD 0 0) false) 2).1,(AA (rec (kids.getD 0 0) false) 2).2)).2.1,((2,(AA (rec (kids.getD 0 0) false) 2).1,(AA (rec (kids.getD 0 0) false) 2).2)).2.2) else (0,0,true):=by
   rw [hR1]
   rw [hlike,htl]
   simp [AG]
  rw [← htl] at hlike
  have hpl0:=HPL.out ⟨slots,vars,false⟩ tl 0 0
  rw [← hlike] at hpl0
  obtain⟨HPL0,HRR,HTL,HOPR⟩:=Hd4 hpl0 hR1 (fun wx=>by have:=DD 34 wx (by omega);rw [← htl] at this;exact this:∀ wx,Calls Tryz.prog 250 #[.int .i8 34] wx fun e w'=>e=.returned (.int .i8 tl)∧wx=w') (fun wx=>by have:=CN 34 wx;rw [show Ce 34=2 by (unfold Ce;rfl)] at this;exact this:∀ wx,Calls Tryz.prog 251 #[.int .i8 34] wx fun e w'=>e=.returned (.int .i8 (2))∧wx=w')
  obtain⟨j0,hj0⟩:∃ j,kids[0]? = some j:=⟨_,List.getElem?_eq_getElem (by rw [HNK.out];omega)⟩
  have hJ0:(kids.map (fun j:Nat=>(j:Int)))[0]? = some (j0:Int):=by rw [List.getElem?_map,hj0];rfl
  obtain⟨HJM0,HG0,HJ0⟩:=Hd3 (List.mem_of_getElem? hj0) (show kids.getD 0 0=j0 by rw [List.getD_eq_getElem?_getD,hj0];rfl) hJ0
  clear hR1 hpl0 hlike htl hj0 hJ0
  have hk2:((1:Nat):Int)=1:=rfl
  go_wp2_with fail
  refine (HTL.out _).mono ?_
  rintro e w2' ⟨rfl,rfl⟩
  go_wp2_with fail
  refine (HPL0.out _ HRK2.out HN2.out).mono ?_
  rintro e w3 ⟨rfl,h3,f3⟩
  have hz3:=f3.size
  have HF3:=Lh (HF2.out.trans f3)
  have x30:=(f3.blk HX2.out (by decide)).cell 0
  obtain⟨HXC,HKO3,H3,HN3⟩:=Hd4 (show ∀ wx,Frm B [158] w3 wx→wx.cell? ⟨w.heap.size,0,none⟩=some (.int .i8 34) from fun wx fx=>(fx.blk (f3.blk HX2.out (by decide)) (by decide)).cell 0) (f3.own HKO.out (by decide)) (h3.same (s':=⟨slots,vars,!like⟩) (by simp [RS.must])) (f3.nodes HN2.out htb)
  obtain⟨kb3,ko3,ke3,kl3,kc3⟩:=(Bt HKO3.out).1 0 _ HJ0.out
  subst ke3
  simp only [Nat.add_zero] at kc3
  clear h3 f3 x20 x22
  go_wp2_with fail
  refine (HOPR.out _).mono ?_
  rintro e w3' ⟨rfl,rfl⟩
  go_wp2_with fail
  refine (BP B kb tb toff cap ts slots vars (rec j0) H j0 2 (!like) _ (HE.out j0 HJM0.out) (by rw [HL.out];exact H3.out) HN3.out).mono ?_
  rintro e w5 ⟨h4v,rfl,h40,h41,h5,f5,hg4⟩
  rw [HL.out] at h5
  have x50:=HXC.out _ f5
  have F5:=Lh f5
  obtain⟨b5,hb5⟩:=Ex0 ((AA (rec j0 (!like)) 2).2)
  obtain⟨H5,HB5,HG4⟩:=Hd3 (h5.same (s':=⟨slots,vars,b5⟩) (by rw [hb5])) hb5 hg4
  clear h5 f5 hb5 hg4
  go_wp2_with fail
  refine (HTL.out _).mono ?_
  rintro e w5' ⟨rfl,rfl⟩
  go_wp2_with fail
  go_ret2
  cases like with
  | true =>
   have hr:R=(tl,(AA (rec j0 false) 2).1,(AA (rec j0 false) 2).2):=by rw [HRR.out,if_pos ⟨trivial,trivial,rfl⟩,HG0.out]
   refine ⟨tl,h4v,rfl,h40,by omega,by rw [hr];exact H5.out.same (by rw [HB5.out];rfl),HF3.out.trans F5.out,fun hb=>?_⟩
   rw [hr] at hb ⊢
   exact ⟨rfl,HG4.out hb⟩
  | false =>
   have hr:R=(0,0,true):=by rw [HRR.out,if_neg (fun h=>by cases h.2.2)]
   have hbt:b5=true:=by rw [HB5.out];simp [AA,HRB.out j0]
   refine ⟨tl,h4v,rfl,h40,by omega,by rw [hr,← hbt];exact H5.out,HF3.out.trans F5.out,fun hb=>by rw [hr] at hb;cases hb⟩
end
section
variable (B kb tb toff cap:Nat) (ts:List Au) (slots:List Int) (vars:List Vr) (seen:Int→Option Value) (hlt:ts.length≤100000) (htb:tb < B) (htxt:∀ y∈ts,y.text.size≤1099511627776)
include hlt htb htxt
theorem Q5 (rec:Nat→Bool→ER) (H:Int) (hH0:0≤H) (hH1:H≤300000) (hrb:∀ j,(rec j true).2.2=true) (i:Nat) (x:Au) (w:World)
  (h:RK w B kb (.slice (some ⟨tb,toff,none⟩) ts.length cap) ⟨slots,vars,false⟩) (hx:ts[i]? = some x) (hn:As w tb toff ts) (hbe:0≤Ap ts i) (he:∀ j∈Am ts i,En B kb tb toff cap ts slots vars (rec j) H j) (hop:x.op=35) (hcnt:(Am ts i).length=1) :
  Calls Tryz.prog 204 #[.pointer (some ⟨kb,0,none⟩),.int .i64 i] w fun e w'=>Dg B kb (.slice (some ⟨tb,toff,none⟩) ts.length cap) slots vars w (BW rec ts slots seen i false) (H + 3) e w':=by
 have hi:i < ts.length:=(List.getElem?_eq_some_iff.1 hx).1
 obtain⟨hB,hks⟩:=h.size
 have htw:tb < w.heap.size:=by omega
 have hki:=fun wx (hx':As wx tb toff ts) (hl:tb < wx.heap.size)=>CY (some ⟨tb,toff,none⟩) ts cap i wx hlt (.inr ⟨tb,toff,rfl,hl,hx'⟩) hi
 have hpl:=fun (s:RS) (kind n m:Int) wx hx' hn'=>BT B kb tb toff cap ts s i x kind n m wx hx' hx hn' hlt
 obtain⟨R,hR⟩:=Ex0 (BW rec ts slots seen i false)
 have hxg:ts.getD i AF=x:=by rw [List.getD_eq_getElem?_getD,hx];rfl
 rw [← hR]
 unfold BW at hR
 simp only [hxg] at hR
 rw [if_neg (by decide)] at hR
 obtain⟨kids,hkids⟩:=Ex0 (Am ts i)
 obtain⟨nk,hnk⟩:∃ nk,kids.length=nk:=⟨_,rfl⟩
 have hnkb:nk≤100000:=by rw [← hnk,hkids];exact AM hbe hlt
 rw [← hkids] at he
 simp only [← hkids,hnk] at hki hR
 obtain⟨c0,c1,c2,c3,c4,c5,c6⟩:=hn.all hx
 obtain⟨k0,k3,kf⟩:=h.cells
 have HKL:=Lh (show ∀ j∈kids,j < ts.length by rw [hkids];exact fun j hj=>(AU hj).2.1)
 rw [if_neg (by omega),if_neg (by omega),if_neg (by omega),if_neg (by omega),if_neg (by omega)] at hR
 unfold Bd at hR
 simp only [hxg,hnk] at hR
 rw [← hkids,hnk] at hcnt
 obtain⟨len,hlen⟩:∃ len,ts.length=len:=⟨_,rfl⟩
 simp only [hlen] at hki hpl
 rw [hlen] at h hi k0 ⊢
 have hlt2:len≤100000:=by omega
 have hiI:(i:Int) < len:=by omega
 have hmu:=fun (s:RS) x wx hx=>BC B kb (.slice (some ⟨tb,toff,none⟩) len cap) s x wx hx
 obtain⟨xo,xk,xn,xm,xt,xp,xq⟩:=x
 simp only at c0 c1 c2 c3 c4 c5 c6 hR hop
 obtain⟨HRK0,HPL,HMU,HKI,HE,HN0,HL,HNK,HX,HRB,HTX,HR⟩:=Hd12 h hpl hmu hki he hn hlen hnk hx hrb htxt hR
 have hxb:=Blk.new w 120 #[.int .i8 xo,.int .i8 xk,.int .i64 xn,.int .i64 xm,.string xt,.int .i64 xp,.int .i64 xq]
 obtain⟨HF0,HXB⟩:=Hd2 ((Frm.refl B [158] w).alloc (by omega) (.cells #[.int .i8 xo,.int .i8 xk,.int .i64 xn,.int .i64 xm,.string xt,.int .i64 xp,.int .i64 xq] 120)) hxb
 obtain⟨W0,hW0⟩:=Ex0 (w.alloc (.cells #[.int .i8 xo,.int .i8 xk,.int .i64 xn,.int .i64 xm,.string xt,.int .i64 xp,.int .i64 xq] 120))
 have HW0:=Lh hW0
 have zW0:W0.heap.size=w.heap.size + 1:=by rw [hW0];simp
 rw [← hW0] at HXB HF0
 obtain⟨HRKW,HNW⟩:=Hd2 (show RK W0 B kb _ _ by rw [hW0];exact HRK0.out.alloc _) (HF0.out.nodes HN0.out htb)
 have kw0:=HRKW.out.cells.1
 clear h hpl hmu hki he hn hlen hnk hx hrb htxt hxb hW0 hkids hR hxg hbe
 subst hop
 ·go_in
  go_wp2_with fail
  rw [← HW0.out]
  refine (HKI.out _ HNW.out (by omega)).mono ?_
  rintro e w2 ⟨kv,rfl,hown,hb2⟩
  obtain⟨AK,ck,rfl⟩:=AJ hown
  have hz2:=hb2.size
  obtain⟨HF2,HRK2⟩:=Hd2 (HF0.out.trans (Frm.of_below hb2 (by omega))) (HRKW.out.below hb2)
  have hx2:=HXB.out.below hb2 (by omega)
  have x20:=hx2.cell 0
  have x22:=hx2.cell 2
  obtain⟨k02,k32,kf2⟩:=HRK2.out.cells
  obtain⟨HSET,HSF,HKO,HX2,HN2⟩:=Hd5 (HRK2.out.setBad true) (HRK2.out.frm 3 (.bool true)) hown hx2 (HF2.out.nodes HN0.out htb)
  clear hown hb2 hx2
  have hmany:nk=1:=hcnt
  subst hmany
  obtain⟨like,hlike⟩:=Ex0 (AO ⟨35,xk,xn,xm,xt,xp,xq⟩ (AG 35).2 0 0)
  obtain⟨tl,htl⟩:=Ex0 ((AG 35).2)
  have hR1:=HR.out
  have hR1:R=if (True∧True∧like=true) then (tl,((1,(AA (rec (kids.getD 0 0) false) 1).1,(AA (rec (kids.getD 0 0) false) 1).2)).2.1,((1,(AA (rec (kids.getD 0 0) false) 1).1,(AA (rec (kids.getD 0 0) false) 1).2)).2.2) else (0,0,true):=by
   rw [hR1]
   rw [hlike,htl]
   simp [AG]
  rw [← htl] at hlike
  have hpl0:=HPL.out ⟨slots,vars,false⟩ tl 0 0
  rw [← hlike] at hpl0
  obtain⟨HPL0,HRR,HTL,HOPR⟩:=Hd4 hpl0 hR1 (fun wx=>by have:=DD 35 wx (by omega);rw [← htl] at this;exact this:∀ wx,Calls Tryz.prog 250 #[.int .i8 35] wx fun e w'=>e=.returned (.int .i8 tl)∧wx=w') (fun wx=>by have:=CN 35 wx;rw [show Ce 35=1 by (unfold Ce;rfl)] at this;exact this:∀ wx,Calls Tryz.prog 251 #[.int .i8 35] wx fun e w'=>e=.returned (.int .i8 (1))∧wx=w')
  obtain⟨j0,hj0⟩:∃ j,kids[0]? = some j:=⟨_,List.getElem?_eq_getElem (by rw [HNK.out];omega)⟩
  have hJ0:(kids.map (fun j:Nat=>(j:Int)))[0]? = some (j0:Int):=by rw [List.getElem?_map,hj0];rfl
  obtain⟨HJM0,HG0,HJ0⟩:=Hd3 (List.mem_of_getElem? hj0) (show kids.getD 0 0=j0 by rw [List.getD_eq_getElem?_getD,hj0];rfl) hJ0
  clear hR1 hpl0 hlike htl hj0 hJ0
  have hk2:((1:Nat):Int)=1:=rfl
  go_wp2_with fail
  refine (HTL.out _).mono ?_
  rintro e w2' ⟨rfl,rfl⟩
  go_wp2_with fail
  refine (HPL0.out _ HRK2.out HN2.out).mono ?_
  rintro e w3 ⟨rfl,h3,f3⟩
  have hz3:=f3.size
  have HF3:=Lh (HF2.out.trans f3)
  have x30:=(f3.blk HX2.out (by decide)).cell 0
  obtain⟨HXC,HKO3,H3,HN3⟩:=Hd4 (show ∀ wx,Frm B [158] w3 wx→wx.cell? ⟨w.heap.size,0,none⟩=some (.int .i8 35) from fun wx fx=>(fx.blk (f3.blk HX2.out (by decide)) (by decide)).cell 0) (f3.own HKO.out (by decide)) (h3.same (s':=⟨slots,vars,!like⟩) (by simp [RS.must])) (f3.nodes HN2.out htb)
  obtain⟨kb3,ko3,ke3,kl3,kc3⟩:=(Bt HKO3.out).1 0 _ HJ0.out
  subst ke3
  simp only [Nat.add_zero] at kc3
  clear h3 f3 x20 x22
  go_wp2_with fail
  refine (HOPR.out _).mono ?_
  rintro e w3' ⟨rfl,rfl⟩
  go_wp2_with fail
  refine (BP B kb tb toff cap ts slots vars (rec j0) H j0 1 (!like) _ (HE.out j0 HJM0.out) (by rw [HL.out];exact H3.out) HN3.out).mono ?_
  rintro e w5 ⟨h4v,rfl,h40,h41,h5,f5,hg4⟩
  rw [HL.out] at h5
  have x50:=HXC.out _ f5
  have F5:=Lh f5
  obtain⟨b5,hb5⟩:=Ex0 ((AA (rec j0 (!like)) 1).2)
  obtain⟨H5,HB5,HG4⟩:=Hd3 (h5.same (s':=⟨slots,vars,b5⟩) (by rw [hb5])) hb5 hg4
  clear h5 f5 hb5 hg4
  go_wp2_with fail
  refine (HTL.out _).mono ?_
  rintro e w5' ⟨rfl,rfl⟩
  go_wp2_with fail
  go_ret2
  cases like with
  | true =>
   have hr:R=(tl,(AA (rec j0 false) 1).1,(AA (rec j0 false) 1).2):=by rw [HRR.out,if_pos ⟨trivial,trivial,rfl⟩,HG0.out]
   refine ⟨tl,h4v,rfl,h40,by omega,by rw [hr];exact H5.out.same (by rw [HB5.out];rfl),HF3.out.trans F5.out,fun hb=>?_⟩
   rw [hr] at hb ⊢
   exact ⟨rfl,HG4.out hb⟩
  | false =>
   have hr:R=(0,0,true):=by rw [HRR.out,if_neg (fun h=>by cases h.2.2)]
   have hbt:b5=true:=by rw [HB5.out];simp [AA,HRB.out j0]
   refine ⟨tl,h4v,rfl,h40,by omega,by rw [hr,← hbt];exact H5.out,HF3.out.trans F5.out,fun hb=>by rw [hr] at hb;cases hb⟩
end
end Go.Proofs.YtmpcbaflcogmmaaGreatDoor
