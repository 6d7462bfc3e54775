/- Abl13b Abl13g Abl13h Abl13a Abl13c Abl13d Abl13e Abl13f Abl13i -/
import Derived.Deep.RegionWith
import Derived.Test.YtmpcbaflcogmmaaGreatDoorAbl13
namespace Go.Proofs.YtmpcbaflcogmmaaGreatDoor
open Go.RowKit
set_option linter.all false
set_option maxHeartbeats 2000000
set_option maxRecDepth 100000
theorem ZpAbl13i:0≤1∧0≤1∧0≤1∧0≤1∧0≤1∧0≤1∧0≤1∧0≤1∧0≤1∧0≤1∧0≤1:=by decide
theorem I6 (on:Int) (SA:Option Addr) (slots:List Int) (sn sc tb toff tc:Nat) (ts:List Au) (w:World) (h0:0≤on) (h1:on≤4) (h2:sn≤32) (hsn:slots.length=sn) (h3:ts.length≤2000) (htb:tb < w.heap.size) (hn:As w tb toff ts) (hS:AV w SA slots) (htxt:∀ y∈ts,y.text.size≤1099511627776) (hrng:∀ y∈ts,I64 y.n∧I64 y.m) (hpos:0 < ts.length)
  (hb:Ap ts 0=ts.length) (hbad:((sbM ts (ts.length + 1)).2 0 Bn).bad=false) (hlen:((sbM ts (ts.length + 1)).2 0 Bn).slots.length≤100000) :
  Calls Tryz.prog 48 #[.agg #[.int .i64 on,.slice SA sn sc,.bool false,.slice (some ⟨tb,toff,none⟩) ts.length tc]] w fun e w'=>e=.returned (.bool (decide (((sbM ts (ts.length + 1)).2 0 Bn).slots=slots)))∧Below w.heap.size w w':=by
 have hl:ts.length≤100000:=by omega
 have ne0:((ts.length:Int) == 0)=false:=Ao (by omega)
 have hb1:=fun nq=>Br ((Below.refl w.heap.size w).alloc (Nat.le_refl _) (.cells #[.int .i64 on,.slice SA sn sc,.bool false,.slice (some ⟨tb,toff,none⟩) ts.length tc] 25)) nq
 have hAC:=fun nq=>Dc w _ #[.int .i64 on,.slice SA sn sc,.bool false,.slice (some ⟨tb,toff,none⟩) ts.length tc] (hb1 nq) (by simp) (Blk.new w _ _) (cap:=tc) hn htb
 have hN1:=fun nq=>hn.below (hb1 nq) htb
 obtain⟨HAC,HB1,HN1⟩:=Hd3 hAC hb1 hN1
 have A3:(w.alloc (.cells #[.int .i64 on,.slice SA sn sc,.bool false,.slice (some ⟨tb,toff,none⟩) ts.length tc] 25)).cell? ⟨w.heap.size,3,none⟩=some (.slice (some ⟨tb,toff,none⟩) ts.length tc):=(Blk.new w _ _).cell 3
 obtain⟨HS,HT,HRG,HP,HSN⟩:=Hd5 hS htxt hrng hpos hsn
 have hb0:=fun k wx (hx:As wx tb toff ts)=>Dd tb toff tc ts k wx hl hx
 have HB0:=Lh hb0
 have hge:decide (ts=[])=false:=decide_eq_false (fun h=>by rw [h] at hpos;exact absurd hpos (by simp))
 have hbb:(Ap ts 0 != (ts.length:Int))=false:=by rw [hb];simp
 have HB:=Lh hb
 clear hb
 have HBAD:=Lh hbad
 clear hbad
 have HLEN:=Lh hlen
 obtain⟨SL,hSL⟩:∃ SL,((sbM ts (ts.length + 1)).2 0 Bn).slots=SL:=⟨_,rfl⟩
 rw [hSL]
 have HSL:=Lh hSL
 clear hlen hSL
 clear hS htxt hrng hpos hb0 hb1 hAC hN1 hn hsn
 obtain⟨_,_,_,_,_,_,_,_,_,_,_⟩:=ZpAbl13i
 go_in
 go_wp2_with fail
 go_quiet ((go_at_call 109;exact Em (HB0.out 0 _ (HN1.out _))))
 have AC:=Lh (HAC.out nq)
 all_goals go_wp2_with fail
 refine ((G9 AC.out.tbB h3 HT.out HRG.out (ts.length + 1) (0) (by omega) HP.out (by rw [HB.out];omega)).2 Gr (Bn) _ (fun _=>(by decide)) (AC.out).lk (AC.out).nodes).mono ?_
 rintro e w6 ⟨rfl,h6,f6⟩
 rw [if_neg (by rw [show Bn.bad=false from rfl];decide)] at h6
 have AC6:=Lh ((AC.out).step (by simp) h6 f6)
 clear A3 h6 f6
 obtain⟨A0,A1,A2,A3⟩:=AC6.out.cells
 obtain⟨kx0,kx3,_⟩:=AC6.out.lk.cells
 rw [HBAD.out] at kx3
 obtain⟨sl,hrk,hgd⟩:=AC6.out.lk
 obtain⟨hsl,_⟩:=hgd HBAD.out
 have hlen:=HLEN.out
 rw [← hsl] at hlen
 obtain rfl:sl=SL:=hsl.trans HSL.out
 clear hsl
 clear hgd
 obtain⟨sv,vv,_,hb3,hown,_⟩:=hrk
 have hown:w6.ownsRow w.heap.size 118 1 sv sl.length (sl.map (Value.int .i8)):=hown
 obtain⟨Af,cf,rfl⟩:=AJ hown
 have hsm:=GT hown
 obtain⟨ln,hln⟩:∃ ln,sl.length=ln:=⟨_,rfl⟩
 rw [hln] at hlen
 have kx1:w6.cell? ⟨w.heap.size + 1 + 1,1,none⟩=some (.slice Af ln cf):=by rw [← hln];exact hb3.cell 1
 obtain⟨HSM,HLN⟩:=Hd2 hsm hln
 clear hb3 hown hsm hln
 by_cases q:ln=sn
 ·have qb:((ln:Int) != (sn:Int))=false:=by simp [q]
  have Q:=Lh q
  clear q
  go_wp2_with fail
  refine A8 (by kernel_rfl) (by kernel_rfl) ?_
  go_wp2_with fail
  refine AX.normal ?_
  go_wp2_with fail
  go_loopw [2,5] (fun _ iv wr=>∃ k:Nat,k≤ln∧iv=.int .i64 k∧Hid (sl.take k=slots.take k)∧∃ m,wr=w6.drewN m) (fun _ iv _=>ln - (intOf iv).toNat)
  case atStart=>exact ⟨0,by omega,rfl,rfl,1,rfl⟩
  case round =>
   obtain⟨k,hk,rfl,H,n,rfl⟩:=hrel
   by_cases hlt:k < ln
   ·have hlt2:k < sn:=by have:=Q.out;omega
    obtain⟨x,hx⟩:∃ x,sl[k]? = some x:=⟨_,List.getElem?_eq_getElem (by rw [HLN.out];exact hlt)⟩
    obtain⟨y,hy⟩:∃ y,slots[k]? = some y:=⟨_,List.getElem?_eq_getElem (by rw [HSN.out];exact hlt2)⟩
    obtain⟨b1,o1,rfl,c1⟩:=HSM.out k x hx
    obtain⟨b2,o2,rfl,hb2,c2⟩:=HS.out k y hy
    have c2:=(AC6.out.fr.below.cell (p:=⟨b2,o2 + k,none⟩) hb2).trans c2
    obtain⟨HX,HY⟩:=Hd2 hx hy
    clear hx hy
    by_cases hv:y=x
    ·have hvb:(y != x)=false:=by simp [hv]
     have HV:=Lh hv
     clear hv
     go_wp2_with fail
     go_quiet (fail)
     go_wp2
     go_roundw
     case rel =>
      refine ⟨k + 1,by omega,by go_num,?_,_,rfl⟩
      unfold Hid
      rw [List.take_add_one,List.take_add_one,H.out,HX.out,HY.out,HV.out]
     case measure=>(simp [intOf];try omega)
    ·have hvb:(y != x)=true:=by simp [hv]
     have hf:decide (sl=slots)=false:=by
      simp only [decide_eq_false_iff_not]
      rintro rfl
      have:=HX.out.symm.trans HY.out
      exact hv (by injection this with this;exact this.symm)
     have HF:=Lh hf
     clear hf hv
     go_wp2_with fail
     go_quiet (fail)
     go_wp2
     go_ret
     exact ⟨Ck HF.out.symm,Br (Br AC6.out.fr.below _) _⟩
   ·have hf:decide (sl=slots)=true:=by
     have:=H.out
     rw [List.take_of_length_le (by rw [HLN.out];omega),List.take_of_length_le (by rw [HSN.out,← Q.out];omega)] at this
     simp [this]
    have HF:=Lh hf
    have hge:¬ k < sn:=by have:=Q.out;omega
    clear hf
    go_wp2_with fail
    go_ret
    exact ⟨Ck HF.out.symm,Br AC6.out.fr.below _⟩
 ·have qb:((ln:Int) != (sn:Int))=true:=by simp;omega
  have hf:decide (sl=slots)=false:=by
   simp only [decide_eq_false_iff_not]
   rintro rfl
   exact q (by rw [← HLN.out,HSN.out])
  have HF:=Lh hf
  clear hf q
  go_wp2_with fail
  refine A8 (by kernel_rfl) (by kernel_rfl) ?_
  go_wp2_with fail
  refine AX.normal ?_
  go_wp2_with fail
  go_ret
  exact ⟨Ck HF.out.symm,AC6.out.fr.below.drew⟩
theorem Jd (on:Int) (SA:Option Addr) (slots:List Int) (sn sc tb toff tc:Nat) (ts:List Au) (w:World) (h0:0≤on) (h1:on≤4) (h2:sn≤32) (hsn:slots.length=sn) (h3:ts.length≤2000) (htb:tb < w.heap.size) (hn:As w tb toff ts) (hS:AV w SA slots) (htxt:∀ y∈ts,y.text.size≤1099511627776) (hrng:∀ y∈ts,I64 y.n∧I64 y.m) (hpos:0 < ts.length)
  (m:Nat) (hm:Ap ts 0=m) (hml:m < ts.length) (hb:Ap ts m=ts.length) (hv1:(AD ts 0 2 ⟨[3,4],Eb,false⟩).bad=false) (hbad:((sbM ts (ts.length + 1)).2 m (AD ts 0 2 ⟨[3,4],Eb,false⟩)).bad=false) (hlen:((sbM ts (ts.length + 1)).2 m (AD ts 0 2 ⟨[3,4],Eb,false⟩)).slots.length≤100000) :
  Calls Tryz.prog 48 #[.agg #[.int .i64 on,.slice SA sn sc,.bool true,.slice (some ⟨tb,toff,none⟩) ts.length tc]] w fun e w'=>e=.returned (.bool (decide (((sbM ts (ts.length + 1)).2 m (AD ts 0 2 ⟨[3,4],Eb,false⟩)).slots=slots)))∧Below w.heap.size w w':=by
 have hl:ts.length≤100000:=by omega
 have ne0:((ts.length:Int) == 0)=false:=Ao (by omega)
 have hb1:=fun nq=>Br ((Below.refl w.heap.size w).alloc (Nat.le_refl _) (.cells #[.int .i64 on,.slice SA sn sc,.bool true,.slice (some ⟨tb,toff,none⟩) ts.length tc] 25)) nq
 have hAC:=fun nq=>Dc w _ #[.int .i64 on,.slice SA sn sc,.bool true,.slice (some ⟨tb,toff,none⟩) ts.length tc] (hb1 nq) (by simp) (Blk.new w _ _) (cap:=tc) hn htb
 have hN1:=fun nq=>hn.below (hb1 nq) htb
 obtain⟨HAC,HB1,HN1⟩:=Hd3 hAC hb1 hN1
 have A3:(w.alloc (.cells #[.int .i64 on,.slice SA sn sc,.bool true,.slice (some ⟨tb,toff,none⟩) ts.length tc] 25)).cell? ⟨w.heap.size,3,none⟩=some (.slice (some ⟨tb,toff,none⟩) ts.length tc):=(Blk.new w _ _).cell 3
 obtain⟨HS,HT,HRG,HP,HSN⟩:=Hd5 hS htxt hrng hpos hsn
 have hb0:=fun k wx (hx:As wx tb toff ts)=>Dd tb toff tc ts k wx hl hx
 obtain⟨HB0,HNB,HM⟩:=Hd3 hb0 (hn.below ((Below.refl w.heap.size w).alloc (Nat.le_refl _) (.cells #[.int .i64 on,.slice SA sn sc,.bool true,.slice (some ⟨tb,toff,none⟩) ts.length tc] 25)) htb) hm
 clear hm
 have hge:decide (ts.length≤m)=false:=decide_eq_false (by omega)
 have hm0:decide ((m:Int) < 0)=false:=decide_eq_false (by omega)
 have hbb:(Ap ts m != (ts.length:Int))=false:=by rw [hb];simp
 have HB:=Lh hb
 clear hb
 have HV1:=Lh hv1
 clear hv1
 have HBAD:=Lh hbad
 clear hbad
 have HLEN:=Lh hlen
 obtain⟨SL,hSL⟩:∃ SL,((sbM ts (ts.length + 1)).2 m (AD ts 0 2 ⟨[3,4],Eb,false⟩)).slots=SL:=⟨_,rfl⟩
 rw [hSL]
 have HSL:=Lh hSL
 clear hlen hSL
 clear hS htxt hrng hpos hb0 hb1 hAC hN1 hn hsn
 obtain⟨_,_,_,_,_,_,_,_,_,_,_⟩:=ZpAbl13i
 obtain⟨_,_,_,_,_,_,_,_,_,_,_⟩:=ZpAbl13i
 go_in
 go_wp2_with fail
 refine (HB0.out 0 _ HNB.out).mono ?_
 rintro e w5 ⟨rfl,rfl⟩
 rw [HM.out]
 go_wp2_with fail
 go_quiet ((go_at_call 109;exact Em (HB0.out m _ (HN1.out _))))
 have AC:=Lh (HAC.out nq)
 all_goals go_wp2_with fail
 refine (Db w.heap.size (w.heap.size + 1 + 1) tb toff tc ts hl htb HT.out 0 2 [3,4] Gr Eb _ HP.out (by rw [HM.out];omega) (by decide) AC.out.lk AC.out.nodes).mono ?_
 rintro e w5 ⟨rfl,h5,f5⟩
 have AC5:=Lh (AC.out.step (by simp) h5 f5)
 clear A3 h5 f5
 obtain⟨A0,A1,A2,A3⟩:=AC5.out.cells
 obtain⟨ky0,ky3,_⟩:=AC5.out.lk.cells
 have hv1:=HV1.out
 rw [hv1] at ky3
 clear hv1
 go_wp2_with fail
 refine ((G9 AC5.out.tbB h3 HT.out HRG.out (ts.length + 1) (m) (by omega) hml (by rw [HB.out];omega)).2 Gr ((AD ts 0 2 ⟨[3,4],Eb,false⟩)) _ (fun _=>(by show 2≤_;omega)) (AC5.out).lk (AC5.out).nodes).mono ?_
 rintro e w6 ⟨rfl,h6,f6⟩
 rw [if_neg (by rw [HV1.out];decide)] at h6
 have AC6:=Lh ((AC5.out).step (by simp) h6 f6)
 clear A0 A1 A2 A3 h6 f6 ky0 ky3
 obtain⟨A0,A1,A2,A3⟩:=AC6.out.cells
 obtain⟨kx0,kx3,_⟩:=AC6.out.lk.cells
 rw [HBAD.out] at kx3
 obtain⟨sl,hrk,hgd⟩:=AC6.out.lk
 obtain⟨hsl,_⟩:=hgd HBAD.out
 have hlen:=HLEN.out
 rw [← hsl] at hlen
 obtain rfl:sl=SL:=hsl.trans HSL.out
 clear hsl
 clear hgd
 obtain⟨sv,vv,_,hb3,hown,_⟩:=hrk
 have hown:w6.ownsRow w.heap.size 118 1 sv sl.length (sl.map (Value.int .i8)):=hown
 obtain⟨Af,cf,rfl⟩:=AJ hown
 have hsm:=GT hown
 obtain⟨ln,hln⟩:∃ ln,sl.length=ln:=⟨_,rfl⟩
 rw [hln] at hlen
 have kx1:w6.cell? ⟨w.heap.size + 1 + 1,1,none⟩=some (.slice Af ln cf):=by rw [← hln];exact hb3.cell 1
 obtain⟨HSM,HLN⟩:=Hd2 hsm hln
 clear hb3 hown hsm hln
 by_cases q:ln=sn
 ·have qb:((ln:Int) != (sn:Int))=false:=by simp [q]
  have Q:=Lh q
  clear q
  go_wp2_with fail
  refine A8 (by kernel_rfl) (by kernel_rfl) ?_
  go_wp2_with fail
  refine AX.normal ?_
  go_wp2_with fail
  go_loopw [2,5] (fun _ iv wr=>∃ k:Nat,k≤ln∧iv=.int .i64 k∧Hid (sl.take k=slots.take k)∧∃ m,wr=w6.drewN m) (fun _ iv _=>ln - (intOf iv).toNat)
  case atStart=>exact ⟨0,by omega,rfl,rfl,1,rfl⟩
  case round =>
   obtain⟨k,hk,rfl,H,n,rfl⟩:=hrel
   by_cases hlt:k < ln
   ·have hlt2:k < sn:=by have:=Q.out;omega
    obtain⟨x,hx⟩:∃ x,sl[k]? = some x:=⟨_,List.getElem?_eq_getElem (by rw [HLN.out];exact hlt)⟩
    obtain⟨y,hy⟩:∃ y,slots[k]? = some y:=⟨_,List.getElem?_eq_getElem (by rw [HSN.out];exact hlt2)⟩
    obtain⟨b1,o1,rfl,c1⟩:=HSM.out k x hx
    obtain⟨b2,o2,rfl,hb2,c2⟩:=HS.out k y hy
    have c2:=(AC6.out.fr.below.cell (p:=⟨b2,o2 + k,none⟩) hb2).trans c2
    obtain⟨HX,HY⟩:=Hd2 hx hy
    clear hx hy
    by_cases hv:y=x
    ·have hvb:(y != x)=false:=by simp [hv]
     have HV:=Lh hv
     clear hv
     go_wp2_with fail
     go_quiet (fail)
     go_wp2
     go_roundw
     case rel =>
      refine ⟨k + 1,by omega,by go_num,?_,_,rfl⟩
      unfold Hid
      rw [List.take_add_one,List.take_add_one,H.out,HX.out,HY.out,HV.out]
     case measure=>(simp [intOf];try omega)
    ·have hvb:(y != x)=true:=by simp [hv]
     have hf:decide (sl=slots)=false:=by
      simp only [decide_eq_false_iff_not]
      rintro rfl
      have:=HX.out.symm.trans HY.out
      exact hv (by injection this with this;exact this.symm)
     have HF:=Lh hf
     clear hf hv
     go_wp2_with fail
     go_quiet (fail)
     go_wp2
     go_ret
     exact ⟨Ck HF.out.symm,Br (Br AC6.out.fr.below _) _⟩
   ·have hf:decide (sl=slots)=true:=by
     have:=H.out
     rw [List.take_of_length_le (by rw [HLN.out];omega),List.take_of_length_le (by rw [HSN.out,← Q.out];omega)] at this
     simp [this]
    have HF:=Lh hf
    have hge:¬ k < sn:=by have:=Q.out;omega
    clear hf
    go_wp2_with fail
    go_ret
    exact ⟨Ck HF.out.symm,Br AC6.out.fr.below _⟩
 ·have qb:((ln:Int) != (sn:Int))=true:=by simp;omega
  have hf:decide (sl=slots)=false:=by
   simp only [decide_eq_false_iff_not]
   rintro rfl
   exact q (by rw [← HLN.out,HSN.out])
  have HF:=Lh hf
  clear hf q
  go_wp2_with fail
  refine A8 (by kernel_rfl) (by kernel_rfl) ?_
  go_wp2_with fail
  refine AX.normal ?_
  go_wp2_with fail
  go_ret
  exact ⟨Ck HF.out.symm,AC6.out.fr.below.drew⟩
theorem Kl (on:Int) (SA:Option Addr) (slots:List Int) (sn sc tb toff tc:Nat) (ts:List Au) (w:World) (h0:0≤on) (h1:on≤4) (h2:sn≤32) (hsn:slots.length=sn) (h3:ts.length≤2000) (htb:tb < w.heap.size) (hn:As w tb toff ts) (hS:AV w SA slots) (htxt:∀ y∈ts,y.text.size≤1099511627776) (hrng:∀ y∈ts,I64 y.n∧I64 y.m) (hpos:0 < ts.length)
  (m:Nat) (hm:Ap ts 0=m) (hml:m < ts.length) (hb:Ap ts m=ts.length) (hv1:(AD ts 0 2 ⟨[3,4],Eb,false⟩).bad=false) (hbad:((sbM ts (ts.length + 1)).2 m (AD ts 0 2 ⟨[3,4],Eb,false⟩)).bad=true) :
  Calls Tryz.prog 48 #[.agg #[.int .i64 on,.slice SA sn sc,.bool true,.slice (some ⟨tb,toff,none⟩) ts.length tc]] w fun e w'=>e=.returned (.bool false)∧Below w.heap.size w w':=by
 have hl:ts.length≤100000:=by omega
 have ne0:((ts.length:Int) == 0)=false:=Ao (by omega)
 have hb1:=fun nq=>Br ((Below.refl w.heap.size w).alloc (Nat.le_refl _) (.cells #[.int .i64 on,.slice SA sn sc,.bool true,.slice (some ⟨tb,toff,none⟩) ts.length tc] 25)) nq
 have hAC:=fun nq=>Dc w _ #[.int .i64 on,.slice SA sn sc,.bool true,.slice (some ⟨tb,toff,none⟩) ts.length tc] (hb1 nq) (by simp) (Blk.new w _ _) (cap:=tc) hn htb
 have hN1:=fun nq=>hn.below (hb1 nq) htb
 obtain⟨HAC,HB1,HN1⟩:=Hd3 hAC hb1 hN1
 have A3:(w.alloc (.cells #[.int .i64 on,.slice SA sn sc,.bool true,.slice (some ⟨tb,toff,none⟩) ts.length tc] 25)).cell? ⟨w.heap.size,3,none⟩=some (.slice (some ⟨tb,toff,none⟩) ts.length tc):=(Blk.new w _ _).cell 3
 obtain⟨HS,HT,HRG,HP,HSN⟩:=Hd5 hS htxt hrng hpos hsn
 have hb0:=fun k wx (hx:As wx tb toff ts)=>Dd tb toff tc ts k wx hl hx
 obtain⟨HB0,HNB,HM⟩:=Hd3 hb0 (hn.below ((Below.refl w.heap.size w).alloc (Nat.le_refl _) (.cells #[.int .i64 on,.slice SA sn sc,.bool true,.slice (some ⟨tb,toff,none⟩) ts.length tc] 25)) htb) hm
 clear hm
 have hge:decide (ts.length≤m)=false:=decide_eq_false (by omega)
 have hm0:decide ((m:Int) < 0)=false:=decide_eq_false (by omega)
 have hbb:(Ap ts m != (ts.length:Int))=false:=by rw [hb];simp
 have HB:=Lh hb
 clear hb
 have HV1:=Lh hv1
 clear hv1
 have HBAD:=Lh hbad
 clear hbad
 clear hS htxt hrng hpos hb0 hb1 hAC hN1 hn hsn
 obtain⟨_,_,_,_,_,_,_,_,_,_,_⟩:=ZpAbl13i
 obtain⟨_,_,_,_,_,_,_,_,_,_,_⟩:=ZpAbl13i
 obtain⟨_,_,_,_,_,_,_,_,_,_,_⟩:=ZpAbl13i
 go_in
 go_wp2_with fail
 refine (HB0.out 0 _ HNB.out).mono ?_
 rintro e w5 ⟨rfl,rfl⟩
 rw [HM.out]
 go_wp2_with fail
 go_quiet ((go_at_call 109;exact Em (HB0.out m _ (HN1.out _))))
 have AC:=Lh (HAC.out nq)
 all_goals go_wp2_with fail
 refine (Db w.heap.size (w.heap.size + 1 + 1) tb toff tc ts hl htb HT.out 0 2 [3,4] Gr Eb _ HP.out (by rw [HM.out];omega) (by decide) AC.out.lk AC.out.nodes).mono ?_
 rintro e w5 ⟨rfl,h5,f5⟩
 have AC5:=Lh (AC.out.step (by simp) h5 f5)
 clear A3 h5 f5
 obtain⟨A0,A1,A2,A3⟩:=AC5.out.cells
 obtain⟨ky0,ky3,_⟩:=AC5.out.lk.cells
 have hv1:=HV1.out
 rw [hv1] at ky3
 clear hv1
 go_wp2_with fail
 refine ((G9 AC5.out.tbB h3 HT.out HRG.out (ts.length + 1) (m) (by omega) hml (by rw [HB.out];omega)).2 Gr ((AD ts 0 2 ⟨[3,4],Eb,false⟩)) _ (fun _=>(by show 2≤_;omega)) (AC5.out).lk (AC5.out).nodes).mono ?_
 rintro e w6 ⟨rfl,h6,f6⟩
 rw [if_neg (by rw [HV1.out];decide)] at h6
 have AC6:=Lh ((AC5.out).step (by simp) h6 f6)
 clear A0 A1 A2 A3 h6 f6 ky0 ky3
 obtain⟨A0,A1,A2,A3⟩:=AC6.out.cells
 obtain⟨kx0,kx3,_⟩:=AC6.out.lk.cells
 rw [HBAD.out] at kx3
 go_wp2_with fail
 refine A8 (by kernel_rfl) (by kernel_rfl) ?_
 go_wp2_with fail
 refine AX.normal ?_
 go_wp2_with fail
 go_ret
 exact ⟨rfl,AC6.out.fr.below.drew⟩
theorem Kj (on:Int) (SA:Option Addr) (slots:List Int) (sn sc tb toff tc:Nat) (ts:List Au) (w:World) (h0:0≤on) (h1:on≤4) (h2:sn≤32) (hsn:slots.length=sn) (h3:ts.length≤2000) (htb:tb < w.heap.size) (hn:As w tb toff ts) (hS:AV w SA slots) (htxt:∀ y∈ts,y.text.size≤1099511627776) (hrng:∀ y∈ts,I64 y.n∧I64 y.m) (hpos:0 < ts.length)
  (hb:¬ Ap ts 0=ts.length) :
  Calls Tryz.prog 48 #[.agg #[.int .i64 on,.slice SA sn sc,.bool false,.slice (some ⟨tb,toff,none⟩) ts.length tc]] w fun e w'=>e=.returned (.bool false)∧Below w.heap.size w w':=by
 have hl:ts.length≤100000:=by omega
 have ne0:((ts.length:Int) == 0)=false:=Ao (by omega)
 have hb1:=fun nq=>Br ((Below.refl w.heap.size w).alloc (Nat.le_refl _) (.cells #[.int .i64 on,.slice SA sn sc,.bool false,.slice (some ⟨tb,toff,none⟩) ts.length tc] 25)) nq
 have hAC:=fun nq=>Dc w _ #[.int .i64 on,.slice SA sn sc,.bool false,.slice (some ⟨tb,toff,none⟩) ts.length tc] (hb1 nq) (by simp) (Blk.new w _ _) (cap:=tc) hn htb
 have hN1:=fun nq=>hn.below (hb1 nq) htb
 obtain⟨HAC,HB1,HN1⟩:=Hd3 hAC hb1 hN1
 have A3:(w.alloc (.cells #[.int .i64 on,.slice SA sn sc,.bool false,.slice (some ⟨tb,toff,none⟩) ts.length tc] 25)).cell? ⟨w.heap.size,3,none⟩=some (.slice (some ⟨tb,toff,none⟩) ts.length tc):=(Blk.new w _ _).cell 3
 obtain⟨HS,HT,HRG,HP,HSN⟩:=Hd5 hS htxt hrng hpos hsn
 have hb0:=fun k wx (hx:As wx tb toff ts)=>Dd tb toff tc ts k wx hl hx
 have HB0:=Lh hb0
 have hge:decide (ts=[])=false:=decide_eq_false (fun h=>by rw [h] at hpos;exact absurd hpos (by simp))
 have hbb:(Ap ts 0 != (ts.length:Int))=true:=by rw [bne_iff_ne];exact hb
 clear hb
 clear hS htxt hrng hpos hb0 hb1 hAC hN1 hn hsn
 obtain⟨_,_,_,_,_,_,_,_,_,_,_⟩:=ZpAbl13i
 obtain⟨_,_,_,_,_,_,_,_,_,_,_⟩:=ZpAbl13i
 obtain⟨_,_,_,_,_,_,_,_,_,_,_⟩:=ZpAbl13i
 obtain⟨_,_,_,_,_,_,_,_,_,_,_⟩:=ZpAbl13i
 go_in
 go_wp2_with fail
 go_quiet ((go_at_call 109;exact Em (HB0.out 0 _ (HN1.out _))))
 all_goals go_wp2_with fail
 all_goals go_ret
 all_goals exact ⟨rfl,HB1.out _⟩
theorem IP (on:Int) (SA:Option Addr) (slots:List Int) (sn sc tb toff tc:Nat) (ts:List Au) (w:World) (h0:0≤on) (h1:on≤4) (h2:sn≤32) (hsn:slots.length=sn) (h3:ts.length≤2000) (htb:tb < w.heap.size) (hn:As w tb toff ts) (hS:AV w SA slots) (htxt:∀ y∈ts,y.text.size≤1099511627776) (hrng:∀ y∈ts,I64 y.n∧I64 y.m) (hpos:0 < ts.length)
  (hb:Ap ts 0=ts.length) (hbad:((sbM ts (ts.length + 1)).2 0 Bn).bad=true) :
  Calls Tryz.prog 48 #[.agg #[.int .i64 on,.slice SA sn sc,.bool false,.slice (some ⟨tb,toff,none⟩) ts.length tc]] w fun e w'=>e=.returned (.bool false)∧Below w.heap.size w w':=by
 have hl:ts.length≤100000:=by omega
 have ne0:((ts.length:Int) == 0)=false:=Ao (by omega)
 have hb1:=fun nq=>Br ((Below.refl w.heap.size w).alloc (Nat.le_refl _) (.cells #[.int .i64 on,.slice SA sn sc,.bool false,.slice (some ⟨tb,toff,none⟩) ts.length tc] 25)) nq
 have hAC:=fun nq=>Dc w _ #[.int .i64 on,.slice SA sn sc,.bool false,.slice (some ⟨tb,toff,none⟩) ts.length tc] (hb1 nq) (by simp) (Blk.new w _ _) (cap:=tc) hn htb
 have hN1:=fun nq=>hn.below (hb1 nq) htb
 obtain⟨HAC,HB1,HN1⟩:=Hd3 hAC hb1 hN1
 have A3:(w.alloc (.cells #[.int .i64 on,.slice SA sn sc,.bool false,.slice (some ⟨tb,toff,none⟩) ts.length tc] 25)).cell? ⟨w.heap.size,3,none⟩=some (.slice (some ⟨tb,toff,none⟩) ts.length tc):=(Blk.new w _ _).cell 3
 obtain⟨HS,HT,HRG,HP,HSN⟩:=Hd5 hS htxt hrng hpos hsn
 have hb0:=fun k wx (hx:As wx tb toff ts)=>Dd tb toff tc ts k wx hl hx
 have HB0:=Lh hb0
 have hge:decide (ts=[])=false:=decide_eq_false (fun h=>by rw [h] at hpos;exact absurd hpos (by simp))
 have hbb:(Ap ts 0 != (ts.length:Int))=false:=by rw [hb];simp
 have HB:=Lh hb
 clear hb
 have HBAD:=Lh hbad
 clear hbad
 clear hS htxt hrng hpos hb0 hb1 hAC hN1 hn hsn
 obtain⟨_,_,_,_,_,_,_,_,_,_,_⟩:=ZpAbl13i
 obtain⟨_,_,_,_,_,_,_,_,_,_,_⟩:=ZpAbl13i
 obtain⟨_,_,_,_,_,_,_,_,_,_,_⟩:=ZpAbl13i
 obtain⟨_,_,_,_,_,_,_,_,_,_,_⟩:=ZpAbl13i
 obtain⟨_,_,_,_,_,_,_,_,_,_,_⟩:=ZpAbl13i
 go_in
 go_wp2_with fail
 go_quiet ((go_at_call 109;exact Em (HB0.out 0 _ (HN1.out _))))
 have AC:=Lh (HAC.out nq)
 all_goals go_wp2_with fail
 refine ((G9 AC.out.tbB h3 HT.out HRG.out (ts.length + 1) (0) (by omega) HP.out (by rw [HB.out];omega)).2 Gr (Bn) _ (fun _=>(by decide)) (AC.out).lk (AC.out).nodes).mono ?_
 rintro e w6 ⟨rfl,h6,f6⟩
 rw [if_neg (by rw [show Bn.bad=false from rfl];decide)] at h6
 have AC6:=Lh ((AC.out).step (by simp) h6 f6)
 clear A3 h6 f6
 obtain⟨A0,A1,A2,A3⟩:=AC6.out.cells
 obtain⟨kx0,kx3,_⟩:=AC6.out.lk.cells
 rw [HBAD.out] at kx3
 go_wp2_with fail
 refine A8 (by kernel_rfl) (by kernel_rfl) ?_
 go_wp2_with fail
 refine AX.normal ?_
 go_wp2_with fail
 go_ret
 exact ⟨rfl,AC6.out.fr.below.drew⟩
theorem Kc (on:Int) (SA:Option Addr) (slots:List Int) (sn sc tb toff tc:Nat) (ts:List Au) (w:World) (h0:0≤on) (h1:on≤4) (h2:sn≤32) (hsn:slots.length=sn) (h3:ts.length≤2000) (htb:tb < w.heap.size) (hn:As w tb toff ts) (hS:AV w SA slots) (htxt:∀ y∈ts,y.text.size≤1099511627776) (hrng:∀ y∈ts,I64 y.n∧I64 y.m) (hpos:0 < ts.length)
  (hb:Ap ts 0 < 0) :
  Calls Tryz.prog 48 #[.agg #[.int .i64 on,.slice SA sn sc,.bool true,.slice (some ⟨tb,toff,none⟩) ts.length tc]] w fun e w'=>e=.returned (.bool false)∧Below w.heap.size w w':=by
 have hl:ts.length≤100000:=by omega
 have ne0:((ts.length:Int) == 0)=false:=Ao (by omega)
 have hb1:=fun nq=>Br ((Below.refl w.heap.size w).alloc (Nat.le_refl _) (.cells #[.int .i64 on,.slice SA sn sc,.bool true,.slice (some ⟨tb,toff,none⟩) ts.length tc] 25)) nq
 have hAC:=fun nq=>Dc w _ #[.int .i64 on,.slice SA sn sc,.bool true,.slice (some ⟨tb,toff,none⟩) ts.length tc] (hb1 nq) (by simp) (Blk.new w _ _) (cap:=tc) hn htb
 have hN1:=fun nq=>hn.below (hb1 nq) htb
 obtain⟨HAC,HB1,HN1⟩:=Hd3 hAC hb1 hN1
 have A3:(w.alloc (.cells #[.int .i64 on,.slice SA sn sc,.bool true,.slice (some ⟨tb,toff,none⟩) ts.length tc] 25)).cell? ⟨w.heap.size,3,none⟩=some (.slice (some ⟨tb,toff,none⟩) ts.length tc):=(Blk.new w _ _).cell 3
 obtain⟨HS,HT,HRG,HP,HSN⟩:=Hd5 hS htxt hrng hpos hsn
 have hb0:=fun k wx (hx:As wx tb toff ts)=>Dd tb toff tc ts k wx hl hx
 obtain⟨HB0,HB,HM1,HNB⟩:=Hd4 hb0 hb (IE hb) (hn.below ((Below.refl w.heap.size w).alloc (Nat.le_refl _) (.cells #[.int .i64 on,.slice SA sn sc,.bool true,.slice (some ⟨tb,toff,none⟩) ts.length tc] 25)) htb)
 clear hb
 clear hS htxt hrng hpos hb0 hb1 hAC hN1 hn hsn
 obtain⟨_,_,_,_,_,_,_,_,_,_,_⟩:=ZpAbl13i
 obtain⟨_,_,_,_,_,_,_,_,_,_,_⟩:=ZpAbl13i
 obtain⟨_,_,_,_,_,_,_,_,_,_,_⟩:=ZpAbl13i
 obtain⟨_,_,_,_,_,_,_,_,_,_,_⟩:=ZpAbl13i
 obtain⟨_,_,_,_,_,_,_,_,_,_,_⟩:=ZpAbl13i
 obtain⟨_,_,_,_,_,_,_,_,_,_,_⟩:=ZpAbl13i
 go_in
 go_wp2_with fail
 refine (HB0.out 0 _ HNB.out).mono ?_
 rintro e w5 ⟨rfl,rfl⟩
 rw [HM1.out]
 go_wp2_with fail
 go_quiet (fail)
 all_goals go_wp2_with fail
 all_goals go_ret
 all_goals exact ⟨rfl,Br ((Below.refl _ _).alloc (Nat.le_refl _) _) _⟩
theorem JV (on:Int) (SA:Option Addr) (slots:List Int) (sn sc tb toff tc:Nat) (ts:List Au) (w:World) (h0:0≤on) (h1:on≤4) (h2:sn≤32) (hsn:slots.length=sn) (h3:ts.length≤2000) (htb:tb < w.heap.size) (hn:As w tb toff ts) (hS:AV w SA slots) (htxt:∀ y∈ts,y.text.size≤1099511627776) (hrng:∀ y∈ts,I64 y.n∧I64 y.m) (hpos:0 < ts.length)
  (m:Nat) (hm:Ap ts 0=m) (hb:ts.length≤m) :
  Calls Tryz.prog 48 #[.agg #[.int .i64 on,.slice SA sn sc,.bool true,.slice (some ⟨tb,toff,none⟩) ts.length tc]] w fun e w'=>e=.returned (.bool false)∧Below w.heap.size w w':=by
 have hl:ts.length≤100000:=by omega
 have ne0:((ts.length:Int) == 0)=false:=Ao (by omega)
 have hb1:=fun nq=>Br ((Below.refl w.heap.size w).alloc (Nat.le_refl _) (.cells #[.int .i64 on,.slice SA sn sc,.bool true,.slice (some ⟨tb,toff,none⟩) ts.length tc] 25)) nq
 have hAC:=fun nq=>Dc w _ #[.int .i64 on,.slice SA sn sc,.bool true,.slice (some ⟨tb,toff,none⟩) ts.length tc] (hb1 nq) (by simp) (Blk.new w _ _) (cap:=tc) hn htb
 have hN1:=fun nq=>hn.below (hb1 nq) htb
 obtain⟨HAC,HB1,HN1⟩:=Hd3 hAC hb1 hN1
 have A3:(w.alloc (.cells #[.int .i64 on,.slice SA sn sc,.bool true,.slice (some ⟨tb,toff,none⟩) ts.length tc] 25)).cell? ⟨w.heap.size,3,none⟩=some (.slice (some ⟨tb,toff,none⟩) ts.length tc):=(Blk.new w _ _).cell 3
 obtain⟨HS,HT,HRG,HP,HSN⟩:=Hd5 hS htxt hrng hpos hsn
 have hb0:=fun k wx (hx:As wx tb toff ts)=>Dd tb toff tc ts k wx hl hx
 obtain⟨HB0,HNB,HM⟩:=Hd3 hb0 (hn.below ((Below.refl w.heap.size w).alloc (Nat.le_refl _) (.cells #[.int .i64 on,.slice SA sn sc,.bool true,.slice (some ⟨tb,toff,none⟩) ts.length tc] 25)) htb) hm
 clear hm
 have hm0:decide ((m:Int) < 0)=false:=decide_eq_false (by omega)
 have hge:decide (ts.length≤m)=true:=decide_eq_true (by omega)
 clear hb
 clear hS htxt hrng hpos hb0 hb1 hAC hN1 hn hsn
 obtain⟨_,_,_,_,_,_,_,_,_,_,_⟩:=ZpAbl13i
 obtain⟨_,_,_,_,_,_,_,_,_,_,_⟩:=ZpAbl13i
 obtain⟨_,_,_,_,_,_,_,_,_,_,_⟩:=ZpAbl13i
 obtain⟨_,_,_,_,_,_,_,_,_,_,_⟩:=ZpAbl13i
 obtain⟨_,_,_,_,_,_,_,_,_,_,_⟩:=ZpAbl13i
 obtain⟨_,_,_,_,_,_,_,_,_,_,_⟩:=ZpAbl13i
 obtain⟨_,_,_,_,_,_,_,_,_,_,_⟩:=ZpAbl13i
 go_in
 go_wp2_with fail
 refine (HB0.out 0 _ HNB.out).mono ?_
 rintro e w5 ⟨rfl,rfl⟩
 rw [HM.out]
 go_wp2_with fail
 go_quiet (fail)
 all_goals go_wp2_with fail
 all_goals go_ret
 all_goals exact ⟨rfl,Br ((Below.refl _ _).alloc (Nat.le_refl _) _) _⟩
theorem Jb (on:Int) (SA:Option Addr) (slots:List Int) (sn sc tb toff tc:Nat) (ts:List Au) (w:World) (h0:0≤on) (h1:on≤4) (h2:sn≤32) (hsn:slots.length=sn) (h3:ts.length≤2000) (htb:tb < w.heap.size) (hn:As w tb toff ts) (hS:AV w SA slots) (htxt:∀ y∈ts,y.text.size≤1099511627776) (hrng:∀ y∈ts,I64 y.n∧I64 y.m) (hpos:0 < ts.length)
  (m:Nat) (hm:Ap ts 0=m) (hml:m < ts.length) (hb:Ap ts m=ts.length) (hv1:(AD ts 0 2 ⟨[3,4],Eb,false⟩).bad=true) :
  Calls Tryz.prog 48 #[.agg #[.int .i64 on,.slice SA sn sc,.bool true,.slice (some ⟨tb,toff,none⟩) ts.length tc]] w fun e w'=>e=.returned (.bool false)∧Below w.heap.size w w':=by
 have hl:ts.length≤100000:=by omega
 have ne0:((ts.length:Int) == 0)=false:=Ao (by omega)
 have hb1:=fun nq=>Br ((Below.refl w.heap.size w).alloc (Nat.le_refl _) (.cells #[.int .i64 on,.slice SA sn sc,.bool true,.slice (some ⟨tb,toff,none⟩) ts.length tc] 25)) nq
 have hAC:=fun nq=>Dc w _ #[.int .i64 on,.slice SA sn sc,.bool true,.slice (some ⟨tb,toff,none⟩) ts.length tc] (hb1 nq) (by simp) (Blk.new w _ _) (cap:=tc) hn htb
 have hN1:=fun nq=>hn.below (hb1 nq) htb
 obtain⟨HAC,HB1,HN1⟩:=Hd3 hAC hb1 hN1
 have A3:(w.alloc (.cells #[.int .i64 on,.slice SA sn sc,.bool true,.slice (some ⟨tb,toff,none⟩) ts.length tc] 25)).cell? ⟨w.heap.size,3,none⟩=some (.slice (some ⟨tb,toff,none⟩) ts.length tc):=(Blk.new w _ _).cell 3
 obtain⟨HS,HT,HRG,HP,HSN⟩:=Hd5 hS htxt hrng hpos hsn
 have hb0:=fun k wx (hx:As wx tb toff ts)=>Dd tb toff tc ts k wx hl hx
 obtain⟨HB0,HNB,HM⟩:=Hd3 hb0 (hn.below ((Below.refl w.heap.size w).alloc (Nat.le_refl _) (.cells #[.int .i64 on,.slice SA sn sc,.bool true,.slice (some ⟨tb,toff,none⟩) ts.length tc] 25)) htb) hm
 clear hm
 have hge:decide (ts.length≤m)=false:=decide_eq_false (by omega)
 have hm0:decide ((m:Int) < 0)=false:=decide_eq_false (by omega)
 have hbb:(Ap ts m != (ts.length:Int))=false:=by rw [hb];simp
 have HB:=Lh hb
 clear hb
 have HV1:=Lh hv1
 clear hv1
 clear hS htxt hrng hpos hb0 hb1 hAC hN1 hn hsn
 obtain⟨_,_,_,_,_,_,_,_,_,_,_⟩:=ZpAbl13i
 obtain⟨_,_,_,_,_,_,_,_,_,_,_⟩:=ZpAbl13i
 obtain⟨_,_,_,_,_,_,_,_,_,_,_⟩:=ZpAbl13i
 obtain⟨_,_,_,_,_,_,_,_,_,_,_⟩:=ZpAbl13i
 obtain⟨_,_,_,_,_,_,_,_,_,_,_⟩:=ZpAbl13i
 obtain⟨_,_,_,_,_,_,_,_,_,_,_⟩:=ZpAbl13i
 obtain⟨_,_,_,_,_,_,_,_,_,_,_⟩:=ZpAbl13i
 obtain⟨_,_,_,_,_,_,_,_,_,_,_⟩:=ZpAbl13i
 go_in
 go_wp2_with fail
 refine (HB0.out 0 _ HNB.out).mono ?_
 rintro e w5 ⟨rfl,rfl⟩
 rw [HM.out]
 go_wp2_with fail
 go_quiet ((go_at_call 109;exact Em (HB0.out m _ (HN1.out _))))
 have AC:=Lh (HAC.out nq)
 all_goals go_wp2_with fail
 refine (Db w.heap.size (w.heap.size + 1 + 1) tb toff tc ts hl htb HT.out 0 2 [3,4] Gr Eb _ HP.out (by rw [HM.out];omega) (by decide) AC.out.lk AC.out.nodes).mono ?_
 rintro e w5 ⟨rfl,h5,f5⟩
 have AC5:=Lh (AC.out.step (by simp) h5 f5)
 clear A3 h5 f5
 obtain⟨A0,A1,A2,A3⟩:=AC5.out.cells
 obtain⟨ky0,ky3,_⟩:=AC5.out.lk.cells
 have hv1:=HV1.out
 rw [hv1] at ky3
 clear hv1
 go_wp2_with fail
 refine A8 (by kernel_rfl) (by kernel_rfl) ?_
 go_wp2_with fail
 refine AX.normal ?_
 go_wp2_with fail
 go_ret
 exact ⟨rfl,AC5.out.fr.below.drew⟩
theorem KJ (on:Int) (SA:Option Addr) (slots:List Int) (sn sc tb toff tc:Nat) (ts:List Au) (w:World) (h0:0≤on) (h1:on≤4) (h2:sn≤32) (hsn:slots.length=sn) (h3:ts.length≤2000) (htb:tb < w.heap.size) (hn:As w tb toff ts) (hS:AV w SA slots) (htxt:∀ y∈ts,y.text.size≤1099511627776) (hrng:∀ y∈ts,I64 y.n∧I64 y.m) (hpos:0 < ts.length)
  (m:Nat) (hm:Ap ts 0=m) (hml:m < ts.length) (hb:¬ Ap ts m=ts.length) :
  Calls Tryz.prog 48 #[.agg #[.int .i64 on,.slice SA sn sc,.bool true,.slice (some ⟨tb,toff,none⟩) ts.length tc]] w fun e w'=>e=.returned (.bool false)∧Below w.heap.size w w':=by
 have hl:ts.length≤100000:=by omega
 have ne0:((ts.length:Int) == 0)=false:=Ao (by omega)
 have hb1:=fun nq=>Br ((Below.refl w.heap.size w).alloc (Nat.le_refl _) (.cells #[.int .i64 on,.slice SA sn sc,.bool true,.slice (some ⟨tb,toff,none⟩) ts.length tc] 25)) nq
 have hAC:=fun nq=>Dc w _ #[.int .i64 on,.slice SA sn sc,.bool true,.slice (some ⟨tb,toff,none⟩) ts.length tc] (hb1 nq) (by simp) (Blk.new w _ _) (cap:=tc) hn htb
 have hN1:=fun nq=>hn.below (hb1 nq) htb
 obtain⟨HAC,HB1,HN1⟩:=Hd3 hAC hb1 hN1
 have A3:(w.alloc (.cells #[.int .i64 on,.slice SA sn sc,.bool true,.slice (some ⟨tb,toff,none⟩) ts.length tc] 25)).cell? ⟨w.heap.size,3,none⟩=some (.slice (some ⟨tb,toff,none⟩) ts.length tc):=(Blk.new w _ _).cell 3
 obtain⟨HS,HT,HRG,HP,HSN⟩:=Hd5 hS htxt hrng hpos hsn
 have hb0:=fun k wx (hx:As wx tb toff ts)=>Dd tb toff tc ts k wx hl hx
 obtain⟨HB0,HNB,HM⟩:=Hd3 hb0 (hn.below ((Below.refl w.heap.size w).alloc (Nat.le_refl _) (.cells #[.int .i64 on,.slice SA sn sc,.bool true,.slice (some ⟨tb,toff,none⟩) ts.length tc] 25)) htb) hm
 clear hm
 have hge:decide (ts.length≤m)=false:=decide_eq_false (by omega)
 have hm0:decide ((m:Int) < 0)=false:=decide_eq_false (by omega)
 have hbb:(Ap ts m != (ts.length:Int))=true:=by rw [bne_iff_ne];exact hb
 clear hb
 clear hS htxt hrng hpos hb0 hb1 hAC hN1 hn hsn
 obtain⟨_,_,_,_,_,_,_,_,_,_,_⟩:=ZpAbl13i
 obtain⟨_,_,_,_,_,_,_,_,_,_,_⟩:=ZpAbl13i
 obtain⟨_,_,_,_,_,_,_,_,_,_,_⟩:=ZpAbl13i
 obtain⟨_,_,_,_,_,_,_,_,_,_,_⟩:=ZpAbl13i
 obtain⟨_,_,_,_,_,_,_,_,_,_,_⟩:=ZpAbl13i
 obtain⟨_,_,_,_,_,_,_,_,_,_,_⟩:=ZpAbl13i
 obtain⟨_,_,_,_,_,_,_,_,_,_,_⟩:=ZpAbl13i
 obtain⟨_,_,_,_,_,_,_,_,_,_,_⟩:=ZpAbl13i
 obtain⟨_,_,_,_,_,_,_,_,_,_,_⟩:=ZpAbl13i
 go_in
 go_wp2_with fail
 refine (HB0.out 0 _ HNB.out).mono ?_
 rintro e w5 ⟨rfl,rfl⟩
 rw [HM.out]
 go_wp2_with fail
 go_quiet ((go_at_call 109;exact Em (HB0.out m _ (HN1.out _))))
 all_goals go_wp2_with fail
 all_goals go_ret
 all_goals exact ⟨rfl,HB1.out _⟩
end Go.Proofs.YtmpcbaflcogmmaaGreatDoor
