/- Blk13 St13 Loop13a Loop13b Loop13e -/
import Derived.Test.YtmpcbaflcogmmaaGreatDoorDecl13
import Derived.Test.YtmpcbaflcogmmaaGreatDoorExpr
import Derived.Test.YtmpcbaflcogmmaaGreatDoorStmt12
namespace Go.Proofs.YtmpcbaflcogmmaaGreatDoor
open Go.RowKit
set_option linter.all false
set_option maxHeartbeats 3200000
set_option maxRecDepth 100000
def B13 (B kb tb toff cap:Nat) (ts:List Au) (rec:Nat→LSt→LSt) (i:Nat):Prop:=
 ∀ (vars:List Vr) (s:LSt) (w:World),(s.bad=false→s.slots.length≤2 + 3 * i)→RL w B kb (.slice (some ⟨tb,toff,none⟩) ts.length cap) vars s→As w tb toff ts →
  Calls Tryz.prog 111 #[.pointer (some ⟨kb,0,none⟩),.int .i64 i] w fun e w'=>e=.returned (.tuple #[]) ∧
   RL w' B kb (.slice (some ⟨tb,toff,none⟩) ts.length cap) vars (if s.bad=true then s else rec i s)∧Frm B [158,118,160] w w'
def S13 (B kb tb toff cap:Nat) (ts:List Au) (rec:Nat→LSt→LSt) (i:Nat):Prop:=
 ∀ (vars:List Vr) (s:LSt) (w:World),s.bad=false→s.slots.length≤2 + 3 * i→RL w B kb (.slice (some ⟨tb,toff,none⟩) ts.length cap) vars s→As w tb toff ts →
  Calls Tryz.prog 168 #[.pointer (some ⟨kb,0,none⟩),.int .i64 i] w fun e w'=>e=.returned (.tuple #[]) ∧
   (∃ ext,RL w' B kb (.slice (some ⟨tb,toff,none⟩) ts.length cap) (vars ++ ext) (rec i s)∧(∀ v∈ext,(s.slots.length:Int)≤v.slot)∧((rec i s).bad=false→ext.map Vr.slot=if (ts.getD i AF).op=11 then [(ts.getD i AF).n] else [])) ∧
   Frm B [158,118,160] w w'
theorem JT (ts:List Au) (recS:Nat→LSt→LSt):∀ (l:List Nat) (own:List Int) (s:LSt),s.bad=true→(Bl ts recS l own s).bad=true
 | [],own,s,h=>by rw [Bl,Gn];exact h
 | k :: r,own,s,h=>by rw [Bl,if_pos h];exact h
theorem RL.varsCell {w:World} {B kb:Nat} {tv:Value} {vars:List Vr} {s:LSt} (h:RL w B kb tv vars s):∃ A c,w.cell? ⟨kb,2,none⟩=some (.slice A vars.length c)∧w.frozen? ⟨kb,2,none⟩=false∧vars.length≤c∧c≤maxLen:=by
 obtain⟨sl,h1,_⟩:=h
 exact h1.vars
theorem RL.closed {w:World} {B kb:Nat} {tv:Value} {vars ext:List Vr} {s R:LSt} (h:RL w B kb tv (vars ++ ext) s) {A:Option Addr} {n c:Nat} (hc:w.cell? ⟨kb,2,none⟩=some (.slice A n c)) {k:Nat}
  (hv:s.bad=false→∀ v∈vars,v.slot < k) (he:∀ v∈ext,(k:Int)≤v.slot) (hb:s.bad=true→R.bad=true) (hR:s.bad=false→R=FK (ext.map Vr.slot) s) :
  RL (w.setCell ⟨kb,2,none⟩ (.slice A vars.length c)) B kb tv vars R∧Frm B [158] w (w.setCell ⟨kb,2,none⟩ (.slice A vars.length c)):=by
 obtain⟨sl,h1,h2⟩:=h
 obtain⟨h3,h4⟩:=h1.trunc hc
 refine ⟨?_,h4⟩
 obtain⟨sls,sn,sb⟩:=s
 cases sb with
 | true=>exact RL.isBad h3 (hb rfl)
 | false =>
  obtain⟨rfl,h5⟩:=h2 rfl
  rw [hR rfl]
  exact RL.of h3 (h5.forget (hv rfl) he)
def N5 (r:Nat→LSt→LSt):Prop:=∀ i s,s.slots.length≤(r i s).slots.length
theorem Mi (slot:Int) (b:Bool) (l:List Int) (s:LSt):s.slots.length≤(AE slot b l s).slots.length:=by
 unfold AE
 split
 ·exact Nat.le_refl _
 ·split
  ·simp
  ·exact Nat.le_refl _
section
variable (ts:List Au) (recS recB:Nat→LSt→LSt) (hS:N5 recS) (hB:N5 recB)
include hS hB
theorem IM:∀ (l:List Nat) (i:Nat) (s:LSt),s.slots.length≤(AS ts recS recB i l s).slots.length
 | [],i,s=>Nat.le_refl _
 | k :: r,i,s=>by
  rw [AS]
  refine Nat.le_trans ?_ (IM r _ _)
  split
  ·exact Nat.le_refl _
  ·split
   ·exact hS k s
   ·exact hB k s
omit hB in
theorem GE:∀ (l:List Nat) (own:List Int) (s:LSt),s.slots.length≤(Bl ts recS l own s).slots.length
 | [],own,s=>by rw [Bl,Ep];exact Nat.le_refl _
 | k :: r,own,s=>by
  rw [Bl]
  split
  ·exact Nat.le_refl _
  ·exact Nat.le_trans (hS k s) (GE r _ _)
omit hB in
theorem Oa:N5 (CW ts recS):=by
 intro i s
 unfold CW
 simp only
 split
 ·exact GE ts recS hS _ _ _
 ·exact Nat.le_refl _
theorem PB:N5 (DL ts recS recB):=by
 intro i s
 have hb:=IM ts recS recB hS hB
 have hd:=Mi
 unfold DL
 simp only
 split
 ·split
  ·exact hd _ _ _ (Cr _ s)
  ·exact Nat.le_refl _
 split
 ·split
  ·exact Nat.le_refl _
  ·exact Nat.le_refl _
 split
 ·split
  ·exact hb _ _ (AD ts _ _ s)
  ·exact Nat.le_refl _
 split
 ·split
  ·exact Nat.le_trans (hd _ _ _ s) (hb _ _ _)
  ·exact Nat.le_refl _
 split
 ·split
  ·exact Nat.le_trans (hd _ _ _ (AD ts _ _ s)) (hb _ _ _)
  ·exact Nat.le_refl _
 split
 ·split
  ·split
   ·exact Nat.le_trans (Nat.le_trans (hd _ _ _ (AD ts _ _ s)) (hb _ _ _)) (hB _ (forget _ _))
   ·exact Nat.le_trans (hd _ _ _ (AD ts _ _ s)) (hb _ _ _)
  ·exact Nat.le_refl _
 split
 ·exact Nat.le_refl _
 split
 ·split
  ·exact Nat.le_refl _
  ·exact Nat.le_refl _
 ·exact Nat.le_refl _
end
theorem Fx (ts:List Au):∀ f,N5 (sbM ts f).1∧N5 (sbM ts f).2
 | 0=>⟨fun _ _=>Nat.le_refl _,fun _ _=>Nat.le_refl _⟩
 | f + 1=>⟨PB ts _ _ (Fx ts f).1 (Fx ts f).2,Oa ts _ (Fx ts f).1⟩
theorem NX (B kb tb toff cap:Nat) (ts:List Au) (recS:Nat→LSt→LSt) (htb:tb < B) (hl:ts.length≤2000) (hLS:Is ts recS) (hRS:N5 recS) (i:Nat) (hi:i < ts.length) (hbe:0≤Ap ts i)
  (he:∀ j∈Am ts i,S13 B kb tb toff cap ts recS j):B13 B kb tb toff cap ts (CW ts recS) i:=by
 intro vars s w hs h hn
 obtain⟨x,hx⟩:∃ x,ts[i]? = some x:=⟨_,List.getElem?_eq_getElem hi⟩
 have hgx:ts.getD i AF=x:=by rw [List.getD_eq_getElem?_getD,hx];rfl
 have c0:=hn.op hx
 obtain⟨k0,k3,kf⟩:=h.cells
 obtain⟨hB,hks⟩:=h.size
 have htw:tb < w.heap.size:=by omega
 have hnl:(Am ts i).length≤100000:=AM hbe (by omega)
 obtain⟨sl,hrk,hgood⟩:=h
 have hmu:=fun (s:RS) x wx hx=>BC B kb (.slice (some ⟨tb,toff,none⟩) ts.length cap) s x wx hx
 have hpl:=fun (s:RS) wx hx' hn'=>BT B kb tb toff cap ts s i x 0 0 0 wx hx' hx hn' (by omega)
 have hki:=fun wx (hx':As wx tb toff ts) (hl':tb < wx.heap.size)=>CY (some ⟨tb,toff,none⟩) ts cap i wx (by omega) (.inr ⟨tb,toff,rfl,hl',hx'⟩) hi
 obtain⟨qo,hqo⟩:∃ q:Bool,(x.op == 10)=q:=⟨_,rfl⟩
 obtain⟨ql,hql⟩:∃ q:Bool,AO x 0 0 0=q:=⟨_,rfl⟩
 simp only [hql] at hpl
 obtain⟨slots,seen,bad⟩:=s
 simp only at hrk hgood hs k3
 obtain⟨R,hR⟩:=Ex0 (if bad=true then (⟨slots,seen,bad⟩:LSt) else CW ts recS i ⟨slots,seen,bad⟩)
 show Calls _ _ _ w fun e w'=>e=.returned (.tuple #[])∧RL w' B kb (.slice (some ⟨tb,toff,none⟩) ts.length cap) vars (if bad=true then (⟨slots,seen,bad⟩:LSt) else CW ts recS i ⟨slots,seen,bad⟩)∧Frm B [158,118,160] w w'
 rw [← hR]
 unfold CW at hR
 simp only [hgx,hql] at hR
 obtain⟨b2,hb2⟩:=Ex0 ((bad || !qo || !ql))
 obtain⟨HN,HX,HE,HRK,HGD,HMU,HPL,HKI,HLS,HRS,HS,HBE,HR,HB2,HNL⟩:=Hd15 hn hx he hrk hgood hmu hpl hki hLS hRS hs hbe hR hb2 hnl
 clear hn hx hgx he hrk hgood hmu hpl hki hLS hRS hs hbe hR hb2 hql hnl
 go_in
 go_wp2_with fail
 refine (HMU.out ⟨sl,vars,bad⟩ qo _ HRK.out).mono ?_
 rintro e w1 ⟨rfl,h1,f1⟩
 obtain⟨HQO,H1,F1,N1⟩:=Hd4 hqo h1 f1 (f1.nodes HN.out htb)
 clear h1 f1 hqo
 go_wp2_with fail
 refine (HPL.out _ _ H1.out N1.out).mono ?_
 rintro e w2 ⟨rfl,h2,f2⟩
 have h2b:RK w2 B kb (.slice (some ⟨tb,toff,none⟩) ts.length cap) ⟨sl,vars,b2⟩:=h2.same (by rw [HB2.out];rfl)
 obtain⟨F2,N2⟩:=Hd2 (F1.out.trans f2) (f2.nodes N1.out htb)
 obtain⟨k02,k32,kf2⟩:=h2b.cells
 obtain⟨A2,cv,kv2,kw2,hcv,hcm⟩:=h2b.vars
 have hz2:=F2.out.size
 simp only at k32 kv2 hcv
 have H2:=Lh h2b
 clear h2 f2 h2b
 cases b2 with
 | true =>
  go_wp2_with fail
  refine bodyPost_ret (results_none rfl _ _ _) rfl ?_
  refine ⟨rfl,RL.isBad H2.out ?_,F2.out.more (by simp)⟩
  have h1:=HB2.out
  have h2:=HQO.out
  rw [HR.out]
  cases bad with
  | true=>rfl
  | false =>
   rw [if_neg (by decide),if_neg ?_]
   ·rfl
   ·rintro ⟨g1,g2⟩
    rw [g2] at h1
    rw [← h2,AB g1] at h1
    cases h1
 | false =>
  obtain⟨rfl,rfl,rfl⟩:bad=false∧qo=true∧ql=true:=by
   have:=HB2.out
   cases bad <;> cases qo <;> cases ql <;> simp at this ⊢
  obtain⟨rfl,hI⟩:=HGD.out rfl
  have hR2:R=Bl ts recS (Am ts i) [] ⟨sl,seen,false⟩:=by
   rw [HR.out,if_neg (by decide),if_pos ⟨by simpa using HQO.out,rfl⟩]
  obtain⟨n,hnk⟩:∃ n,(Am ts i).length=n:=⟨_,rfl⟩
  obtain⟨nv,hnv⟩:∃ nv,vars.length=nv:=⟨_,rfl⟩
  have hnl:=HNL.out
  rw [hnk] at hnl
  rw [hnv] at kv2 hcv
  obtain⟨HR2,HI,HK,HNV⟩:=Hd4 hR2 hI hnk hnv
  clear hR2 hI hnk hnv
  go_wp2_with fail
  refine (HKI.out _ N2.out (by omega)).mono ?_
  rintro e w3 ⟨kv,rfl,hown,hbel⟩
  rw [HK.out] at hown
  obtain⟨A,c,rfl⟩:=AJ hown
  have h3:=H2.out.below hbel
  have f3:Frm B [158,118,160] w w3:=(F2.out.more (by simp)).trans (Frm.of_below hbel (by omega))
  have hz3:=f3.size
  obtain⟨HOW,F3,H3⟩:=Hd3 hown f3 (RL.of h3 HI.out)
  clear hown h3 f3 hbel
  go_wp2_with fail
  go_loopw [6] (fun iv wr=>∃ (k p':Nat) (own:List Int) (ext:List Vr) (s':LSt),k≤n∧iv=.int .i64 k∧Hid (R=Bl ts recS ((Am ts i).drop k) own s')∧Hid (Cj ts p' (Ap ts i).toNat ((Am ts i).drop k))∧Hid (s'.bad=false→s'.slots.length≤2 + 3 * p')∧Hid (s'.bad=false→own=ext.map Vr.slot)∧Hid (∀ v∈ext,(sl.length:Int)≤v.slot)∧Hid (s'.bad=false→sl.length≤s'.slots.length) ∧
    RL wr B kb (.slice (some ⟨tb,toff,none⟩) ts.length cap) (vars ++ ext) s'∧Frm B [158,118,160] w3 wr)
   (fun iv _=>n - (intOf iv).toNat)
  case atStart=>exact ⟨0,i + 1,[],[],⟨sl,seen,false⟩,by omega,rfl,HR2,Ca HBE.out,fun _=>by have:=HS.out (by trivial);simp only at this ⊢;omega,fun _=>rfl,fun v hv=>by simp at hv,fun _=>Nat.le_refl _,by rw [List.append_nil];exact H3.out,Frm.refl _ _ _⟩
  case round =>
   obtain⟨k,p',own,ext,s',hk,rfl,HR',HC',HS',HO',HE',HL',hrl,hfr⟩:=hrel
   have hzr:=hfr.size
   obtain⟨kr0,kr3,krf⟩:=hrl.cells
   obtain⟨Av,cv',kv',kw',hcv',hcm'⟩:=hrl.varsCell
   obtain⟨ne,hne⟩:∃ ne,(vars ++ ext).length=ne:=⟨_,rfl⟩
   have hnve:nv≤ne:=by rw [← hne,List.length_append,HNV.out];omega
   rw [hne] at kv' hcv'
   obtain⟨HNE,HRL,HFR,HF⟩:=Hd4 hne hrl (F3.out.trans hfr) hfr
   clear hne hrl hfr
   have hfin:(s'.bad=true∨(Am ts i).drop k=[])→RL (wr.setCell ⟨kb,2,none⟩ (.slice Av nv cv')) B kb (.slice (some ⟨tb,toff,none⟩) ts.length cap) vars R∧Frm B [158] wr (wr.setCell ⟨kb,2,none⟩ (.slice Av nv cv')):=by
    intro hd
    have:=HRL.out.closed (R:=R) kv' (k:=sl.length) (fun _ v hv=>(HI.out.lt v hv).2) HE'.out (fun hb=>by rw [HR'.out];exact JT ts recS _ _ _ hb) (fun hb=>by
     rcases hd with hd | hd
     ·rw [hb] at hd;cases hd
     ·rw [HR'.out,hd,Bl,Gn,HO'.out hb])
    rw [HNV.out] at this
    exact this
   have HFin:=Lh hfin
   clear hfin
   by_cases hlt:k < n
   ·cases hbb:s'.bad with
    | true =>
     rw [hbb] at kr3
     have HBB:=Lh hbb
     clear hbb
     have hd:decide ((k:Int) < n)=true:=decide_eq_true (by omega)
     go_wp2_with fail
     go_end0
     obtain⟨g1,g2⟩:=HFin.out (.inl HBB.out)
     exact ⟨rfl,g1,HFR.out.trans (g2.more (by simp))⟩
    | false =>
     rw [hbb] at kr3
     have HBB:=Lh hbb
     clear hbb
     obtain⟨j,hj⟩:∃ j,(Am ts i)[k]? = some j:=⟨_,List.getElem?_eq_getElem (by rw [HK.out];exact hlt)⟩
     have hes:=HE.out j (List.mem_of_getElem? hj)
     have hdrop:(Am ts i).drop k=j :: (Am ts i).drop (k + 1):=by
      obtain⟨h2,h3⟩:=List.getElem?_eq_some_iff.1 hj
      rw [List.drop_eq_getElem_cons h2,h3]
     have hKJ:((Am ts i).map (fun j:Nat=>(j:Int)))[k]? = some (j:Int):=by rw [List.getElem?_map,hj];rfl
     obtain⟨kb3,ko3,ke3,kl3,kc3⟩:=(Bt (HF.out.own HOW.out (by decide))).1 k _ hKJ
     subst ke3
     have hR1:=HR'.out
     rw [hdrop,Bl,if_neg (by rw [HBB.out];decide)] at hR1
     have hC1:=HC'.out
     rw [hdrop] at hC1
     obtain⟨rfl,g1,g2,g3⟩:=hC1
     have hs1:=HS'.out HBB.out
     have hln:=HLS.out _ _ g1 g2 hs1
     have hes1:=hes (vars ++ ext) s' wr HBB.out hs1 HRL.out (HFR.out.nodes HN.out htb)
     obtain⟨HES,HR1,HC1,HLN⟩:=Hd4 hes1 hR1 g3 hln
     clear hes hdrop hKJ hR1 g3 hes1 hj hln
     go_wp2_with fail
     refine HES.out.mono ?_
     rintro e w4 ⟨rfl,⟨ex,h4,h5,h6⟩,f4⟩
     obtain⟨H4,H5,H6,F4⟩:=Hd4 h4 h5 h6 (HF.out.trans f4)
     clear h4 h5 h6 f4
     go_wp2_with fail
     go_roundw
     case rel =>
      have hle:=HL'.out HBB.out
      refine ⟨k + 1,_,_,ext ++ ex,_,by omega,by go_num,HR1,HC1,fun _=>HLN.out,?_,?_,?_,by rw [← List.append_assoc];exact H4.out,F4.out⟩
      ·intro hb
       rw [List.map_append,← HO'.out HBB.out,H6.out hb]
       split <;> simp
      ·intro v hv
       rcases List.mem_append.1 hv with hv | hv
       ·exact HE'.out v hv
       ·have:=H5.out v hv;omega
      ·intro hb
       exact Nat.le_trans hle (HRS.out _ s')
     case measure=>(simp [intOf];try omega)
   ·have hd:decide ((k:Int) < n)=false:=decide_eq_false (by omega)
    have hkn:(Am ts i).drop k=[]:=List.drop_of_length_le (by rw [HK.out];omega)
    have HKN:=Lh hkn
    clear hkn
    go_wp2_with fail
    go_end0
    obtain⟨g1,g2⟩:=HFin.out (.inr HKN.out)
    exact ⟨rfl,g1,HFR.out.trans (g2.more (by simp))⟩
section
variable (B kb:Nat) (tv:Value) (vars:List Vr) (s:LSt) (w:World)
theorem Bx (h:RL w B kb tv vars s) :
  Calls Tryz.prog 165 #[.pointer (some ⟨kb,0,none⟩),.bool true] w fun e w'=>e=.returned (.tuple #[])∧RL w' B kb tv vars s∧Frm B [158] w w':=by
 obtain⟨sl,h1,h2⟩:=h
 refine (BC B kb tv _ true w h1).mono ?_
 rintro e w1 ⟨rfl,g1,f1⟩
 exact ⟨rfl,⟨sl,g1.same (RS.must_true _),h2⟩,f1⟩
theorem Cd (q:Bool) (h:RL w B kb tv vars s) (hq:q=false∨s.bad=true) :
  Calls Tryz.prog 165 #[.pointer (some ⟨kb,0,none⟩),.bool q] w fun e w'=>e=.returned (.tuple #[])∧RL w' B kb tv vars (FI s)∧Frm B [158] w w':=by
 obtain⟨sl,h1,h2⟩:=h
 refine (BC B kb tv _ q w h1).mono ?_
 rintro e w1 ⟨rfl,g1,f1⟩
 refine ⟨rfl,RL.isBad (sl:=sl) (g1.same ?_) rfl,f1⟩
 rcases hq with rfl | hq
 ·simp [RS.must]
 ·simp [RS.must,hq]
end
section
variable (B kb tb toff cap:Nat) (ts:List Au) (s:LSt) (vars:List Vr) (i:Nat) (x:Au) (kind n m:Int) (w:World)
theorem CK (hli:AO x kind n m=true) (h:RL w B kb (.slice (some ⟨tb,toff,none⟩) ts.length cap) vars s) (hx:ts[i]? = some x) (hn:As w tb toff ts) (hlt:ts.length≤2000) :
  Calls Tryz.prog 166 #[.pointer (some ⟨kb,0,none⟩),.int .i64 i,.int .i8 kind,.int .i64 n,.int .i64 m] w fun e w'=>e=.returned (.tuple #[])∧RL w' B kb (.slice (some ⟨tb,toff,none⟩) ts.length cap) vars s∧Frm B [158] w w':=by
 obtain⟨sl,h1,h2⟩:=h
 refine (BT B kb tb toff cap ts _ i x kind n m w h1 hx hn (by omega)).mono ?_
 rintro e w1 ⟨rfl,g1,f1⟩
 rw [hli,RS.must_true] at g1
 exact ⟨rfl,⟨sl,g1,h2⟩,f1⟩
theorem Bh (hli:AO x kind n m=false∨s.bad=true) (h:RL w B kb (.slice (some ⟨tb,toff,none⟩) ts.length cap) vars s) (hx:ts[i]? = some x) (hn:As w tb toff ts) (hlt:ts.length≤2000) :
  Calls Tryz.prog 166 #[.pointer (some ⟨kb,0,none⟩),.int .i64 i,.int .i8 kind,.int .i64 n,.int .i64 m] w fun e w'=>e=.returned (.tuple #[])∧RL w' B kb (.slice (some ⟨tb,toff,none⟩) ts.length cap) vars (FI s)∧Frm B [158] w w':=by
 obtain⟨sl,h1,h2⟩:=h
 refine (BT B kb tb toff cap ts _ i x kind n m w h1 hx hn (by omega)).mono ?_
 rintro e w1 ⟨rfl,g1,f1⟩
 refine ⟨rfl,RL.isBad (sl:=sl) (g1.same ?_) rfl,f1⟩
 rcases hli with hli | hli
 ·simp [RS.must,hli]
 ·simp [RS.must,hli]
end
structure Fh (B kb tb toff cap:Nat) (ts:List Au) (i:Nat) (x:Au) (bn base n c:Nat) (A:Option Addr) (w0:World) (vars:List Vr) (s:LSt) (w:World):Prop where
 rl:RL w B kb (.slice (some ⟨tb,toff,none⟩) ts.length cap) vars s
 fr:Frm B [158,118,160] w0 w
 tbB:tb < B
 nodes:As w tb toff ts
 nb:Blk w bn 120 #[.int .i8 x.op,.int .i8 x.kind,.int .i64 x.n,.int .i64 x.m,.string x.text,.int .i64 x.pos,.int .i64 x.kids]
 own:w.ownsRow base 3 1 (.slice A n c) n (AQ ((Am ts i).map fun j:Nat=>(j:Int)))
section
variable {B kb tb toff cap:Nat} {ts:List Au} {i:Nat} {x:Au} {bn base n c:Nat} {A:Option Addr} {w0 w w':World} {vars vars':List Vr} {s s':LSt}
theorem Fh.start (h:RL w B kb (.slice (some ⟨tb,toff,none⟩) ts.length cap) vars s) (hn:As w tb toff ts) (htb:tb < B) {v:Value}
  (hown:w'.ownsRow (w.alloc (.cells #[.int .i8 x.op,.int .i8 x.kind,.int .i64 x.n,.int .i64 x.m,.string x.text,.int .i64 x.pos,.int .i64 x.kids] 120)).heap.size 3 1 v (Am ts i).length (AQ ((Am ts i).map fun j:Nat=>(j:Int))))
  (hb:Below (w.alloc (.cells #[.int .i8 x.op,.int .i8 x.kind,.int .i64 x.n,.int .i64 x.m,.string x.text,.int .i64 x.pos,.int .i64 x.kids] 120)).heap.size (w.alloc (.cells #[.int .i8 x.op,.int .i8 x.kind,.int .i64 x.n,.int .i64 x.m,.string x.text,.int .i64 x.pos,.int .i64 x.kids] 120)) w') :
  ∃ A c base,v=.slice A (Am ts i).length c∧Fh B kb tb toff cap ts i x w.heap.size base (Am ts i).length c A w vars s w':=by
 obtain⟨A,c,rfl⟩:=AJ hown
 obtain⟨h1,h2⟩:=h.size
 have f1:Frm B [158,118,160] w w':=((Frm.refl _ _ _).alloc (by omega) _).trans (Frm.of_below hb (by simp;omega))
 exact ⟨A,c,_,rfl,(h.alloc _).below hb,f1,htb,f1.nodes hn htb,(Blk.new w _ _).below hb (by simp),hown⟩
theorem Fh.step (h:Fh B kb tb toff cap ts i x bn base n c A w0 vars s w) {T:List TypeId} (hT:∀ t∈T,t = 158∨t = 118∨t = 160) (hl:RL w' B kb (.slice (some ⟨tb,toff,none⟩) ts.length cap) vars' s') (hf:Frm B T w w') :
  Fh B kb tb toff cap ts i x bn base n c A w0 vars' s' w':=by
 have hf2:Frm B [158,118,160] w w':=hf.more (fun t ht=>by simpa using hT t ht)
 exact ⟨hl,h.fr.trans hf2,h.tbB,hf2.nodes h.nodes h.tbB,hf2.blk h.nb (by decide),hf2.own h.own (by decide)⟩
theorem Fh.alloc (h:Fh B kb tb toff cap ts i x bn base n c A w0 vars s w) (o:Obj):Fh B kb tb toff cap ts i x bn base n c A w0 vars s (w.alloc o):=by
 have h1:=h.rl.size
 have hf:Frm B [] w (w.alloc o):=(Frm.refl _ _ _).alloc (by omega) _
 exact h.step (by simp) (h.rl.alloc o) hf
theorem Fh.drew (h:Fh B kb tb toff cap ts i x bn base n c A w0 vars s w):Fh B kb tb toff cap ts i x bn base n c A w0 vars s w.drew:=by
 obtain⟨sl,h1,h2⟩:=h.rl
 exact h.step (T:=[]) (by simp) ⟨sl,h1.drew,h2⟩ (Frm.refl _ _ _).drew
theorem Fh.cells (h:Fh B kb tb toff cap ts i x bn base n c A w0 vars s w):w.cell? ⟨kb,0,none⟩=some (.slice (some ⟨tb,toff,none⟩) ts.length cap)∧w.cell? ⟨kb,3,none⟩=some (.bool s.bad)∧w.frozen? ⟨kb,3,none⟩=false ∧
  w.cell? ⟨bn,0,none⟩=some (.int .i8 x.op)∧w.cell? ⟨bn,2,none⟩=some (.int .i64 x.n)∧w.cell? ⟨bn,3,none⟩=some (.int .i64 x.m):=by
 obtain⟨h1,h2,h3⟩:=h.rl.cells
 exact ⟨h1,h2,h3,h.nb.cell 0,h.nb.cell 2,h.nb.cell 3⟩
theorem Fh.form (h:Fh B kb tb toff cap ts i x bn base n c A w0 vars s w) (h0:0 < n):∃ g,A=some ⟨g,0,none⟩:=by
 rcases h.own.2 with ⟨h1,h2⟩ | ⟨g,cp,cu,h1,_⟩
 ·omega
 ·injection h1 with h1 _ _
  exact ⟨g,h1⟩
theorem Fh.kid {g:Nat} (h:Fh B kb tb toff cap ts i x bn base n c (some ⟨g,0,none⟩) w0 vars s w) (k j:Nat) (hj:(Am ts i)[k]? = some j):w.cell? ⟨g,k,none⟩=some (.int .i64 j):=by
 have hKJ:((Am ts i).map (fun j:Nat=>(j:Int)))[k]? = some (j:Int):=by rw [List.getElem?_map,hj];rfl
 obtain⟨b,o,e,_,hc⟩:=(Bt h.own).1 k _ hKJ
 have hlen:(AQ ((Am ts i).map fun j:Nat=>(j:Int)))[k]? = some (.int .i64 j):=by rw [AQ,List.getElem?_map,hKJ];rfl
 have h1:=h.own.1
 rw [h.own.cellAt k (by have:=(List.getElem?_eq_some_iff.1 hlen).1;rw [h1] at this;exact this),hlen]
end
theorem Fh.kidNe {B kb tb toff cap:Nat} {ts:List Au} {i:Nat} {x:Au} {bn base n c g:Nat} {w0 w:World} {vars:List Vr} {s:LSt} (h:Fh B kb tb toff cap ts i x bn base n c (some ⟨g,0,none⟩) w0 vars s w):g≠kb:=by
 obtain⟨sl,⟨sv,vv,h1,h3,h4,h5⟩,_⟩:=h.rl
 have:=AR h.own h3 (by decide)
 intro e
 exact this (by rw [← e];rfl)
theorem AH (B kb tb toff cap:Nat) (ts:List Au) (i:Nat) (x:Au) (vars:List Vr) (s:LSt) (w:World) (h:RL w B kb (.slice (some ⟨tb,toff,none⟩) ts.length cap) vars s) (hn:As w tb toff ts) (htb:tb < B) (hi:i < ts.length) (hl:ts.length≤2000) :
  Calls Tryz.prog 167 #[.slice (some ⟨tb,toff,none⟩) ts.length cap,.int .i64 i] (w.alloc (.cells #[.int .i8 x.op,.int .i8 x.kind,.int .i64 x.n,.int .i64 x.m,.string x.text,.int .i64 x.pos,.int .i64 x.kids] 120)) fun e w1 =>
   ∃ A c base,e=.returned (.slice A (Am ts i).length c)∧Fh B kb tb toff cap ts i x w.heap.size base (Am ts i).length c A w vars s w1:=by
 obtain⟨h1,h2⟩:=h.size
 have f1:Frm B [158] w (w.alloc (.cells #[.int .i8 x.op,.int .i8 x.kind,.int .i64 x.n,.int .i64 x.m,.string x.text,.int .i64 x.pos,.int .i64 x.kids] 120)):=(Frm.refl _ _ _).alloc (by omega) _
 refine (CY (some ⟨tb,toff,none⟩) ts cap i _ (by omega) (.inr ⟨tb,toff,rfl,by simp;omega,f1.nodes hn htb⟩) hi).mono ?_
 rintro e w1 ⟨v,rfl,hown,hb⟩
 obtain⟨A,c,base,rfl,hst⟩:=Fh.start (x:=x) h hn htb hown hb
 exact ⟨A,c,base,rfl,hst⟩
section
variable {slot:Int} {b:Bool} {l:List Int} {s:LSt}
include slot b l s
theorem Ez (h:(AE slot b l s).bad=true):Fi slot b l s=[]:=by
 unfold Fi
 rw [if_neg]
 rintro ⟨h1,h2⟩
 unfold AE at h
 rw [if_neg (by rw [h1];decide),if_pos h2] at h
 cases h
theorem Iv {v:Vr} (h:v∈Fi slot b l s):(s.slots.length:Int)≤v.slot:=by
 unfold Fi at h
 split at h
 ·simp only [List.mem_singleton] at h
  subst h
  exact Int.le_refl _
 ·simp at h
theorem GK (h:(AE slot b l s).bad=false):(Fi slot b l s).map Vr.slot=[slot]:=by
 unfold AE at h
 unfold Fi
 split at h
 ·rename_i h1
  rw [h1] at h
  cases h
 ·rename_i h1
  split at h
  ·rename_i h2
   rw [if_pos ⟨by simpa using h1,h2⟩,h2]
   rfl
  ·cases h
end
theorem RL.toBad {w:World} {B kb:Nat} {tv:Value} {vars:List Vr} {s s':LSt} (h:RL w B kb tv vars s) (hb:s.bad=true) (hb':s'.bad=true):RL w B kb tv vars s':=by
 obtain⟨sl,h1,_⟩:=h
 rw [hb] at h1
 exact RL.isBad h1 hb'
theorem Ol (B kb tb toff cap:Nat) (ts:List Au) (htb:tb < B) (hl:ts.length≤2000) (htxt:∀ y∈ts,y.text.size≤1099511627776) (i:Nat) (x:Au) (hi:i < ts.length) (hbe:0≤Ap ts i) (hx:ts[i]? = some x)
  (vars:List Vr) (slots:List Int) (seen:Int→Option Value) (w:World) (hs:slots.length≤2 + 3 * i) (h:RL w B kb (.slice (some ⟨tb,toff,none⟩) ts.length cap) vars ⟨slots,seen,false⟩) (hn:As w tb toff ts)
  (hop:x.op=14) (hr1:0≤x.n) (hr2:x.n≤255) (hli:AO x 0 x.n x.m=true) (j:Nat) (hj:Am ts i=[j]) (recS recB:Nat→LSt→LSt) (hB13:∀ j∈Am ts i,B13 B kb tb toff cap ts recB j) :
  Calls Tryz.prog 207 #[.pointer (some ⟨kb,0,none⟩),.int .i64 i] w fun e w'=>e=.returned (.tuple #[])∧(RL w' B kb (.slice (some ⟨tb,toff,none⟩) ts.length cap) vars (forget x.m (AS ts recS recB 0 [j] (AE x.m false [1] ⟨slots,seen,false⟩))))∧Frm B [158,118,160] w w':=by
 have hj0:=hj
 have h0:=h
 obtain⟨c0,c1,c2,c3,c4,c5,c6⟩:=hn.all hx
 obtain⟨k0,k3,kf⟩:=h.cells
 simp only at k3
 obtain⟨hB,hks⟩:=h.size
 have hki:=AH B kb tb toff cap ts i x vars ⟨slots,seen,false⟩ w h hn htb hi hl
 have hnk:(Am ts i).length=1:=by rw [hj];rfl
 rw [hnk] at hki
 have HJ0:Hid ((Am ts i)[0]? = some j):=by rw [hj];rfl
 have hko0:=AU (ts:=ts) (i:=i) (j:=j) (by rw [hj];simp)
 have HKO0:=Lh hko0
 clear hko0
 obtain⟨HKI,HNK,HX,HS,HBE,HT,H,HJ⟩:=Hd8 hki hnk hx hs hbe htxt h hj
 clear hj
 have hop2:=hop
 have q14:(x.op == 14)=true:=AB hop
 clear hop hop2
 have HLI:=Lh hli
 clear hli
 obtain⟨HEB,HI⟩:=Hd2 (hB13 j (by rw [hj0];simp)) h0.good.2
 have HDL:Hid ((AE x.m false [1] ⟨slots,seen,false⟩).slots.length≤slots.length + 1):=Lh (B7 x.m false [1] ⟨slots,seen,false⟩)
 obtain⟨R,hR⟩:=Ex0 (forget x.m (AS ts recS recB 0 [j] (AE x.m false [1] ⟨slots,seen,false⟩)))
 rw [← hR]
 have hR2:R=forget x.m (if (AE x.m false [1] ⟨slots,seen,false⟩).bad=true then AE x.m false [1] ⟨slots,seen,false⟩ else recB j (AE x.m false [1] ⟨slots,seen,false⟩)):=by
  rw [hR,AS,AS]
  split
  ·rfl
  ·rw [if_neg (by rintro ⟨h,_⟩;cases h)]
 have HR:=Lh hR2
 have HRB:Hid ((AE x.m false [1] ⟨slots,seen,false⟩).bad=true→(forget x.m (if (AE x.m false [1] ⟨slots,seen,false⟩).bad=true then AE x.m false [1] ⟨slots,seen,false⟩ else recB j (AE x.m false [1] ⟨slots,seen,false⟩))).bad=true):=fun hb=>by rw [if_pos hb];exact hb
 clear hR hR2 hB13 hj0 h0
 clear h hn hki hx hs hbe htxt hnk
 go_in
 go_wp2_with fail
 refine HKI.out.mono ?_
 rintro e w1 ⟨A,c,base,rfl,C1⟩
 obtain⟨gk,rfl⟩:=C1.form (by decide)
 obtain⟨e0,e3,ef,d0,d2,d3⟩:=C1.cells
 obtain⟨Av1,cv1,kv1,kw1,hcv1,hcm1⟩:=C1.rl.varsCell
 have g0:=C1.kid 0 j HJ0.out
 have CC1:=Lh C1
 have hz1:=C1.rl.size
 clear C1
 go_wp2_with fail
 refine (Bx B kb _ vars ⟨slots,seen,false⟩ _ (CC1.out).rl).mono ?_
 rintro e w2 ⟨rfl,h2,f2⟩
 have CC2:=Lh ((CC1.out).step (by simp) h2 f2)
 clear h2 f2 e0 e3 ef d0 d2 d3
 obtain⟨e0,e3,ef,d0,d2,d3⟩:=CC2.out.cells
 clear g0
 have g0:=CC2.out.kid 0 j HJ0.out
 go_wp2_with fail
 refine (CK B kb tb toff cap ts ⟨slots,seen,false⟩ vars i x 0 x.n x.m _ HLI.out (CC2.out).rl HX.out (CC2.out).nodes hl).mono ?_
 rintro e w3 ⟨rfl,h3,f3⟩
 have CC3:=Lh ((CC2.out).step (by simp) h3 f3)
 clear h3 f3 e0 e3 ef d0 d2 d3
 obtain⟨e0,e3,ef,d0,d2,d3⟩:=CC3.out.cells
 clear g0
 have g0:=CC3.out.kid 0 j HJ0.out
 go_wp2_with fail
 refine (Cp B kb x.m false [1] w3.heap.size 1 ⟨slots,seen,false⟩ vars _ _ (Nat.le_trans HS.out (by omega)) (by simp) (by simp) ((CC3.out).alloc _).rl (Blk.new w3 118 #[.int .i8 1]) (by simp)).mono ?_
 rintro e w4 ⟨rfl,h4,f4⟩
 have CC4:=Lh (((CC3.out).alloc _).step (by simp) h4 f4)
 clear h4 f4 e0 e3 ef d0 d2 d3
 obtain⟨e0,e3,ef,d0,d2,d3⟩:=CC4.out.cells
 clear g0
 have g0:=CC4.out.kid 0 j HJ0.out
 cases hdb:(AE x.m false [1] ⟨slots,seen,false⟩).bad with
 | true =>
  rw [hdb] at e3
  have HDB:=Lh hdb
  clear hdb
  go_wp2_with fail
  refine bodyPost_ret (results_none rfl _ _ _) rfl ?_
  refine ⟨rfl,?_,CC4.out.fr⟩
  have hr:=CC4.out.rl
  rw [Ez HDB.out,List.append_nil] at hr
  refine hr.toBad HDB.out ?_
  rw [HR.out]
  exact HRB.out HDB.out
 | false =>
  rw [hdb] at e3
  have HDB:=Lh hdb
  clear hdb
  go_wp2_with fail
  refine (HEB.out (vars ++ (Fi x.m false [1] ⟨slots,seen,false⟩)) (AE x.m false [1] ⟨slots,seen,false⟩) _ (fun _=>by have:=HDL.out;have:=HS.out;have:=HKO0.out.1;omega) CC4.out.rl CC4.out.nodes).mono ?_
  rintro e w5 ⟨rfl,h5,f5⟩
  have CC5:=Lh ((CC4.out).step (by simp) h5 f5)
  clear h5 f5 e0 e3 ef d0 d2 d3
  obtain⟨e0,e3,ef,d0,d2,d3⟩:=CC5.out.cells
  obtain⟨Av2,cv2,kv2,kw2,hcv2,hcm2⟩:=CC5.out.rl.varsCell
  have hclo:=CC5.out.rl.closed (R:=R) kv2 (k:=slots.length) (fun _ v hv=>((HI.out.lt v hv)).2) (fun v hv=>Iv hv) (fun hb=>by rw [HR.out];exact hb) (fun hb=>by rw [HR.out,GQ,GK HDB.out])
  have HCLO:=Lh hclo
  obtain⟨ne,hne⟩:∃ ne,(vars ++ (Fi x.m false [1] ⟨slots,seen,false⟩)).length=ne:=⟨_,rfl⟩
  have hnve:vars.length≤ne:=by rw [← hne,List.length_append];omega
  rw [hne] at kv2 hcv2
  have HNE:=Lh hne
  clear hclo hne
  clear g0
  have g0:=CC5.out.kid 0 j HJ0.out
  go_wp2_with fail
  go_end0
  obtain⟨g1,g2⟩:=HCLO.out
  exact ⟨rfl,g1,CC5.out.fr.trans (g2.more (by simp))⟩
section
variable (B kb tb toff cap:Nat) (ts:List Au) (htb:tb < B) (hl:ts.length≤2000) (htxt:∀ y∈ts,y.text.size≤1099511627776) (i:Nat) (x:Au) (hi:i < ts.length) (hbe:0≤Ap ts i) (hx:ts[i]? = some x) (vars:List Vr) (slots:List Int) (seen:Int→Option Value) (w:World) (hs:slots.length≤2 + 3 * i) (h:RL w B kb (.slice (some ⟨tb,toff,none⟩) ts.length cap) vars ⟨slots,seen,false⟩) (hn:As w tb toff ts) (hop:x.op=14)
include B kb tb toff cap ts htb hl htxt i x hi hbe hx vars slots seen w hs h hn hop
theorem NR (e1:(((Am ts i).length:Int) == 1)=false) :
  Calls Tryz.prog 207 #[.pointer (some ⟨kb,0,none⟩),.int .i64 i] w fun e w'=>e=.returned (.tuple #[])∧(RL w' B kb (.slice (some ⟨tb,toff,none⟩) ts.length cap) vars ⟨slots,seen,true⟩)∧Frm B [158,118,160] w w':=by
 obtain⟨c0,c1,c2,c3,c4,c5,c6⟩:=hn.all hx
 obtain⟨k0,k3,kf⟩:=h.cells
 simp only at k3
 obtain⟨hB,hks⟩:=h.size
 have hki:=AH B kb tb toff cap ts i x vars ⟨slots,seen,false⟩ w h hn htb hi hl
 obtain⟨n,hnk⟩:∃ n,(Am ts i).length=n:=⟨_,rfl⟩
 rw [hnk] at hki
 obtain⟨HKI,HNK,HX,HS,HBE,HT,H⟩:=Hd7 hki hnk hx hs hbe htxt h
 have hop2:=hop
 have q14:(x.op == 14)=true:=AB hop
 clear hop hop2
 rw [hnk] at e1
 clear h hn hki hx hs hbe htxt
 go_in
 go_wp2_with fail
 refine HKI.out.mono ?_
 rintro e w1 ⟨A,c,base,rfl,C1⟩
 obtain⟨e0,e3,ef,d0,d2,d3⟩:=C1.cells
 obtain⟨Av1,cv1,kv1,kw1,hcv1,hcm1⟩:=C1.rl.varsCell
 have CC1:=Lh C1
 have hz1:=C1.rl.size
 clear C1
 go_wp2_with fail
 refine (Cd B kb _ vars ⟨slots,seen,false⟩ _ _ (CC1.out).rl (.inl rfl)).mono ?_
 rintro e w2 ⟨rfl,h2,f2⟩
 have CC2:=Lh ((CC1.out).step (by simp) h2 f2)
 clear h2 f2 e0 e3 ef d0 d2 d3
 obtain⟨e0,e3,ef,d0,d2,d3⟩:=CC2.out.cells
 go_wp2_with fail
 refine (Bh B kb tb toff cap ts ⟨slots,seen,true⟩ vars i x 0 x.n x.m _ (.inr rfl) (CC2.out).rl HX.out (CC2.out).nodes hl).mono ?_
 rintro e w3 ⟨rfl,h3,f3⟩
 have CC3:=Lh ((CC2.out).step (by simp) h3 f3)
 clear h3 f3 e0 e3 ef d0 d2 d3
 obtain⟨e0,e3,ef,d0,d2,d3⟩:=CC3.out.cells
 have e3:w3.cell? ⟨kb,3,none⟩=some (.bool true):=e3
 go_wp2_with fail
 refine (Cp B kb x.m false [1] w3.heap.size 1 ⟨slots,seen,true⟩ vars _ _ (Nat.le_trans HS.out (by omega)) (by simp) (by simp) ((CC3.out).alloc _).rl (Blk.new w3 118 #[.int .i8 1]) (by simp)).mono ?_
 rintro e w4 ⟨rfl,h4,f4⟩
 have CC4:=Lh (((CC3.out).alloc _).step (by simp) h4 f4)
 clear h4 f4 e0 e3 ef d0 d2 d3
 obtain⟨e0,e3,ef,d0,d2,d3⟩:=CC4.out.cells
 have hdb:(AE x.m false [1] ⟨slots,seen,true⟩).bad=true:=by simp [AE]
 have e3:w4.cell? ⟨kb,3,none⟩=some (.bool true):=by rw [← hdb];exact e3
 have hr:=CC4.out.rl
 rw [Ez hdb,List.append_nil] at hr
 have HRR:=Lh (hr.toBad (s':=⟨slots,seen,true⟩) hdb rfl)
 clear hr hdb
 go_wp2_with fail
 refine bodyPost_ret (results_none rfl _ _ _) rfl ?_
 exact ⟨rfl,HRR.out,CC4.out.fr⟩
theorem On (e1:(((Am ts i).length:Int) == 1)=true) (dd1:decide (0≤x.n)=false) :
  Calls Tryz.prog 207 #[.pointer (some ⟨kb,0,none⟩),.int .i64 i] w fun e w'=>e=.returned (.tuple #[])∧(RL w' B kb (.slice (some ⟨tb,toff,none⟩) ts.length cap) vars ⟨slots,seen,true⟩)∧Frm B [158,118,160] w w':=by
 obtain⟨c0,c1,c2,c3,c4,c5,c6⟩:=hn.all hx
 obtain⟨k0,k3,kf⟩:=h.cells
 simp only at k3
 obtain⟨hB,hks⟩:=h.size
 have hki:=AH B kb tb toff cap ts i x vars ⟨slots,seen,false⟩ w h hn htb hi hl
 obtain⟨n,hnk⟩:∃ n,(Am ts i).length=n:=⟨_,rfl⟩
 rw [hnk] at hki
 obtain⟨HKI,HNK,HX,HS,HBE,HT,H⟩:=Hd7 hki hnk hx hs hbe htxt h
 have hop2:=hop
 have q14:(x.op == 14)=true:=AB hop
 clear hop hop2
 rw [hnk] at e1
 clear h hn hki hx hs hbe htxt
 go_in
 go_wp2_with fail
 refine HKI.out.mono ?_
 rintro e w1 ⟨A,c,base,rfl,C1⟩
 obtain⟨e0,e3,ef,d0,d2,d3⟩:=C1.cells
 obtain⟨Av1,cv1,kv1,kw1,hcv1,hcm1⟩:=C1.rl.varsCell
 have CC1:=Lh C1
 have hz1:=C1.rl.size
 clear C1
 go_wp2_with fail
 refine (Cd B kb _ vars ⟨slots,seen,false⟩ _ _ (CC1.out).rl (.inl rfl)).mono ?_
 rintro e w2 ⟨rfl,h2,f2⟩
 have CC2:=Lh ((CC1.out).step (by simp) h2 f2)
 clear h2 f2 e0 e3 ef d0 d2 d3
 obtain⟨e0,e3,ef,d0,d2,d3⟩:=CC2.out.cells
 go_wp2_with fail
 refine (Bh B kb tb toff cap ts ⟨slots,seen,true⟩ vars i x 0 x.n x.m _ (.inr rfl) (CC2.out).rl HX.out (CC2.out).nodes hl).mono ?_
 rintro e w3 ⟨rfl,h3,f3⟩
 have CC3:=Lh ((CC2.out).step (by simp) h3 f3)
 clear h3 f3 e0 e3 ef d0 d2 d3
 obtain⟨e0,e3,ef,d0,d2,d3⟩:=CC3.out.cells
 have e3:w3.cell? ⟨kb,3,none⟩=some (.bool true):=e3
 go_wp2_with fail
 refine (Cp B kb x.m false [1] w3.heap.size 1 ⟨slots,seen,true⟩ vars _ _ (Nat.le_trans HS.out (by omega)) (by simp) (by simp) ((CC3.out).alloc _).rl (Blk.new w3 118 #[.int .i8 1]) (by simp)).mono ?_
 rintro e w4 ⟨rfl,h4,f4⟩
 have CC4:=Lh (((CC3.out).alloc _).step (by simp) h4 f4)
 clear h4 f4 e0 e3 ef d0 d2 d3
 obtain⟨e0,e3,ef,d0,d2,d3⟩:=CC4.out.cells
 have hdb:(AE x.m false [1] ⟨slots,seen,true⟩).bad=true:=by simp [AE]
 have e3:w4.cell? ⟨kb,3,none⟩=some (.bool true):=by rw [← hdb];exact e3
 have hr:=CC4.out.rl
 rw [Ez hdb,List.append_nil] at hr
 have HRR:=Lh (hr.toBad (s':=⟨slots,seen,true⟩) hdb rfl)
 clear hr hdb
 go_wp2_with fail
 refine bodyPost_ret (results_none rfl _ _ _) rfl ?_
 exact ⟨rfl,HRR.out,CC4.out.fr⟩
theorem OM (e1:(((Am ts i).length:Int) == 1)=true) (dd1:decide (0≤x.n)=true) (dd2:decide (x.n≤255)=false) :
  Calls Tryz.prog 207 #[.pointer (some ⟨kb,0,none⟩),.int .i64 i] w fun e w'=>e=.returned (.tuple #[])∧(RL w' B kb (.slice (some ⟨tb,toff,none⟩) ts.length cap) vars ⟨slots,seen,true⟩)∧Frm B [158,118,160] w w':=by
 obtain⟨c0,c1,c2,c3,c4,c5,c6⟩:=hn.all hx
 obtain⟨k0,k3,kf⟩:=h.cells
 simp only at k3
 obtain⟨hB,hks⟩:=h.size
 have hki:=AH B kb tb toff cap ts i x vars ⟨slots,seen,false⟩ w h hn htb hi hl
 obtain⟨n,hnk⟩:∃ n,(Am ts i).length=n:=⟨_,rfl⟩
 rw [hnk] at hki
 obtain⟨HKI,HNK,HX,HS,HBE,HT,H⟩:=Hd7 hki hnk hx hs hbe htxt h
 have hop2:=hop
 have q14:(x.op == 14)=true:=AB hop
 clear hop hop2
 rw [hnk] at e1
 clear h hn hki hx hs hbe htxt
 go_in
 go_wp2_with fail
 refine HKI.out.mono ?_
 rintro e w1 ⟨A,c,base,rfl,C1⟩
 obtain⟨e0,e3,ef,d0,d2,d3⟩:=C1.cells
 obtain⟨Av1,cv1,kv1,kw1,hcv1,hcm1⟩:=C1.rl.varsCell
 have CC1:=Lh C1
 have hz1:=C1.rl.size
 clear C1
 go_wp2_with fail
 refine (Cd B kb _ vars ⟨slots,seen,false⟩ _ _ (CC1.out).rl (.inl rfl)).mono ?_
 rintro e w2 ⟨rfl,h2,f2⟩
 have CC2:=Lh ((CC1.out).step (by simp) h2 f2)
 clear h2 f2 e0 e3 ef d0 d2 d3
 obtain⟨e0,e3,ef,d0,d2,d3⟩:=CC2.out.cells
 go_wp2_with fail
 refine (Bh B kb tb toff cap ts ⟨slots,seen,true⟩ vars i x 0 x.n x.m _ (.inr rfl) (CC2.out).rl HX.out (CC2.out).nodes hl).mono ?_
 rintro e w3 ⟨rfl,h3,f3⟩
 have CC3:=Lh ((CC2.out).step (by simp) h3 f3)
 clear h3 f3 e0 e3 ef d0 d2 d3
 obtain⟨e0,e3,ef,d0,d2,d3⟩:=CC3.out.cells
 have e3:w3.cell? ⟨kb,3,none⟩=some (.bool true):=e3
 go_wp2_with fail
 refine (Cp B kb x.m false [1] w3.heap.size 1 ⟨slots,seen,true⟩ vars _ _ (Nat.le_trans HS.out (by omega)) (by simp) (by simp) ((CC3.out).alloc _).rl (Blk.new w3 118 #[.int .i8 1]) (by simp)).mono ?_
 rintro e w4 ⟨rfl,h4,f4⟩
 have CC4:=Lh (((CC3.out).alloc _).step (by simp) h4 f4)
 clear h4 f4 e0 e3 ef d0 d2 d3
 obtain⟨e0,e3,ef,d0,d2,d3⟩:=CC4.out.cells
 have hdb:(AE x.m false [1] ⟨slots,seen,true⟩).bad=true:=by simp [AE]
 have e3:w4.cell? ⟨kb,3,none⟩=some (.bool true):=by rw [← hdb];exact e3
 have hr:=CC4.out.rl
 rw [Ez hdb,List.append_nil] at hr
 have HRR:=Lh (hr.toBad (s':=⟨slots,seen,true⟩) hdb rfl)
 clear hr hdb
 go_wp2_with fail
 refine bodyPost_ret (results_none rfl _ _ _) rfl ?_
 exact ⟨rfl,HRR.out,CC4.out.fr⟩
theorem NE (e1:(((Am ts i).length:Int) == 1)=true) (dd1:decide (0≤x.n)=true) (dd2:decide (x.n≤255)=true) (hli:AO x 0 x.n x.m=false) :
  Calls Tryz.prog 207 #[.pointer (some ⟨kb,0,none⟩),.int .i64 i] w fun e w'=>e=.returned (.tuple #[])∧(RL w' B kb (.slice (some ⟨tb,toff,none⟩) ts.length cap) vars ⟨slots,seen,true⟩)∧Frm B [158,118,160] w w':=by
 obtain⟨c0,c1,c2,c3,c4,c5,c6⟩:=hn.all hx
 obtain⟨k0,k3,kf⟩:=h.cells
 simp only at k3
 obtain⟨hB,hks⟩:=h.size
 have hki:=AH B kb tb toff cap ts i x vars ⟨slots,seen,false⟩ w h hn htb hi hl
 obtain⟨n,hnk⟩:∃ n,(Am ts i).length=n:=⟨_,rfl⟩
 rw [hnk] at hki
 obtain⟨HKI,HNK,HX,HS,HBE,HT,H⟩:=Hd7 hki hnk hx hs hbe htxt h
 have hop2:=hop
 have q14:(x.op == 14)=true:=AB hop
 clear hop hop2
 rw [hnk] at e1
 have HLI:=Lh hli
 clear hli
 clear h hn hki hx hs hbe htxt
 go_in
 go_wp2_with fail
 refine HKI.out.mono ?_
 rintro e w1 ⟨A,c,base,rfl,C1⟩
 obtain⟨e0,e3,ef,d0,d2,d3⟩:=C1.cells
 obtain⟨Av1,cv1,kv1,kw1,hcv1,hcm1⟩:=C1.rl.varsCell
 have CC1:=Lh C1
 have hz1:=C1.rl.size
 clear C1
 go_wp2_with fail
 refine (Bx B kb _ vars ⟨slots,seen,false⟩ _ (CC1.out).rl).mono ?_
 rintro e w2 ⟨rfl,h2,f2⟩
 have CC2:=Lh ((CC1.out).step (by simp) h2 f2)
 clear h2 f2 e0 e3 ef d0 d2 d3
 obtain⟨e0,e3,ef,d0,d2,d3⟩:=CC2.out.cells
 go_wp2_with fail
 refine (Bh B kb tb toff cap ts ⟨slots,seen,false⟩ vars i x 0 x.n x.m _ (.inl HLI.out) (CC2.out).rl HX.out (CC2.out).nodes hl).mono ?_
 rintro e w3 ⟨rfl,h3,f3⟩
 have CC3:=Lh ((CC2.out).step (by simp) h3 f3)
 clear h3 f3 e0 e3 ef d0 d2 d3
 obtain⟨e0,e3,ef,d0,d2,d3⟩:=CC3.out.cells
 have e3:w3.cell? ⟨kb,3,none⟩=some (.bool true):=e3
 go_wp2_with fail
 refine (Cp B kb x.m false [1] w3.heap.size 1 ⟨slots,seen,true⟩ vars _ _ (Nat.le_trans HS.out (by omega)) (by simp) (by simp) ((CC3.out).alloc _).rl (Blk.new w3 118 #[.int .i8 1]) (by simp)).mono ?_
 rintro e w4 ⟨rfl,h4,f4⟩
 have CC4:=Lh (((CC3.out).alloc _).step (by simp) h4 f4)
 clear h4 f4 e0 e3 ef d0 d2 d3
 obtain⟨e0,e3,ef,d0,d2,d3⟩:=CC4.out.cells
 have hdb:(AE x.m false [1] ⟨slots,seen,true⟩).bad=true:=by simp [AE]
 have e3:w4.cell? ⟨kb,3,none⟩=some (.bool true):=by rw [← hdb];exact e3
 have hr:=CC4.out.rl
 rw [Ez hdb,List.append_nil] at hr
 have HRR:=Lh (hr.toBad (s':=⟨slots,seen,true⟩) hdb rfl)
 clear hr hdb
 go_wp2_with fail
 refine bodyPost_ret (results_none rfl _ _ _) rfl ?_
 exact ⟨rfl,HRR.out,CC4.out.fr⟩
end
theorem Ny (B kb tb toff cap:Nat) (ts:List Au) (htb:tb < B) (hl:ts.length≤2000) (htxt:∀ y∈ts,y.text.size≤1099511627776) (i:Nat) (x:Au) (hi:i < ts.length) (hbe:0≤Ap ts i) (hx:ts[i]? = some x)
  (vars:List Vr) (slots:List Int) (seen:Int→Option Value) (w:World) (hs:slots.length≤2 + 3 * i) (h:RL w B kb (.slice (some ⟨tb,toff,none⟩) ts.length cap) vars ⟨slots,seen,false⟩) (hn:As w tb toff ts)
  (hop:x.op=16)  (hli:AO x 0 x.n 0=true) (j b d:Nat) (hj:Am ts i=[j,b,d]) (recS recB:Nat→LSt→LSt) (hB13:∀ j∈Am ts i,B13 B kb tb toff cap ts recB j)
  (hln:(forget x.n (AS ts recS recB 0 [b] (AE x.n false [3] (AD ts j 6 ⟨slots,seen,false⟩)))).slots.length≤2 + 3 * d) :
  Calls Tryz.prog 207 #[.pointer (some ⟨kb,0,none⟩),.int .i64 i] w fun e w'=>e=.returned (.tuple #[])∧(RL w' B kb (.slice (some ⟨tb,toff,none⟩) ts.length cap) vars (if (forget x.n (AS ts recS recB 0 [b] (AE x.n false [3] (AD ts j 6 ⟨slots,seen,false⟩)))).bad=true then (forget x.n (AS ts recS recB 0 [b] (AE x.n false [3] (AD ts j 6 ⟨slots,seen,false⟩)))) else recB d (forget x.n (AS ts recS recB 0 [b] (AE x.n false [3] (AD ts j 6 ⟨slots,seen,false⟩))))))∧Frm B [158,118,160] w w':=by
 have hj0:=hj
 have h0:=h
 obtain⟨c0,c1,c2,c3,c4,c5,c6⟩:=hn.all hx
 obtain⟨k0,k3,kf⟩:=h.cells
 simp only at k3
 obtain⟨hB,hks⟩:=h.size
 have hki:=AH B kb tb toff cap ts i x vars ⟨slots,seen,false⟩ w h hn htb hi hl
 have hnk:(Am ts i).length=3:=by rw [hj];rfl
 rw [hnk] at hki
 have HJ0:Hid ((Am ts i)[0]? = some j):=by rw [hj];rfl
 have hko0:=AU (ts:=ts) (i:=i) (j:=j) (by rw [hj];simp)
 have HKO0:=Lh hko0
 clear hko0
 have HJ1:Hid ((Am ts i)[1]? = some b):=by rw [hj];rfl
 have hko1:=AU (ts:=ts) (i:=i) (j:=b) (by rw [hj];simp)
 have HKO1:=Lh hko1
 clear hko1
 have HJ2:Hid ((Am ts i)[2]? = some d):=by rw [hj];rfl
 have hko2:=AU (ts:=ts) (i:=i) (j:=d) (by rw [hj];simp)
 have HKO2:=Lh hko2
 clear hko2
 obtain⟨HKI,HNK,HX,HS,HBE,HT,H,HJ⟩:=Hd8 hki hnk hx hs hbe htxt h hj
 clear hj
 have hop2:=hop
 have q14:(x.op == 14)=false:=Ao (by omega)
 have q15:(x.op == 15)=false:=Ao (by omega)
 have q16:(x.op == 16)=true:=AB hop
 clear hop hop2
 have HLI:=Lh hli
 clear hli
 obtain⟨HEB,HEB3,HI⟩:=Hd3 (hB13 b (by rw [hj0];simp)) (hB13 d (by rw [hj0];simp)) h0.good.2
 have HDL:Hid ((AE x.n false [3] (AD ts j 6 ⟨slots,seen,false⟩)).slots.length≤slots.length + 1):=Lh (B7 x.n false [3] (AD ts j 6 ⟨slots,seen,false⟩))
 obtain⟨R,hR⟩:=Ex0 (forget x.n (AS ts recS recB 0 [b] (AE x.n false [3] (AD ts j 6 ⟨slots,seen,false⟩))))
 rw [← hR] at hln ⊢
 obtain⟨R3,hR3⟩:=Ex0 (if R.bad=true then R else recB d R)
 rw [← hR3]
 have HR3:=Lh hR3
 clear hR3
 have hR2:R=forget x.n (if (AE x.n false [3] (AD ts j 6 ⟨slots,seen,false⟩)).bad=true then AE x.n false [3] (AD ts j 6 ⟨slots,seen,false⟩) else recB b (AE x.n false [3] (AD ts j 6 ⟨slots,seen,false⟩))):=by
  rw [hR,AS,AS]
  split
  ·rfl
  ·rw [if_neg (by rintro ⟨h,_⟩;cases h)]
 obtain⟨HR,HLN⟩:=Hd2 hR2 hln
 have HRB:Hid ((AE x.n false [3] (AD ts j 6 ⟨slots,seen,false⟩)).bad=true→(forget x.n (if (AE x.n false [3] (AD ts j 6 ⟨slots,seen,false⟩)).bad=true then AE x.n false [3] (AD ts j 6 ⟨slots,seen,false⟩) else recB b (AE x.n false [3] (AD ts j 6 ⟨slots,seen,false⟩)))).bad=true):=fun hb=>by rw [if_pos hb];exact hb
 clear hR hR2 hB13 hj0 h0 hln
 clear h hn hki hx hs hbe htxt hnk
 go_in
 go_wp2_with fail
 refine HKI.out.mono ?_
 rintro e w1 ⟨A,c,base,rfl,C1⟩
 obtain⟨gk,rfl⟩:=C1.form (by decide)
 obtain⟨e0,e3,ef,d0,d2,d3⟩:=C1.cells
 obtain⟨Av1,cv1,kv1,kw1,hcv1,hcm1⟩:=C1.rl.varsCell
 have g0:=C1.kid 0 j HJ0.out
 have g1:=C1.kid 1 b HJ1.out
 have g2:=C1.kid 2 d HJ2.out
 have CC1:=Lh C1
 have hz1:=C1.rl.size
 clear C1
 go_wp2_with fail
 refine (Bx B kb _ vars ⟨slots,seen,false⟩ _ (CC1.out).rl).mono ?_
 rintro e w2 ⟨rfl,h2,f2⟩
 have CC2:=Lh ((CC1.out).step (by simp) h2 f2)
 clear h2 f2 e0 e3 ef d0 d2 d3
 obtain⟨e0,e3,ef,d0,d2,d3⟩:=CC2.out.cells
 clear g0
 have g0:=CC2.out.kid 0 j HJ0.out
 clear g1
 have g1:=CC2.out.kid 1 b HJ1.out
 clear g2
 have g2:=CC2.out.kid 2 d HJ2.out
 go_wp2_with fail
 refine (CK B kb tb toff cap ts ⟨slots,seen,false⟩ vars i x 0 x.n 0 _ HLI.out (CC2.out).rl HX.out (CC2.out).nodes hl).mono ?_
 rintro e w3 ⟨rfl,h3,f3⟩
 have CC3:=Lh ((CC2.out).step (by simp) h3 f3)
 clear h3 f3 e0 e3 ef d0 d2 d3
 obtain⟨e0,e3,ef,d0,d2,d3⟩:=CC3.out.cells
 clear g0
 have g0:=CC3.out.kid 0 j HJ0.out
 clear g1
 have g1:=CC3.out.kid 1 b HJ1.out
 clear g2
 have g2:=CC3.out.kid 2 d HJ2.out
 go_wp2_with fail
 refine (Db B kb tb toff cap ts (by omega) htb HT.out j 6 slots vars seen _ HKO0.out.2.1 HKO0.out.2.2.1 (Nat.le_trans HS.out (by omega)) (CC3.out).rl (CC3.out).nodes).mono ?_
 rintro e w4 ⟨rfl,h4,f4⟩
 have CC4:=Lh ((CC3.out).step (by simp) h4 f4)
 clear h4 f4 e0 e3 ef d0 d2 d3
 obtain⟨e0,e3,ef,d0,d2,d3⟩:=CC4.out.cells
 clear g0
 have g0:=CC4.out.kid 0 j HJ0.out
 clear g1
 have g1:=CC4.out.kid 1 b HJ1.out
 clear g2
 have g2:=CC4.out.kid 2 d HJ2.out
 go_wp2_with fail
 refine (Cp B kb x.n false [3] w4.heap.size 1 (AD ts j 6 ⟨slots,seen,false⟩) vars _ _ (Nat.le_trans HS.out (by omega)) (by simp) (by simp) ((CC4.out).alloc _).rl (Blk.new w4 118 #[.int .i8 3]) (by simp)).mono ?_
 rintro e w5 ⟨rfl,h5,f5⟩
 have CC5:=Lh (((CC4.out).alloc _).step (by simp) h5 f5)
 clear h5 f5 e0 e3 ef d0 d2 d3
 obtain⟨e0,e3,ef,d0,d2,d3⟩:=CC5.out.cells
 clear g0
 have g0:=CC5.out.kid 0 j HJ0.out
 clear g1
 have g1:=CC5.out.kid 1 b HJ1.out
 clear g2
 have g2:=CC5.out.kid 2 d HJ2.out
 cases hdb:(AE x.n false [3] (AD ts j 6 ⟨slots,seen,false⟩)).bad with
 | true =>
  rw [hdb] at e3
  have HDB:=Lh hdb
  clear hdb
  go_wp2_with fail
  refine bodyPost_ret (results_none rfl _ _ _) rfl ?_
  refine ⟨rfl,?_,CC5.out.fr⟩
  have hr:=CC5.out.rl
  rw [Ez HDB.out,List.append_nil] at hr
  have hrb:R.bad=true:=by rw [HR.out];exact HRB.out HDB.out
  rw [HR3.out,if_pos hrb]
  exact hr.toBad HDB.out hrb
 | false =>
  rw [hdb] at e3
  have HDB:=Lh hdb
  clear hdb
  go_wp2_with fail
  refine (HEB.out (vars ++ (Fi x.n false [3] (AD ts j 6 ⟨slots,seen,false⟩))) (AE x.n false [3] (AD ts j 6 ⟨slots,seen,false⟩)) _ (fun _=>by have:=HDL.out;have:=HS.out;have:=HKO1.out.1;omega) CC5.out.rl CC5.out.nodes).mono ?_
  rintro e w6 ⟨rfl,h6,f6⟩
  have CC6:=Lh ((CC5.out).step (by simp) h6 f6)
  clear h6 f6 e0 e3 ef d0 d2 d3
  obtain⟨e0,e3,ef,d0,d2,d3⟩:=CC6.out.cells
  obtain⟨Av2,cv2,kv2,kw2,hcv2,hcm2⟩:=CC6.out.rl.varsCell
  have hclo:=CC6.out.rl.closed (R:=R) kv2 (k:=slots.length) (fun _ v hv=>((HI.out.lt v hv)).2) (fun v hv=>Iv hv) (fun hb=>by rw [HR.out];exact hb) (fun hb=>by rw [HR.out,GQ,GK HDB.out])
  have HCLO:=Lh hclo
  obtain⟨ne,hne⟩:∃ ne,(vars ++ (Fi x.n false [3] (AD ts j 6 ⟨slots,seen,false⟩))).length=ne:=⟨_,rfl⟩
  have hnve:vars.length≤ne:=by rw [← hne,List.length_append];omega
  rw [hne] at kv2 hcv2
  have HNE:=Lh hne
  clear hclo hne
  clear g0
  have g0:=CC6.out.kid 0 j HJ0.out
  clear g1
  have g1:=CC6.out.kid 1 b HJ1.out
  clear g2
  have g2:=CC6.out.kid 2 d HJ2.out
  have hrb:R.bad=(if (AE x.n false [3] (AD ts j 6 ⟨slots,seen,false⟩)).bad=true then AE x.n false [3] (AD ts j 6 ⟨slots,seen,false⟩) else recB b (AE x.n false [3] (AD ts j 6 ⟨slots,seen,false⟩))).bad:=by rw [HR.out];rfl
  rw [← hrb] at e3
  have HRB2:=Lh hrb
  clear hrb
  cases hsb:R.bad with
  | true =>
   rw [hsb] at e3
   have HSB:=Lh hsb
   clear hsb
   go_wp2_with fail
   go_end0
   obtain⟨g1,g2⟩:=HCLO.out
   exact ⟨rfl,by rw [HR3.out,if_pos HSB.out];exact g1,CC6.out.fr.trans (g2.more (by simp))⟩
  | false =>
   rw [hsb] at e3
   have HSB:=Lh hsb
   clear hsb
   obtain⟨gc1,gc2⟩:=HCLO.out
   have CC7:=Lh (CC6.out.step (by simp) gc1 gc2)
   clear gc1 gc2
   have hgk:=CC6.out.kidNe
   have hgk2:=hgk.symm
   go_wp2_with fail
   refine (HEB3.out vars R _ (fun _=>HLN.out) CC7.out.rl CC7.out.nodes).mono ?_
   rintro e w8 ⟨rfl,h8,f8⟩
   have CC8:=Lh (CC7.out.step (by simp) h8 f8)
   clear h8 f8
   go_wp2_with fail
   go_end0
   exact ⟨rfl,by rw [HR3.out];exact CC8.out.rl,CC8.out.fr⟩
end Go.Proofs.YtmpcbaflcogmmaaGreatDoor
