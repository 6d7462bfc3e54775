/- Block Stmt3 Stmt10 Stmt12 -/
import Derived.Test.YtmpcbaflcogmmaaGreatDoorExpr6
import Derived.Test.YtmpcbaflcogmmaaGreatDoorLook13
import Derived.Test.YtmpcbaflcogmmaaGreatDoorOper
namespace Go.Proofs.YtmpcbaflcogmmaaGreatDoor
open Go.RowKit
set_option linter.all false
set_option maxHeartbeats 3200000
set_option maxRecDepth 100000
theorem LK.forgot {w w':World} {B kb mb:Nat} {tv:Value} {s:LSt} (h:LK w B kb tv s) {n:Int} (hm:MK CB w mb s.seen) (hmb:B≤mb) (hc:w.cell? ⟨kb,2,none⟩=some (.map (some mb))) (hm':MK CB w' mb (upd CB s.seen n none)) (hg:w.grownBy w' (some mb)) (T:List TypeId) :
  LK w' B kb tv (forget n s)∧Frm B T w w':=by
 have hs:=h.size
 obtain⟨sv,mb2,h1,h2,h3,h4,h5⟩:=h
 have e:mb2=mb:=by
  have:=(h3.cell 2).symm.trans hc
  injection this with this
  injection this with this
  injection this
 subst e
 exact ⟨⟨sv,mb2,h1,h2,h3.grown hg (by intro e;injection e with e;exact MK.blk_ne h4 h3 e.symm),hm',h5.kept hg (.inr (MK.own_ne h4 h5))⟩,
  (Frm.refl B T w).map hm hmb hg (by omega)⟩
section
variable (B kb tb toff cap:Nat) (ts:List Au) (recS:Nat→LSt→LSt)
theorem RZ (htb:tb < B) (hl:ts.length≤100000) (hGS:∀ i s,Ci s→Ci (recS i s)) (hLS:Is ts recS) (i:Nat) (hi:i < ts.length) (hbe:0≤Ap ts i)
  (he:∀ j∈Am ts i,j < ts.length∧SAt 143 B kb tb toff cap ts recS j) :
  SAt 103 B kb tb toff cap ts (CW ts recS) i:=by
 intro s w hb hg hs h hn
 obtain⟨x,hx⟩:∃ x,ts[i]? = some x:=⟨_,List.getElem?_eq_getElem hi⟩
 have hgx:ts.getD i AF=x:=by rw [List.getD_eq_getElem?_getD,hx];rfl
 obtain⟨slots,seen,bad⟩:=s
 simp only at hb
 subst hb
 have c0:=hn.op hx
 obtain⟨k0,k3⟩:=h.cells
 simp only at k3
 obtain⟨hBk,hks⟩:=h.size
 obtain⟨HH,HN,HX,HGX,HE,HG,HGS,HLS,HS,HBE⟩:=Hd10 h hn hx hgx he hg hGS hLS hs hbe
 clear h hn hx hgx he hg hGS hLS hs hbe
 by_cases hop:x.op=10
 ·have q1:=AB hop
  cases hlk:AO x 0 0 0 with
  | false =>
   have hR:CW ts recS i ⟨slots,seen,false⟩=⟨slots,seen,true⟩:=by
    unfold CW
    simp only [HGX.out,hlk]
    rw [if_neg (by simp)]
    rfl
   rw [hR]
   have HLB:=Lh hlk
   clear hop hlk hR
   go_in
   go_wp2_with fail
   refine (BQ B kb _ slots seen _ HH.out).mono ?_
   rintro e w1 ⟨rfl,h1,f1⟩
   have n1:=f1.nodes HN.out htb
   obtain⟨H1,F1,N1⟩:=Hd3 h1 f1 n1
   clear h1 f1 n1
   go_wp2_with fail
   refine (DI B kb tb toff cap ts slots seen i x 0 0 0 _ false HLB.out H1.out HX.out N1.out hl).mono ?_
   rintro e w2 ⟨rfl,h2,f2⟩
   go_wp2_with fail
   refine bodyPost_ret (results_none rfl _ _ _) rfl ?_
   exact ⟨rfl,h2,(F1.out.trans f2).more (by simp)⟩
  | true =>
   obtain⟨R,hR⟩:=Ex0 (CW ts recS i ⟨slots,seen,false⟩)
   rw [← hR]
   have hR2:R=Bl ts recS (Am ts i) [] ⟨slots,seen,false⟩:=by
    rw [hR]
    unfold CW
    simp only [HGX.out,hlk]
    rw [if_pos ⟨hop,trivial⟩]
   obtain⟨n,hnk⟩:∃ n,(Am ts i).length=n:=⟨_,rfl⟩
   have hnl:n≤100000:=by
    have h1:=Ca HBE.out
    have h2:∀ (l:List Nat) (p q:Nat),Cj ts p q l→p + l.length≤q:=fun l=>by
     induction l with
     | nil=>intro p q h;simp only [Cj] at h;simp;omega
     | cons k r ih =>
      intro p q h
      have:=ih _ _ h.2.2.2
      have:=h.2.2.1
      simp only [List.length_cons];omega
    have h3:=h2 _ _ _ h1
    have h4:(Ap ts i).toNat≤ts.length:=by
     have:=HBE.out
     rw [BV] at this ⊢
     rcases hz:(Bc ts.length ts)[i]? with _ | _ | z <;> rw [hz] at this <;> simp only at this ⊢
     ·omega
     ·omega
     ·have:=Dv hz;omega
    omega
   obtain⟨HLB,HR,HK⟩:=Hd3 hlk hR2 hnk
   clear hop hlk hR hR2 hnk
   go_in
   go_wp2_with fail
   refine (BQ B kb _ slots seen _ HH.out).mono ?_
   rintro e w1 ⟨rfl,h1,f1⟩
   have n1:=f1.nodes HN.out htb
   obtain⟨H1,F1,N1⟩:=Hd3 h1 f1 n1
   clear h1 f1 n1
   go_wp2_with fail
   refine (Cl B kb tb toff cap ts slots seen i x 0 0 0 _ HLB.out H1.out HX.out N1.out hl).mono ?_
   rintro e w2 ⟨rfl,h2,f2⟩
   obtain⟨k0,k3⟩:=h2.cells
   have n2:=f2.nodes N1.out htb
   have hz2:=h2.size
   obtain⟨H2,F2,N2⟩:=Hd3 h2 (F1.out.trans f2) n2
   clear h2 f2 n2
   go_wp2_with fail
   refine (Iz tb toff cap ts i _ hl N2.out (by omega) hi).mono ?_
   rintro e w3 ⟨kv,rfl,hown,hbel⟩
   rw [HK.out] at hown
   obtain⟨A,c,rfl⟩:=AJ hown
   have h3:=H2.out.below hbel (Nat.le_refl _)
   have f3:Frm B [144,118] w w3:=(F2.out.more (by simp)).trans (Frm.of_below hbel (by omega))
   have hsz3:=hbel.size
   obtain⟨HOW,HZ3,H3,F3⟩:=Hd4 hown hsz3 h3 f3
   clear hown h3 f3 hbel
   go_wp2_with fail
   go_loopw [4,6,34] (fun ov _ iv wr=>∃ (k p':Nat) (own:List Int) (s':LSt),w3.heap.size≤wr.heap.size∧k≤n∧own.length≤k∧iv=.int .i64 k∧Hid (R=Bl ts recS ((Am ts i).drop k) own s')∧Hid (Ci s')∧Hid (Cj ts p' (Ap ts i).toNat ((Am ts i).drop k))∧s'.slots.length≤2 + 3 * p' ∧
     LK wr B kb (.slice (some ⟨tb,toff,none⟩) ts.length cap) s'∧Frm B [144,118] w wr∧wr.ownsRow w3.heap.size 3 1 ov own.length (own.map (Value.int .i64))∧wr.ownsRow w2.heap.size 3 1 (.slice A n c) n ((Am ts i).map fun j:Nat=>Value.int .i64 j))
    (fun _ _ iv _=>n - (intOf iv).toNat)
   case atStart=>exact ⟨0,i + 1,[],⟨slots,seen,false⟩,by omega,by omega,by simp,rfl,HR,HG,Ca HBE.out,by have:=HS.out;simp only at this ⊢;omega,H3.out,F3.out,World.ownsRow_nil _ _ _ _,HOW.out⟩
   case round =>
    obtain⟨k,p',own,s',hw3,hk,hol,rfl,HR',HG',HC',hs',hlk,hfr,hown,hkid⟩:=hrel
    obtain⟨ol,hol2⟩:∃ ol,own.length=ol:=⟨_,rfl⟩
    rw [hol2] at hown hol
    obtain⟨A2,c2,rfl⟩:=AJ hown
    obtain⟨kc0,kc3⟩:=hlk.cells
    by_cases hlt:k < n
    ·obtain⟨j,hj⟩:∃ j,(Am ts i)[k]? = some j:=⟨_,List.getElem?_eq_getElem (by rw [HK.out];exact hlt)⟩
     obtain⟨hjl,heS⟩:=HE.out j (List.mem_of_getElem? hj)
     obtain⟨y,hy⟩:∃ y,ts[j]? = some y:=⟨_,List.getElem?_eq_getElem hjl⟩
     have hgj:ts.getD j AF=y:=by rw [List.getD_eq_getElem?_getD,hy];rfl
     have hdrop:(Am ts i).drop k=j :: (Am ts i).drop (k + 1):=by
      obtain⟨h2,h3⟩:=List.getElem?_eq_some_iff.1 hj
      rw [List.drop_eq_getElem_cons h2,h3]
     obtain⟨gk,hgk,hcA⟩:∃ gk,A=some ⟨gk,0,none⟩∧wr.cell? ⟨gk,k,none⟩=some (.int .i64 j):=by
      obtain⟨A',c',e1,h0⟩:=Cm hkid
      injection e1 with e1 e2 e3
      subst e1
      obtain⟨gk,h3,_,h4⟩:=h0 (by omega)
      refine ⟨gk,h3,?_⟩
      rw [h4.cellAt k (by omega)]
      simp [hj]
     subst hgk
     have HKW:Hid (w3.ownsRow w2.heap.size 3 1 (.slice (some ⟨gk,0,none⟩) n c) n ((Am ts i).map fun j:Nat=>Value.int .i64 j)):=HOW.out
     have hR1:=HR'.out
     rw [hdrop,Bl,hgj] at hR1
     have hC1:=HC'.out
     rw [hdrop] at hC1
     obtain⟨rfl,g1,g2,g3⟩:=hC1
     have hnr:=hfr.nodes HN.out htb
     obtain⟨HR1,HC1,HLKx,HFR,HNR,HES,HOL,HOWN,HKID,HY,HGJ⟩:=Hd11 hR1 g3 hlk hfr hnr heS hol2 hown hkid hy hgj
     clear hR1 g3 hlk hfr hnr heS hdrop hj hgj hy hol2 hown hkid
     cases hbb:s'.bad with
     | true =>
      rw [hbb] at kc3
      go_wp2_with fail
      refine bodyPost_ret (results_none rfl _ _ _) rfl ?_
      have hfin:=HR1.out
      rw [if_pos hbb] at hfin
      exact ⟨rfl,by rw [hfin];exact HLKx.out,HFR.out⟩
     | false =>
      rw [hbb] at kc3
      go_wp2_with fail
      refine (HES.out s' wr hbb HG'.out hs' HLKx.out HNR.out).mono ?_
      rintro e w4 ⟨rfl,h4,f4⟩
      obtain⟨kd0,kd3⟩:=h4.cells
      have n4:=f4.nodes HNR.out htb
      have d0:=n4.op HY.out
      have d2:=n4.n HY.out
      have hown4:=f4.own HOWN.out (by decide)
      have hkid4:=f4.own HKID.out (by decide)
      have hsz4:=f4.size
      obtain⟨H4,F4,N4,OW4,KD4⟩:=Hd5 h4 (HFR.out.trans f4) n4 hown4 hkid4
      have hnext:R=Bl ts recS ((Am ts i).drop (k + 1)) (if y.op=11 then own ++ [y.n] else own) (recS j s'):=by
       have:=HR1.out
       rw [if_neg (by rw [hbb];decide)] at this
       exact this
      have HNX:=Lh hnext
      clear h4 f4 n4 hown4 hkid4 hnext
      cases hlet:(y.op == 11) with
      | true =>
       have hy11:y.op=11:=by simpa using hlet
       have HY11:=Lh hy11
       clear hy11
       go_wp2_with (at_builtin;go_loud (refine Cb Tryz.elInts rfl _ _ rfl w3.heap.size w4 [.int .i64 y.n] rfl _ _ _ rfl OW4.out rfl rfl (by simp [Value.oneCell']) (by unfold maxLen;omega) (by omega) (by omega) ?_;intro v5 w5 hown5 hg5))
       go_roundw
       case rel =>
        refine ⟨k + 1,_,own ++ [y.n],recS j s',Nat.le_trans (by omega) hg5.size,by omega,by rw [List.length_append,HOL.out];simp;omega,by go_num,?_,HGS.out _ _ HG'.out,HC1,HLS.out _ _ g1 g2 hs',H4.out.grownInts OW4.out hg5,F4.out.grownNew OW4.out hg5 (Nat.le_trans F2.out.size HZ3.out) (by omega),?_,KD4.out.kept hg5 ?_⟩
        ·have:=HNX.out
         rw [if_pos HY11.out] at this
         exact this
        ·rw [List.length_append,HOL.out,List.map_append]
         exact hown5
        ·right
         intro e5
         have l1:=OW4.out.lt gk e5.symm
         have l2:=KD4.out.lt gk rfl
         have l3:=HKW.out.lt gk rfl
         omega
       case measure=>(simp [intOf];try omega)
      | false =>
       have hy11:¬ y.op=11:=by simpa using hlet
       have HY11:=Lh hy11
       clear hy11
       go_wp2_with fail
       go_roundw
       case rel =>
        refine ⟨k + 1,_,own,recS j s',by omega,by omega,by rw [HOL.out];omega,by go_num,?_,HGS.out _ _ HG'.out,HC1,HLS.out _ _ g1 g2 hs',H4.out,F4.out,by rw [HOL.out];exact OW4.out,KD4.out⟩
        have:=HNX.out
        rw [if_neg HY11.out] at this
        exact this
       case measure=>(simp [intOf];try omega)
    ·have hkn:k=n:=by omega
     have hfin:R=own.foldl (fun s n=>forget n s) s':=by
      rw [HR'.out,List.drop_of_length_le (by rw [HK.out];omega),Bl]
     obtain⟨HFin,HOL,HLKx,HFR,HOWN⟩:=Hd5 hfin hol2 hlk hfr hown
     clear hfin hol2 hlk hfr hown hkid
     have hlt2:¬ ((k:Int) < n):=by omega
     go_wp2_with fail
     go_loopw [8,68] (fun _ iv wq=>∃ (k2:Nat) (s2:LSt),k2≤ol∧iv=.int .i64 k2∧Hid (R=(own.drop k2).foldl (fun s n=>forget n s) s2) ∧
       LK wq B kb (.slice (some ⟨tb,toff,none⟩) ts.length cap) s2∧Frm B [144,118] w wq∧wq.ownsRow w3.heap.size 3 1 (.slice A2 ol c2) ol (own.map (Value.int .i64)))
      (fun _ iv _=>ol - (intOf iv).toNat)
     case atStart=>exact ⟨0,s',by omega,rfl,HFin,HLKx.out,HFR.out,HOWN.out⟩
     case round =>
      obtain⟨k2,s2,hk2,rfl,HR2,hlk2,hfr2,hown2⟩:=hrel
      by_cases hlt3:k2 < ol
      ·obtain⟨z,hz⟩:∃ z,own[k2]? = some z:=⟨_,List.getElem?_eq_getElem (by rw [HOL.out];exact hlt3)⟩
       have hdrop:own.drop k2=z :: own.drop (k2 + 1):=by
        obtain⟨h2,h3⟩:=List.getElem?_eq_some_iff.1 hz
        rw [List.drop_eq_getElem_cons h2,h3]
       obtain⟨gk,hgk,hcA⟩:∃ gk,A2=some ⟨gk,0,none⟩∧wr.cell? ⟨gk,k2,none⟩=some (.int .i64 z):=by
        obtain⟨A',c',e1,h0⟩:=Cm hown2
        injection e1 with e1 e2 e3
        subst e1
        obtain⟨gk,h3,_,h4⟩:=h0 (by omega)
        refine ⟨gk,h3,?_⟩
        rw [h4.cellAt k2 (by omega)]
        simp [hz]
       subst hgk
       obtain⟨sv,mb,hmb,_,kq2,hm,_,_⟩:=hlk2.parts
       have HM:=Lh hm
       have hR3:=HR2.out
       rw [hdrop,List.foldl_cons] at hR3
       obtain⟨HR3,HL2,HF2,HO2⟩:=Hd4 hR3 hlk2 hfr2 hown2
       clear hdrop hR3 hm hlk2 hfr2 hown2 hz
       obtain⟨w6,hrun,hm6,hg6⟩:=HM.out.delete CB Tryz.underlying142 z 0
       have hrun2:(Builtin.delete_ #[142,3] 0 #[.map (some mb),.int .i64 z]).run Tryz.prog wr=.ok (.tuple #[]) w6:=hrun
       obtain⟨hl6,f6⟩:=HL2.out.forgot HM.out hmb kq2 hm6 hg6 [144,118]
       obtain⟨HM6,HL6,F6,HG6⟩:=Hd4 hm6 hl6 f6 hg6
       clear hrun hm6 hl6 f6 hg6
       go_wp2_with fail
       go_roundw
       case rel=>exact ⟨k2 + 1,forget z s2,by omega,by go_num,HR3,HL6.out,HF2.out.trans F6.out,HO2.out.kept HG6.out (.inr (MK.own_ne HM.out HO2.out))⟩
       case measure=>(simp [intOf];try omega)
      ·have hke:k2=ol:=by omega
       have hfin2:R=s2:=by rw [HR2.out,List.drop_of_length_le (by rw [HOL.out];omega)];rfl
       have HFin2:=Lh hfin2
       clear hfin2
       go_wp2_with fail
       go_end0
       exact ⟨rfl,by rw [HFin2.out];exact hlk2,hfr2⟩
 ·have q1:=Ao hop
  have hR:CW ts recS i ⟨slots,seen,false⟩=⟨slots,seen,true⟩:=by
   unfold CW
   simp only [HGX.out]
   rw [if_neg (fun h=>hop h.1)]
   rfl
  rw [hR]
  clear hop hR
  go_in
  go_wp2_with fail
  refine (Dq B kb _ slots seen _ false HH.out).mono ?_
  rintro e w1 ⟨rfl,h1,f1⟩
  go_wp2_with fail
  refine bodyPost_ret (results_none rfl _ _ _) rfl ?_
  exact ⟨rfl,h1,f1.more (by simp)⟩
end
theorem ON {w:World} {b:Nat} {t:TypeId} {xs:List Value} (h:Blk w b t xs.toArray):IB w b 0 xs:=by
 intro k v hk
 rw [Nat.zero_add,h.cell k,← hk]
 simp
section
variable {B kb tb toff cap:Nat} {ts:List Au} {i:Nat} {x:Au} {bk bn bq base n c:Nat} {A:Option Addr} {w0 w:World} {s:LSt}
theorem Pp (h:StC B kb tb toff cap ts i x bk bn bq base n c A w0 s w) (l:List Int) (lb cl ln:Nat) (hll:l.length=ln) (hl3:ln≤3) (hlb:Blk w lb 3 (l.map (Value.int .i64)).toArray) (b:Bool) (hb:AP l n=b) :
  Calls Tryz.prog 195 #[.slice (some ⟨lb,0,none⟩) ln cl,.pointer (some ⟨bk,0,none⟩),.pointer (some ⟨bq,0,none⟩)] w fun e w'=>e=.returned (.bool (!(s.must b).bad)) ∧
   LK w' B kb (.slice (some ⟨tb,toff,none⟩) ts.length cap) (s.must b)∧Frm B [144] w w':=by
 subst hll
 have e1:=h.b1.cell 0
 have e3:=h.b3.cell 0
 have hcn:=N9 lb 0 cl l n w.drew (by omega) (ON hlb.drew)
 rw [hb] at hcn
 obtain⟨H,HB1,HB3,HCN⟩:=Hd4 h.lk h.b1 h.b3 hcn
 clear hcn h hlb hb
 go_in
 go_wp2_with fail
 go_region_held3 (fun w'=>w'.cell? ⟨bk,0,none⟩=some (.pointer (some ⟨kb,0,none⟩))∧w'.cell? ⟨bq,0,none⟩=some (.slice A n c)) (first | exact ⟨e1,e3⟩ | exact ⟨e12,e32⟩) ((first | (go_at_call 196;refine HCN.out.mono ?_;rintro e w1 ⟨rfl,rfl⟩) | (go_at_call 139;refine (CD B kb _ s b _ H.out.drew).mono ?_;rintro e w2 ⟨rfl,h2,f2⟩;have e12:=(f2.blk HB1.out.drew (by decide)).cell 0;have e32:=(f2.blk HB3.out.drew (by decide)).cell 0)))
 all_goals go_wp2_with fail
 all_goals go_ret
 all_goals exact ⟨rfl,h2,(Frm.refl _ _ _).drew.trans f2⟩
theorem StC.cells (h:StC B kb tb toff cap ts i x bk bn bq base n c A w0 s w):w.cell? ⟨bk,0,none⟩=some (.pointer (some ⟨kb,0,none⟩))∧w.cell? ⟨bn,0,none⟩=some (.int .i8 x.op)∧w.cell? ⟨bn,2,none⟩=some (.int .i64 x.n) ∧
  w.cell? ⟨bn,3,none⟩=some (.int .i64 x.m)∧w.cell? ⟨bq,0,none⟩=some (.slice A n c):=
 ⟨h.b1.cell 0,h.b2.cell 0,h.b2.cell 2,h.b2.cell 3,h.b3.cell 0⟩
theorem StC.size (h:StC B kb tb toff cap ts i x bk bn bq base n c A w0 s w):B≤w.heap.size:=by have:=h.lk.size;omega
theorem NN {ts:List Au}:∀ (l:List Nat) (p q:Nat),Cj ts p q l→p + l.length≤q
 | [],p,q,h=>by simp only [Cj] at h;simp;omega
 | k :: r,p,q,h=>by
  have:=NN r _ _ h.2.2.2
  have:=h.2.2.1
  simp only [List.length_cons];omega
theorem Jf {ts:List Au} {i:Nat} (h:0≤Ap ts i):(Ap ts i).toNat≤ts.length:=by
 rw [BV] at h ⊢
 rcases hz:(Bc ts.length ts)[i]? with _ | _ | z <;> rw [hz] at h <;> simp only at h ⊢
 ·omega
 ·omega
 ·have:=Dv hz;omega
theorem AM {ts:List Au} {i:Nat} (h:0≤Ap ts i) (hl:ts.length≤100000):(Am ts i).length≤100000:=by
 have h1:=NN _ _ _ (Ca h)
 have h2:=Jf h
 omega
theorem AY (B kb tb toff cap:Nat) (ts:List Au) (s:LSt) (i n:Nat) (x:Au) (w:World) (hl:ts.length≤100000) (h:LK w B kb (.slice (some ⟨tb,toff,none⟩) ts.length cap) s)
  (hn:As w tb toff ts) (htb:tb < B) (hi:i < ts.length) (hnk:(Am ts i).length=n) :
  Calls Tryz.prog 142 #[.slice (some ⟨tb,toff,none⟩) ts.length cap,.int .i64 i] ((w.alloc (.cells #[.pointer (some ⟨kb,0,none⟩)] 141)).alloc (.cells x.cells.toArray 120)) fun e w1=>∃ A c,e=.returned (.slice A n c) ∧
   StC B kb tb toff cap ts i x w.heap.size (w.heap.size + 1) w1.heap.size (w.heap.size + 2) n c A w s (w1.alloc (.cells #[.slice A n c] 128)):=by
 obtain⟨hB,hks⟩:=h.size
 have hn0:As (w.alloc (.cells #[.pointer (some ⟨kb,0,none⟩)] 141)) tb toff ts:=hn.below ((Below.refl B _).alloc (by omega) _) htb
 have b1:=Blk.new w 141 #[.pointer (some ⟨kb,0,none⟩)]
 refine (DM B kb tb toff cap ts s i x.cells.toArray _ hl (h.alloc _) hn0 htb hi [144,118]).mono ?_
 rintro e w1 ⟨kv,rfl,ho,hlk,hf,hn1,b2⟩
 simp only [World.size_alloc] at ho b2
 rw [hnk] at ho
 obtain⟨A,c,rfl⟩:=AJ ho
 have b1':=hf.blk b1 (by decide)
 have hsz:=hf.size
 simp only [World.size_alloc] at hsz
 have hf0:Frm B [144,118] w w1:=((Frm.refl B _ w).alloc (by omega) _).trans hf
 refine ⟨A,c,rfl,hlk.alloc _,hf0.alloc (by omega) _,htb,hn1.below ((Below.refl B _).alloc (by omega) _) htb,b1'.alloc _,b2.alloc _,Blk.new w1 _ _,ho.alloc _⟩
end
section
variable {B kb tb toff cap:Nat} {ts:List Au} {i:Nat} {x:Au} {bk bn bq base n c:Nat} {A:Option Addr} {w0 w:World} {slots:List Int} {seen:Int→Option Value}
theorem B9 (h:StC B kb tb toff cap ts i x bk bn bq base n c A w0 ⟨slots,seen,false⟩ w) (l:List Int) (lb cl ln:Nat) (hll:l.length=ln) (hl3:ln≤3) (hlb:Blk w lb 3 (l.map (Value.int .i64)).toArray) (hb:AP l n=true) :
  Calls Tryz.prog 195 #[.slice (some ⟨lb,0,none⟩) ln cl,.pointer (some ⟨bk,0,none⟩),.pointer (some ⟨bq,0,none⟩)] w fun e w'=>e=.returned (.bool true) ∧
   LK w' B kb (.slice (some ⟨tb,toff,none⟩) ts.length cap) ⟨slots,seen,false⟩∧Frm B [144] w w':=Pp h l lb cl ln hll hl3 hlb true hb
theorem Ea (h:StC B kb tb toff cap ts i x bk bn bq base n c A w0 ⟨slots,seen,false⟩ w) (l:List Int) (lb cl ln:Nat) (hll:l.length=ln) (hl3:ln≤3) (hlb:Blk w lb 3 (l.map (Value.int .i64)).toArray) (hb:AP l n=false) :
  Calls Tryz.prog 195 #[.slice (some ⟨lb,0,none⟩) ln cl,.pointer (some ⟨bk,0,none⟩),.pointer (some ⟨bq,0,none⟩)] w fun e w'=>e=.returned (.bool false) ∧
   LK w' B kb (.slice (some ⟨tb,toff,none⟩) ts.length cap) ⟨slots,seen,true⟩∧Frm B [144] w w':=Pp h l lb cl ln hll hl3 hlb false hb
theorem Bf (w:World) (o:Obj) (t:TypeId) (cs:Array Value):Blk ((w.alloc o).alloc (.cells cs t)) (w.heap.size + 1) t cs:=by
 have:=Blk.new (w.alloc o) t cs
 simpa using this
theorem IW (a n:Nat):AP [(a:Int)] n=decide (n=a):=by
 by_cases h:(a:Int)=n
 ·have:n=a:=by omega
  subst this
  simp [AP,DQ]
 ·have h2:¬ n=a:=by omega
  simp [AP,DQ,h,h2]
theorem QT (a b n:Nat):AP [(a:Int),(b:Int)] n=decide (n=a∨n=b):=by
 by_cases h:(a:Int)=n
 ·have:n=a:=by omega
  subst this
  simp [AP,DQ]
 ·by_cases h3:(b:Int)=n
  ·have:n=b:=by omega
   subst this
   simp [AP,DQ,h]
  ·have h2:¬ n=a:=by omega
   have h4:¬ n=b:=by omega
   simp [AP,DQ,h,h2,h3,h4]
theorem StC.kid0 {x:Au} (h:StC B kb tb toff cap ts i x bk bn bq base n c A w0 ⟨slots,seen,false⟩ w) (h0:0 < n):∃ gk,A=some ⟨gk,0,none⟩:=by
 obtain⟨A',c',e1,h1⟩:=Cm h.own
 injection e1 with e1 e2 e3
 subst e1
 obtain⟨gk,h3,_⟩:=h1 h0
 exact ⟨gk,h3⟩
theorem StC.kidCell {s:LSt} {gk:Nat} (h:StC B kb tb toff cap ts i x bk bn bq base n c (some ⟨gk,0,none⟩) w0 s w) (hnk:(Am ts i).length=n) (p j:Nat) (hp:(Am ts i)[p]? = some j):w.cell? ⟨gk,p,none⟩=some (.int .i64 j):=by
 have hlt:=(List.getElem?_eq_some_iff.1 hp).1
 rw [h.own.cellAt p (by omega)]
 simp [hp]
theorem StC.kidCap {s:LSt} (h:StC B kb tb toff cap ts i x bk bn bq base n c A w0 s w):n≤c:=by
 rcases h.own.2 with ⟨h1,h2⟩ | ⟨g',cp,cu,h1,h2,h3,h4,h5,h6⟩
 ·injection h1 with h1 h3 h4;omega
 ·injection h1 with h1 h3 h4;omega
theorem StC.kidLt {s:LSt} {gk:Nat} (h:StC B kb tb toff cap ts i x bk bn bq base n c (some ⟨gk,0,none⟩) w0 s w):gk < w.heap.size:=(h.own.lt gk rfl).2
structure Sk (B kb tb toff cap:Nat) (ts:List Au) (recS recB:Nat→LSt→LSt) (i:Nat):Prop where
 gS:∀ i s,Ci s→Ci (recS i s)
 gB:∀ i s,Ci s→Ci (recB i s)
 lS:Is ts recS
 lB:Is ts recB
 at_:∀ j∈Am ts i,j < ts.length∧SAt 143 B kb tb toff cap ts recS j∧SAt 103 B kb tb toff cap ts recB j
theorem Cj.cut {ts:List Au}:∀ (l:List Nat) (p q off ln:Nat),Cj ts p q l→∃ p' q',Cj ts p' q' ((l.drop off).take ln)∧(off≤l.length→p + off≤p')
 | [],p,q,off,ln,h=>⟨p,p,by simp [Cj],fun h=>by simp at h;omega⟩
 | k :: r,p,q,0,0,h=>⟨p,p,by simp [Cj],by simp⟩
 | k :: r,p,q,0,ln + 1,h=>by
  obtain⟨h1,h2,h3,h4⟩:=h
  cases ln with
  | zero=>exact ⟨p,_,⟨h1,h2,h3,rfl⟩,by simp⟩
  | succ ln =>
   cases r with
   | nil=>exact ⟨p,_,⟨h1,h2,h3,rfl⟩,by simp⟩
   | cons a r =>
    obtain⟨p',q',h5,h6⟩:=Cj.cut (a :: r) _ _ 0 (ln + 1) h4
    refine ⟨p,q',⟨h1,h2,h3,?_⟩,by simp⟩
    rw [List.drop_zero] at h5
    have:p'=(Ap ts p).toNat:=by
     rw [List.take_succ_cons] at h5
     have h7:=h5.1
     have h8:=h4.1
     omega
    rw [← this]
    exact h5
 | k :: r,p,q,off + 1,ln,h=>by
  obtain⟨h1,h2,h3,h4⟩:=h
  obtain⟨p',q',h5,h6⟩:=Cj.cut r _ _ off ln h4
  exact ⟨p',q',by simpa using h5,fun h=>by have:=h6 (by simpa using h);omega⟩
theorem EO {recS recB:Nat→LSt→LSt} {s:LSt} {gk:Nat} (h:StC B kb tb toff cap ts i x bk bn bq base n c (some ⟨gk,0,none⟩) w0 s w) (R:Sk B kb tb toff cap ts recS recB i) (hbe:0≤Ap ts i) (hnk:(Am ts i).length=n) (hnl:n≤100000) (off ln c2:Nat) (l:List Nat)
  (hl:((Am ts i).drop off).take ln=l) (hln:l.length=ln) (hoff:off≤n) (hg:Ci s) (hs:s.slots.length≤2 + 3 * (i + 1 + off)) :
  Calls Tryz.prog 198 #[.pointer (some ⟨kb,0,none⟩),.slice (some ⟨gk,off,none⟩) ln c2] w fun e w'=>e=.returned (.tuple #[]) ∧
   LK w' B kb (.slice (some ⟨tb,toff,none⟩) ts.length cap) (AS ts recS recB 0 l s)∧Frm B [144,118] w w':=by
 obtain⟨p',q',hc,hp⟩:=Cj.cut _ _ _ off ln (Ca hbe)
 rw [hl] at hc
 have:=hp (by omega)
 subst hln
 have hown:=h.own
 rw [← hnk] at hown
 refine PJ B kb tb toff cap ts recS recB h.tbB R.gS R.gB R.lS R.lB (Am ts i) l gk c base off c2 p' q' s w ?_ ?_ hown ?_ hg hc (by omega) h.lk h.nodes
 ·intro k hk
  have h1:l[k]? = (((Am ts i).drop off).take l.length)[k]?:=by rw [hl]
  rw [h1,List.getElem?_take,if_pos hk,List.getElem?_drop]
 ·have h2:l.length≤((Am ts i).drop off).length:=by
   have h3:=congrArg List.length hl
   rw [List.length_take] at h3
   omega
  rw [List.length_drop] at h2
  omega
 ·intro j hj
  rw [← hl] at hj
  exact R.at_ j (List.mem_of_mem_drop (List.mem_of_mem_take hj))
theorem K9 {l:List Nat} {b:Nat} (h:l[1]? = some b):(l.drop 1).take 1=[b]:=by
 match l,h with
 | [],h=>simp at h
 | [_],h=>simp at h
 | a :: c :: r,h=>simp at h;simp [h]
theorem Uo (htb:tb < B) (hl:ts.length≤100000) (htxt:∀ y∈ts,y.text.size≤1099511627776) (hg:Ci ⟨slots,seen,false⟩) (j:Nat) (hj:j < ts.length) (kd hgt:Int) (bd:Bool) (he:Dl ts ⟨slots,seen,false⟩ j false=(kd,hgt,bd))
  (h:LK w B kb (.slice (some ⟨tb,toff,none⟩) ts.length cap) ⟨slots,seen,false⟩) (hn:As w tb toff ts) :
  Calls Tryz.prog 193 #[.pointer (some ⟨kb,0,none⟩),.int .i64 j] w fun e w'=>e=.returned (.tuple #[.int .i8 kd,.int .i64 hgt])∧LK w' B kb (.slice (some ⟨tb,toff,none⟩) ts.length cap) ⟨slots,seen,bd⟩∧Frm B [144] w w':=by
 have he':BR ts slots seen ts.length j false=(kd,hgt,bd):=he
 have:=IC B kb tb toff cap ts slots seen hl htb htxt (fun n h1 h2 _=>hg.key n h1 h2) ts.length j (by omega) hj (by omega) false w h hn
 rw [he'] at this
 exact this
end
section
variable (B kb tb toff cap:Nat) (ts:List Au) (slots:List Int) (seen:Int→Option Value) (htb:tb < B) (hl:ts.length≤100000) (htxt:∀ y∈ts,y.text.size≤1099511627776) (i:Nat) (x:Au) (hi:i < ts.length) (hbe:0≤Ap ts i) (hx:ts[i]? = some x) (w:World) (hg:Ci ⟨slots,seen,false⟩) (hs:slots.length≤2 + 3 * i) (h:LK w B kb (.slice (some ⟨tb,toff,none⟩) ts.length cap) ⟨slots,seen,false⟩) (hn:As w tb toff ts) (hop:x.op=12) (hm:AP [1] (Am ts i).length=false)
include B kb tb toff cap ts slots seen htb hl htxt i x hi hbe hx w hg hs h hn hop hm
theorem I7 (hr:x.n < 0) :
  Calls Tryz.prog 143 #[.pointer (some ⟨kb,0,none⟩),.int .i64 i] w fun e w'=>e=.returned (.tuple #[])∧LK w' B kb (.slice (some ⟨tb,toff,none⟩) ts.length cap) (⟨slots,seen,true⟩)∧Frm B [144,118] w w':=by
 obtain⟨n,hnk⟩:∃ n,(Am ts i).length=n:=⟨_,rfl⟩
 have hnl:n≤100000:=by rw [← hnk];exact AM hbe hl
 obtain⟨c0,c1,c2,c3,c4,c5,c6⟩:=hn.all hx
 obtain⟨k0,k3⟩:=h.cells
 simp only at k3
 obtain⟨hBk,hks⟩:=h.size
 have htw:tb < w.heap.size:=by omega
 obtain⟨HC0,HG,HX,HK,HS,HBE,HT⟩:=Hd7 (AY B kb tb toff cap ts ⟨slots,seen,false⟩ i n x w hl h hn htb hi hnk) hg hx hnk hs hbe htxt
 clear h hn hg hx hnk hs hbe htxt
 have hop2:=hop
 have q11:(x.op == 11)=false:=Ao (by omega)
 have q12:(x.op == 12)=true:=AB hop
 have HOP:=Lh hop2
 clear hop hop2
 rw [HK.out] at hm
 have HM:=Lh hm
 clear hm
 go_in
 go_wp2_with fail
 refine HC0.out.mono ?_
 rintro e w1 ⟨A,c,rfl,C0⟩
 obtain⟨e1,d0,d2,d3,e3⟩:=C0.cells
 have CC0:=Lh C0
 have hz0:=C0.size
 clear C0
 go_wp2_with fail
 refine A8 (by kernel_rfl) (by kernel_rfl) ?_
 go_wp2_with fail
 refine AX.normal ?_
 go_wp2_with fail
 refine (Ea ((CC0.out).alloc (.cells #[.int .i64 1] 3)).drew [1] (w1.heap.size + 1) 1 1 rfl (by omega) (Bf w1 (.cells #[.slice A n c] 128) 3 #[.int .i64 1]).drew HM.out).mono ?_
 rintro e w2 ⟨rfl,h2,f2⟩
 have C2:=(((CC0.out).alloc _).drew).step (by simp) h2 f2
 clear e1 d0 d2 d3 e3
 obtain⟨e1,d0,d2,d3,e3⟩:=C2.cells
 have CC2:=Lh C2
 clear h2 f2 C2
 go_wp2_with fail
 go_end0
 exact ⟨rfl,CC2.out.lk,CC2.out.fr⟩
theorem I5 (hr:0≤x.n) (hr2:1048576≤x.n) :
  Calls Tryz.prog 143 #[.pointer (some ⟨kb,0,none⟩),.int .i64 i] w fun e w'=>e=.returned (.tuple #[])∧LK w' B kb (.slice (some ⟨tb,toff,none⟩) ts.length cap) (⟨slots,seen,true⟩)∧Frm B [144,118] w w':=by
 obtain⟨n,hnk⟩:∃ n,(Am ts i).length=n:=⟨_,rfl⟩
 have hnl:n≤100000:=by rw [← hnk];exact AM hbe hl
 obtain⟨c0,c1,c2,c3,c4,c5,c6⟩:=hn.all hx
 obtain⟨k0,k3⟩:=h.cells
 simp only at k3
 obtain⟨hBk,hks⟩:=h.size
 have htw:tb < w.heap.size:=by omega
 obtain⟨HC0,HG,HX,HK,HS,HBE,HT⟩:=Hd7 (AY B kb tb toff cap ts ⟨slots,seen,false⟩ i n x w hl h hn htb hi hnk) hg hx hnk hs hbe htxt
 clear h hn hg hx hnk hs hbe htxt
 have hop2:=hop
 have q11:(x.op == 11)=false:=Ao (by omega)
 have q12:(x.op == 12)=true:=AB hop
 have HOP:=Lh hop2
 clear hop hop2
 rw [HK.out] at hm
 have HM:=Lh hm
 clear hm
 go_in
 go_wp2_with fail
 refine HC0.out.mono ?_
 rintro e w1 ⟨A,c,rfl,C0⟩
 obtain⟨e1,d0,d2,d3,e3⟩:=C0.cells
 have CC0:=Lh C0
 have hz0:=C0.size
 clear C0
 go_wp2_with fail
 refine A8 (by kernel_rfl) (by kernel_rfl) ?_
 go_wp2_with fail
 refine AX.normal ?_
 go_wp2_with fail
 refine (Ea ((CC0.out).alloc (.cells #[.int .i64 1] 3)).drew [1] (w1.heap.size + 1) 1 1 rfl (by omega) (Bf w1 (.cells #[.slice A n c] 128) 3 #[.int .i64 1]).drew HM.out).mono ?_
 rintro e w2 ⟨rfl,h2,f2⟩
 have C2:=(((CC0.out).alloc _).drew).step (by simp) h2 f2
 clear e1 d0 d2 d3 e3
 obtain⟨e1,d0,d2,d3,e3⟩:=C2.cells
 have CC2:=Lh C2
 clear h2 f2 C2
 go_wp2_with fail
 go_end0
 exact ⟨rfl,CC2.out.lk,CC2.out.fr⟩
theorem Hu (hr:0≤x.n) (hr2:x.n < 1048576) (hl2:(seen x.n).getD (.bool false)=.bool false) :
  Calls Tryz.prog 143 #[.pointer (some ⟨kb,0,none⟩),.int .i64 i] w fun e w'=>e=.returned (.tuple #[])∧LK w' B kb (.slice (some ⟨tb,toff,none⟩) ts.length cap) (⟨slots,seen,true⟩)∧Frm B [144,118] w w':=by
 obtain⟨n,hnk⟩:∃ n,(Am ts i).length=n:=⟨_,rfl⟩
 have hnl:n≤100000:=by rw [← hnk];exact AM hbe hl
 obtain⟨c0,c1,c2,c3,c4,c5,c6⟩:=hn.all hx
 obtain⟨k0,k3⟩:=h.cells
 simp only at k3
 obtain⟨hBk,hks⟩:=h.size
 have htw:tb < w.heap.size:=by omega
 obtain⟨HC0,HG,HX,HK,HS,HBE,HT⟩:=Hd7 (AY B kb tb toff cap ts ⟨slots,seen,false⟩ i n x w hl h hn htb hi hnk) hg hx hnk hs hbe htxt
 clear h hn hg hx hnk hs hbe htxt
 have hop2:=hop
 have q11:(x.op == 11)=false:=Ao (by omega)
 have q12:(x.op == 12)=true:=AB hop
 have HOP:=Lh hop2
 clear hop hop2
 rw [HK.out] at hm
 have HM:=Lh hm
 clear hm
 have HL2:=Lh hl2
 clear hl2
 go_in
 go_wp2_with fail
 refine HC0.out.mono ?_
 rintro e w1 ⟨A,c,rfl,C0⟩
 obtain⟨e1,d0,d2,d3,e3⟩:=C0.cells
 have CC0:=Lh C0
 have hz0:=C0.size
 clear C0
 go_wp2_with fail
 obtain⟨sv,mb,_,_,m2,m3,_,_⟩:=CC0.out.lk.parts
 have hlk:=Ei (m3.drew CB) x.n false
 simp only [Bool.false_eq_true,if_false,HL2.out] at hlk
 refine A8 (by kernel_rfl) (by kernel_rfl) ?_
 go_wp2_with fail
 refine AX.normal ?_
 go_wp2_with fail
 refine (Ea ((CC0.out).alloc (.cells #[.int .i64 1] 3)).drew [1] (w1.heap.size + 1) 1 1 rfl (by omega) (Bf w1 (.cells #[.slice A n c] 128) 3 #[.int .i64 1]).drew HM.out).mono ?_
 rintro e w2 ⟨rfl,h2,f2⟩
 have C2:=(((CC0.out).alloc _).drew).step (by simp) h2 f2
 clear e1 d0 d2 d3 e3
 obtain⟨e1,d0,d2,d3,e3⟩:=C2.cells
 have CC2:=Lh C2
 clear h2 f2 C2
 go_wp2_with fail
 go_end0
 exact ⟨rfl,CC2.out.lk,CC2.out.fr⟩
theorem I9 (hr:0≤x.n) (hr2:x.n < 1048576) (hl2:(seen x.n).getD (.bool false)=.bool true) :
  Calls Tryz.prog 143 #[.pointer (some ⟨kb,0,none⟩),.int .i64 i] w fun e w'=>e=.returned (.tuple #[])∧LK w' B kb (.slice (some ⟨tb,toff,none⟩) ts.length cap) (⟨slots,seen,true⟩)∧Frm B [144,118] w w':=by
 obtain⟨n,hnk⟩:∃ n,(Am ts i).length=n:=⟨_,rfl⟩
 have hnl:n≤100000:=by rw [← hnk];exact AM hbe hl
 obtain⟨c0,c1,c2,c3,c4,c5,c6⟩:=hn.all hx
 obtain⟨k0,k3⟩:=h.cells
 simp only at k3
 obtain⟨hBk,hks⟩:=h.size
 have htw:tb < w.heap.size:=by omega
 obtain⟨HC0,HG,HX,HK,HS,HBE,HT⟩:=Hd7 (AY B kb tb toff cap ts ⟨slots,seen,false⟩ i n x w hl h hn htb hi hnk) hg hx hnk hs hbe htxt
 clear h hn hg hx hnk hs hbe htxt
 have hop2:=hop
 have q11:(x.op == 11)=false:=Ao (by omega)
 have q12:(x.op == 12)=true:=AB hop
 have HOP:=Lh hop2
 clear hop hop2
 rw [HK.out] at hm
 have HM:=Lh hm
 clear hm
 have HL2:=Lh hl2
 clear hl2
 go_in
 go_wp2_with fail
 refine HC0.out.mono ?_
 rintro e w1 ⟨A,c,rfl,C0⟩
 obtain⟨e1,d0,d2,d3,e3⟩:=C0.cells
 have CC0:=Lh C0
 have hz0:=C0.size
 clear C0
 go_wp2_with fail
 obtain⟨sv,mb,_,_,m2,m3,_,_⟩:=CC0.out.lk.parts
 have hlk:=Ei (m3.drew CB) x.n false
 simp only [Bool.false_eq_true,if_false,HL2.out] at hlk
 refine A8 (by kernel_rfl) (by kernel_rfl) ?_
 go_wp2_with fail
 refine AX.normal ?_
 go_wp2_with fail
 refine (Ea ((CC0.out).alloc (.cells #[.int .i64 1] 3)).drew [1] (w1.heap.size + 1) 1 1 rfl (by omega) (Bf w1 (.cells #[.slice A n c] 128) 3 #[.int .i64 1]).drew HM.out).mono ?_
 rintro e w2 ⟨rfl,h2,f2⟩
 have C2:=(((CC0.out).alloc _).drew).step (by simp) h2 f2
 clear e1 d0 d2 d3 e3
 obtain⟨e1,d0,d2,d3,e3⟩:=C2.cells
 have CC2:=Lh C2
 clear h2 f2 C2
 go_wp2_with fail
 go_end0
 exact ⟨rfl,CC2.out.lk,CC2.out.fr⟩
end
theorem StC.below {B kb tb toff cap:Nat} {ts:List Au} {i:Nat} {x:Au} {bk bn bq base n c:Nat} {A:Option Addr} {w0 w w':World} {s:LSt} (h:StC B kb tb toff cap ts i x bk bn bq base n c A w0 s w) (hb:Below w.heap.size w w'):StC B kb tb toff cap ts i x bk bn bq base n c A w0 s w':=by
 have hB:=h.lk.size
 have htb:=h.tbB
 exact ⟨h.lk.below hb (Nat.le_refl _),h.fr.trans (Frm.of_below hb (by omega)),h.tbB,h.nodes.below hb (by omega),h.b1.below hb h.b1.lt,h.b2.below hb h.b2.lt,h.b3.below hb h.b3.lt,(Frm.of_below (B:=B) (T:=[]) hb (by omega)).own h.own (by simp)⟩
section
variable (B kb tb toff cap:Nat) (ts:List Au) (slots:List Int) (seen:Int→Option Value) (htb:tb < B) (hl:ts.length≤100000)
include B kb tb toff cap ts slots seen htb hl
theorem Rv (i:Nat) (x:Au) (hi:i < ts.length) (hbe:0≤Ap ts i) (hx:ts[i]? = some x) (w:World) (h:LK w B kb (.slice (some ⟨tb,toff,none⟩) ts.length cap) ⟨slots,seen,false⟩) (hn:As w tb toff ts) (hop:x.op=19) (hs:Bp Bu x.n=none) :
  Calls Tryz.prog 143 #[.pointer (some ⟨kb,0,none⟩),.int .i64 i] w fun e w'=>e=.returned (.tuple #[])∧LK w' B kb (.slice (some ⟨tb,toff,none⟩) ts.length cap) ⟨slots,seen,true⟩∧Frm B [144,118] w w':=by
 obtain⟨n,hnk⟩:∃ n,(Am ts i).length=n:=⟨_,rfl⟩
 have hnl:n≤100000:=by rw [← hnk];exact AM hbe hl
 obtain⟨c0,c1,c2,c3,c4,c5,c6⟩:=hn.all hx
 obtain⟨k0,k3⟩:=h.cells
 simp only at k3
 obtain⟨hBk,hks⟩:=h.size
 have htw:tb < w.heap.size:=by omega
 have hout:x.n < 0∨((9:Nat):Int)≤x.n:=by
  unfold Bp at hs
  split at hs
  ·exact .inl (by omega)
  ·rw [List.getElem?_eq_none_iff] at hs
   have:Bu.length=9:=rfl
   omega
 obtain⟨HC0,HO⟩:=Hd2 (AY B kb tb toff cap ts ⟨slots,seen,false⟩ i n x w hl h hn htb hi hnk) hout
 clear h hn hx hnk hbe hs hout
 have q11:(x.op == 11)=false:=Ao (by omega)
 have q12:(x.op == 12)=false:=Ao (by omega)
 have q13:(x.op == 13)=false:=Ao (by omega)
 have q14:(x.op == 14)=false:=Ao (by omega)
 have q15:(x.op == 15)=false:=Ao (by omega)
 have q16:(x.op == 16)=false:=Ao (by omega)
 have q17:(x.op == 17)=false:=Ao (by omega)
 have q18:(x.op == 18)=false:=Ao (by omega)
 have q19:(x.op == 19)=true:=AB hop
 clear hop
 go_in
 go_wp2_with fail
 refine HC0.out.mono ?_
 rintro e w1 ⟨A,c,rfl,C0⟩
 obtain⟨e1,d0,d2,d3,e3⟩:=C0.cells
 have CC0:=Lh C0
 have hz0:=C0.size
 clear C0
 go_wp2_with fail
 clear HC0
 generalize w1.heap.size=bq at *
 generalize w1.alloc (Obj.cells #[Value.slice A n c] 128)=W1 at *
 have hz1:w.heap.size + 1 < W1.heap.size:=CC0.out.b2.lt
 have hne1:w.heap.size + 1≠W1.heap.size:=Nat.ne_of_lt hz1
 go_cut [10,11] (fun s10 s11 wx=>FJ W1 wx s10 s11 none)
 case first =>
  go_region_held3 (fun w'=>w'.cell? ⟨w.heap.size + 1,2,none⟩=some (.int .i64 x.n)) (first | exact d2 | exact hc3 | (rw [CX hne2];exact hc3) | (rw [CX hne1];exact hc3) | go_keep) ((first | (go_at_call 200;refine (I4 _ (nb:=w.heap.size + 1) (by assumption)).mono ?_;rintro e w2 ⟨rfl,hsg,hbl,hz4,hc3⟩;obtain⟨bc2,bf2⟩:=Gt hbl;have hz6:=hbl.size;(try simp only [World.size_alloc,EL] at bc2 bf2 hz6);(try have hz7:W1.heap.size < w2.heap.size:=hz6);have hne2:w.heap.size + 1≠w2.heap.size:=Nat.ne_of_lt hz4) | (go_at_call 199;refine (Fw _ 9 9 x.n _ (by omega) HO.out (nb:=w.heap.size + 1) (by assumption)).mono ?_;rintro e w3 ⟨rfl,hbl2,hz2,hc3⟩;obtain⟨bc3,bf3⟩:=Gt hbl2;have hz3:=hbl2.size;(try simp only [World.size_alloc] at hz3 bc3 bf3);have hne3:w.heap.size + 1≠w3.heap.size:=Nat.ne_of_lt hz2)))
  ·go_wp2_with fail
   go_meet
   have B2:=(Below.refl W1.heap.size W1).drew.trans hbl
   have B3:=B2.trans (hbl2.mono B2.size)
   exact ⟨_,rfl,B3.alloc B3.size _,B3.size,rfl⟩
  ·go_wp2_with fail
   go_meet
   have B2:=(Below.refl W1.heap.size W1).drew.trans hbl
   have B3:=(B2.alloc B2.size _).trans (hbl2.mono (Nat.le_trans B2.size (by simp)))
   exact ⟨_,rfl,(((B3.setCell B2.size _).setCell B2.size _).setCell B2.size _).setCell B2.size _,B2.size,rfl⟩
  ·go_wp2_with fail
   go_meet
   have B2:=((Below.refl W1.heap.size W1).alloc (Nat.le_refl _) _).drew.trans (hbl.mono (by simp))
   have B3:=B2.trans (hbl2.mono B2.size)
   exact ⟨_,rfl,(((B3.setCell (Nat.le_refl _) _).setCell (Nat.le_refl _) _).setCell (Nat.le_refl _) _).setCell (Nat.le_refl _) _,Nat.le_refl _,rfl⟩
 case rest =>
  obtain⟨sb,rfl,hbw,hsb,rfl⟩:=hcut
  have CC1:=Lh (CC0.out.below hbw)
  clear hbw e1 d0 d2 d3 e3
  obtain⟨e1,d0,d2,d3,e3⟩:=CC1.out.cells
  go_wp2_with fail
  refine (Dq B kb _ slots seen _ false CC1.out.lk).mono ?_
  rintro e w2 ⟨rfl,h2,f2⟩
  go_wp2_with fail
  go_end0
  exact ⟨rfl,h2,CC1.out.fr.trans (f2.more (by simp))⟩
theorem Uq (htxt:∀ y∈ts,y.text.size≤1099511627776) (i:Nat) (x:Au) (s:B8) (hi:i < ts.length) (hbe:0≤Ap ts i) (hx:ts[i]? = some x) (w:World) (hg:Ci ⟨slots,seen,false⟩) (h:LK w B kb (.slice (some ⟨tb,toff,none⟩) ts.length cap) ⟨slots,seen,false⟩) (hn:As w tb toff ts) (hop:x.op=19) (hs:Bp Bu x.n=some s) (V:Int) (b:Bool) (hV:Cu (Dl ts ⟨slots,seen,false⟩) ts i (Am ts i) s=(V,b)) :
  Calls Tryz.prog 143 #[.pointer (some ⟨kb,0,none⟩),.int .i64 i] w fun e w'=>e=.returned (.tuple #[])∧LK w' B kb (.slice (some ⟨tb,toff,none⟩) ts.length cap) (Cr (V,b) ⟨slots,seen,false⟩)∧Frm B [144,118] w w':=by
 obtain⟨n,hnk⟩:∃ n,(Am ts i).length=n:=⟨_,rfl⟩
 have hnl:n≤100000:=by rw [← hnk];exact AM hbe hl
 obtain⟨c0,c1,c2,c3,c4,c5,c6⟩:=hn.all hx
 obtain⟨k0,k3⟩:=h.cells
 simp only at k3
 obtain⟨hBk,hks⟩:=h.size
 have htw:tb < w.heap.size:=by omega
 obtain⟨F,hF⟩:∃ F,s.fn=.func (Fn.func F) #[] #[]:=⟨_,rfl⟩
 have hm:=CA hs
 obtain⟨HC0,HF⟩:=Hd2 (AY B kb tb toff cap ts ⟨slots,seen,false⟩ i n x w hl h hn htb hi hnk) hF
 have HM:Hid (0≤x.n∧Bu[x.n.toNat]? = some s):=⟨hm.1,hm.2.2.1⟩
 obtain⟨HMM,HX,HK,HV,HT⟩:=Hd5 hm.2.2.2 hx hnk hV htxt
 have HE:Hid (∀ j∈Am ts i,j < ts.length∧EW B kb tb toff cap ts slots seen (BR ts slots seen ts.length j) j):=fun j hj=>by
  have hjj:=AU hj
  exact ⟨hjj.2.1,IC B kb tb toff cap ts slots seen hl htb htxt (fun n h1 h2 _=>hg.key n h1 h2) ts.length j (by omega) hjj.2.1 (by omega)⟩
 clear h hn hx hnk hbe hs hm hF hV hg htxt
 have q11:(x.op == 11)=false:=Ao (by omega)
 have q12:(x.op == 12)=false:=Ao (by omega)
 have q13:(x.op == 13)=false:=Ao (by omega)
 have q14:(x.op == 14)=false:=Ao (by omega)
 have q15:(x.op == 15)=false:=Ao (by omega)
 have q16:(x.op == 16)=false:=Ao (by omega)
 have q17:(x.op == 17)=false:=Ao (by omega)
 have q18:(x.op == 18)=false:=Ao (by omega)
 have q19:(x.op == 19)=true:=AB hop
 clear hop
 go_in
 go_wp2_with fail
 refine HC0.out.mono ?_
 rintro e w1 ⟨A,c,rfl,C0⟩
 obtain⟨e1,d0,d2,d3,e3⟩:=C0.cells
 have CC0:=Lh C0
 have hz0:=C0.size
 clear C0
 go_wp2_with fail
 clear HC0
 generalize w1.heap.size=bq at *
 generalize w1.alloc (Obj.cells #[Value.slice A n c] 128)=W1 at *
 have hz1:w.heap.size + 1 < W1.heap.size:=CC0.out.b2.lt
 have hne1:w.heap.size + 1≠W1.heap.size:=Nat.ne_of_lt hz1
 go_cut [10,11] (fun s10 s11 wx=>FJ W1 wx s10 s11 (some s))
 case first =>
  go_region_held3 (fun w'=>w'.cell? ⟨w.heap.size + 1,2,none⟩=some (.int .i64 x.n)) (first | exact d2 | exact hc3 | (rw [CX hne2];exact hc3) | (rw [CX hne1];exact hc3) | go_keep) ((first | (go_at_call 200;refine (I4 _ (nb:=w.heap.size + 1) (by assumption)).mono ?_;rintro e w2 ⟨rfl,hsg,hbl,hz4,hc3⟩;obtain⟨bc2,bf2⟩:=Gt hbl;have hz6:=hbl.size;(try simp only [World.size_alloc,EL] at bc2 bf2 hz6);(try have hz7:W1.heap.size < w2.heap.size:=hz6);have hne2:w.heap.size + 1≠w2.heap.size:=Nat.ne_of_lt hz4) | (go_at_call 199;refine (FO _ _ Bu 9 9 x.n s _ rfl (by omega) (by first | exact hsg.cast (by simp) | exact (hsg.alloc _).cast (by simp)) HM.out.1 HM.out.2 F HF.out (nb:=w.heap.size + 1) (by assumption)).mono ?_;rintro e w3 ⟨g,rfl,hgB,hgb,hbl2,hz2,hc3⟩;obtain⟨bc3,bf3⟩:=Gt hbl2;have hz3:=hbl2.size;(try simp only [World.size_alloc] at hz3 bc3 bf3);have hne3:w.heap.size + 1≠w3.heap.size:=Nat.ne_of_lt hz2)))
  ·go_wp2_with fail
   go_meet
   have B2:=(Below.refl W1.heap.size W1).drew.trans hbl
   have B3:=B2.trans (hbl2.mono B2.size)
   refine ⟨_,rfl,B3.alloc B3.size _,B3.size,rfl,g,?_,hgb.alloc _⟩
   exact Lc HF.out (Blk.new w3 _ _)
  ·go_wp2_with fail
   go_meet
   have B2:=(Below.refl W1.heap.size W1).drew.trans hbl
   have B3:=(B2.alloc B2.size _).trans (hbl2.mono (Nat.le_trans B2.size (by simp)))
   have hgne:g≠w2.heap.size:=hgb.ne_ ((Blk.new w2 _ _).below hbl2 (by simp)) (by decide)
   refine ⟨_,rfl,(((B3.setCell B2.size _).setCell B2.size _).setCell B2.size _).setCell B2.size _,B2.size,rfl,g,?_,(((hgb.far hgne _).far hgne _).far hgne _).far hgne _⟩
   exact EN HF.out ((Blk.new w2 _ _).below hbl2 (by simp))
  ·go_wp2_with fail
   go_meet
   have B2:=((Below.refl W1.heap.size W1).alloc (Nat.le_refl _) _).drew.trans (hbl.mono (by simp))
   have B3:=B2.trans (hbl2.mono B2.size)
   have hb3:=(((Blk.new W1 _ _).drew.below hbl (by simp)).below hbl2 hz7)
   have hgne:g≠W1.heap.size:=hgb.ne_ hb3 (by decide)
   refine ⟨_,rfl,(((B3.setCell (Nat.le_refl _) _).setCell (Nat.le_refl _) _).setCell (Nat.le_refl _) _).setCell (Nat.le_refl _) _,Nat.le_refl _,rfl,g,?_,(((hgb.far hgne _).far hgne _).far hgne _).far hgne _⟩
   exact EN HF.out hb3
 case rest =>
  obtain⟨sb,rfl,hbw,hsb,rfl,g,hbs,hbg⟩:=hcut
  have CC1:=Lh (CC0.out.below hbw)
  rw [ES HF.out] at hbs
  obtain⟨HS2,HG2⟩:=Hd2 hbs hbg
  clear hbw e1 d0 d2 d3 e3 hbs hbg
  obtain⟨e1,d0,d2,d3,e3⟩:=CC1.out.cells
  go_wp2_with fail
  refine (BQ B kb _ slots seen _ CC1.out.lk).mono ?_
  rintro e w2 ⟨rfl,h2,f2⟩
  obtain⟨CC2,S2,G2⟩:=Hd3 (CC1.out.step (by simp) h2 f2) (f2.blk HS2.out (by decide)) (f2.blk HG2.out (by decide))
  clear e1 d0 d2 d3 e3 h2 f2
  obtain⟨e1,d0,d2,d3,e3⟩:=CC2.out.cells
  have t0:=S2.out.cell 0
  have t1:=S2.out.cell 1
  have t2:=S2.out.cell 2
  have t3:=S2.out.cell 3
  have HEX:=Ik ts slots seen ts.length
  have HH:=Lh HEX
  clear HEX
  go_wp2_with fail
  go_region_held3 (fun w'=>w'.cell? ⟨w.heap.size,0,none⟩=some (.pointer (some ⟨kb,0,none⟩))∧w'.cell? ⟨bq,0,none⟩=some (.slice A n c)∧w'.cell? ⟨sb,0,none⟩=some (.string s.name)∧w'.cell? ⟨sb,1,none⟩=some (.slice (some ⟨g,0,none⟩) s.args.length s.args.length)∧w'.cell? ⟨sb,2,none⟩=some (.int .i8 s.tell)∧w'.cell? ⟨sb,3,none⟩=some (.func (Fn.func F) #[] #[])) (first | exact ⟨e1,e3,t0,t1,t2,t3⟩ | exact t5 | exact t6) ((first | (go_at_call 201;rw [← ES HF.out];refine (Pg B kb tb toff cap ts slots seen (BR ts slots seen ts.length) (2 * ts.length) (by omega) (by omega) HH.out i x (Am ts i) s g _ _ _ HX.out hl HT.out HE.out (Iu HMM.out) G2.out.drew (by rw [HK.out];exact CC2.out.own.drew) CC2.out.lk.drew CC2.out.nodes htb).mono ?_;rintro e w5 ⟨rfl,h5,f5⟩;have hVV:Cu (BR ts slots seen ts.length) ts i (Am ts i) s=(V,b):=HV.out;rw [hVV] at h5 ⊢;have CC5:=Lh (CC2.out.drew.step (by simp) h5 f5);have S5:=Lh (f5.blk S2.out.drew (by decide));have t5:w5.cell? ⟨w.heap.size,0,none⟩=some (.pointer (some ⟨kb,0,none⟩))∧w5.cell? ⟨bq,0,none⟩=some (.slice A n c)∧w5.cell? ⟨sb,0,none⟩=some (.string s.name)∧w5.cell? ⟨sb,1,none⟩=some (.slice (some ⟨g,0,none⟩) s.args.length s.args.length)∧w5.cell? ⟨sb,2,none⟩=some (.int .i8 s.tell)∧w5.cell? ⟨sb,3,none⟩=some (.func (Fn.func F) #[] #[]):=⟨CC5.out.b1.cell 0,CC5.out.b3.cell 0,S5.out.cell 0,S5.out.cell 1,S5.out.cell 2,S5.out.cell 3⟩;clear h5 f5) | (go_at_call 139;refine (CD B kb _ ⟨slots,seen,b⟩ (decide (V≤256)) _ CC5.out.lk).mono ?_;rintro e w6 ⟨rfl,h6,f6⟩;have CC6:=Lh (CC5.out.step (by simp) h6 f6);have S6:=Lh (f6.blk S5.out (by decide));have t6:w6.cell? ⟨w.heap.size,0,none⟩=some (.pointer (some ⟨kb,0,none⟩))∧w6.cell? ⟨bq,0,none⟩=some (.slice A n c)∧w6.cell? ⟨sb,0,none⟩=some (.string s.name)∧w6.cell? ⟨sb,1,none⟩=some (.slice (some ⟨g,0,none⟩) s.args.length s.args.length)∧w6.cell? ⟨sb,2,none⟩=some (.int .i8 s.tell)∧w6.cell? ⟨sb,3,none⟩=some (.func (Fn.func F) #[] #[]):=⟨CC6.out.b1.cell 0,CC6.out.b3.cell 0,S6.out.cell 0,S6.out.cell 1,S6.out.cell 2,S6.out.cell 3⟩;clear h6 f6)))
  all_goals go_wp2_with fail
  all_goals go_end0
  all_goals exact ⟨rfl,CC6.out.lk,CC6.out.fr⟩
end
end Go.Proofs.YtmpcbaflcogmmaaGreatDoor
