/- ExprAll Stmt Blocks Stmt2 Look13 -/
import Derived.Maps.AppendAt
import Derived.Deep.RegionHeld3
import Derived.Test.YtmpcbaflcogmmaaGreatDoorExpr
import Derived.Test.YtmpcbaflcogmmaaGreatDoorExpr6
import Derived.Test.YtmpcbaflcogmmaaGreatDoorKinds12
namespace Go.Proofs.YtmpcbaflcogmmaaGreatDoor
open Go.RowKit
set_option linter.all false
set_option maxHeartbeats 2000000
set_option maxRecDepth 100000
theorem AB {a b:Int} (h:a=b):(a == b)=true:=by simp [h]
theorem Ao {a b:Int} (h:¬ a=b):(a == b)=false:=by simp [h]
theorem IC (B kb tb toff cap:Nat) (ts:List Au) (slots:List Int) (seen:Int→Option Value) (hl:ts.length≤100000) (htb:tb < B) (htxt:∀ y∈ts,y.text.size≤1099511627776)
  (hseen:∀ n,(seen n).isSome=true→0≤n→n < 1048576→n < slots.length):∀ (f i:Nat),ts.length≤i + f→i < ts.length→f≤100001→EW B kb tb toff cap ts slots seen (BR ts slots seen f i) i
 | 0,i,h1,h2,_=>absurd h2 (by omega)
 | f + 1,i,h1,h2,h3=>by
  have ih:=IC B kb tb toff cap ts slots seen hl htb htxt hseen f
  intro bad w h hn
  have hE:BR ts slots seen (f + 1) i bad=BW (BR ts slots seen f) ts slots seen i bad:=rfl
  rw [hE]
  have hx:ts[i]? = some (ts.getD i AF):=by rw [List.getD_eq_getElem?_getD,List.getElem?_eq_getElem h2];rfl
  generalize hg:ts.getD i AF=x at hx
  have hk:∀ j∈Am ts i,j < ts.length∧EW B kb tb toff cap ts slots seen (BR ts slots seen f j) j:=fun j hj=>by
   have:=AU hj
   exact ⟨this.2.1,ih j (by omega) this.2.1 (by omega)⟩
  have hr:∀ i b,0≤(BR ts slots seen f i b).2.1∧(BR ts slots seen f i b).2.1≤2 * f:=Ik ts slots seen f
  generalize hrec:BR ts slots seen f=rec at hk hr
  unfold BW
  simp only [hg]
  cases bad with
  | true=>simp only [if_pos];exact Tk B kb tb toff cap ts slots seen i w h
  | false =>
   rw [if_neg (by decide:¬ (false=true))]
   by_cases q1:x.op=30
   ·rw [if_pos q1];exact TO B kb tb toff cap ts slots seen i x w hl hx h hn htb (AB q1)
   rw [if_neg q1]
   by_cases q2:x.op=31∨x.op=32
   ·rw [if_pos q2]
    refine PP B kb tb toff cap ts slots seen i x w hl hx h hn htb (Ao q1) ?_
    by_cases q:x.op=31
    ·exact .inl (AB q)
    ·exact .inr ⟨Ao q,AB (by omega)⟩
   rw [if_neg q2]
   have e1:=Ao q1
   have e2:(x.op == 31)=false:=Ao fun h=>q2 (.inl h)
   have e3:(x.op == 32)=false:=Ao fun h=>q2 (.inr h)
   by_cases q4:x.op=33
   ·rw [if_pos q4]
    by_cases hs:(seen x.n).isSome=true∧0≤x.n∧x.n < 1048576∧(Am ts i).length=0
    ·rw [if_pos hs]
     obtain⟨s1,s2,s3,s4⟩:=hs
     exact RQ B kb tb toff cap ts slots seen i x w hl hx h hn htb q4 s1 s2 s3 s4 (hseen _ s1 s2 s3)
    ·rw [if_neg hs]
     exact Pt B kb tb toff cap ts slots seen i x w hl hx h hn htb q4 hs
   rw [if_neg q4]
   have e4:=Ao q4
   by_cases q5:x.op=49
   ·rw [if_pos q5]
    cases hs:Bp BU x.n with
    | none=>exact NG B kb tb toff cap ts slots seen i x w hl hx h hn htb e1 e2 e3 e4 (AB q5) hs
    | some s=>exact PE B kb tb toff cap ts slots seen rec i x s w hl hx h hn htb hk e1 e2 e3 e4 (AB q5) hs
   rw [if_neg q5]
   have e5:=Ao q5
   by_cases q6:x.op=50
   ·rw [if_pos q6]
    cases hs:Bp Bz x.n with
    | none=>exact NZ B kb tb toff cap ts slots seen i x w hl hx h hn htb e1 e2 e3 e4 e5 (AB q6) hs
    | some s=>exact Re B kb tb toff cap ts slots seen rec (2 * f) (by omega) (by omega) hr htxt i x s w hl hx h hn htb hk e1 e2 e3 e4 e5 (AB q6) hs
   rw [if_neg q6]
   exact Sc B kb tb toff cap ts slots seen rec (2 * f) (by omega) hr i x w hl hx h hn htb hk e1 e2 e3 e4 e5 (Ao q6)
theorem UJ:(Tryz.prog.info? 118).map (fun i=>(i.zero,i.size,i.bytes))=some (some (.int .i8 0),1,1):=by kernel_rfl
theorem Km:ElT Tryz.prog 22 118 1 1:=⟨Tryz.underlying22,by decide,by
 obtain⟨i0,hi,hz0,hz1,hz2⟩:=info_parts UJ
 exact ⟨i0,_,hi,hz0,hz1,hz2,rfl⟩⟩
theorem AJ {w:World} {base n size:Nat} {e:TypeId} {v:Value} {xs:List Value} (h:w.ownsRow base e size v n xs):∃ A c,v=.slice A n c:=by
 rcases h.2 with ⟨h1,h2⟩ | ⟨g',cp,cu,h1,_⟩
 ·exact ⟨none,0,by rw [h1,h2]⟩
 ·exact ⟨_,_,h1⟩
theorem MD {w:World} {lb:Nat} {l:List Int} {j:Nat} {u:Value} (h:Blk w lb 118 (l.map (Value.int .i8)).toArray) (hj:(l.map (Value.int .i8))[j]? = some u):w.cell? ((⟨lb,0,none⟩:Addr).add j)=some u:=by
 have e:(⟨lb,0,none⟩:Addr).add j=⟨lb,j,none⟩:=by
  unfold Addr.add
  cases j <;> simp
 rw [e,h.cell j,← hj]
 simp
section
variable (B kb tb toff cap:Nat) (ts:List Au) (hl:ts.length≤100000) (htb:tb < B) (htxt:∀ y∈ts,y.text.size≤1099511627776)
include hl htb htxt
theorem DH (i:Nat) (kind:Int) (s:LSt) (w:World) (hi:i < ts.length) (hg:Ci s) (h:LK w B kb (.slice (some ⟨tb,toff,none⟩) ts.length cap) s) (hn:As w tb toff ts) :
  Calls Tryz.prog 102 #[.pointer (some ⟨kb,0,none⟩),.int .i64 i,.int .i8 kind] w fun e w'=>e=.returned (.tuple #[]) ∧
   LK w' B kb (.slice (some ⟨tb,toff,none⟩) ts.length cap) (AD ts i kind s)∧Frm B [144] w w':=by
 have he:=IC B kb tb toff cap ts s.slots s.seen hl htb htxt (fun n h1 h2 _=>hg.key n h1 h2) ts.length i (by omega) hi (by omega)
 go_in
 go_wp2_with fail
 refine (FV B kb tb toff cap ts s.slots s.seen _ i kind s.bad w he h hn).mono ?_
 rintro e w1 ⟨rfl,h1,f1⟩
 go_wp2_with fail
 refine (CD B kb _ _ _ _ h1).mono ?_
 rintro e w2 ⟨rfl,h2,f2⟩
 go_wp2_with fail
 go_end0
 exact ⟨rfl,h2,f1.trans f2⟩
omit hl htb htxt in
theorem DT (slot:Int) (b:Bool) (l:List Int) (lb c:Nat) (s:LSt) (tv:Value) (w:World) (hs:s.slots.length≤400000) (hll:l.length≤3) (h:LK w B kb tv s) (hlb:Blk w lb 118 (l.map (Value.int .i8)).toArray) (hB:B≤w.heap.size) :
  Calls Tryz.prog 197 #[.pointer (some ⟨kb,0,none⟩),.int .i64 slot,.bool b,.slice (some ⟨lb,0,none⟩) l.length c] w fun e w'=>e=.returned (.tuple #[]) ∧
   LK w' B kb tv (AE slot b l s)∧Frm B [144,118] w w':=by
 obtain⟨sv,mb,hmb,k1,k2,hm,hown,hk⟩:=h.parts
 obtain⟨n,hn⟩:∃ n,s.slots.length=n:=⟨_,rfl⟩
 obtain⟨hBk,hks⟩:=h.size
 rw [hn] at hown hs
 obtain⟨A,c',rfl⟩:∃ A c',sv=.slice A n c':=by
  rcases hown.2 with ⟨h1,h2⟩ | ⟨g',cp,cu,h1,_⟩
  ·exact ⟨none,0,by rw [h1,h2]⟩
  ·exact ⟨_,_,h1⟩
 obtain⟨q,hq⟩:∃ q:Bool,(slot == (n:Int))=q:=⟨_,rfl⟩
 have hD:AE slot b l s=if s.bad=true then s else if q=true then ⟨s.slots ++ l,upd CB s.seen (n:Int) (some (.bool b)),false⟩ else FI s:=by
  unfold AE
  rw [hn]
  by_cases h:slot=n
  ·have hq1:q=true:=by rw [← hq];exact AB h
   rw [if_pos h,if_pos hq1]
  ·have hq1:¬ q=true:=by rw [← hq,Ao h];decide
   rw [if_neg h,if_neg hq1]
   rfl
 rw [hD]
 obtain⟨HD,HH,HN,HO,HM,HK,HL⟩:=Hd7 hD h hn hown hm hk hlb
 clear h hn hm hown hk hlb hD
 obtain⟨slots,seen,bad⟩:=s
 go_in
 cases bad with
 | true =>
  go_wp2_with fail
  refine (CD B kb _ _ _ _ HH.out).mono ?_
  rintro e w1 ⟨rfl,h1,f1⟩
  go_wp2_with fail
  go_end0
  exact ⟨rfl,h1,f1.more (by simp)⟩
 | false =>
  cases q with
  | false =>
   go_wp2_with fail
   refine (CD B kb _ _ false _ HH.out).mono ?_
   rintro e w1 ⟨rfl,h1,f1⟩
   go_wp2_with fail
   go_end0
   exact ⟨rfl,h1,f1.more (by simp)⟩
  | true =>
   go_wp2_with fail
   refine (CD B kb _ _ true _ HH.out).mono ?_
   rintro e w1 ⟨rfl,h1,f1⟩
   obtain⟨sv1,mb1,hmb1,k11,k12,hm1,hown1,hk1⟩:=h1.parts
   have HN1:slots.length=n:=HN.out
   change w1.ownsRow B _ 1 sv1 slots.length (slots.map _) at hown1
   rw [HN1] at hown1
   obtain⟨A1,c1,rfl⟩:∃ A c,sv1=.slice A n c:=by
    rcases hown1.2 with ⟨h1,h2⟩ | ⟨g',cp,cu,h1,_⟩
    ·exact ⟨none,0,by rw [h1,h2]⟩
    ·exact ⟨_,_,h1⟩
   have hB1:B≤w1.heap.size:=Nat.le_trans hB f1.size
   have hl1:=f1.blk HL.out (by decide)
   obtain⟨HM1,HO1,HK1,HL1,F1⟩:=Hd5 hm1 hown1 hk1 hl1 f1
   clear h1 hm1 hown1 hk1 hl1 f1
   go_wp2_with fail
   refine A8 (by kernel_rfl) (by kernel_rfl) ?_
   obtain⟨w3,hrun,hm3,hg3⟩:=(HM1.out.drew CB).update CB Tryz.underlying142 (n:Int) (.bool b)
   have hrun2:(Instr.mapUpdate 142 (.map (some mb1)) (.int .i64 (n:Int)) (.bool b)).run Tryz.prog w1.drew=.ok () w3:=hrun
   have hk3:=HK1.out.drew.grown hg3 (by intro e;injection e with e;exact MK.blk_ne HM1.out HK1.out e.symm)
   have hown3:=HO1.out.drew.kept hg3 (.inr (MK.own_ne HM1.out HO1.out))
   have hl3:=HL1.out.drew.grown hg3 (by intro e;injection e with e;exact MK.blk_ne HM1.out HL1.out e.symm)
   have c31:=hk3.cell 1
   have f3:=F1.out.drew.map (HM1.out.drew CB) hmb1 hg3 hB1
   clear hrun
   go_wp2_with fail
   refine AX.normal ?_
   obtain⟨HM3,HO3,HK3,HL3,F3⟩:=Hd5 hm3 hown3 hk3 hl3 f3
   clear hm3 hown3 hk3 hl3 f3
   obtain⟨i0,z0,hi0,hz0,hsz0,hby0,hzc0⟩:=Km.info
   have hBw3:B≤w3.heap.size:=Nat.le_trans hB1 hg3.size
   go_wp2_with (at_builtin;go_loud (refine wpList_append_own_at _ rfl _ _ 22 rfl B 118 i0 z0 1 1 Km.und hi0 hz0 hsz0 hby0 hzc0 (by decide) _ n _ rfl HO3.out ⟨lb,0,none⟩ l.length c (l.map (Value.int .i8)) rfl (by simp) (fun j u hj=>MD HL3.out hj) (by intro u hu;obtain⟨y,_,rfl⟩:=List.mem_map.1 hu;rfl) (by unfold maxLen;omega) (by omega) hBw3 ?_;intro v4 w4 hown4 hg4 _ _;obtain⟨A4,c4,rfl⟩:=AJ hown4;have hk4:=HK3.out.grown hg4 (AR HO3.out HK3.out (by decide)).symm;have hm4:=HM3.out.grown CB hg4 (MK.own_ne HM3.out HO3.out).symm;have c41:=hk4.cell 1;have z41:=hk4.frozen 1;have f4:=(F3.out.more (T':=[144,118]) (by simp)).grown HO3.out hg4 (Nat.le_refl _) hBw3 (by simp)))
   go_end0
   have hq0:AE slot b l ⟨slots,seen,false⟩=⟨slots ++ l,upd CB seen (n:Int) (some (.bool b)),false⟩:=HD.out
   have own5:=Bm hown4 (AR hown4 hk4 (by decide)) (p:=⟨kb,1,none⟩) (.slice A4 (n + l.length) c4)
   refine ⟨rfl,⟨.slice A4 (n + l.length) c4,mb1,hBk,hmb1,hk4.set_ 1 _,hm4.setCell CB (MK.blk_ne hm4 hk4) _,?_⟩,f4.set_ hk4 hBk (by simp) _⟩
   have hsl:(slots ++ l).length=n + l.length:=by rw [List.length_append,HN1]
   show World.ownsRow _ _ _ _ _ (slots ++ l).length (List.map _ (slots ++ l))
   rw [hsl,List.map_append]
   exact own5
end
def SAt (F B kb tb toff cap:Nat) (ts:List Au) (r:Nat→LSt→LSt) (i:Nat):Prop:=
 ∀ (s:LSt) (w:World),s.bad=false→Ci s→s.slots.length≤2 + 3 * i→LK w B kb (.slice (some ⟨tb,toff,none⟩) ts.length cap) s→As w tb toff ts →
  Calls Tryz.prog F #[.pointer (some ⟨kb,0,none⟩),.int .i64 i] w fun e w'=>e=.returned (.tuple #[])∧LK w' B kb (.slice (some ⟨tb,toff,none⟩) ts.length cap) (r i s)∧Frm B [144,118] w w'
section
variable (B kb tb toff cap:Nat) (ts:List Au) (recS recB:Nat→LSt→LSt)
theorem PJ (htb:tb < B) (hGS:∀ i s,Ci s→Ci (recS i s)) (hGB:∀ i s,Ci s→Ci (recB i s)) (hLS:Is ts recS) (hLB:Is ts recB)
  (K l:List Nat) (g cK base off c p q:Nat) (s:LSt) (w:World) (hl:∀ k,k < l.length→K[off + k]? = l[k]?) (hlen:l.length≤1000000)
  (hown:w.ownsRow base 3 1 (.slice (some ⟨g,0,none⟩) K.length cK) K.length (K.map fun j:Nat=>Value.int .i64 j))
  (he:∀ j∈l,j < ts.length∧SAt 143 B kb tb toff cap ts recS j∧SAt 103 B kb tb toff cap ts recB j)
  (hg:Ci s) (hc:Cj ts p q l) (hs:s.slots.length≤2 + 3 * p) (h:LK w B kb (.slice (some ⟨tb,toff,none⟩) ts.length cap) s) (hn:As w tb toff ts) :
  Calls Tryz.prog 198 #[.pointer (some ⟨kb,0,none⟩),.slice (some ⟨g,off,none⟩) l.length c] w fun e w'=>e=.returned (.tuple #[]) ∧
   LK w' B kb (.slice (some ⟨tb,toff,none⟩) ts.length cap) (AS ts recS recB 0 l s)∧Frm B [144,118] w w':=by
 obtain⟨R,hR⟩:=Ex0 (AS ts recS recB 0 l s)
 rw [← hR]
 obtain⟨n,hnl⟩:∃ n,l.length=n:=⟨_,rfl⟩
 obtain⟨HR,HC,HG,HH,HE,HO,HL,HNL,HGS,HGB,HLS,HLB⟩:=Hd12 hR hc hg h he hown hl hnl hGS hGB hLS hLB
 rw [hnl] at hlen ⊢
 clear hR hc hg h he hown hl hnl hGS hGB hLS hLB
 go_in
 go_wp2_with fail
 go_loopw [4,5,8,16,21] (fun _ _ iv _ _ wr=>∃ (k p':Nat) (s':LSt),k≤n∧iv=.int .i64 k∧Hid (R=AS ts recS recB k (l.drop k) s')∧Hid (Ci s')∧Hid (Cj ts p' q (l.drop k))∧s'.slots.length≤2 + 3 * p' ∧
   LK wr B kb (.slice (some ⟨tb,toff,none⟩) ts.length cap) s'∧Frm B [144,118] w wr)
  (fun _ _ iv _ _ _=>n - (intOf iv).toNat)
 case atStart=>exact ⟨0,p,s,by omega,rfl,HR,HG,HC,hs,HH.out,Frm.refl _ _ _⟩
 case round =>
  obtain⟨k,p',s',hk,rfl,HR',HG',HC',hs',hlk,hfr⟩:=hrel
  by_cases hlt:k < n
  ·obtain⟨j,hj⟩:∃ j,l[k]? = some j:=⟨_,List.getElem?_eq_getElem (by rw [HNL.out];exact hlt)⟩
   obtain⟨hjl,heS,heB⟩:=HE.out j (List.mem_of_getElem? hj)
   obtain⟨y,hy⟩:∃ y,ts[j]? = some y:=⟨_,List.getElem?_eq_getElem hjl⟩
   have hgj:ts.getD j AF=y:=by rw [List.getD_eq_getElem?_getD,hy];rfl
   have hdrop:l.drop k=j :: l.drop (k + 1):=by
    obtain⟨h2,h3⟩:=List.getElem?_eq_some_iff.1 hj
    rw [List.drop_eq_getElem_cons h2,h3]
   have hKj:K[off + k]? = some j:=by rw [HL.out k (by rw [HNL.out];exact hlt),hj]
   have hKl:off + k < K.length:=(List.getElem?_eq_some_iff.1 hKj).1
   have hnr:=hfr.nodes hn htb
   have hcell:wr.cell? ⟨g,off + k,none⟩=some (.int .i64 j):=by
    rw [(hfr.own HO.out (by decide)).cellAt (off + k) (by omega)]
    simp [hKj]
   have c0:=hnr.op hy
   obtain⟨hk0,hk3⟩:=hlk.cells
   have hR1:=HR'.out
   rw [hdrop,AS,hgj] at hR1
   have hC1:=HC'.out
   rw [hdrop] at hC1
   obtain⟨rfl,g1,g2,g3⟩:=hC1
   obtain⟨HR1,HC1,HLKx,HFR,HNR,HES,HEB⟩:=Hd7 hR1 g3 hlk hfr hnr heS heB
   clear hR1 g3 hlk hfr hnr heS heB hdrop hj hgj hy hKj
   cases hb:s'.bad with
   | true =>
    rw [hb] at hk3
    go_wp2_with fail
    go_roundw
    case rel =>
     refine ⟨k + 1,_,s',by omega,by go_num,?_,HG',HC1,?_,HLKx.out,HFR.out⟩
     ·have:=HR1.out
      rw [if_pos hb] at this
      exact this
     ·omega
    case measure=>(simp [intOf];try omega)
   | false =>
    rw [hb] at hk3
    by_cases hq:k=1∧y.op=13
    ·obtain⟨rfl,hq2⟩:=hq
     have q2:=AB hq2
     have HQ:=Lh hq2
     clear hq2
     go_wp2_with fail
     refine (HES.out s' wr hb HG'.out hs' HLKx.out HNR.out).mono ?_
     rintro e w3 ⟨rfl,h3,f3⟩
     go_wp2_with fail
     go_roundw
     case rel =>
      refine ⟨1 + 1,_,recS j s',by omega,by go_num,?_,HGS.out _ _ HG'.out,HC1,HLS.out _ _ g1 g2 hs',h3,HFR.out.trans f3⟩
      have:=HR1.out
      rw [if_neg (by rw [hb];decide),if_pos (by first | exact ⟨rfl,HQ.out⟩ | exact ⟨trivial,HQ.out⟩ | exact HQ.out)] at this
      exact this
     case measure=>(simp [intOf];try omega)
    ·have hlast:R=AS ts recS recB (k + 1) (l.drop (k + 1)) (recB j s'):=by
      have:=HR1.out
      rw [if_neg (by rw [hb];decide),if_neg hq] at this
      exact this
     have HLast:=Lh hlast
     clear hlast
     by_cases hk1:k=1
     ·subst hk1
      have q2:(y.op == 13)=false:=Ao fun h=>hq ⟨rfl,h⟩
      clear hq
      go_wp2_with fail
      refine (HEB.out s' wr hb HG'.out hs' HLKx.out HNR.out).mono ?_
      rintro e w3 ⟨rfl,h3,f3⟩
      go_wp2_with fail
      go_roundw
      case rel=>exact ⟨1 + 1,_,recB j s',by omega,by go_num,HLast,HGB.out _ _ HG'.out,HC1,HLB.out _ _ g1 g2 hs',h3,HFR.out.trans f3⟩
      case measure=>(simp [intOf];try omega)
     ·have q1:((k:Int) == 1)=false:=Ao (by omega)
      clear hq
      go_wp2_with fail
      refine (HEB.out s' wr hb HG'.out hs' HLKx.out HNR.out).mono ?_
      rintro e w3 ⟨rfl,h3,f3⟩
      go_wp2_with fail
      go_roundw
      case rel=>exact ⟨k + 1,_,recB j s',by omega,by go_num,HLast,HGB.out _ _ HG'.out,HC1,HLB.out _ _ g1 g2 hs',h3,HFR.out.trans f3⟩
      case measure=>(simp [intOf];try omega)
  ·have hkn:k=n:=by omega
   have hfin:R=s':=by
    rw [HR'.out,List.drop_of_length_le (by rw [HNL.out];omega),AS]
   have HFin:=Lh hfin
   clear hfin
   go_wp2_with fail
   go_end0
   exact ⟨rfl,by rw [HFin.out];exact hlk,hfr⟩
end
theorem LK.grownInts {w w':World} {B kb:Nat} {tv:Value} {s:LSt} (h:LK w B kb tv s) {base n:Nat} {v:Value} {xs:List Value} (ho:w.ownsRow base 3 1 v n xs) (hg:w.grownBy w' v.ownBlock):LK w' B kb tv s:=by
 obtain⟨sv,mb,h1,h2,h3,h4,h5⟩:=h
 refine ⟨sv,mb,h1,h2,h3.grown hg (AR ho h3 (by decide)).symm,h4.grown CB hg (MK.own_ne h4 ho).symm,h5.kept hg ?_⟩
 rcases h5.2 with ⟨rfl,_⟩ | ⟨g',cp,cu,rfl,_,hh,_⟩
 ·exact .inl rfl
 ·right
  intro e
  exact AR ho (g:=g') (t:=118) (cs:=cu) hh (by decide) e.symm
theorem Frm.grownNew {B base:Nat} {T:List TypeId} {a w w':World} {e:TypeId} {size n:Nat} {v:Value} {xs:List Value} (h:Frm B T a w) (ho:w.ownsRow base e size v n xs) (hg:w.grownBy w' v.ownBlock) (hb:a.heap.size≤base) (hB:B≤a.heap.size):Frm B T a w':=by
 refine ⟨Below.of_own h.below ho hg (by omega) (Nat.le_trans hB h.size),fun g cs t fr hg' ht'=>?_⟩
 have h0:g < a.heap.size:=(Array.getElem?_eq_some_iff.1 hg').1
 have h1:=h.kept g cs t fr hg' ht'
 rw [hg.block g (by have:=h.size;omega) ?_,h1]
 intro e2
 have:=ho.lt g e2.symm
 omega
structure StC (B kb tb toff cap:Nat) (ts:List Au) (i:Nat) (x:Au) (bk bn bq base n c:Nat) (A:Option Addr) (w0:World) (s:LSt) (w:World):Prop where
 lk:LK w B kb (.slice (some ⟨tb,toff,none⟩) ts.length cap) s
 fr:Frm B [144,118] w0 w
 tbB:tb < B
 nodes:As w tb toff ts
 b1:Blk w bk 141 #[.pointer (some ⟨kb,0,none⟩)]
 b2:Blk w bn 120 x.cells.toArray
 b3:Blk w bq 128 #[.slice A n c]
 own:w.ownsRow base 3 1 (.slice A n c) n ((Am ts i).map fun j:Nat=>Value.int .i64 j)
section
variable {B kb tb toff cap:Nat} {ts:List Au} {i:Nat} {x:Au} {bk bn bq base n c:Nat} {A:Option Addr} {w0 w w':World} {s s':LSt}
theorem StC.alloc (h:StC B kb tb toff cap ts i x bk bn bq base n c A w0 s w) (o:Obj):StC B kb tb toff cap ts i x bk bn bq base n c A w0 s (w.alloc o):=by
 have hB:B≤w.heap.size:=by have:=h.lk.size;omega
 exact ⟨h.lk.alloc o,h.fr.alloc hB o,h.tbB,h.nodes.below ((Below.refl w.heap.size w).alloc (Nat.le_refl _) o) (by have:=h.lk.size;have:=h.tbB;omega),h.b1.alloc o,h.b2.alloc o,h.b3.alloc o,h.own.alloc o⟩
theorem StC.drew (h:StC B kb tb toff cap ts i x bk bn bq base n c A w0 s w):StC B kb tb toff cap ts i x bk bn bq base n c A w0 s w.drew:=
 ⟨h.lk.drew,h.fr.drew,h.tbB,h.nodes,h.b1.drew,h.b2.drew,h.b3.drew,h.own.drew⟩
theorem StC.step (h:StC B kb tb toff cap ts i x bk bn bq base n c A w0 s w) {T:List TypeId} (hT:∀ t∈T,t = 144∨t = 118) (hl:LK w' B kb (.slice (some ⟨tb,toff,none⟩) ts.length cap) s') (hf:Frm B T w w') :
  StC B kb tb toff cap ts i x bk bn bq base n c A w0 s' w':=by
 have hf2:Frm B [144,118] w w':=hf.more (fun t ht=>by simpa using hT t ht)
 exact ⟨hl,h.fr.trans hf2,h.tbB,hf2.nodes h.nodes h.tbB,hf2.blk h.b1 (by decide),hf2.blk h.b2 (by decide),hf2.blk h.b3 (by decide),hf2.own h.own (by decide)⟩
end
structure Vr where
 slot:Int
 kind:Int
 let_:Bool
def Vr.cells (v:Vr):List Value:=[.string ByteArray.empty,.int .i64 v.slot,.int .i8 v.kind,.bool v.let_]
def Cq (l:List Vr):List Value:=l.flatMap Vr.cells
structure RS where
 slots:List Int
 vars:List Vr
 bad:Bool
def RS.must (s:RS) (x:Bool):RS:={ s with bad:=s.bad || !x }
def RK (w:World) (B kb:Nat) (tv:Value) (s:RS):Prop:=
 ∃ sv vv,B≤kb∧Blk w kb 158 #[tv,sv,vv,.bool s.bad]∧w.ownsRow B 118 1 sv s.slots.length (s.slots.map (Value.int .i8))∧w.ownsRow B 160 4 vv s.vars.length (Cq s.vars)
section
variable {w:World} {B kb:Nat} {tv:Value} {s:RS} (h:RK w B kb tv s)
include w B kb tv s h
theorem RK.setBad (x:Bool):RK (w.setCell ⟨kb,3,none⟩ (.bool x)) B kb tv { s with bad:=x }:=by
 obtain⟨sv,vv,h1,h3,h4,h5⟩:=h
 exact ⟨sv,vv,h1,h3.set_ 3 _,Bm h4 (AR h4 h3 (by decide)) _,Bm h5 (AR h5 h3 (by decide)) _⟩
theorem RK.size:B≤kb∧kb < w.heap.size:=by
 obtain⟨sv,vv,h1,h3,_⟩:=h
 exact ⟨h1,h3.lt⟩
theorem RK.cells:w.cell? ⟨kb,0,none⟩=some tv∧w.cell? ⟨kb,3,none⟩=some (.bool s.bad)∧w.frozen? ⟨kb,3,none⟩=false:=by
 obtain⟨sv,vv,h1,h3,_⟩:=h
 exact ⟨h3.cell 0,h3.cell 3,h3.frozen 3⟩
theorem RK.alloc (o:Obj):RK (w.alloc o) B kb tv s:=by
 obtain⟨sv,vv,h1,h3,h4,h5⟩:=h
 exact ⟨sv,vv,h1,h3.alloc o,h4.alloc o,h5.alloc o⟩
theorem RK.drew:RK w.drew B kb tv s:=h
end
theorem RK.below {w w':World} {B kb:Nat} {tv:Value} {s:RS} (h:RK w B kb tv s) (hb:Below w.heap.size w w'):RK w' B kb tv s:=by
 obtain⟨sv,vv,h1,h3,h4,h5⟩:=h
 have f:=Frm.of_below (B:=0) (T:=[]) hb (Nat.zero_le _)
 exact ⟨sv,vv,h1,f.blk h3 (by simp),f.own h4 (by simp),f.own h5 (by simp)⟩
theorem RK.frm {w:World} {B kb:Nat} {tv:Value} {s:RS} (h:RK w B kb tv s) (i:Nat) (u:Value):Frm B [158] w (w.setCell ⟨kb,i,none⟩ u):=by
 obtain⟨sv,vv,h1,h3,_⟩:=h
 exact (Frm.refl _ _ _).set_ h3 h1 (by simp) u
theorem RK.same {w:World} {B kb:Nat} {tv:Value} {s s':RS} (h:RK w B kb tv s) (e:s=s'):RK w B kb tv s':=e▸h
theorem BC (B kb:Nat) (tv:Value) (s:RS) (x:Bool) (w:World) (h:RK w B kb tv s) :
  Calls Tryz.prog 165 #[.pointer (some ⟨kb,0,none⟩),.bool x] w fun e w'=>e=.returned (.tuple #[])∧RK w' B kb tv (s.must x)∧Frm B [158] w w':=by
 obtain⟨c0,c3,f3⟩:=h.cells
 have hset:=h.setBad true
 have hfr:=h.frm 3 (.bool true)
 obtain⟨HS,HF,H⟩:=Hd3 hset hfr h
 clear h hset hfr
 cases x with
 | true =>
  go_in
  go_wp2
  go_end0
  exact ⟨rfl,H.out.same (by cases s;simp [RS.must]),Frm.refl _ _ _⟩
 | false =>
  go_in
  go_wp2
  go_end0
  exact ⟨rfl,HS.out.same (by cases s;simp [RS.must]),HF.out⟩
theorem RS.must_must (s:RS) (a b:Bool):(s.must a).must b=s.must (a && b):=by
 cases s;cases a <;> cases b <;> simp [RS.must]
theorem RS.must_true (s:RS):s.must true=s:=by cases s;simp [RS.must]
theorem BT (B kb tb toff cap:Nat) (ts:List Au) (s:RS) (i:Nat) (x:Au) (kind n m:Int) (w:World) (h:RK w B kb (.slice (some ⟨tb,toff,none⟩) ts.length cap) s)
  (hx:ts[i]? = some x) (hn:As w tb toff ts) (hlt:ts.length≤100000) :
  Calls Tryz.prog 166 #[.pointer (some ⟨kb,0,none⟩),.int .i64 i,.int .i8 kind,.int .i64 n,.int .i64 m] w fun e w'=>e=.returned (.tuple #[])∧RK w' B kb (.slice (some ⟨tb,toff,none⟩) ts.length cap) (s.must (AO x kind n m))∧Frm B [158] w w':=by
 have hi:i < ts.length:=(List.getElem?_eq_some_iff.1 hx).1
 obtain⟨len,hlen⟩:∃ len,ts.length=len:=⟨_,rfl⟩
 obtain⟨c0,c1,c2,c3,c4,c5,c6⟩:=hn.all hx
 obtain⟨k0,k3,kf⟩:=h.cells
 obtain⟨hB,hks⟩:=h.size
 rw [hlen] at h hi hlt k0 ⊢
 have hiI:(i:Int) < len:=by omega
 obtain⟨xo,xk,xn,xm,xt,xp,xq⟩:=x
 simp only at c0 c1 c2 c3 c4 c5 c6
 obtain⟨a,ha⟩:=Ex0 ((xk == kind && xn == n && xm == m && decide (0≤xp)))
 have hlike:AO ⟨xo,xk,xn,xm,xt,xp,xq⟩ kind n m=(a && (xt.toList.isEmpty || xo == 52)):=by unfold AO;simp only;rw [ha]
 rw [hlike]
 have hm:=fun (s:RS) x wx hx=>BC B kb (.slice (some ⟨tb,toff,none⟩) len cap) s x wx hx
 obtain⟨H,HM,HA⟩:=Hd3 h hm ha
 clear h hm ha hlike hx hn hlen
 have hxb:=fun wx=>Blk.new wx 120 #[.int .i8 xo,.int .i8 xk,.int .i64 xn,.int .i64 xm,.string xt,.int .i64 xp,.int .i64 xq]
 have HXB:=Lh hxb
 clear hxb
 go_in
 by_cases q1:xk=kind
 ·subst q1
  by_cases q2:xn=n
  ·subst q2
   by_cases q3:xm=m
   ·subst q3
    by_cases q4:0≤xp
    ·have e1:(xk == xk)=true:=by simp
     have e2:(xn == xn)=true:=by simp
     have e3:(xm == xm)=true:=by simp
     have e4:decide (0≤xp)=true:=by simp [q4]
     have hav:a=true:=by rw [HA.out,e1,e2,e3,e4];rfl
     subst hav
     go_wp2_with fail
     refine (HM.out s true _ (H.out.alloc _)).mono ?_
     rintro e w1 ⟨rfl,h1,f1⟩
     have x1:=f1.blk (HXB.out w) (by decide)
     have y0:=x1.cell 0
     have y4:=x1.cell 4
     obtain⟨H1,F1⟩:=Hd2 h1 (((Frm.refl B [158] w).alloc (by omega) _).trans f1)
     clear h1 f1 x1
     by_cases q:xo=52
     ·subst q
      go_wp2_with fail
      go_end0
      refine ⟨rfl,H1.out.same ?_,F1.out⟩
      simp
     ·have sq:(xo == 52)=false:=by simp [q]
      go_wp2_with fail
      refine (HM.out (s.must _) xt.toList.isEmpty _ H1.out).mono ?_
      rintro e w2 ⟨rfl,h2,f2⟩
      go_wp2_with fail
      go_end0
      refine ⟨rfl,h2.same ?_,F1.out.trans f2⟩
      rw [RS.must_must,sq,Bool.or_false]
    ·have e1:(xk == xk)=true:=by simp
     have e2:(xn == xn)=true:=by simp
     have e3:(xm == xm)=true:=by simp
     have e4:decide (0≤xp)=false:=by simp [q4]
     have hav:a=false:=by rw [HA.out,e1,e2,e3,e4];rfl
     subst hav
     go_wp2_with fail
     refine (HM.out s false _ (H.out.alloc _)).mono ?_
     rintro e w1 ⟨rfl,h1,f1⟩
     have x1:=f1.blk (HXB.out w) (by decide)
     have y0:=x1.cell 0
     have y4:=x1.cell 4
     obtain⟨H1,F1⟩:=Hd2 h1 (((Frm.refl B [158] w).alloc (by omega) _).trans f1)
     clear h1 f1 x1
     by_cases q:xo=52
     ·subst q
      go_wp2_with fail
      go_end0
      refine ⟨rfl,H1.out.same ?_,F1.out⟩
      simp
     ·have sq:(xo == 52)=false:=by simp [q]
      go_wp2_with fail
      refine (HM.out (s.must _) xt.toList.isEmpty _ H1.out).mono ?_
      rintro e w2 ⟨rfl,h2,f2⟩
      go_wp2_with fail
      go_end0
      refine ⟨rfl,h2.same ?_,F1.out.trans f2⟩
      rw [RS.must_must,sq,Bool.or_false]
   ·have e1:(xk == xk)=true:=by simp
    have e2:(xn == xn)=true:=by simp
    have e3:(xm == m)=false:=by simp [q3]
    have hav:a=false:=by rw [HA.out,e1,e2,e3];rfl
    subst hav
    go_wp2_with fail
    refine (HM.out s false _ (H.out.alloc _)).mono ?_
    rintro e w1 ⟨rfl,h1,f1⟩
    have x1:=f1.blk (HXB.out w) (by decide)
    have y0:=x1.cell 0
    have y4:=x1.cell 4
    obtain⟨H1,F1⟩:=Hd2 h1 (((Frm.refl B [158] w).alloc (by omega) _).trans f1)
    clear h1 f1 x1
    by_cases q:xo=52
    ·subst q
     go_wp2_with fail
     go_end0
     refine ⟨rfl,H1.out.same ?_,F1.out⟩
     simp
    ·have sq:(xo == 52)=false:=by simp [q]
     go_wp2_with fail
     refine (HM.out (s.must _) xt.toList.isEmpty _ H1.out).mono ?_
     rintro e w2 ⟨rfl,h2,f2⟩
     go_wp2_with fail
     go_end0
     refine ⟨rfl,h2.same ?_,F1.out.trans f2⟩
     rw [RS.must_must,sq,Bool.or_false]
  ·have e1:(xk == xk)=true:=by simp
   have e2:(xn == n)=false:=by simp [q2]
   have hav:a=false:=by rw [HA.out,e1,e2];rfl
   subst hav
   go_wp2_with fail
   refine (HM.out s false _ (H.out.alloc _)).mono ?_
   rintro e w1 ⟨rfl,h1,f1⟩
   have x1:=f1.blk (HXB.out w) (by decide)
   have y0:=x1.cell 0
   have y4:=x1.cell 4
   obtain⟨H1,F1⟩:=Hd2 h1 (((Frm.refl B [158] w).alloc (by omega) _).trans f1)
   clear h1 f1 x1
   by_cases q:xo=52
   ·subst q
    go_wp2_with fail
    go_end0
    refine ⟨rfl,H1.out.same ?_,F1.out⟩
    simp
   ·have sq:(xo == 52)=false:=by simp [q]
    go_wp2_with fail
    refine (HM.out (s.must _) xt.toList.isEmpty _ H1.out).mono ?_
    rintro e w2 ⟨rfl,h2,f2⟩
    go_wp2_with fail
    go_end0
    refine ⟨rfl,h2.same ?_,F1.out.trans f2⟩
    rw [RS.must_must,sq,Bool.or_false]
 ·have e1:(xk == kind)=false:=by simp [q1]
  have hav:a=false:=by rw [HA.out,e1];rfl
  subst hav
  go_wp2_with fail
  refine (HM.out s false _ (H.out.alloc _)).mono ?_
  rintro e w1 ⟨rfl,h1,f1⟩
  have x1:=f1.blk (HXB.out w) (by decide)
  have y0:=x1.cell 0
  have y4:=x1.cell 4
  obtain⟨H1,F1⟩:=Hd2 h1 (((Frm.refl B [158] w).alloc (by omega) _).trans f1)
  clear h1 f1 x1
  by_cases q:xo=52
  ·subst q
   go_wp2_with fail
   go_end0
   refine ⟨rfl,H1.out.same ?_,F1.out⟩
   simp
  ·have sq:(xo == 52)=false:=by simp [q]
   go_wp2_with fail
   refine (HM.out (s.must _) xt.toList.isEmpty _ H1.out).mono ?_
   rintro e w2 ⟨rfl,h2,f2⟩
   go_wp2_with fail
   go_end0
   refine ⟨rfl,h2.same ?_,F1.out.trans f2⟩
   rw [RS.must_must,sq,Bool.or_false]
end Go.Proofs.YtmpcbaflcogmmaaGreatDoor
