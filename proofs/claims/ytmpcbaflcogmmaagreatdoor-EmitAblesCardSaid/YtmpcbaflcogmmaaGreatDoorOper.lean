/- Oper -/
import Derived.Test.YtmpcbaflcogmmaaGreatDoorExpr
namespace Go.Proofs.YtmpcbaflcogmmaaGreatDoor
open Go.RowKit
set_option linter.all false
set_option maxHeartbeats 800000
set_option maxRecDepth 100000
theorem Cm {w:World} {base n:Nat} {kv:Value} {vs:List Value} (h:w.ownsRow base 3 1 kv n vs) :
  ∃ A c,kv=.slice A n c∧(0 < n→∃ g,A=some ⟨g,0,none⟩∧g < w.heap.size∧w.ownsRow base 3 1 (.slice (some ⟨g,0,none⟩) n c) n vs):=by
 rcases h.2 with ⟨h1,h2⟩ | ⟨g,cp,cu,h1,_⟩
 ·exact ⟨none,0,by rw [h1,h2],fun h=>absurd h (by omega)⟩
 ·exact ⟨_,_,h1,fun _=>⟨g,rfl,(h.lt g (by rw [h1];rfl)).2,by rw [← h1];exact h⟩⟩
section
variable (B kb tb toff cap:Nat) (ts:List Au) (slots:List Int) (seen:Int→Option Value) (i:Nat) (x:Au) (n:Nat) (A:Option Addr) (c:Nat) (w:World) (hx:ts[i]? = some x)
include B kb tb toff cap ts slots seen i x n A c w hx
theorem In (h:LK w B kb (.slice (some ⟨tb,toff,none⟩) ts.length cap) ⟨slots,seen,false⟩) (hn:As w tb toff ts) (hc:(x.op < 34∨48 < x.op)∨(n:Int)≠(if x.op=34∨x.op=35 then 1 else 2)) :
  Calls Tryz.prog 243 #[.pointer (some ⟨kb,0,none⟩),.int .i64 i,.slice A n c] w fun e w'=>e=.returned (.tuple #[.int .i8 0,.int .i64 0]) ∧
   LK w' B kb (.slice (some ⟨tb,toff,none⟩) ts.length cap) ⟨slots,seen,true⟩∧Frm B [144] w w':=by
 have hi:i < ts.length:=(List.getElem?_eq_some_iff.1 hx).1
 have c0:=hn.op hx
 have k0:=h.cells.1
 obtain⟨p,hp⟩:∃ p,x.op=p:=⟨_,rfl⟩
 rw [hp] at c0 hc
 have HH:=Lh h
 clear h hp hx hn
 by_cases hr:p < 34∨48 < p
 ·have e1:(p == 34)=false:=by simp;omega
  have e2:(p == 35)=false:=by simp;omega
  clear hc
  rcases hr with hc | hc
  all_goals
   go_in
   go_wp2_with (first | (go_at_call 267;refine (CH p _).mono ?_;rintro e w5 ⟨rfl,rfl⟩) | (go_at_call 139;refine (Dq B kb _ _ _ _ _ HH.out).mono ?_;rintro e w3 ⟨rfl,h3,f3⟩))
   all_goals first
    | (go_ret2;exact ⟨rfl,h3,f3⟩)
    | (exfalso;omega)
 ·have hc:(n:Int)≠(if p=34∨p=35 then 1 else 2):=hc.resolve_left hr
  have hr1:34≤p:=by omega
  have hr2:p≤48:=by omega
  clear hr
  have e12:((p == 34)=true∧((n:Int) == 1)=false)∨((p == 34)=false∧(p == 35)=true∧((n:Int) == 1)=false)∨((p == 34)=false∧(p == 35)=false∧((n:Int) == 2)=false):=by
   by_cases h1:p=34
   ·rw [if_pos (.inl h1)] at hc
    exact .inl ⟨by simp [h1],by simp;omega⟩
   ·by_cases h2:p=35
    ·rw [if_pos (.inr h2)] at hc
     exact .inr (.inl ⟨by simp [h2],by simp [h2],by simp;omega⟩)
    ·rw [if_neg (by omega)] at hc
     exact .inr (.inr ⟨by simp [h1],by simp [h2],by simp;omega⟩)
  clear hc
  rcases e12 with ⟨e1,e3⟩ | ⟨e1,e2,e3⟩ | ⟨e1,e2,e3⟩
  all_goals
   go_in
   go_wp2_with (first | (go_at_call 267;refine (CH p _).mono ?_;rintro e w5 ⟨rfl,rfl⟩) | (go_at_call 139;refine (Dq B kb _ _ _ _ _ HH.out).mono ?_;rintro e w3 ⟨rfl,h3,f3⟩))
   all_goals first
    | (go_ret2;exact ⟨rfl,h3,f3⟩)
    | (exfalso;omega)
theorem JU (hl:ts.length≤100000) (h:LK w B kb (.slice (some ⟨tb,toff,none⟩) ts.length cap) ⟨slots,seen,false⟩) (hn:As w tb toff ts) (htb:tb < B) (hr1:34≤x.op) (hr2:x.op≤48) (hc:(n:Int)=(if x.op=34∨x.op=35 then 1 else 2)) (hlike:AO x (AG x.op).2 0 0=false) :
  Calls Tryz.prog 243 #[.pointer (some ⟨kb,0,none⟩),.int .i64 i,.slice A n c] w fun e w'=>e=.returned (.tuple #[.int .i8 0,.int .i64 0]) ∧
   LK w' B kb (.slice (some ⟨tb,toff,none⟩) ts.length cap) ⟨slots,seen,true⟩∧Frm B [144] w w':=by
 have hi:i < ts.length:=(List.getElem?_eq_some_iff.1 hx).1
 have c0:=hn.op hx
 have k0:=h.cells.1
 obtain⟨p,hp⟩:∃ p,x.op=p:=⟨_,rfl⟩
 rw [hp] at c0 hc hr1 hr2 hlike
 obtain⟨HH,HL,HX,HN⟩:=Hd4 h hlike hx hn
 clear h hp hx hlike hn
 by_cases h34:p=34∨p=35
 ·rw [if_pos h34] at hc
  obtain rfl:n=1:=by omega
  have e12:((p == 34)=true∧True)∨((p == 34)=false∧(p == 35)=true):=by
   rcases h34 with h | h
   ·exact .inl ⟨by simp [h],trivial⟩
   ·exact .inr ⟨by simp [h],by simp [h]⟩
  clear h34 hc
  rcases e12 with ⟨e1,e2⟩ | ⟨e1,e2⟩
  all_goals
   go_in
   go_wp2_with (first | (go_at_call 267;refine (CH _ _).mono ?_;rintro e w5 ⟨rfl,rfl⟩) | (go_at_call 139;refine (BQ B kb _ _ _ _ HH.out).mono ?_;rintro e w3 ⟨rfl,h3,f3⟩;have H3:=Lh h3;have F3:=Lh f3;clear h3 f3) | (go_at_call 141;refine (DI B kb tb toff cap ts slots seen i x (AG p).2 0 0 _ false HL.out H3.out HX.out (F3.out.nodes HN.out htb) hl).mono ?_;rintro e w4 ⟨rfl,h4,f4⟩))
   go_ret2
   refine ⟨rfl,?_,?_⟩
   ·exact h4
   ·exact F3.out.trans f4
 ·rw [if_neg h34] at hc
  obtain rfl:n=2:=by omega
  have e1:(p == 34)=false:=by simp;omega
  have e2:(p == 35)=false:=by simp;omega
  clear h34 hc
  go_in
  go_wp2_with (first | (go_at_call 267;refine (CH p _).mono ?_;rintro e w5 ⟨rfl,rfl⟩) | (go_at_call 139;refine (BQ B kb _ _ _ _ HH.out).mono ?_;rintro e w3 ⟨rfl,h3,f3⟩;have H3:=Lh h3;have F3:=Lh f3;clear h3 f3) | (go_at_call 141;refine (DI B kb tb toff cap ts slots seen i x (AG p).2 0 0 _ false HL.out H3.out HX.out (F3.out.nodes HN.out htb) hl).mono ?_;rintro e w4 ⟨rfl,h4,f4⟩))
  go_ret2
  refine ⟨rfl,?_,?_⟩
  ·exact h4
  ·exact F3.out.trans f4
end
theorem FG {k a b:Int} (h:a=b):Ending.returned (.tuple #[.int .i8 k,.int .i64 a])=.returned (.tuple #[.int .i8 k,.int .i64 b]):=by rw [h]
section
variable (B kb tb toff cap:Nat) (ts:List Au) (slots:List Int) (seen:Int→Option Value) (r:Bool→ER) (i:Nat)
include B kb tb toff cap ts slots seen r i
theorem FE (kind:Int) (bad:Bool) (hv:Int) (bv:Bool) (w:World) (hw:AA (r bad) kind=(hv,bv)) (he:EW B kb tb toff cap ts slots seen r i) (h:LK w B kb (.slice (some ⟨tb,toff,none⟩) ts.length cap) ⟨slots,seen,bad⟩) (hn:As w tb toff ts) :
  Calls Tryz.prog 140 #[.pointer (some ⟨kb,0,none⟩),.int .i64 i,.int .i8 kind] w fun e w'=>e=.returned (.int .i64 hv) ∧
   LK w' B kb (.slice (some ⟨tb,toff,none⟩) ts.length cap) ⟨slots,seen,bv⟩∧Frm B [144] w w':=by
 have:=FV B kb tb toff cap ts slots seen r i kind bad w he h hn
 rwa [hw] at this
theorem QJ (bad:Bool) (kv hv:Int) (bv:Bool) (w:World) (hw:r bad=(kv,hv,bv)) (he:EW B kb tb toff cap ts slots seen r i) (h:LK w B kb (.slice (some ⟨tb,toff,none⟩) ts.length cap) ⟨slots,seen,bad⟩) (hn:As w tb toff ts) :
  Calls Tryz.prog 193 #[.pointer (some ⟨kb,0,none⟩),.int .i64 i] w fun e w'=>e=.returned (.tuple #[.int .i8 kv,.int .i64 hv]) ∧
   LK w' B kb (.slice (some ⟨tb,toff,none⟩) ts.length cap) ⟨slots,seen,bv⟩∧Frm B [144] w w':=by
 have:=he bad w h hn
 rwa [hw] at this
end
theorem QM (B kb:Nat) (tv:Value) (slots:List Int) (seen:Int→Option Value) (w:World) (bad b bb:Bool) (hb:(bad || !b)=bb) (h:LK w B kb tv ⟨slots,seen,bad⟩) :
  Calls Tryz.prog 139 #[.pointer (some ⟨kb,0,none⟩),.bool b] w fun e w'=>e=.returned (.bool (!bb))∧LK w' B kb tv ⟨slots,seen,bb⟩∧Frm B [144] w w':=by
 have:=CD B kb tv ⟨slots,seen,bad⟩ b w h
 subst hb
 exact this
def E4 (rec:Nat→Bool→ER) (p:Int) (kids:List Nat):Int × Int × Bool:=
 if p=38∨p=39 then ((rec (kids.getD 0 0) false).1,(rec (kids.getD 0 0) false).2.1,(rec (kids.getD 0 0) false).2.2 || !((rec (kids.getD 0 0) false).1 != 6))
 else ((AG p).1,(AA (rec (kids.getD 0 0) false) (AG p).1).1,(AA (rec (kids.getD 0 0) false) (AG p).1).2)
theorem LW (B kb tb toff cap:Nat) (ts:List Au) (slots:List Int) (seen:Int→Option Value) (rec:Nat→Bool→ER) (H:Int) (hH2:H≤1000000) (hr:∀ i b,0≤(rec i b).2.1∧(rec i b).2.1≤H)
  (i:Nat) (x:Au) (kids:List Nat) (kv:Value) (base:Nat) (w:World) (hx:ts[i]? = some x) (hl:ts.length≤100000)
  (he:∀ j∈kids,j < ts.length∧EW B kb tb toff cap ts slots seen (rec j) j) (hkv:w.ownsRow base 3 1 kv kids.length (kids.map fun j:Nat=>Value.int .i64 j))
  (h:LK w B kb (.slice (some ⟨tb,toff,none⟩) ts.length cap) ⟨slots,seen,false⟩) (hn:As w tb toff ts) (htb:tb < B)
  (hr1:34≤x.op) (hr2:x.op≤48) (hc:(kids.length:Int)=(if x.op=34∨x.op=35 then 1 else 2)) (hlike:AO x (AG x.op).2 0 0=true) :
  Calls Tryz.prog 243 #[.pointer (some ⟨kb,0,none⟩),.int .i64 i,kv] w fun e w'=>e=.returned (.tuple #[.int .i8 (Bd rec ts i kids).1,.int .i64 (Bd rec ts i kids).2.1]) ∧
   LK w' B kb (.slice (some ⟨tb,toff,none⟩) ts.length cap) ⟨slots,seen,(Bd rec ts i kids).2.2⟩∧Frm B [144] w w':=by
 have hi:i < ts.length:=(List.getElem?_eq_some_iff.1 hx).1
 have c0:=hn.op hx
 have k0:=h.cells.1
 have hgd:(ts.getD i AF)=x:=by rw [List.getD_eq_getElem?_getD,hx];rfl
 obtain⟨R,hR⟩:=Ex0 (Bd rec ts i kids)
 rw [← hR]
 have hop:Bd rec ts i kids=if (if x.op=34∨x.op=35 then 1 else 2)=2∧(E4 rec x.op kids).2.2=false then
   ((AG x.op).2,max (E4 rec x.op kids).2.1 (if x.op≠37∧x.op≠36 then (AA (rec (kids.getD 1 0) false) (E4 rec x.op kids).1).1 + 1 else (AA (rec (kids.getD 1 0) false) (E4 rec x.op kids).1).1),(AA (rec (kids.getD 1 0) false) (E4 rec x.op kids).1).2)
   else ((AG x.op).2,(E4 rec x.op kids).2.1,(E4 rec x.op kids).2.2):=by
  unfold Bd
  simp only [hgd]
  rw [if_pos ⟨⟨hr1,hr2⟩,by split at hc <;> simp_all <;> omega,hlike⟩]
  rfl
 rw [hop] at hR
 obtain⟨A,c,rfl,hkf⟩:=Cm hkv
 obtain⟨g,rfl,hgz,hown⟩:=hkf (by split at hc <;> omega)
 obtain⟨j0,l',rfl⟩:∃ j0 l',kids=j0 :: l':=by
  cases kids with
  | nil=>split at hc <;> simp at hc
  | cons a b=>exact ⟨a,b,rfl⟩
 have q0:w.cell? ⟨g,0,none⟩=some (.int .i64 j0):=by rw [hown.cellAt 0 (by simp)];rfl
 obtain⟨hj0,he0⟩:=he j0 (by simp)
 have hq0:∀ w',Frm B [144] w w'→w'.cell? ⟨g,0,none⟩=some (.int .i64 j0):=fun w' f=>by rw [(f.own hown (by decide)).cellAt 0 (by simp)];rfl
 have Q0:=Lh hq0
 clear hq0
 simp only [List.length_cons] at hc
 obtain⟨p,hp⟩:∃ p,x.op=p:=⟨_,rfl⟩
 rw [hp] at c0 hc hr1 hr2 hlike hR
 obtain⟨HH,HL,HX,HN,HE0,HO,HE,HR⟩:=Hd8 h hlike hx hn he0 hown he hr
 clear h hp hlike hn he0 hkv hkf hown hop hgd he hr
 by_cases h34:p=34∨p=35
 ·-- one operand
  rw [if_pos h34] at hc
  have hl0:l'=[]:=List.eq_nil_of_length_eq_zero (by omega)
  subst hl0
  obtain⟨⟨W1,W2⟩,hW⟩:∃ W,AA (rec j0 false) (AG p).1=W:=⟨_,rfl⟩
  have hf:E4 rec p [j0]=((AG p).1,W1,W2):=by
   unfold E4;rw [if_neg (by omega)];simp [hW]
  have hRf:R=((AG p).2,W1,W2):=by rw [hR,if_neg (by rw [if_pos h34];simp),hf]
  subst hRf
  have HW:=Lh hW
  have e12:((p == 34)=true∧True)∨((p == 34)=false∧(p == 35)=true):=by
   rcases h34 with h | h
   ·exact .inl ⟨by simp [h],trivial⟩
   ·exact .inr ⟨by simp [h],by simp [h]⟩
  have e3:(p == 38)=false:=by simp;omega
  have e4:(p == 39)=false:=by simp;omega
  simp only [List.length_nil,List.length_cons,List.map_cons,List.map_nil,Nat.zero_add] at *
  clear h34 hc hR hf hW hx
  rcases e12 with ⟨e1,e2⟩ | ⟨e1,e2⟩
  all_goals
   go_in
   go_wp2_with (first | (go_at_call 267;refine (CH _ _).mono ?_;rintro e w5 ⟨rfl,rfl⟩) | (go_at_call 139;refine (BQ B kb _ _ _ _ HH.out).mono ?_;rintro e w3 ⟨rfl,h3,f3⟩;have H3:=Lh h3;have F3:=Lh f3;clear h3 f3) | (go_at_call 141;refine (Cl B kb tb toff cap ts slots seen i x (AG p).2 0 0 _ HL.out H3.out HX.out (F3.out.nodes HN.out htb) hl).mono ?_;rintro e w4 ⟨rfl,h4,f4⟩;have f5:=F3.out.trans f4;have q1:=Q0.out _ f5;have H4:=Lh h4;have F5:=Lh f5;clear h4 f4 f5) | (go_at_call 140;refine (FE B kb tb toff cap ts slots seen (rec j0) j0 _ false W1 W2 _ HW.out HE0.out H4.out (F5.out.nodes HN.out htb)).mono ?_;rintro e w6 ⟨rfl,h6,f6⟩))
   go_ret2
   refine ⟨rfl,?_,?_⟩
   ·exact h6
   ·exact F5.out.trans f6
 ·-- two operands
  rw [if_neg h34] at hc
  obtain⟨j1,rfl⟩:∃ j1,l'=[j1]:=by
   cases l' with
   | nil=>simp at hc
   | cons a b=>cases b with
    | nil=>exact ⟨a,rfl⟩
    | cons d e=>simp at hc;omega
  have hq1:∀ w',Frm B [144] w w'→w'.cell? ⟨g,1,none⟩=some (.int .i64 j1):=fun w' f=>by rw [(f.own HO.out (by decide)).cellAt 1 (by simp)];rfl
  have Q1:=Lh hq1
  obtain⟨hj1,he1⟩:=HE.out j1 (by simp)
  have HE1:=Lh he1
  clear he1 hq1
  have e1:(p == 34)=false:=by simp;omega
  have e2:(p == 35)=false:=by simp;omega
  obtain⟨k',h',b',hF⟩:∃ k' h' b',E4 rec p [j0,j1]=(k',h',b'):=⟨_,_,_,rfl⟩
  rw [if_neg h34,hF] at hR
  simp only [true_and,List.getD_cons_succ,List.getD_cons_zero] at hR
  obtain⟨h2,b2,hW2⟩:∃ h2 b2,AA (rec j1 false) k'=(h2,b2):=⟨_,_,rfl⟩
  have hb2:0≤h2∧h2≤1000000:=by
   have h1:=HR.out j1 false
   have h2:(AA (rec j1 false) k').1=(rec j1 false).2.1:=rfl
   rw [hW2] at h2
   simp only at h2
   omega
  rw [hW2] at hR
  have HW2:=Lh hW2
  obtain⟨hb3,hb4⟩:=hb2
  simp only [List.length_nil,List.length_cons,List.map_cons,List.map_nil,Nat.zero_add,Nat.reduceAdd] at *
  clear h34 hc hW2 hx
  by_cases h38:p=38∨p=39
  ·obtain⟨k1,h1,b1,hr1'⟩:∃ k1 h1 b1,rec j0 false=(k1,h1,b1):=⟨_,_,_,rfl⟩
   have hF2:k'=k1∧h'=h1∧b'=(b1 || !(k1 != 6)):=by
    unfold E4 at hF
    rw [if_pos h38] at hF
    simp only [List.getD_cons_zero,hr1',Prod.mk.injEq] at hF
    exact ⟨hF.1.symm,hF.2.1.symm,hF.2.2.symm⟩
   have e38:(p == 38)=true∨((p == 38)=false∧(p == 39)=true):=by
    rcases h38 with h | h
    ·exact .inl (by simp [h])
    ·exact .inr ⟨by simp [h],by simp [h]⟩
   obtain⟨rfl,rfl,hb'⟩:=hF2
   obtain⟨HB,HE2⟩:=Hd2 hb' hr1'
   have e5:(p != 37)=true:=by rcases h38 with h | h <;> simp [h]
   have e6:(p != 36)=true:=by rcases h38 with h | h <;> simp [h]
   have hp37:p≠37∧p≠36:=by omega
   rw [if_pos hp37] at hR
   clear hF hr1' hb' h38 hp37
   cases b' with
   | true =>
    have hRf:R=((AG p).2,h',true):=by rw [hR,if_neg (by simp)]
    have HRf:=Lh hRf
    clear hR hRf
    rcases e38 with e3 | ⟨e3,e4⟩
    all_goals
     go_in
     go_wp2_with (first | (go_at_call 267;refine (CH _ _).mono ?_;rintro e w5 ⟨rfl,rfl⟩))
     refine (BQ B kb _ _ _ _ HH.out).mono ?_;rintro e w3 ⟨rfl,h3,f3⟩;have H3:=Lh h3;have F3:=Lh f3;clear h3 f3
     go_wp2_with (go_at_call 141;refine (Cl B kb tb toff cap ts slots seen i x (AG p).2 0 0 _ HL.out H3.out HX.out (F3.out.nodes HN.out htb) hl).mono ?_;rintro e w4 ⟨rfl,h4,f4⟩;have f5:=F3.out.trans f4;have q1:=Q0.out _ f5;have H4:=Lh h4;have F5:=Lh f5;clear h4 f4 f5)
     refine (QJ B kb tb toff cap ts slots seen (rec j0) j0 false k' h' b1 _ HE2.out HE0.out H4.out (F5.out.nodes HN.out htb)).mono ?_
     rintro e w5 ⟨rfl,h5,f6⟩
     have f7:=F5.out.trans f6
     obtain⟨H5,F7⟩:=Hd2 h5 f7
     clear h5 f6 f7
     go_wp2_with fail
     refine (QM B kb _ slots seen _ b1 _ true HB.out.symm H5.out).mono ?_
     rintro e w6 ⟨rfl,h6,f8⟩
     obtain⟨F6,H6⟩:=Hd2 (F7.out.trans f8) h6
     clear h6 f8
     have kc:=H6.out.cells.2
     go_wp2_with fail
     go_ret2
     rw [HRf.out]
     refine ⟨rfl,?_,?_⟩
     ·exact H6.out
     ·exact F6.out
   | false =>
    have hRf:R=((AG p).2,max h' (h2 + 1),b2):=by rw [hR,if_pos rfl]
    have HRf:=Lh hRf
    clear hR hRf
    rcases e38 with e3 | ⟨e3,e4⟩
    all_goals
     go_in
     go_wp2_with (first | (go_at_call 267;refine (CH _ _).mono ?_;rintro e w5 ⟨rfl,rfl⟩))
     refine (BQ B kb _ _ _ _ HH.out).mono ?_;rintro e w3 ⟨rfl,h3,f3⟩;have H3:=Lh h3;have F3:=Lh f3;clear h3 f3
     go_wp2_with (go_at_call 141;refine (Cl B kb tb toff cap ts slots seen i x (AG p).2 0 0 _ HL.out H3.out HX.out (F3.out.nodes HN.out htb) hl).mono ?_;rintro e w4 ⟨rfl,h4,f4⟩;have f5:=F3.out.trans f4;have q1:=Q0.out _ f5;have H4:=Lh h4;have F5:=Lh f5;clear h4 f4 f5)
     refine (QJ B kb tb toff cap ts slots seen (rec j0) j0 false k' h' b1 _ HE2.out HE0.out H4.out (F5.out.nodes HN.out htb)).mono ?_
     rintro e w5 ⟨rfl,h5,f6⟩
     have f7:=F5.out.trans f6
     obtain⟨H5,F7⟩:=Hd2 h5 f7
     clear h5 f6 f7
     go_wp2_with fail
     refine (QM B kb _ slots seen _ b1 _ false HB.out.symm H5.out).mono ?_
     rintro e w6 ⟨rfl,h6,f8⟩
     obtain⟨F6,H6⟩:=Hd2 (F7.out.trans f8) h6
     clear h6 f8
     have kc:=H6.out.cells.2
     have q2:=Q1.out _ F6.out
     go_wp2_with fail
     refine (FE B kb tb toff cap ts slots seen (rec j1) j1 k' false h2 b2 _ HW2.out HE1.out H6.out (F6.out.nodes HN.out htb)).mono ?_
     rintro e w7 ⟨rfl,h7,f7⟩
     go_wp2_with fail
     all_goals
      go_ret2
      rw [HRf.out]
      refine ⟨FG (by dsimp only;omega),?_,?_⟩
      ·exact h7
      ·exact F6.out.trans f7
  ·have hF2:k'=(AG p).1∧AA (rec j0 false) (AG p).1=(h',b'):=by
    unfold E4 at hF
    rw [if_neg h38] at hF
    simp only [List.getD_cons_zero,Prod.mk.injEq] at hF
    exact ⟨hF.1.symm,Prod.ext hF.2.1 hF.2.2⟩
   obtain⟨rfl,hw1⟩:=hF2
   have HW1:=Lh hw1
   have e3:(p == 38)=false:=by simp;omega
   have e4:(p == 39)=false:=by simp;omega
   have e56:((p != 37)=true∧(p != 36)=true∧(p≠37∧p≠36))∨((p != 37)=false∧¬ (p≠37∧p≠36))∨((p != 37)=true∧(p != 36)=false∧¬ (p≠37∧p≠36)):=by
    by_cases h1:p=37
    ·exact .inr (.inl ⟨by simp [h1],by omega⟩)
    ·by_cases h2:p=36
     ·exact .inr (.inr ⟨by simp [h2],by simp [h2],by omega⟩)
     ·exact .inl ⟨by simp [h1],by simp [h2],by omega⟩
   clear hF hw1 h38
   cases b' with
   | true =>
    have hRf:R=((AG p).2,h',true):=by rw [hR,if_neg (by simp)]
    have HRf:=Lh hRf
    clear hR hRf e56
    go_in
    go_wp2_with (first | (go_at_call 267;refine (CH _ _).mono ?_;rintro e w5 ⟨rfl,rfl⟩))
    refine (BQ B kb _ _ _ _ HH.out).mono ?_;rintro e w3 ⟨rfl,h3,f3⟩;have H3:=Lh h3;have F3:=Lh f3;clear h3 f3
    go_wp2_with (go_at_call 141;refine (Cl B kb tb toff cap ts slots seen i x (AG p).2 0 0 _ HL.out H3.out HX.out (F3.out.nodes HN.out htb) hl).mono ?_;rintro e w4 ⟨rfl,h4,f4⟩;have f5:=F3.out.trans f4;have q1:=Q0.out _ f5;have H4:=Lh h4;have F5:=Lh f5;clear h4 f4 f5)
    refine (FE B kb tb toff cap ts slots seen (rec j0) j0 _ false h' true _ HW1.out HE0.out H4.out (F5.out.nodes HN.out htb)).mono ?_
    rintro e w6 ⟨rfl,h6,f8⟩
    obtain⟨F6,H6⟩:=Hd2 (F5.out.trans f8) h6
    clear h6 f8
    have kc:=H6.out.cells.2
    go_wp2_with fail
    go_ret2
    rw [HRf.out]
    refine ⟨rfl,?_,?_⟩
    ·exact H6.out
    ·exact F6.out
   | false =>
    have hRf:R=((AG p).2,max h' (if p≠37∧p≠36 then h2 + 1 else h2),b2):=by rw [hR,if_pos rfl]
    clear hR
    rcases e56 with ⟨e5,e6,e7⟩ | ⟨e5,e7⟩ | ⟨e5,e6,e7⟩
    all_goals
     first
      | rw [if_pos e7] at hRf
      | rw [if_neg e7] at hRf
     have HRf:=Lh hRf
     clear hRf e7
     go_in
     go_wp2_with (first | (go_at_call 267;refine (CH _ _).mono ?_;rintro e w5 ⟨rfl,rfl⟩))
     refine (BQ B kb _ _ _ _ HH.out).mono ?_;rintro e w3 ⟨rfl,h3,f3⟩;have H3:=Lh h3;have F3:=Lh f3;clear h3 f3
     go_wp2_with (go_at_call 141;refine (Cl B kb tb toff cap ts slots seen i x (AG p).2 0 0 _ HL.out H3.out HX.out (F3.out.nodes HN.out htb) hl).mono ?_;rintro e w4 ⟨rfl,h4,f4⟩;have f5:=F3.out.trans f4;have q1:=Q0.out _ f5;have H4:=Lh h4;have F5:=Lh f5;clear h4 f4 f5)
     refine (FE B kb tb toff cap ts slots seen (rec j0) j0 _ false h' false _ HW1.out HE0.out H4.out (F5.out.nodes HN.out htb)).mono ?_
     rintro e w6 ⟨rfl,h6,f8⟩
     obtain⟨F6,H6⟩:=Hd2 (F5.out.trans f8) h6
     clear h6 f8
     have kc:=H6.out.cells.2
     have q2:=Q1.out _ F6.out
     go_wp2_with fail
     refine (FE B kb tb toff cap ts slots seen (rec j1) j1 _ false h2 b2 _ HW2.out HE1.out H6.out (F6.out.nodes HN.out htb)).mono ?_
     rintro e w7 ⟨rfl,h7,f7⟩
     go_wp2_with fail
     all_goals
      go_ret2
      rw [HRf.out]
      refine ⟨FG (by dsimp only;omega),?_,?_⟩
      ·exact h7
      ·exact F6.out.trans f7
end Go.Proofs.YtmpcbaflcogmmaaGreatDoor
