/- StmAll13 Abl13 -/
import Derived.Deep.RegionHeld3
import Derived.Deep.QuietTactic
import Derived.BigQuiet
import Derived.Test.YtmpcbaflcogmmaaGreatDoorAble
import Derived.Test.YtmpcbaflcogmmaaGreatDoorLoop13d
import Derived.Test.YtmpcbaflcogmmaaGreatDoorLoop13e
import Derived.Test.YtmpcbaflcogmmaaGreatDoorStm13c
import Derived.Test.YtmpcbaflcogmmaaGreatDoorStm13f
import Derived.Test.YtmpcbaflcogmmaaGreatDoorStm13i
import Derived.Test.YtmpcbaflcogmmaaGreatDoorTree9
namespace Go.Proofs.YtmpcbaflcogmmaaGreatDoor
open Go.RowKit
set_option linter.all false
structure T1 (B kb tb toff cap:Nat) (ts:List Au) (recS recB:Nat→LSt→LSt) (i:Nat):Prop where
 lS:Is ts recS
 lB:Is ts recB
 rS:N5 recS
 rB:N5 recB
 hS:∀ j∈Am ts i,S13 B kb tb toff cap ts recS j
 hB:∀ j∈Am ts i,B13 B kb tb toff cap ts recB j
def I64 (n:Int):Prop:=-9223372036854775808≤n∧n≤9223372036854775807
theorem MI {n m:Int} (hn:I64 n) (hm:I64 m):(m == wrap64 (n + 1))=decide (wrap64 (m - 1)=n):=by
 unfold I64 at hn hm
 rw [Bool.eq_iff_iff]
 simp only [beq_iff_eq,decide_eq_true_eq]
 unfold wrap64
 omega
section
variable {l:List Nat}
include l
theorem UV (h:l.length=1):∃ j,l=[j]:=by
 match l,h with
 | [j],_=>exact ⟨j,rfl⟩
theorem UX (h:l.length=2):∃ j b,l=[j,b]:=by
 match l,h with
 | [j,b],_=>exact ⟨j,b,rfl⟩
theorem Vs (h:l.length=3):∃ j b d,l=[j,b,d]:=by
 match l,h with
 | [j,b,d],_=>exact ⟨j,b,d,rfl⟩
theorem DX {k:Int} {q:Nat} (hq:k=(q:Int)) (h:l.length=q):((l.length:Int) == k)=true:=by
 rw [beq_iff_eq,hq,h]
theorem E2 {k:Int} {q:Nat} (hq:k=(q:Int)) (h:¬ l.length=q):((l.length:Int) == k)=false:=by
 rw [beq_eq_false_iff_ne,hq]
 omega
end
theorem PZ {B kb tb toff cap:Nat} {ts:List Au} {recS recB:Nat→LSt→LSt} (htb:tb < B) (hl:ts.length≤2000) (htxt:∀ y∈ts,y.text.size≤1099511627776) (hrng:∀ y∈ts,I64 y.n∧I64 y.m) {i:Nat} (hi:i < ts.length) (hbe:0≤Ap ts i)
  (R:T1 B kb tb toff cap ts recS recB i) {x:Au} (hx:ts[i]? = some x) (hop:x.op=14∨x.op=15∨x.op=16) (vars:List Vr) (slots:List Int) (seen:Int→Option Value) (hs:slots.length≤2 + 3 * i)
  (w:World) (h:RL w B kb (.slice (some ⟨tb,toff,none⟩) ts.length cap) vars ⟨slots,seen,false⟩) (hn:As w tb toff ts) :
  Calls Tryz.prog 207 #[.pointer (some ⟨kb,0,none⟩),.int .i64 i] w fun e w'=>e=.returned (.tuple #[])∧RL w' B kb (.slice (some ⟨tb,toff,none⟩) ts.length cap) vars (DL ts recS recB i ⟨slots,seen,false⟩)∧Frm B [158,118,160] w w':=by
 have hgx:ts.getD i AF=x:=by rw [List.getD_eq_getElem?_getD,hx];rfl
 have bads:FI (⟨slots,seen,false⟩:LSt)=⟨slots,seen,true⟩:=rfl
 obtain⟨hrn,hrm⟩:=hrng x (List.mem_of_getElem? hx)
 have e2:(2:Int)=((2:Nat):Int):=rfl
 have e3:(3:Int)=((3:Nat):Int):=rfl
 unfold DL
 simp only [hgx]
 rcases hop with hop | hop | hop
 ·rw [if_neg (by omega),if_neg (by omega),if_neg (by omega),if_pos hop]
  by_cases hk:(Am ts i).length=1
  ·have c1:=DX (k:=1) rfl hk
   by_cases hr:0≤x.n
   ·have d1:=decide_eq_true hr
    by_cases hr2:x.n≤255
    ·have d2:=decide_eq_true hr2
     by_cases hli:AO x 0 x.n x.m=true
     ·rw [if_pos ⟨hk,⟨hr,hr2⟩,hli⟩]
      obtain⟨j,hj⟩:=UV hk
      rw [hj]
      exact Ol B kb tb toff cap ts htb hl htxt i x hi hbe hx vars slots seen w hs h hn hop hr hr2 hli j hj recS recB R.hB
     ·rw [if_neg (fun h=>hli h.2.2),bads]
      exact NE B kb tb toff cap ts htb hl htxt i x hi hbe hx vars slots seen w hs h hn hop c1 d1 d2 (by simpa using hli)
    ·rw [if_neg (fun h=>hr2 h.2.1.2),bads]
     exact OM B kb tb toff cap ts htb hl htxt i x hi hbe hx vars slots seen w hs h hn hop c1 d1 (decide_eq_false hr2)
   ·rw [if_neg (fun h=>hr h.2.1.1),bads]
    exact On B kb tb toff cap ts htb hl htxt i x hi hbe hx vars slots seen w hs h hn hop c1 (decide_eq_false hr)
  ·rw [if_neg (fun h=>hk h.1),bads]
   exact NR B kb tb toff cap ts htb hl htxt i x hi hbe hx vars slots seen w hs h hn hop (E2 rfl hk)
 ·rw [if_neg (by omega),if_neg (by omega),if_neg (by omega),if_neg (by omega),if_pos hop]
  by_cases hk:(Am ts i).length=2
  ·have c1:=DX e2 hk
   by_cases hr:0≤x.n
   ·have d1:=decide_eq_true hr
    by_cases hr2:wrap64 (x.m - 1)=x.n
    ·have d2:(x.m == wrap64 (x.n + 1))=true:=by rw [MI hrn hrm];exact decide_eq_true hr2
     by_cases hli:AO x 0 x.n x.m=true
     ·rw [if_pos ⟨hk,⟨hr,hr2⟩,hli⟩]
      obtain⟨j,b,hj⟩:=UX hk
      rw [hj]
      exact Rp B kb tb toff cap ts htb hl htxt i x hi hbe hx vars slots seen w hs h hn hop d1 d2 hli j b hj recS recB R.hB
     ·rw [if_neg (fun h=>hli h.2.2),bads]
      exact Nc B kb tb toff cap ts htb hl htxt i x hi hbe hx vars slots seen w hs h hn hop c1 d1 d2 (by simpa using hli)
    ·rw [if_neg (fun h=>hr2 h.2.1.2),bads]
     exact O9 B kb tb toff cap ts htb hl htxt i x hi hbe hx vars slots seen w hs h hn hop c1 d1 (by rw [MI hrn hrm];exact decide_eq_false hr2)
   ·rw [if_neg (fun h=>hr h.2.1.1),bads]
    exact Ps B kb tb toff cap ts htb hl htxt i x hi hbe hx vars slots seen w hs h hn hop c1 (decide_eq_false hr)
  ·rw [if_neg (fun h=>hk h.1),bads]
   exact Oh B kb tb toff cap ts htb hl htxt i x hi hbe hx vars slots seen w hs h hn hop (E2 e2 hk)
 ·rw [if_neg (by omega),if_neg (by omega),if_neg (by omega),if_neg (by omega),if_neg (by omega),if_pos hop]
  by_cases hk:(Am ts i).length=2
  ·have c1:=DX e2 hk
   by_cases hli:AO x 0 x.n 0=true
   ·rw [if_pos ⟨.inl hk,hli⟩]
    obtain⟨j,b,hj⟩:=UX hk
    rw [hj]
    rw [if_neg (by simp)]
    exact Na B kb tb toff cap ts htb hl htxt i x hi hbe hx vars slots seen w hs h hn hop hli j b hj recS recB R.hB
   ·rw [if_neg (fun h=>hli h.2),bads]
    exact N8 B kb tb toff cap ts htb hl htxt i x hi hbe hx vars slots seen w hs h hn hop c1 (by simpa using hli)
  ·have c1:=E2 e2 hk
   by_cases hk3:(Am ts i).length=3
   ·have c2:=DX e3 hk3
    by_cases hli:AO x 0 x.n 0=true
    ·rw [if_pos ⟨.inr hk3,hli⟩]
     obtain⟨j,b,d,hj⟩:=Vs hk3
     have hch:=Ca hbe
     rw [hj] at hch
     obtain⟨c0,g1,g2,cc1,g3,g4,cc2,g5,g6,_⟩:=hch
     obtain⟨S,hS⟩:=Ex0 (forget x.n (AS ts recS recB 0 [b] (AE x.n false [3] (AD ts j 6 ⟨slots,seen,false⟩))))
     have hS':forget x.n (AS ts recS recB 0 (List.take 1 (List.drop 1 [j,b,d])) (AE x.n false [3] (AD ts ([j,b,d].getD 0 0) 6 ⟨slots,seen,false⟩)))=S:=hS.symm
     rw [hj,hS']
     have hln:S.slots.length≤2 + 3 * d:=by
      rw [hS]
      subst c0
      rw [← cc1] at g3 g4 cc2
      subst cc2
      exact E1 ts recS recB R.lS R.lB [b] 0 b _ _ ⟨rfl,g3,g4,rfl⟩ (Nat.le_trans (B7 _ _ _ _) (by show slots.length + 1≤_;omega))
     have:=Ny B kb tb toff cap ts htb hl htxt i x hi hbe hx vars slots seen w hs h hn hop hli j b d hj recS recB R.hB (by rw [← hS];exact hln)
     rw [← hS] at this
     cases hb:S.bad with
     | true =>
      rw [hb,if_pos rfl] at this
      rw [if_neg (by simp)]
      exact this
     | false =>
      rw [hb,if_neg (by decide)] at this
      rw [if_pos ⟨rfl,rfl⟩]
      exact this
    ·rw [if_neg (fun h=>hli h.2),bads]
     exact Ml B kb tb toff cap ts htb hl htxt i x hi hbe hx vars slots seen w hs h hn hop c1 c2 (by simpa using hli)
   ·rw [if_neg (fun h=>by rcases h.1 with g | g;exact hk g;exact hk3 g),bads]
    exact OK B kb tb toff cap ts htb hl htxt i x hi hbe hx vars slots seen w hs h hn hop c1 (E2 e3 hk3)
section
variable {B kb tb toff cap:Nat} {ts:List Au} {i:Nat} {vars:List Vr} {R:LSt} {w:World}
theorem Ii {x:Au} {k:Nat} (hr:R.bad=false→x.op≠11)
  (h:Calls Tryz.prog 168 #[.pointer (some ⟨kb,0,none⟩),.int .i64 i] w fun e w'=>e=.returned (.tuple #[])∧RL w' B kb (.slice (some ⟨tb,toff,none⟩) ts.length cap) vars R∧Frm B [158,118,160] w w') :
  Calls Tryz.prog 168 #[.pointer (some ⟨kb,0,none⟩),.int .i64 i] w fun e w'=>e=.returned (.tuple #[]) ∧
   (∃ ext,RL w' B kb (.slice (some ⟨tb,toff,none⟩) ts.length cap) (vars ++ ext) R∧(∀ v∈ext,(k:Int)≤v.slot)∧(R.bad=false→ext.map Vr.slot=if x.op=11 then [x.n] else [])) ∧
   Frm B [158,118,160] w w':=by
 refine h.mono ?_
 rintro e w' ⟨rfl,h1,h2⟩
 exact ⟨rfl,⟨[],by rw [List.append_nil];exact h1,fun v hv=>absurd hv (by simp),fun hb=>by rw [if_neg (hr hb)];rfl⟩,h2⟩
end
section
variable (ts:List Au) (recS recB:Nat→LSt→LSt)
include ts recS recB
theorem MQ (b:Nat) (V:LSt):AS ts recS recB 0 [b] V=if V.bad=true then V else recB b V:=by simp [AS]
theorem RJ (b d:Nat) (V:LSt):AS ts recS recB 0 [b,d] V=if (if V.bad=true then V else recB b V).bad=true then (if V.bad=true then V else recB b V) else if (ts.getD d AF).op=13 then recS d (if V.bad=true then V else recB b V) else recB d (if V.bad=true then V else recB b V):=by simp [AS]
end
theorem PG {B kb tb toff cap:Nat} {ts:List Au} {recS recB:Nat→LSt→LSt} (htb:tb < B) (hl:ts.length≤2000) (htxt:∀ y∈ts,y.text.size≤1099511627776) (hrng:∀ y∈ts,I64 y.n∧I64 y.m) {i:Nat} (hi:i < ts.length) (hbe:0≤Ap ts i)
  (R:T1 B kb tb toff cap ts recS recB i):S13 B kb tb toff cap ts (DL ts recS recB) i:=by
 intro vars s w hb hs h hn
 obtain⟨x,hx⟩:∃ x,ts[i]? = some x:=⟨_,List.getElem?_eq_getElem hi⟩
 have hgx:ts.getD i AF=x:=by rw [List.getD_eq_getElem?_getD,hx];rfl
 obtain⟨slots,seen,bad⟩:=s
 simp only at hb hs
 subst hb
 have bads:FI (⟨slots,seen,false⟩:LSt)=⟨slots,seen,true⟩:=rfl
 have nob:∀ {P:Prop},(⟨slots,seen,true⟩:LSt).bad=false→P:=fun h=>by cases h
 have e2:(2:Int)=((2:Nat):Int):=rfl
 have e3:(3:Int)=((3:Nat):Int):=rfl
 have hinv:=h.good.2
 rw [hgx]
 by_cases q11:x.op=11
 ·unfold DL
  simp only [hgx]
  rw [if_pos q11,if_pos q11]
  by_cases hk:(Am ts i).length=1
  ·obtain⟨j,hj⟩:=UV hk
   by_cases hli:AO x 0 x.n 0=true
   ·rw [if_pos ⟨hk,hli⟩]
    have e0:(Am ts i).getD 0 0=j:=by rw [hj];rfl
    rw [e0]
    exact Qz B kb tb toff cap ts htb hl htxt i x hi hbe hx vars slots seen w hs h hn q11 hli j hj
   ·rw [if_neg (fun h=>hli h.2),bads]
    have:=Ii (x:=x) (k:=slots.length) (fun h=>nob h) (Nn B kb tb toff cap ts htb hl htxt i x hi hbe hx vars slots seen w hs h hn q11 (DX rfl hk) (by simpa using hli))
    rw [if_pos q11] at this
    exact this
  ·rw [if_neg (fun h=>hk h.1),bads]
   have:=Ii (x:=x) (k:=slots.length) (fun h=>nob h) (OC B kb tb toff cap ts htb hl htxt i x hi hbe hx vars slots seen w hs h hn q11 (E2 rfl hk))
   rw [if_pos q11] at this
   exact this
 by_cases q13:x.op=13∧(Am ts i).length=3∧AO x 0 0 0=true
 ·obtain⟨q13,hk,hli⟩:=q13
  unfold DL
  simp only [hgx]
  rw [if_neg (by omega),if_neg (by omega),if_pos q13,if_pos ⟨.inr hk,hli⟩]
  obtain⟨j,b,d,hj⟩:=Vs hk
  rw [hj]
  have hch:=Ca hbe
  rw [hj] at hch
  obtain⟨c0,g1,g2,cc1,g3,g4,cc2,g5,g6,_⟩:=hch
  have hgen:∀ s:LSt,s.slots.length≤2 + 3 * b→(if s.bad=true then s else recB b s).slots.length≤2 + 3 * d:=fun s hs2=>by
   subst cc2
   have:=E1 ts recS recB R.lS R.lB [b] 0 b _ s ⟨rfl,by rw [cc1];exact g3,by rw [cc1];exact g4,rfl⟩ hs2
   rw [MQ] at this
   rw [cc1] at this ⊢
   exact this
  have hln:=hgen (AD ts j 2 ⟨slots,seen,false⟩) (by show slots.length≤_;omega)
  have hrs:(AD ts j 2 ⟨slots,seen,false⟩).slots.length≤((if ((AD ts j 2 ⟨slots,seen,false⟩)).bad=true then (AD ts j 2 ⟨slots,seen,false⟩) else recB b (AD ts j 2 ⟨slots,seen,false⟩))).slots.length:=by
   split
   ·exact Nat.le_refl _
   ·exact R.rB _ _
  have:=Tv B kb tb toff cap ts htb hl htxt i x hi hbe hx vars slots seen w hs h hn q13 hli j b d hj recS recB R.hB R.hS hln hrs
  rw [if_neg (show ¬ x.op=11 by omega),show List.drop 1 [j,b,d]=[b,d] from rfl,show [j,b,d].getD 0 0=j from rfl,RJ]
  exact this
 refine Ii (x:=x) (k:=slots.length) (fun _=>q11) ?_
 have hloop:x.op=14∨x.op=15∨x.op=16→∀ wx,RL wx B kb (.slice (some ⟨tb,toff,none⟩) ts.length cap) vars ⟨slots,seen,false⟩→As wx tb toff ts→Calls Tryz.prog 207 #[.pointer (some ⟨kb,0,none⟩),.int .i64 i] wx fun e w'=>e=.returned (.tuple #[])∧RL w' B kb (.slice (some ⟨tb,toff,none⟩) ts.length cap) vars (DL ts recS recB i ⟨slots,seen,false⟩)∧Frm B [158,118,160] wx w':=
  fun hop wx hwx hnx=>PZ htb hl htxt hrng hi hbe R hx hop vars slots seen hs wx hwx hnx
 by_cases q14:x.op=14
 ·exact Nh B kb tb toff cap ts htb hl htxt i x hi hbe hx vars slots seen w hs h hn q14 _ (hloop (by omega))
 by_cases q15:x.op=15
 ·exact Nj B kb tb toff cap ts htb hl htxt i x hi hbe hx vars slots seen w hs h hn q15 _ (hloop (by omega))
 by_cases q16:x.op=16
 ·exact MY B kb tb toff cap ts htb hl htxt i x hi hbe hx vars slots seen w hs h hn q16 _ (hloop (by omega))
 unfold DL
 simp only [hgx]
 rw [if_neg q11]
 by_cases q12:x.op=12
 ·rw [if_pos q12]
  rcases hinv.rel x.n with ⟨h1,h2⟩ | ⟨⟨vs,vk,vl⟩,h1,h2,h3,h4,h5⟩
  ·have hno:¬ (0≤x.n∧x.n < 1048576∧QC (seen x.n)=true):=by
    rintro ⟨g1,g2,g3⟩
    refine h2 ⟨?_,g1,g2⟩
    cases hsn:seen x.n with
    | none=>rw [hsn] at g3;cases g3
    | some v=>rfl
   rw [if_neg (fun h=>hno h.2.1),bads]
   by_cases hk:(Am ts i).length=1
   ·exact IR B kb tb toff cap ts htb hl htxt i x hi hbe hx vars slots seen w hs h hn q12 (DX rfl hk) h1
   ·exact IY B kb tb toff cap ts htb hl htxt i x hi hbe hx vars slots seen w hs h hn q12 (E2 rfl hk) h1
  ·simp only at h4 h5
   have hlk:QC (seen x.n)=vl:=by rw [h4];rfl
   rw [hlk]
   by_cases hk:(Am ts i).length=1
   ·cases vl with
    | false =>
     rw [if_neg (fun h=>by cases h.2.1.2.2),bads]
     exact Jp B kb tb toff cap ts htb hl htxt i x hi hbe hx vars slots seen w hs h hn q12 (DX rfl hk) vs vk h1
    | true =>
     by_cases hli:AO x 0 x.n 0=true
     ·rw [if_pos ⟨hk,⟨h2,h3,rfl⟩,hli⟩]
      obtain⟨j,hj⟩:=UV hk
      have e0:(Am ts i).getD 0 0=j:=by rw [hj];rfl
      rw [e0,← h5]
      exact Mm B kb tb toff cap ts htb hl htxt i x hi hbe hx vars slots seen w hs h hn q12 hli j hj vs vk h1
     ·rw [if_neg (fun h=>hli h.2.2),bads]
      exact Kf B kb tb toff cap ts htb hl htxt i x hi hbe hx vars slots seen w hs h hn q12 (DX rfl hk) vs vk h1 (by simpa using hli)
   ·rw [if_neg (fun h=>hk h.1),bads]
    cases vl with
    | false=>exact Im B kb tb toff cap ts htb hl htxt i x hi hbe hx vars slots seen w hs h hn q12 (E2 rfl hk) vs vk h1
    | true=>exact Jo B kb tb toff cap ts htb hl htxt i x hi hbe hx vars slots seen w hs h hn q12 (E2 rfl hk) vs vk h1
 rw [if_neg q12]
 by_cases p13:x.op=13
 ·rw [if_pos p13]
  by_cases hk:(Am ts i).length=2
  ·by_cases hli:AO x 0 0 0=true
   ·rw [if_pos ⟨.inl hk,hli⟩]
    obtain⟨j,b,hj⟩:=UX hk
    rw [hj]
    rw [show List.drop 1 [j,b]=[b] from rfl,show [j,b].getD 0 0=j from rfl,MQ]
    exact TH B kb tb toff cap ts htb hl htxt i x hi hbe hx vars slots seen w hs h hn p13 hli j b hj recS recB R.hB
   ·rw [if_neg (fun h=>hli h.2),bads]
    exact Ni B kb tb toff cap ts htb hl htxt i x hi hbe hx vars slots seen w hs h hn p13 (DX e2 hk) (by simpa using hli)
  ·by_cases hk3:(Am ts i).length=3
   ·have hli:¬ AO x 0 0 0=true:=fun h=>q13 ⟨p13,hk3,h⟩
    rw [if_neg (fun h=>hli h.2),bads]
    exact Me B kb tb toff cap ts htb hl htxt i x hi hbe hx vars slots seen w hs h hn p13 (E2 e2 hk) (DX e3 hk3) (by simpa using hli)
   ·rw [if_neg (fun h=>by rcases h.1 with g | g;exact hk g;exact hk3 g),bads]
    exact Of B kb tb toff cap ts htb hl htxt i x hi hbe hx vars slots seen w hs h hn p13 (E2 e2 hk) (E2 e3 hk3)
 rw [if_neg p13,if_neg q14,if_neg q15,if_neg q16]
 by_cases q178:x.op=17∨x.op=18
 ·rw [if_pos q178]
  by_cases hk:(Am ts i).length=0
  ·have c0:(((Am ts i).length:Int) == 0)=true:=DX rfl hk
   rw [hk]
   cases hli:AO x 0 0 0 with
   | true =>
    rcases q178 with q | q
    ·exact Qq B kb tb toff cap ts htb hl htxt i x hi hbe hx vars slots seen w hs h hn q c0 hli
    ·exact Q6 B kb tb toff cap ts htb hl htxt i x hi hbe hx vars slots seen w hs h hn q c0 hli
   | false =>
    rcases q178 with q | q
    ·exact Nx B kb tb toff cap ts htb hl htxt i x hi hbe hx vars slots seen w hs h hn q c0 hli
    ·exact NA B kb tb toff cap ts htb hl htxt i x hi hbe hx vars slots seen w hs h hn q c0 hli
  ·have c0:(((Am ts i).length:Int) == 0)=false:=E2 rfl hk
   have e:(!decide ((Am ts i).length=0))=true:=by simp [hk]
   rw [e,Bool.true_or]
   rcases q178 with q | q
   ·exact Pq B kb tb toff cap ts htb hl htxt i x hi hbe hx vars slots seen w hs h hn q c0
   ·exact NU B kb tb toff cap ts htb hl htxt i x hi hbe hx vars slots seen w hs h hn q c0
 rw [if_neg q178]
 by_cases q19:x.op=19
 ·rw [if_pos q19]
  have hd:=Vg (fun j b=>BR ts slots seen ts.length j b) ts (fun j=>by rw [GX]) i x hgx ⟨slots,seen,false⟩
  refine (RN B kb tb toff cap ts htb hl htxt i x hi hbe hx vars slots seen w hs h hn q19).mono ?_
  rintro e w' ⟨h1,h2,h3⟩
  refine ⟨h1,?_,h3⟩
  cases hsg:Bp Bu x.n with
  | none =>
   rw [hsg] at hd
   simp only at hd ⊢
   rw [hd]
   exact h2
  | some sg =>
   rw [hsg] at hd
   simp only at hd ⊢
   have hd2:Cr (Cu (Dl ts ⟨slots,seen,false⟩) ts i (Am ts i) sg) ⟨slots,seen,false⟩=_:=hd
   rw [hd2]
   exact h2
 rw [if_neg q19,bads]
 exact OL B kb tb toff cap ts htb hl htxt i x hi hbe hx vars slots seen w hs h hn ⟨q11,q12,p13,q14,q15,q16,fun h=>q178 (.inl h),fun h=>q178 (.inr h),q19⟩
theorem G9 {B kb tb toff cap:Nat} {ts:List Au} (htb:tb < B) (hl:ts.length≤2000) (htxt:∀ y∈ts,y.text.size≤1099511627776) (hrng:∀ y∈ts,I64 y.n∧I64 y.m):∀ (f i:Nat),ts.length≤i + f→i < ts.length→0≤Ap ts i →
  S13 B kb tb toff cap ts (sbM ts f).1 i∧B13 B kb tb toff cap ts (sbM ts f).2 i
 | 0,i,h1,h2,_=>absurd h2 (by omega)
 | f + 1,i,h1,h2,h3=>by
  have hk:∀ j∈Am ts i,S13 B kb tb toff cap ts (sbM ts f).1 j∧B13 B kb tb toff cap ts (sbM ts f).2 j:=fun j hj=>by
   have:=AU hj
   exact G9 htb hl htxt hrng f j (by omega) this.2.1 this.2.2.1
  exact ⟨PG htb hl htxt hrng h2 h3 ⟨(DW ts f).1,(DW ts f).2,(Fx ts f).1,(Fx ts f).2,fun j hj=>(hk j hj).1,fun j hj=>(hk j hj).2⟩,
   NX B kb tb toff cap ts (sbM ts f).1 htb hl (DW ts f).1 (Fx ts f).1 i h2 h3 (fun j hj=>(hk j hj).1)⟩
theorem Em {P:Program} {f:FuncId} {args:Array Value} {w:World} {n:Nat} {v:Value} (h:Calls P f args (w.drewN n) fun e w'=>e=.returned v∧w.drewN n=w'):Calls P f args (w.drewN n) fun e w''=>e=.returned v∧∃ m,w''=w.drewN m:=
 h.mono fun _ _ ⟨he,hm⟩=>⟨he,n,hm.symm⟩
def Gr:List Vr:=[⟨0,3,false⟩,⟨1,4,false⟩]
theorem Vz:Hn [3,4] Gr Eb:=by
 refine ⟨?_,?_,by decide⟩
 ·intro n
  rw [LP]
  by_cases h1:n=1
  ·subst h1
   exact .inr ⟨⟨1,4,false⟩,rfl,by omega,by omega,rfl,rfl⟩
  ·by_cases h0:n=0
   ·subst h0
    exact .inr ⟨⟨0,3,false⟩,rfl,by omega,by omega,rfl,rfl⟩
   ·left
    rw [if_neg h1,if_neg h0]
    refine ⟨?_,by simp⟩
    rw [FQ]
    intro v hv
    simp only [Gr,List.mem_cons,List.mem_nil_iff,or_false] at hv
    rcases hv with rfl | rfl
    ·exact fun h=>h0 h.symm
    ·exact fun h=>h1 h.symm
 ·intro v hv
  simp only [Gr,List.mem_cons,List.mem_nil_iff,or_false] at hv
  rcases hv with rfl | rfl <;> decide
structure I1 (w0:World) (kb tb toff cap:Nat) (ts:List Au) (bx:Array Value) (s:LSt) (w:World):Prop where
 lk:RL w w0.heap.size kb (.slice (some ⟨tb,toff,none⟩) ts.length cap) Gr s
 fr:Frm w0.heap.size [158,118,160] w0 w
 tbB:tb < w0.heap.size
 nodes:As w tb toff ts
 bx:Blk w w0.heap.size 25 bx
section
variable {w0 w w':World} {kb tb toff cap:Nat} {ts:List Au} {bx:Array Value} {s s':LSt}
theorem I1.drew (h:I1 w0 kb tb toff cap ts bx s w):I1 w0 kb tb toff cap ts bx s w.drew:=by
 obtain⟨sl,h1,h2⟩:=h.lk
 exact ⟨⟨sl,h1.drew,h2⟩,h.fr.drew,h.tbB,h.nodes,h.bx.drew⟩
theorem I1.step (h:I1 w0 kb tb toff cap ts bx s w) {T:List TypeId} (hT:∀ t∈T,t = 158∨t = 118∨t = 160) (hl:RL w' w0.heap.size kb (.slice (some ⟨tb,toff,none⟩) ts.length cap) Gr s') (hf:Frm w0.heap.size T w w') :
  I1 w0 kb tb toff cap ts bx s' w':=by
 have hf2:Frm w0.heap.size [158,118,160] w w':=hf.more (fun t ht=>by simpa using hT t ht)
 exact ⟨hl,h.fr.trans hf2,h.tbB,hf2.nodes h.nodes h.tbB,hf2.blk h.bx (by decide)⟩
end
theorem I1.cells {w0 w:World} {kb tb toff cap:Nat} {ts:List Au} {v0 v1 v2 v3:Value} {s:LSt} (h:I1 w0 kb tb toff cap ts #[v0,v1,v2,v3] s w) :
  w.cell? ⟨w0.heap.size,0,none⟩=some v0∧w.cell? ⟨w0.heap.size,1,none⟩=some v1∧w.cell? ⟨w0.heap.size,2,none⟩=some v2∧w.cell? ⟨w0.heap.size,3,none⟩=some v3:=
 ⟨h.bx.cell 0,h.bx.cell 1,h.bx.cell 2,h.bx.cell 3⟩
theorem Dc (w w1:World) (bx:Array Value) (hw:Below w.heap.size w w1) (hsz:w1.heap.size=w.heap.size + 1) (b0:Blk w1 w.heap.size 25 bx) {tb toff cap:Nat} {ts:List Au} (hn:As w tb toff ts) (htb:tb < w.heap.size) :
  I1 w (w.heap.size + 1 + 1) tb toff cap ts bx Bn (((w1.alloc (.cells #[.int .i8 3,.int .i8 4] 118)).alloc (.cells #[.slice (some ⟨tb,toff,none⟩) ts.length cap,.slice (some ⟨w.heap.size + 1,0,none⟩) 2 2,.slice (some ⟨w.heap.size + 1 + 1 + 1,0,none⟩) 2 2,.bool false] 158)).alloc
   (.cells #[.string ByteArray.empty,.int .i64 0,.int .i8 3,.bool false,.string ByteArray.empty,.int .i64 1,.int .i8 4,.bool false] 160)):=by
 have b1:=Blk.new w1 118 #[.int .i8 3,.int .i8 4]
 have b2:=Blk.new (w1.alloc (.cells #[.int .i8 3,.int .i8 4] 118)) 158 #[.slice (some ⟨tb,toff,none⟩) ts.length cap,.slice (some ⟨w.heap.size + 1,0,none⟩) 2 2,.slice (some ⟨w.heap.size + 1 + 1 + 1,0,none⟩) 2 2,.bool false]
 have b3:=Blk.new ((w1.alloc (.cells #[.int .i8 3,.int .i8 4] 118)).alloc (.cells #[.slice (some ⟨tb,toff,none⟩) ts.length cap,.slice (some ⟨w.heap.size + 1,0,none⟩) 2 2,.slice (some ⟨w.heap.size + 1 + 1 + 1,0,none⟩) 2 2,.bool false] 158)) 160 #[.string ByteArray.empty,.int .i64 0,.int .i8 3,.bool false,.string ByteArray.empty,.int .i64 1,.int .i8 4,.bool false]
 simp only [World.size_alloc,hsz] at b1 b2 b3
 have hb:Below w.heap.size w (((w1.alloc (.cells #[.int .i8 3,.int .i8 4] 118)).alloc (.cells #[.slice (some ⟨tb,toff,none⟩) ts.length cap,.slice (some ⟨w.heap.size + 1,0,none⟩) 2 2,.slice (some ⟨w.heap.size + 1 + 1 + 1,0,none⟩) 2 2,.bool false] 158)).alloc
   (.cells #[.string ByteArray.empty,.int .i64 0,.int .i8 3,.bool false,.string ByteArray.empty,.int .i64 1,.int .i8 4,.bool false] 160)):=
  ((hw.alloc (by omega) _).alloc (by simp;omega) _).alloc (by simp;omega) _
 refine ⟨RL.of ⟨.slice (some ⟨w.heap.size + 1,0,none⟩) 2 2,.slice (some ⟨w.heap.size + 1 + 1 + 1,0,none⟩) 2 2,by omega,b2.alloc _,?_,?_⟩ Vz,Frm.of_below hb (Nat.le_refl _),htb,hn.below hb htb,((b0.alloc _).alloc _).alloc _⟩
 ·exact ⟨rfl,.inr ⟨w.heap.size + 1,2,#[.int .i8 3,.int .i8 4],rfl,by omega,(b1.alloc _).alloc _,by decide,by decide,rfl,rfl⟩⟩
 ·exact ⟨rfl,.inr ⟨w.heap.size + 1 + 1 + 1,2,#[.string ByteArray.empty,.int .i64 0,.int .i8 3,.bool false,.string ByteArray.empty,.int .i64 1,.int .i8 4,.bool false],rfl,by omega,b3,by decide,by decide,rfl,rfl⟩⟩
theorem Dd (b off cap:Nat) (ts:List Au) (k:Nat) (w:World) (hl:ts.length≤100000) (hc:As w b off ts) :
  Calls Tryz.prog 109 #[.slice (some ⟨b,off,none⟩) ts.length cap,.int .i64 k] w fun e w'=>e=.returned (.int .i64 (Ap ts k))∧w=w':=by
 by_cases h:k < ts.length
 ·exact Lo b off cap ts k w hl hc h
 ·have e:Ap ts k = -1:=by unfold Ap;rw [if_neg h]
  rw [e]
  exact JO (some ⟨b,off,none⟩) ts.length cap k w (.inr ⟨by omega,by omega⟩) (by omega)
theorem DF (on:Int) (SA TA:Option Addr) (sn sc tn tc:Nat) (when_:Bool) (w:World) (h:on < 0∨(0≤on∧4 < on)∨(0≤on∧on≤4∧32 < sn)∨(0≤on∧on≤4∧sn≤32∧2000 < tn)∨(0≤on∧on≤4∧sn≤32∧tn=0)) :
  Calls Tryz.prog 48 #[.agg #[.int .i64 on,.slice SA sn sc,.bool when_,.slice TA tn tc]] w fun e w'=>e=.returned (.bool false)∧Below w.heap.size w w':=by
 have hb:Below w.heap.size w (w.alloc (.cells #[.int .i64 on,.slice SA sn sc,.bool when_,.slice TA tn tc] 25)):=(Below.refl _ _).alloc (Nat.le_refl _) _
 have HB:=Lh hb
 clear hb
 by_cases q0:on < 0
 ·go_in
  go_wp2_with fail
  go_ret
  exact ⟨rfl,HB.out⟩
 have q0:=Int.not_lt.1 q0
 by_cases q1:4 < on
 ·clear h
  go_in
  go_wp2_with fail
  go_ret
  exact ⟨rfl,HB.out⟩
 have q1:=Int.not_lt.1 q1
 by_cases q2:(32:Int) < sn
 ·clear h
  go_in
  go_wp2_with fail
  go_ret
  exact ⟨rfl,HB.out⟩
 have q2:=Int.not_lt.1 q2
 by_cases q3:(2000:Int) < tn
 ·clear h
  have q4:decide ((2000:Int) < tn)=true:=decide_eq_true q3
  clear q3
  go_in
  go_wp2_with fail
  go_ret
  exact ⟨rfl,HB.out⟩
 have q5:tn=0:=by omega
 subst q5
 clear h q3
 go_in
 go_wp2_with fail
 go_ret
 exact ⟨rfl,HB.out⟩
end Go.Proofs.YtmpcbaflcogmmaaGreatDoor
