/- StmtAll AbleM Able Ints -/
import Derived.Deep.RegionHeld3
import Derived.Test.YtmpcbaflcogmmaaGreatDoorStmt11
import Derived.Test.YtmpcbaflcogmmaaGreatDoorStmt12
import Derived.Test.YtmpcbaflcogmmaaGreatDoorStmt13
import Derived.Test.YtmpcbaflcogmmaaGreatDoorStmt6
namespace Go.Proofs.YtmpcbaflcogmmaaGreatDoor
open Go.RowKit
set_option linter.all false
theorem UM (n:Nat):AP [0] n=decide (n=0):=IW 0 n
theorem MO (n:Nat):AP [1] n=decide (n=1):=IW 1 n
theorem UP (n:Nat):AP [2] n=decide (n=2):=IW 2 n
theorem Nv (n:Nat):AP [2,3] n=decide (n=2∨n=3):=QT 2 3 n
theorem Lib.len1 {l:List Nat} (h:l.length=1):∃ j,l=[j]:=by
 match l,h with
 | [j],_=>exact ⟨j,rfl⟩
theorem To {B kb tb toff cap:Nat} {ts:List Au} {recS recB:Nat→LSt→LSt} (htb:tb < B) (hl:ts.length≤100000) (htxt:∀ y∈ts,y.text.size≤1099511627776) {i:Nat} (hi:i < ts.length) (hbe:0≤Ap ts i)
  (R:Sk B kb tb toff cap ts recS recB i):SAt 143 B kb tb toff cap ts (DL ts recS recB) i:=by
 intro s w hb hg hs h hn
 obtain⟨x,hx⟩:∃ x,ts[i]? = some x:=⟨_,List.getElem?_eq_getElem hi⟩
 have hgx:ts.getD i AF=x:=by rw [List.getD_eq_getElem?_getD,hx];rfl
 obtain⟨slots,seen,bad⟩:=s
 simp only at hb hs
 subst hb
 unfold DL
 simp only [hgx]
 have bads:FI ⟨slots,seen,false⟩=⟨slots,seen,true⟩:=rfl
 by_cases q11:x.op=11
 ·rw [if_pos q11]
  by_cases hk:(Am ts i).length=1
  ·have hm:AP [1] (Am ts i).length=true:=by rw [MO];simpa using hk
   obtain⟨j,hj⟩:=Lib.len1 hk
   by_cases hli:AO x 0 x.n 0=true
   ·rw [if_pos ⟨hk,hli⟩]
    have e0:(Am ts i).getD 0 0=j:=by rw [hj];rfl
    rw [e0]
    obtain⟨kd,hgt,bd,hex⟩:∃ kd hgt bd,Dl ts ⟨slots,seen,false⟩ j false=(kd,hgt,bd):=⟨_,_,_,rfl⟩
    rw [hex]
    exact TF B kb tb toff cap ts slots seen htb hl htxt i x hi hbe hx w hg hs h hn hm q11 hli j [] hj kd hgt bd hex
   ·rw [if_neg (fun h=>hli h.2),bads]
    exact Kz B kb tb toff cap ts slots seen htb hl htxt i x hi hbe hx w hg hs h hn q11 hm (by simpa using hli)
  ·rw [if_neg (fun h=>hk h.1),bads]
   exact LE B kb tb toff cap ts slots seen htb hl htxt i x hi hbe hx w hg hs h hn q11 (by rw [MO];simpa using hk)
 rw [if_neg q11]
 by_cases q12:x.op=12
 ·rw [if_pos q12]
  obtain⟨L,hL,hLd⟩:∃ L,QC (seen x.n)=L∧(seen x.n).getD (.bool false)=.bool L:=by
   cases hsn:seen x.n with
   | none=>exact ⟨false,rfl,rfl⟩
   | some v =>
    obtain⟨b,rfl⟩:=hg.val x.n v hsn
    exact ⟨b,rfl,rfl⟩
  rw [hL]
  by_cases hk:(Am ts i).length=1
  ·have hm:AP [1] (Am ts i).length=true:=by rw [MO];simpa using hk
   by_cases hr:x.n < 0
   ·rw [if_neg (fun h=>by have:=h.2.1.1;omega),bads]
    exact JW B kb tb toff cap ts slots seen htb hl htxt i x hi hbe hx w hg hs h hn q12 hm hr
   have hr:=Int.not_lt.1 hr
   by_cases hr2:1048576≤x.n
   ·rw [if_neg (fun h=>by have:=h.2.1.2.1;omega),bads]
    exact JX B kb tb toff cap ts slots seen htb hl htxt i x hi hbe hx w hg hs h hn q12 hm hr hr2
   have hr2:=Int.not_le.1 hr2
   cases L with
   | false =>
    rw [if_neg (fun h=>by cases h.2.1.2.2),bads]
    exact Jr B kb tb toff cap ts slots seen htb hl htxt i x hi hbe hx w hg hs h hn q12 hm hr hr2 hLd
   | true =>
    by_cases hli:AO x 0 x.n 0=true
    ·rw [if_pos ⟨hk,⟨hr,hr2,rfl⟩,hli⟩]
     obtain⟨j,hj⟩:=Lib.len1 hk
     have e0:(Am ts i).getD 0 0=j:=by rw [hj];rfl
     rw [e0]
     have hin:x.n < slots.length:=by
      refine hg.key x.n ?_ hr
      show (seen x.n).isSome=true
      cases hsn:seen x.n with
      | none=>rw [hsn] at hLd;simp at hLd
      | some v=>rfl
     exact St B kb tb toff cap ts slots seen htb hl htxt i x hi hbe hx w hg hs h hn q12 hm hr hr2 hLd hli j [] hj hin
    ·rw [if_neg (fun h=>hli h.2.2),bads]
     exact Mt B kb tb toff cap ts slots seen htb hl htxt i x hi hbe hx w hg hs h hn q12 hm hr hr2 hLd (by simpa using hli)
  ·rw [if_neg (fun h=>hk h.1),bads]
   have hm:AP [1] (Am ts i).length=false:=by rw [MO];simpa using hk
   by_cases hr:x.n < 0
   ·exact I7 B kb tb toff cap ts slots seen htb hl htxt i x hi hbe hx w hg hs h hn q12 hm hr
   have hr:=Int.not_lt.1 hr
   by_cases hr2:1048576≤x.n
   ·exact I5 B kb tb toff cap ts slots seen htb hl htxt i x hi hbe hx w hg hs h hn q12 hm hr hr2
   have hr2:=Int.not_le.1 hr2
   cases L with
   | false=>exact Hu B kb tb toff cap ts slots seen htb hl htxt i x hi hbe hx w hg hs h hn q12 hm hr hr2 hLd
   | true=>exact I9 B kb tb toff cap ts slots seen htb hl htxt i x hi hbe hx w hg hs h hn q12 hm hr hr2 hLd
 rw [if_neg q12]
 by_cases q13:x.op=13
 ·rw [if_pos q13]
  by_cases hk:(Am ts i).length=2∨(Am ts i).length=3
  ·have hm:AP [2,3] (Am ts i).length=true:=by rw [Nv];simpa using hk
   by_cases hli:AO x 0 0 0=true
   ·rw [if_pos ⟨hk,hli⟩]
    obtain⟨j,r,hj⟩:∃ j r,Am ts i=j :: r:=by
     cases hj:Am ts i with
     | nil=>rw [hj] at hk;simp at hk
     | cons j r=>exact ⟨j,r,rfl⟩
    have e0:(Am ts i).getD 0 0=j:=by rw [hj];rfl
    have e1:(Am ts i).drop 1=r:=by rw [hj];rfl
    rw [e0,e1]
    exact U9 B kb tb toff cap ts slots seen htb hl htxt i x hi hbe hx w hg hs h hn hm q13 hli j r hj (by omega) recS recB R
   ·rw [if_neg (fun h=>hli h.2),bads]
    exact KM B kb tb toff cap ts slots seen htb hl htxt i x hi hbe hx w hg hs h hn q13 hm (by simpa using hli)
  ·rw [if_neg (fun h=>hk h.1),bads]
   exact Lz B kb tb toff cap ts slots seen htb hl htxt i x hi hbe hx w hg hs h hn q13 (by rw [Nv];simpa using hk)
 rw [if_neg q13]
 by_cases q14:x.op=14
 ·rw [if_pos q14]
  by_cases hk:(Am ts i).length=1
  ·have hm:AP [1] (Am ts i).length=true:=by rw [MO];simpa using hk
   by_cases hr:0≤x.n
   ·by_cases hr2:x.n≤255
    ·by_cases hli:AO x 0 x.n x.m=true
     ·rw [if_pos ⟨hk,⟨hr,hr2⟩,hli⟩]
      obtain⟨j,hj⟩:=Lib.len1 hk
      have:=Pi B kb tb toff cap ts slots seen htb hl htxt i x hi hbe hx w hg hs h hn hm q14 hr hr2 hli j [] hj recS recB R
      rw [← hj] at this
      exact this
     ·rw [if_neg (fun h=>hli h.2.2),bads]
      exact IT B kb tb toff cap ts slots seen htb hl htxt i x hi hbe hx w hg hs h hn hm q14 hr hr2 (by simpa using hli)
    ·rw [if_neg (fun h=>hr2 h.2.1.2),bads]
     exact Ke B kb tb toff cap ts slots seen htb hl htxt i x hi hbe hx w hg hs h hn hm q14 hr hr2
   ·rw [if_neg (fun h=>hr h.2.1.1),bads]
    exact Kd B kb tb toff cap ts slots seen htb hl htxt i x hi hbe hx w hg hs h hn hm q14 (by omega)
  ·rw [if_neg (fun h=>hk h.1),bads]
   exact L6 B kb tb toff cap ts slots seen htb hl htxt i x hi hbe hx w hg hs h hn q14 (by rw [MO];simpa using hk)
 rw [if_neg q14]
 by_cases q15:x.op=15
 ·rw [if_pos q15]
  by_cases hk:(Am ts i).length=2
  ·have hm:AP [2] (Am ts i).length=true:=by rw [UP];simpa using hk
   by_cases hr:0≤x.n
   ·by_cases hr2:wrap64 (x.m - 1)=x.n
    ·by_cases hli:AO x 0 x.n x.m=true
     ·rw [if_pos ⟨hk,⟨hr,hr2⟩,hli⟩]
      obtain⟨j,r,hj⟩:∃ j r,Am ts i=j :: r:=by
       cases hj:Am ts i with
       | nil=>rw [hj] at hk;simp at hk
       | cons j r=>exact ⟨j,r,rfl⟩
      have e0:(Am ts i).getD 0 0=j:=by rw [hj];rfl
      have e1:(Am ts i).drop 1=r:=by rw [hj];rfl
      rw [e0,e1]
      exact Sp B kb tb toff cap ts slots seen htb hl htxt i x hi hbe hx w hg hs h hn hm q15 hr (AB hr2) hli j r hj (by omega) recS recB R
     ·rw [if_neg (fun h=>hli h.2.2),bads]
      exact L8 B kb tb toff cap ts slots seen htb hl htxt i x hi hbe hx w hg hs h hn hm q15 hr (AB hr2) (by simpa using hli)
    ·rw [if_neg (fun h=>hr2 h.2.1.2),bads]
     exact Mr B kb tb toff cap ts slots seen htb hl htxt i x hi hbe hx w hg hs h hn hm q15 hr (Ao hr2)
   ·rw [if_neg (fun h=>hr h.2.1.1),bads]
    exact Ma B kb tb toff cap ts slots seen htb hl htxt i x hi hbe hx w hg hs h hn hm q15 (by omega)
  ·rw [if_neg (fun h=>hk h.1),bads]
   exact Lj B kb tb toff cap ts slots seen htb hl htxt i x hi hbe hx w hg hs h hn q15 (by rw [UP];simpa using hk)
 rw [if_neg q15]
 by_cases q16:x.op=16
 ·rw [if_pos q16]
  by_cases hk:(Am ts i).length=2∨(Am ts i).length=3
  ·have hm:AP [2,3] (Am ts i).length=true:=by rw [Nv];simpa using hk
   by_cases hli:AO x 0 x.n 0=true
   ·rw [if_pos ⟨hk,hli⟩]
    have hch:=Ca hbe
    match hj:Am ts i,hk,hch with
    | [j,b],_,_ =>
     rw [if_neg (by simp)]
     exact Nr B kb tb toff cap ts slots seen htb hl htxt i x hi hbe hx w hg hs h hn hm q16 hli j [b] hj (by rw [hj];simp) recS recB R b (by rw [hj];rfl) (by rw [hj];rfl)
    | [j,b,d],_,⟨e1,g1,g2,e2,g3,g4,e3,g5,g6,_⟩ =>
     obtain⟨S,hS⟩:=Ex0 (forget x.n (AS ts recS recB 0 [b] (AE x.n false [3] (AD ts j 6 ⟨slots,seen,false⟩))))
     have hS':forget x.n (AS ts recS recB 0 (List.take 1 (List.drop 1 [j,b,d])) (AE x.n false [3] (AD ts ([j,b,d].getD 0 0) 6 ⟨slots,seen,false⟩)))=S:=hS.symm
     rw [hS']
     cases hbad:S.bad with
     | true =>
      rw [if_neg (by simp)]
      rw [hS] at hbad ⊢
      exact Kg B kb tb toff cap ts slots seen htb hl htxt i x hi hbe hx w hg hs h hn hm q16 hli j [b,d] hj (by rw [hj];simp) recS recB R b (by rw [hj];rfl) (by rw [hj];rfl) hbad
     | false =>
      rw [if_pos ⟨rfl,rfl⟩]
      rw [hS] at hbad ⊢
      refine Nw B kb tb toff cap ts slots seen htb hl htxt i x hi hbe hx w hg hs h hn hm q16 hli j [b,d] hj (by rw [hj];simp) recS recB R b (by rw [hj];rfl) d (by rw [hj];rfl) (by rw [hj];rfl) hbad ?_
      subst e1
      rw [← e2] at g3 g4 e3
      subst e3
      exact E1 ts recS recB R.lS R.lB [b] 0 b _ _ ⟨rfl,g3,g4,rfl⟩ (Nat.le_trans (B7 _ _ _ _) (by show slots.length + 1≤_;omega))
    | [],hk,_=>simp at hk
    | [_],hk,_=>simp at hk
    | _ :: _ :: _ :: _ :: _,hk,_=>simp at hk
   ·rw [if_neg (fun h=>hli h.2),bads]
    exact La B kb tb toff cap ts slots seen htb hl htxt i x hi hbe hx w hg hs h hn q16 hm (by simpa using hli)
  ·rw [if_neg (fun h=>hk h.1),bads]
   exact Lv B kb tb toff cap ts slots seen htb hl htxt i x hi hbe hx w hg hs h hn q16 (by rw [Nv];simpa using hk)
 rw [if_neg q16]
 by_cases q178:x.op=17∨x.op=18
 ·rw [if_pos q178]
  by_cases hk:(Am ts i).length=0
  ·have hm:AP [0] (Am ts i).length=true:=by rw [UM];simpa using hk
   rw [hk]
   cases hli:AO x 0 0 0 with
   | true =>
    rcases q178 with q | q
    ·exact Oj B kb tb toff cap ts slots seen htb hl htxt i x hi hbe hx w hg hs h hn q hm hli
    ·exact OQ B kb tb toff cap ts slots seen htb hl htxt i x hi hbe hx w hg hs h hn q hm hli
   | false =>
    rcases q178 with q | q
    ·exact Lm B kb tb toff cap ts slots seen htb hl htxt i x hi hbe hx w hg hs h hn q hm hli
    ·exact Li B kb tb toff cap ts slots seen htb hl htxt i x hi hbe hx w hg hs h hn q hm hli
  ·have hm:AP [0] (Am ts i).length=false:=by rw [UM];simpa using hk
   have e:(!decide ((Am ts i).length=0))=true:=by simp [hk]
   rw [e,Bool.true_or]
   rcases q178 with q | q
   ·exact KZ B kb tb toff cap ts slots seen htb hl htxt i x hi hbe hx w hg hs h hn q hm
   ·exact KG B kb tb toff cap ts slots seen htb hl htxt i x hi hbe hx w hg hs h hn q hm
 rw [if_neg q178]
 by_cases q19:x.op=19
 ·rw [if_pos q19]
  cases hsg:Bp Bu x.n with
  | none=>exact Rv B kb tb toff cap ts slots seen htb hl i x hi hbe hx w h hn q19 hsg
  | some sg =>
   obtain⟨V,b,hV⟩:∃ V b,Cu (Dl ts ⟨slots,seen,false⟩) ts i (Am ts i) sg=(V,b):=⟨_,_,rfl⟩
   simp only [hV]
   exact Uq B kb tb toff cap ts slots seen htb hl htxt i x sg hi hbe hx w hg h hn q19 hsg V b hV
 rw [if_neg q19,bads]
 exact RI B kb tb toff cap ts slots seen htb hl htxt i x hi hbe hx w hg hs h hn ⟨q11,q12,q13,q14,q15,q16,fun h=>q178 (.inl h),fun h=>q178 (.inr h),q19⟩
theorem LJ {B kb tb toff cap:Nat} {ts:List Au} (htb:tb < B) (hl:ts.length≤100000) (htxt:∀ y∈ts,y.text.size≤1099511627776):∀ (f i:Nat),ts.length≤i + f→i < ts.length→0≤Ap ts i →
  SAt 143 B kb tb toff cap ts (sbM ts f).1 i∧SAt 103 B kb tb toff cap ts (sbM ts f).2 i
 | 0,i,h1,h2,_=>absurd h2 (by omega)
 | f + 1,i,h1,h2,h3=>by
  have hk:∀ j∈Am ts i,j < ts.length∧SAt 143 B kb tb toff cap ts (sbM ts f).1 j∧SAt 103 B kb tb toff cap ts (sbM ts f).2 j:=fun j hj=>by
   have:=AU hj
   exact ⟨this.2.1,LJ htb hl htxt f j (by omega) this.2.1 this.2.2.1⟩
  exact ⟨To htb hl htxt h2 h3 ⟨(Fy ts f).1,(Fy ts f).2,(DW ts f).1,(DW ts f).2,hk⟩,
   RZ B kb tb toff cap ts (sbM ts f).1 htb hl (Fy ts f).1 (DW ts f).1 i h2 h3 (fun j hj=>⟨(hk j hj).1,(hk j hj).2.1⟩)⟩
noncomputable def Eb:Int→Option Value:=upd CB (upd CB (fun _=>none) (0:Int) (some (.bool false))) (1:Int) (some (.bool false))
noncomputable def Bn:LSt:=⟨[3,4],Eb,false⟩
def CU (when_:Bool) (ts:List Au):Int:=if when_ then Ap ts 0 else 0
noncomputable def Eh (when_:Bool) (ts:List Au):LSt:=if when_ then AD ts 0 2 Bn else Bn
noncomputable def DS (when_:Bool) (ts:List Au):LSt:=if (Eh when_ ts).bad=true then Eh when_ ts else (sbM ts (ts.length + 1)).2 (CU when_ ts).toNat (Eh when_ ts)
def CI (when_:Bool) (ts:List Au):Bool:=decide (0≤CU when_ ts) && decide (Ap ts (CU when_ ts).toNat=ts.length)
noncomputable def Bg (on:Int) (slots:List Int) (when_:Bool) (ts:List Au):Bool:=
 decide (0≤on) && decide (on≤4) && decide (slots.length≤32) && decide (ts.length≤2000) && CI when_ ts && !(DS when_ ts).bad && decide ((DS when_ ts).slots=slots)
theorem LP (n:Int):Eb n=if n=1 then some (.bool false) else if n=0 then some (.bool false) else none:=by
 unfold Eb
 rw [Fp,Fp]
theorem Kw:Ci Bn:=by
 constructor
 ·intro n hn h0
  have h:(Eb n).isSome=true:=hn
  rw [LP] at h
  show n < (([3,4]:List Int).length:Int)
  simp only [List.length_cons,List.length_nil]
  split at h
  ·omega
  ·split at h
   ·omega
   ·cases h
 ·intro n v hv
  have h:Eb n=some v:=hv
  rw [LP] at h
  split at h
  ·exact ⟨false,by injection h with h;exact h.symm⟩
  ·split at h
   ·exact ⟨false,by injection h with h;exact h.symm⟩
   ·cases h
def Bv (w:World) (A:Option Addr) (ts:List Au):Prop:=ts=[]∨∃ tb toff,A=some ⟨tb,toff,none⟩∧tb < w.heap.size∧As w tb toff ts
def AV (w:World) (A:Option Addr) (l:List Int):Prop:=∀ k x,l[k]? = some x→∃ b off,A=some ⟨b,off,none⟩∧b < w.heap.size∧w.cell? ⟨b,off + k,none⟩=some (.int .i8 x)
theorem Bv.below {w w':World} {A:Option Addr} {ts:List Au} (h:Bv w A ts) (hb:Below w.heap.size w w'):Bv w' A ts:=by
 rcases h with h | ⟨tb,toff,h1,h2,h3⟩
 ·exact .inl h
 ·exact .inr ⟨tb,toff,h1,Nat.lt_of_lt_of_le h2 hb.size,h3.below hb h2⟩
theorem AV.below {w w':World} {A:Option Addr} {l:List Int} (h:AV w A l) (hb:Below w.heap.size w w'):AV w' A l:=by
 intro k x hk
 obtain⟨b,off,h1,h2,h3⟩:=h k x hk
 exact ⟨b,off,h1,Nat.lt_of_lt_of_le h2 hb.size,(hb.cell (p:=⟨b,_,none⟩) h2).trans h3⟩
structure AbC (w0:World) (kb tb toff cap:Nat) (ts:List Au) (bx:Array Value) (s:LSt) (w:World):Prop where
 lk:LK w w0.heap.size kb (.slice (some ⟨tb,toff,none⟩) ts.length cap) s
 fr:Frm w0.heap.size [144,118] w0 w
 tbB:tb < w0.heap.size
 nodes:As w tb toff ts
 bx:Blk w w0.heap.size 25 bx
section
variable {w0 w w':World} {kb tb toff cap:Nat} {ts:List Au} {bx:Array Value} {s s':LSt}
theorem AbC.drew (h:AbC w0 kb tb toff cap ts bx s w):AbC w0 kb tb toff cap ts bx s w.drew:=⟨h.lk.drew,h.fr.drew,h.tbB,h.nodes,h.bx.drew⟩
theorem AbC.step (h:AbC w0 kb tb toff cap ts bx s w) {T:List TypeId} (hT:∀ t∈T,t = 144∨t = 118) (hl:LK w' w0.heap.size kb (.slice (some ⟨tb,toff,none⟩) ts.length cap) s') (hf:Frm w0.heap.size T w w') :
  AbC w0 kb tb toff cap ts bx s' w':=by
 have hf2:Frm w0.heap.size [144,118] w w':=hf.more (fun t ht=>by simpa using hT t ht)
 exact ⟨hl,h.fr.trans hf2,h.tbB,hf2.nodes h.nodes h.tbB,hf2.blk h.bx (by decide)⟩
end
theorem AbC.cells {w0 w:World} {kb tb toff cap:Nat} {ts:List Au} {v0 v1 v2 v3:Value} {s:LSt} (h:AbC w0 kb tb toff cap ts #[v0,v1,v2,v3] s w) :
  w.cell? ⟨w0.heap.size,0,none⟩=some v0∧w.cell? ⟨w0.heap.size,1,none⟩=some v1∧w.cell? ⟨w0.heap.size,2,none⟩=some v2∧w.cell? ⟨w0.heap.size,3,none⟩=some v3:=
 ⟨h.bx.cell 0,h.bx.cell 1,h.bx.cell 2,h.bx.cell 3⟩
theorem PR (b off cap:Nat) (ts:List Au) (k:Nat) (w:World) (hl:ts.length≤100000) (hc:As w b off ts) :
  Calls Tryz.prog 101 #[.slice (some ⟨b,off,none⟩) ts.length cap,.int .i64 k] w fun e w'=>e=.returned (.int .i64 (Ap ts k))∧w=w':=by
 by_cases h:k < ts.length
 ·exact CL b off cap ts k w hl hc h
 ·have e:Ap ts k = -1:=by unfold Ap;rw [if_neg h]
  rw [e]
  exact Hv _ (some ⟨b,off,none⟩) ts.length cap k w rfl (.inr (by omega)) (by omega)
theorem Br {B:Nat} {w w':World} (h:Below B w w') (n:Nat):Below B w (w'.drewN n):=⟨h.os,h.tape,h.output,h.size,h.block⟩
theorem IE {ts:List Au} {k:Nat} (h:Ap ts k < 0):Ap ts k = -1:=by
 rw [BV] at h ⊢
 rcases hz:(Bc ts.length ts)[k]? with _ | _ | z <;> rw [hz] at h <;> simp only at h ⊢
 omega
theorem GT {w:World} {base n c:Nat} {A:Option Addr} {l:List Int} (h:w.ownsRow base 118 1 (.slice A n c) l.length (l.map (Value.int .i8))):∀ k x,l[k]? = some x→∃ b off,A=some ⟨b,off,none⟩∧w.cell? ⟨b,off + k,none⟩=some (.int .i8 x):=by
 intro k x hk
 have hlt:=(List.getElem?_eq_some_iff.1 hk).1
 rcases h.2 with ⟨h1,h2⟩ | ⟨g,cap,cur,h1,_⟩
 ·omega
 ·injection h1 with h1 h3 h4
  subst h1 h3
  refine ⟨g,0,rfl,?_⟩
  rw [Nat.zero_add]
  have:=h.cellAt k (by omega)
  rw [this]
  simp [hk]
theorem D3 (w:World) (bx:Array Value):∃ w3 w4,
  (Instr.mapUpdate 142 (.map (some (w.heap.size + 1 + 1))) (.int .i64 0) (.bool false)).run Tryz.prog (((w.alloc (.cells bx 25)).alloc (.cells #[.int .i8 3,.int .i8 4] 118)).alloc (.map #[] 0))=.ok () w3 ∧
  (Instr.mapUpdate 142 (.map (some (w.heap.size + 1 + 1))) (.int .i64 1) (.bool false)).run Tryz.prog w3=.ok () w4 ∧
  (∀ {tb toff cap:Nat} {ts:List Au} (tv:Value),As w tb toff ts→tb < w.heap.size→tv=.slice (some ⟨tb,toff,none⟩) ts.length cap →
   AbC w w4.heap.size tb toff cap ts bx Bn (w4.alloc (.cells #[tv,.slice (some ⟨w.heap.size + 1,0,none⟩) 2 2,.map (some (w.heap.size + 1 + 1)),.bool false] 144)))∧(∀ tv,Below w.heap.size w (w4.alloc (.cells #[tv,.slice (some ⟨w.heap.size + 1,0,none⟩) 2 2,.map (some (w.heap.size + 1 + 1)),.bool false] 144)) ∧
   Blk (w4.alloc (.cells #[tv,.slice (some ⟨w.heap.size + 1,0,none⟩) 2 2,.map (some (w.heap.size + 1 + 1)),.bool false] 144)) w.heap.size 25 bx):=by
 have b0:=Blk.new w 25 bx
 have b1:=Blk.new (w.alloc (.cells bx 25)) 118 #[.int .i8 3,.int .i8 4]
 have m0:=MK.made CB ((w.alloc (.cells bx 25)).alloc (.cells #[.int .i8 3,.int .i8 4] 118))
 simp only [World.size_alloc] at b1 m0
 obtain⟨w3,r1,m1,g1⟩:=m0.update CB Tryz.underlying142 (0:Int) (.bool false)
 obtain⟨w4,r2,m2,g2⟩:=m1.update CB Tryz.underlying142 (1:Int) (.bool false)
 have e1:=g1.size
 have e2:=g2.size
 simp only [World.size_alloc] at e1
 have hne:∀ k,k≠w.heap.size + 1 + 1→some k≠some (w.heap.size + 1 + 1):=fun k h e=>h (by injection e)
 have c0:=(((b0.alloc (.cells #[.int .i8 3,.int .i8 4] 118)).alloc (.map #[] 0)).grown g1 (hne _ (by omega))).grown g2 (hne _ (by omega))
 have c1:=((b1.alloc (.map #[] 0)).grown g1 (hne _ (by omega))).grown g2 (hne _ (by omega))
 have hb:Below w.heap.size w w4:=by
  have q0:Below w.heap.size w (((w.alloc (.cells bx 25)).alloc (.cells #[.int .i8 3,.int .i8 4] 118)).alloc (.map #[] 0)):=(((Below.refl _ _).alloc (Nat.le_refl _) _).alloc (by simp) _).alloc (by simp;omega) _
  exact (q0.grown g1 (by simp;omega) (fun k hk=>by injection hk with hk;omega)).grown g2 (by omega) (fun k hk=>by injection hk with hk;omega)
 refine ⟨w3,w4,r1,r2,?_,fun tv=>⟨hb.alloc (by omega) _,c0.alloc _⟩⟩
 rintro tb toff cap ts tv hn htb rfl
 refine ⟨⟨.slice (some ⟨w.heap.size + 1,0,none⟩) 2 2,w.heap.size + 1 + 1,by omega,by omega,Blk.new w4 _ _,m2.alloc CB _,?_⟩,Frm.of_below (hb.alloc (by omega) _) (Nat.le_refl _),htb,hn.below (hb.alloc (by omega) _) htb,c0.alloc _⟩
 refine ⟨rfl,.inr ⟨w.heap.size + 1,2,#[.int .i8 3,.int .i8 4],rfl,by omega,c1.alloc _,by decide,by decide,rfl,rfl⟩⟩
theorem FT (on:Int) (SA TA:Option Addr) (sn sc tn tc:Nat) (when_:Bool) (w:World) (h:on < 0∨(0≤on∧4 < on)∨(0≤on∧on≤4∧32 < sn)∨(0≤on∧on≤4∧sn≤32∧2000 < tn)) :
  Calls Tryz.prog 44 #[.agg #[.int .i64 on,.slice SA sn sc,.bool when_,.slice TA tn tc]] w fun e w'=>e=.returned (.bool false)∧Below w.heap.size w w':=by
 have hb:Below w.heap.size w (w.alloc (.cells #[.int .i64 on,.slice SA sn sc,.bool when_,.slice TA tn tc] 25)):=(Below.refl _ _).alloc (Nat.le_refl _) _
 have HB:=Lh hb
 clear hb
 by_cases q0:on < 0
 ·go_in
  go_wp2_with fail
  go_ret
  exact ⟨rfl,HB.out⟩
 have q0:=Int.not_lt.1 q0
 by_cases q1:4 < on
 ·clear h
  go_in
  go_wp2_with fail
  go_ret
  exact ⟨rfl,HB.out⟩
 have q1:=Int.not_lt.1 q1
 by_cases q2:(32:Int) < sn
 ·clear h
  go_in
  go_wp2_with fail
  go_ret
  exact ⟨rfl,HB.out⟩
 have q2:=Int.not_lt.1 q2
 have q3:(2000:Int) < tn:=by omega
 have q4:decide ((2000:Int) < tn)=true:=decide_eq_true q3
 clear h q3
 go_in
 go_wp2_with fail
 go_ret
 exact ⟨rfl,HB.out⟩
def Ch (w:World) (A:Option Addr) (l:List Int):Prop:=∀ k x,l[k]? = some x→∃ b off,A=some ⟨b,off,none⟩∧b < w.heap.size∧w.cell? ⟨b,off + k,none⟩=some (.int .i64 x)
theorem Ch.below {w w':World} {A:Option Addr} {l:List Int} (h:Ch w A l) (hb:Below w.heap.size w w'):Ch w' A l:=by
 intro k x hk
 obtain⟨b,off,h1,h2,h3⟩:=h k x hk
 exact ⟨b,off,h1,Nat.lt_of_lt_of_le h2 hb.size,(hb.cell (p:=⟨b,_,none⟩) h2).trans h3⟩
theorem TT:(Tryz.prog.info? 3).map (fun i=>(i.zero,i.size,i.bytes))=some (some (.int .i64 0),1,8):=by kernel_rfl
theorem T4:ElT Tryz.prog 128 3 1 8:=⟨Tryz.underlying128,by decide,by
 obtain⟨i0,hi,hz0,hz1,hz2⟩:=info_parts TT
 exact ⟨i0,_,hi,hz0,hz1,hz2,rfl⟩⟩
def AQ (l:List Int):List Value:=l.map (Value.int .i64)
theorem Bt {w:World} {S n c:Nat} {A:Option Addr} {l:List Int} (h:w.ownsRow S 3 1 (.slice A n c) n (AQ l)):Ch w A l∧l.length=n:=by
 have h1:=h.1
 simp only [AQ,List.length_map,Nat.mul_one] at h1
 refine ⟨fun k x hk=>?_,h1⟩
 rcases h.2 with ⟨h2,h3⟩ | ⟨g,cap,cur,h2,h3,h4,_⟩
 ·have:=(List.getElem?_eq_some_iff.1 hk).1;omega
 ·injection h2 with h2 _ _
  subst h2
  refine ⟨g,0,rfl,(h.lt g rfl).2,?_⟩
  have:=h.cells rfl k (.int .i64 x) (by simp [AQ,hk])
  rw [← this]
  congr 1
  unfold Addr.add
  cases k <;> simp
end Go.Proofs.YtmpcbaflcogmmaaGreatDoor
