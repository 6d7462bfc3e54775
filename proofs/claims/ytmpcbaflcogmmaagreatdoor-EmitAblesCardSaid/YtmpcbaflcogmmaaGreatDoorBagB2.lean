/- BagB0 BagB1 WideL BagB2 -/
import Derived.Deep.RegionHeld3
import Derived.Test.YtmpcbaflcogmmaaGreatDoorAble
import Derived.Test.YtmpcbaflcogmmaaGreatDoorSizesT
import Derived.Test.YtmpcbaflcogmmaaGreatDoorWideA
namespace Go.Proofs.YtmpcbaflcogmmaaGreatDoor
open Go.RowKit
set_option linter.all false
set_option maxHeartbeats 16000000
set_option maxRecDepth 100000
theorem UW:ElT Tryz.prog 34 5 1 1:=⟨Tryz.underlying34,by decide,by
 obtain⟨i0,hi,hz0,hz1,hz2⟩:=info_parts (show (Tryz.prog.info? 5).map (fun i=>(i.zero,i.size,i.bytes))=some (some (.int .u8 0),1,1) by kernel_rfl)
 exact ⟨i0,_,hi,hz0,hz1,hz2,rfl⟩⟩
def D4 (n i:Nat):Int:=IntKind.u8.wrap (31 * (n:Int) + 7 * (i:Int) + 3)
def Cc (n m:Nat):List Value:=(List.range m).map fun i=>Value.int .u8 (D4 n i)
theorem Jw (n m:Nat):Cc n (m + 1)=Cc n m ++ [.int .u8 (D4 n m)]:=by simp [Cc,List.range_succ]
theorem J7 {n m k:Nat} (h:k≤m):(Cc n m).take k=Cc n k:=by
 unfold Cc
 rw [← List.map_take,List.take_range,Nat.min_eq_left h]
theorem Ji {n m i:Nat} (h:i < m):(Cc n m)[i]? = some (.int .u8 (D4 n i)):=by
 unfold Cc
 rw [List.getElem?_map,List.getElem?_range h]
 rfl
structure Be where
 A:Option Addr
 n:Nat
 c:Nat
def Be.val (x:Be):Value:=.slice x.A x.n x.c
def CO (w:World) (C:Nat) (x:Be) (xs:List Value):Prop:=w.ownsRow C 5 1 x.val x.n xs
section
variable {w:World}
include w
theorem Ks {C:Nat} {x:Be} {xs:List Value} (h:CO w C x xs):x.A=none∨∃ g,x.A=some ⟨g,0,none⟩∧C≤g∧g < w.heap.size∧∃ cs,w.heap[g]? = some (.cells cs 5 (0,0)):=by
 rcases h.2 with ⟨e,_⟩ | ⟨g,cap,cur,e,hB,hh,_⟩
 ·injection e with e1 _ _
  exact .inl e1
 ·injection e with e1 _ _
  exact .inr ⟨g,e1,hB,(Array.getElem?_eq_some_iff.1 hh).1,cur,hh⟩
theorem Rl {C n c g i:Nat} {e:TypeId} {xs:List Value} {u:Value} (h:w.ownsRow C e 1 (.slice (some ⟨g,0,none⟩) n c) n xs) (hi:i < n):(w.setCell ⟨g,i,none⟩ u).ownsRow C e 1 (.slice (some ⟨g,0,none⟩) n c) n (xs.set i u):=by
 obtain⟨h1,h2⟩:=h
 rcases h2 with ⟨h2,_⟩ | ⟨g',cap,cur,h2,h3,h4,h5,h6,h7,h8⟩
 ·cases h2
 ·injection h2 with e1 e2 e3
  injection e1 with e1
  injection e1 with e1
  subst e1 e3
  exact ⟨by simpa using h1,.inr ⟨g,c,cur.setIfInBounds i u,rfl,h3,Blk.set_ (t:=e) h4 i u,h5,h6,by simpa using h7,by rw [Array.toList_setIfInBounds,List.take_set,h8]⟩⟩
theorem Pn {C n c g m:Nat} {e:TypeId} {xs:List Value} (h:w.ownsRow C e 1 (.slice (some ⟨g,0,none⟩) n c) n xs) (hm:m≤n):w.ownsRow C e 1 (.slice (some ⟨g,0,none⟩) m c) m (xs.take m):=by
 obtain⟨h1,h2⟩:=h
 rcases h2 with ⟨h2,_⟩ | ⟨g',cap,cur,h2,h3,h4,h5,h6,h7,h8⟩
 ·cases h2
 ·injection h2 with e1 e2 e3
  injection e1 with e1
  injection e1 with e1
  subst e1 e3
  refine ⟨by rw [List.length_take];omega,.inr ⟨g,c,cur,rfl,h3,h4,by omega,h6,h7,?_⟩⟩
  rw [← h8,List.take_take]
  congr 1
  omega
theorem Lu {base:Nat} {e:TypeId} {z:Value} {xs:List Value} (u:Value) (n cap:Nat) (hz:z.cells.size=1) (hx:xs.length=n) (h1:n + 1≤cap) (h2:cap≤maxLen) (hb:base≤w.heap.size) :
  (w.drew.alloc (.cells (xs.toArray ++ #[u] ++ Builtin.zeroCells z.cells (cap - (n + 1))) e)).ownsRow base e 1 (.slice (some ⟨w.heap.size,0,none⟩) (n + 1) cap) (n + 1) (xs ++ [u]):=by
 refine ⟨by simp [hx],.inr ⟨w.heap.size,cap,_,rfl,hb,Blk.new w.drew e _,h1,h2,?_,?_⟩⟩
 ·simp only [Array.size_append,List.size_toArray,size_zeroCells,hz,hx]
  simp
  omega
 ·simp only [Array.toList_append]
  rw [List.take_append_of_le_length (by simp [hx])]
  simp
  rw [List.take_of_length_le (by simp [hx])]
end
theorem Er {P:Program} {w:World} {base:Nat} {t ty e:TypeId} {bytes:Nat} (E:ElT P t e 1 bytes) (x:Be) (xs:List Value) (hown:w.ownsRow base e 1 x.val x.n xs)
  (b off c:Nat) (u:Value) (hu:w.cell? ⟨b,off,none⟩=some u) (h1:u.oneCell'=true) (h63:x.n + 1≤maxLen) (hbytes:(x.n + 1) * bytes≤140737488355328) (hbase:base≤w.heap.size) :
  ∃ (l:Be) (w':World),(Builtin.append_ #[t,t] ty #[x.val,.slice (some ⟨b,off,none⟩) 1 c]).run P w=.ok l.val w'∧l.n=x.n + 1∧w'.ownsRow base e 1 l.val l.n (xs ++ [u]) ∧
   ((∃ g,x.A=some ⟨g,0,none⟩∧l.A=x.A∧l.c=x.c∧w.grownBy w' (some g))∨(∃ g,l.A=some ⟨g,0,none⟩∧w.heap.size≤g∧w.grownBy w' none)):=by
 obtain⟨i,z,hi,hz,hsz,hby,hzc⟩:=E.info
 obtain⟨A,n,cap⟩:=x
 simp only [Be.val] at hown ⊢
 simp only at h63 hbytes
 have hnews:∀ j v,[u][j]? = some v→w.cell? ((⟨b,off,none⟩:Addr).add j)=some v:=by
  intro j v hj
  cases j with
  | zero=>simp at hj;subst hj;exact hu
  | succ j=>simp at hj
 have hone:∀ v∈[u],v.oneCell'=true:=by simpa using h1
 have hmax:n + 1≤9223372036854775807:=by simp only [maxLen] at h63;omega
 rcases hown.2 with ⟨e0,hn⟩ | ⟨g,cap',cur,e0,hB,hh,hnc,hcm,hcs,htake⟩
 ·injection e0 with e1 e2 e3
  subst e1 e2 e3
  have hx:xs=[]:=List.eq_nil_of_length_eq_zero (by simpa using hown.1)
  subst hx
  have hr:=run_append_nil (P:=P) (w:=w) t ty e i z E.und hi hz ⟨b,off,none⟩ 1 c [u] (by rw [hsz];rfl) hnews (by omega) (by omega) (by rw [hby];have h9:=hbytes;simp at h9;omega)
  have ho:=Lu (w:=w) (base:=base) (e:=e) (z:=z) (xs:=[]) u 0 (grownCap w 1 0 e) hzc rfl (grownCap_ge w 1 0 e) (grownCap_le_maxLen w 1 0 e (by omega)) hbase
  simp only [List.nil_append,Nat.zero_add] at ho
  refine ⟨⟨some ⟨w.heap.size,0,none⟩,1,grownCap w 1 0 e⟩,_,hr,rfl,?_,.inr ⟨w.heap.size,rfl,Nat.le_refl _,⟨rfl,rfl,rfl,by simp,fun k hk _=>Below.heap_alloc w.drew _ k hk⟩⟩⟩
  simpa using ho
 ·injection e0 with e1 e2 e3
  subst e1 e3
  by_cases hroom:n + 1≤cap
  ·have hr:=run_append_room (P:=P) w t ty e i E.und hi g n cap cur hh ⟨b,off,none⟩ 1 c [u] (by rw [hsz];rfl) hnews hone hroom (by rw [hsz];simp;omega)
   obtain⟨v',w',hr2,ho2,hg2,_⟩:=run_append_own (P:=P) w base t ty e i z 1 bytes E.und hi hz hsz hby hzc (by omega) (.slice (some ⟨g,0,none⟩) n cap) n xs hown ⟨b,off,none⟩ 1 c [u] rfl hnews hone h63 hbytes hbase
   rw [hr] at hr2
   injection hr2 with q1 q2
   subst q1 q2
   exact ⟨⟨some ⟨g,0,none⟩,n + 1,cap⟩,_,hr,rfl,ho2,.inl ⟨g,rfl,rfl,rfl,hg2⟩⟩
  ·have hl:xs.length=n:=by simpa using hown.1
   have holds:∀ j v,xs[j]? = some v→w.cell? ((⟨g,0,none⟩:Addr).add j)=some v:=hown.cells (g:=g) rfl
   have hr:=run_append_grow (P:=P) w t ty e i z E.und hi hz ⟨g,0,none⟩ n cap xs (by rw [hsz];omega) holds ⟨b,off,none⟩ 1 c [u] (by rw [hsz];rfl) hnews (by omega) (by omega) (by rw [hby];exact growslice_fits (by omega) hbytes)
   have ho:=Lu (w:=w) (base:=base) (e:=e) (z:=z) (xs:=xs) u n (grownCap w (n + 1) cap e) hzc hl (grownCap_ge w (n + 1) cap e) (grownCap_le_maxLen w (n + 1) cap e h63) hbase
   refine ⟨⟨some ⟨w.heap.size,0,none⟩,n + 1,grownCap w (n + 1) cap e⟩,_,hr,rfl,?_,.inr ⟨w.heap.size,rfl,Nat.le_refl _,⟨rfl,rfl,rfl,by simp,fun k hk _=>Below.heap_alloc w.drew _ k hk⟩⟩⟩
   exact ho
def KD (wi wr:World) (A:Option Addr):Prop:=∀ g cs fr,wi.heap[g]? = some (.cells cs 5 fr)→A≠some ⟨g,0,none⟩→wr.heap[g]? = wi.heap[g]?
theorem KD.refl (w:World) (A:Option Addr):KD w w A:=fun _ _ _ _ _=>rfl
theorem ET {wi wr:World} {C:Nat} {x:Be} {xs:List Value} {A:Option Addr} (h:CO wi C x xs) (k:KD wi wr A) (hne:x.A=none∨x.A≠A):CO wr C x xs:=by
 obtain⟨h1,h2⟩:=h
 refine ⟨h1,?_⟩
 rcases h2 with h2 | ⟨g,cap,cur,e,hB,hh,r⟩
 ·exact .inl h2
 ·refine .inr ⟨g,cap,cur,e,hB,?_,r⟩
  injection e with e1 _ _
  rw [k g cur _ hh (by
   intro hA
   rcases hne with hne | hne
   ·rw [hne] at e1;cases e1
   ·exact hne (e1.trans hA.symm)),hh]
def Ta (l r:Be):Prop:=r.A=none∨r.A≠l.A∨r.c=l.c
structure He (wi wr:World) (C n:Nat) (x l:Be) (o:Option Be) (i:Nat):Prop where
 len:l.n=i
 le:x.n≤i
 lo:CO wr C l (Cc n i)
 xo:CO wr C x (Cc n x.n)
 rx:Ta l x
 far:l.A=x.A∨∃ g,l.A=some ⟨g,0,none⟩∧wi.heap.size≤g
 oo:∀ y,o=some y→y.n=x.n + 1∧x.n + 1≤i∧CO wr C y (Cc n (x.n + 1))∧Ta l y∧(y.A=x.A∨∃ g,y.A=some ⟨g,0,none⟩∧wi.heap.size≤g)
 keep:KD wi wr x.A
 size:wi.heap.size≤wr.heap.size
theorem M7 {wr w1 w':World} {C n i:Nat} {l l' r:Be} (hw:wr.grownBy w1 none) (hr:CO wr C r (Cc n r.n)) (hrn:r.n≤i) (hrel:Ta l r) (ho:CO w' C l' (Cc n (i + 1))) (hl':l'.n=i + 1)
  (hways:(∃ g,l.A=some ⟨g,0,none⟩∧l'.A=l.A∧l'.c=l.c∧w1.grownBy w' (some g))∨(∃ g,l'.A=some ⟨g,0,none⟩∧w1.heap.size≤g∧w1.grownBy w' none)):CO w' C r (Cc n r.n)∧Ta l' r:=by
 have hr1:CO w1 C r (Cc n r.n):=World.ownsRow.kept hr hw (by cases hv:r.val.ownBlock <;> simp)
 rcases hways with ⟨g,e1,e2,e3,hg⟩ | ⟨g,e1,hgs,hg⟩
 ·refine ⟨?_,by unfold Ta at hrel ⊢;rw [e2,e3];exact hrel⟩
  by_cases hA:r.A=l.A
  ·have hc:r.c=l.c:=by
    rcases hrel with h | h | h
    ·rw [hA,e1] at h;cases h
    ·exact absurd hA h
    ·exact h
   have hl2:l'.val=.slice (some ⟨g,0,none⟩) (i + 1) r.c:=by unfold Be.val;rw [e2,e1,hl',e3,hc]
   have hr2:r.val=.slice (some ⟨g,0,none⟩) r.n r.c:=by unfold Be.val;rw [hA,e1]
   unfold CO at ho ⊢
   rw [hl2,hl'] at ho
   have hp:=Pn ho (m:=r.n) (by omega)
   rw [J7 (by omega)] at hp
   rw [hr2]
   exact hp
  ·refine World.ownsRow.kept hr1 hg ?_
   rcases Ks hr1 with h | ⟨g2,h,_⟩
   ·exact .inl (by unfold Be.val;rw [h];rfl)
   ·refine .inr ?_
    unfold Be.val
    rw [h]
    intro e
    injection e with e
    subst e
    exact hA (h.trans e1.symm)
 ·refine ⟨World.ownsRow.kept hr1 hg (by cases hv:r.val.ownBlock <;> simp),?_⟩
  rcases Ks hr1 with h | ⟨g2,h,_,h2,_⟩
  ·exact .inl h
  ·refine .inr (.inl ?_)
   rw [h,e1]
   intro e
   injection e with e
   injection e with e
   omega
theorem He.step {wi wr w1 w':World} {C n i:Nat} {x l l':Be} {o:Option Be} (h:He wi wr C n x l o i) (hw:wr.grownBy w1 none) (ho:CO w' C l' (Cc n i ++ [.int .u8 (D4 n i)])) (hl':l'.n=i + 1)
  (hways:(∃ g,l.A=some ⟨g,0,none⟩∧l'.A=l.A∧l'.c=l.c∧w1.grownBy w' (some g))∨(∃ g,l'.A=some ⟨g,0,none⟩∧w1.heap.size≤g∧w1.grownBy w' none)):He wi w' C n x l' o (i + 1):=by
 rw [← Jw] at ho
 obtain⟨hx1,hx2⟩:=M7 hw h.xo h.le h.rx ho hl' hways
 have hz:=hw.size
 have hs:=h.size
 refine ⟨hl',by have:=h.le;omega,ho,hx1,hx2,?_,fun y hy=>?_,?_,?_⟩
 ·rcases hways with ⟨g,e1,e2,e3,hg⟩ | ⟨g,e1,hgs,hg⟩
  ·rw [e2];exact h.far
  ·exact .inr ⟨g,e1,by omega⟩
 ·obtain⟨q1,q2,q3,q4,q5⟩:=h.oo y hy
  rw [← q1] at q3
  obtain⟨r1,r2⟩:=M7 hw q3 (by omega) q4 ho hl' hways
  rw [q1] at r1
  exact ⟨q1,by omega,r1,r2,q5⟩
 ·intro g0 cs fr h0 hne
  have hlt:=(Array.getElem?_eq_some_iff.1 h0).1
  have hk:=h.keep g0 cs fr h0 hne
  have h1:=hw.block g0 (by omega) (by simp)
  rcases hways with ⟨g,e1,e2,e3,hg⟩ | ⟨g,e1,hgs,hg⟩
  ·rw [hg.block g0 (by omega) ?_,h1,hk]
   intro e
   injection e with e
   subst e
   rcases h.far with hf | ⟨g2,hf,hf2⟩
   ·exact hne (hf.symm.trans e1)
   ·rw [e1] at hf
    injection hf with hf
    injection hf with hf
    omega
  ·rw [hg.block g0 (by omega) (by simp),h1,hk]
 ·rcases hways with ⟨g,e1,e2,e3,hg⟩ | ⟨g,e1,hgs,hg⟩
  ·have:=hg.size;omega
  ·have:=hg.size;omega
theorem He.lay {wi wr w':World} {C n:Nat} {x l:Be} (h:He wi wr C n x l none (x.n + 1)) (hk:∀ (g:Nat) (cs:Array Value) (fr:Nat × Nat),wr.heap[g]? = some (Obj.cells cs 5 fr)→w'.heap[g]? = wr.heap[g]?) (hs:wr.heap.size≤w'.heap.size):He wi w' C n x l (some l) (x.n + 1):=by
 have hm:∀ {r:Be} {xs:List Value},CO wr C r xs→CO w' C r xs:=fun {r xs} hr=>ET (A:=none) hr (fun g cs fr h0 _=>hk g cs fr h0) (by cases h9:r.A <;> simp)
 refine ⟨h.len,h.le,hm h.lo,hm h.xo,h.rx,h.far,fun y hy=>?_,?_,by have:=h.size;omega⟩
 ·injection hy with hy
  subst hy
  exact ⟨h.len,by omega,hm h.lo,.inr (.inr rfl),h.far⟩
 ·intro g0 cs fr h0 hne
  have h1:=h.keep g0 cs fr h0 hne
  rw [hk g0 cs fr (h1.trans h0),h1]
def Dm (v:Value):Array Value:=#[v,.slice none 0 0,.slice none 0 0,.slice none 0 0,.slice none 0 0,.slice none 0 0,.slice none 0 0,.slice none 0 0,.slice none 0 0,.slice none 0 0,.slice none 0 0,.slice none 0 0,.slice none 0 0,.slice none 0 0,.slice none 0 0,.slice none 0 0,.slice none 0 0,.slice none 0 0,.slice none 0 0,.slice none 0 0,.slice none 0 0]
theorem Nt:ElT Tryz.prog 46 34 1 24:=⟨Tryz.underlying46,by decide,by
 obtain⟨i0,hi,hz0,hz1,hz2⟩:=info_parts (show (Tryz.prog.info? 34).map (fun i=>(i.zero,i.size,i.bytes))=some (some (.slice none 0 0),1,24) by kernel_rfl)
 exact ⟨i0,_,hi,hz0,hz1,hz2,rfl⟩⟩
def BD (L:List Be):List Value:=L.map Be.val
def Jc (w:World) (C gb:Nat) (L:List Be):Prop:=∃ A c,Blk w gb 68 (Dm (.slice A L.length c))∧w.ownsRow C 34 1 (.slice A L.length c) L.length (BD L)
theorem Jc.frm {w w':World} {C gb B:Nat} {L:List Be} {T:List TypeId} (h:Jc w C gb L) (hf:Frm B T w w') (h1 : 68 ∉ T) (h2 : 34 ∉ T):Jc w' C gb L:=by
 obtain⟨A,c,q1,q2⟩:=h
 exact ⟨A,c,hf.blk q1 h1,hf.own q2 h2⟩
def TBB:List TypeId:=[68,34]
theorem SO (v u:Value):(Dm v).setIfInBounds 0 u=Dm u:=rfl
theorem Fe (gb C:Nat) (L:List Be) (x:Be) (w:World) (h:Jc w C gb L) (hL:L.length≤400) (hC:C≤gb) (hw:C≤w.heap.size) :
  Calls Tryz.prog 21 #[.pointer (some ⟨gb,0,none⟩),x.val] w fun e w'=>e=.returned (.tuple #[])∧Jc w' C gb (if L.length < 400 then L ++ [x] else L)∧Frm C TBB w w':=by
 obtain⟨A,c,hb,ho⟩:=h
 obtain⟨n,hn⟩:∃ n,L.length=n:=⟨_,rfl⟩
 rw [hn] at hb ho hL
 rw [hn]
 have c5:=hb.cell 0
 have z5:=hb.frozen 0
 have hv:(Dm (.slice A n c))[0]? = some (.slice A n c):=rfl
 rw [hv] at c5
 have hgl:=hb.lt
 obtain⟨HB,HO,HN⟩:=Hd3 hb ho hn
 clear hb ho hn hv
 by_cases h4:n < 400
 ·have d4:decide ((n:Int) < 400)=true:=by simp;omega
  rw [if_pos h4]
  obtain⟨xA,xn,xc⟩:=x
  simp only [Be.val]
  go_in
  go_wp2_with (at_builtin;go_loud (refine Cb Nt rfl _ _ rfl C w [.slice xA xn xc] rfl _ _ _ rfl HO.out rfl rfl (by simp [Value.oneCell']) (by unfold maxLen;omega) (by omega) hw ?_;intro v2 w2 hown2 hg2;obtain⟨A2,c2,rfl⟩:=AJ hown2;have hb2:=HB.out.grown hg2 (Ne.symm (AR HO.out HB.out (by decide)));have b5:w2.cell? ⟨gb,0,none⟩=some (.slice A n c):=hb2.cell 0;have z5:=hb2.frozen 0;have hf2:=(Frm.refl C TBB w).grown HO.out hg2 (Nat.le_refl _) hw (by decide);have HOWN2:=Lh hown2;have HB2:=Lh hb2;have HF2:=Lh hf2;clear hown2 hg2 hb2 hf2))
  go_end0
  have hb3:=HB2.out.set_ 0 (.slice A2 (n + 1) c2)
  rw [SO] at hb3
  have hf3:=HF2.out.set_ (i:=0) HB2.out hC (by decide) (.slice A2 (n + 1) c2)
  have ho3:=Bm HOWN2.out (p:=⟨gb,0,none⟩) (AR HOWN2.out HB2.out (by decide)) (.slice A2 (n + 1) c2)
  have hl:(L ++ [(⟨xA,xn,xc⟩:Be)]).length=n + 1:=by rw [List.length_append,HN.out];rfl
  refine ⟨rfl,⟨A2,c2,by rw [hl];exact hb3,?_⟩,hf3⟩
  rw [hl]
  unfold BD at ho3 ⊢
  rw [List.map_append]
  exact ho3
 ·have d4:decide ((n:Int) < 400)=false:=by simp;omega
  rw [if_neg h4]
  go_in
  go_wp2_with fail
  go_end0
  exact ⟨rfl,⟨A,c,by rw [HN.out];exact HB.out,by rw [HN.out];exact HO.out⟩,Frm.refl _ _ _⟩
theorem Ou:(Tryz.prog.info? 2).map (fun i=>(i.zero,i.size,i.bytes))=some (some (.int .i64 0),1,8):=by kernel_rfl
def CG (l:List Int):List Value:=l.map (Value.int .i64)
def Hg (i:Nat):Int:=E3 9 (i:Int)
def E9 (l:List Int):List Int:=l ++ (List.range 64).map fun j=>Hg (l.length + j)
theorem MU (l:List Int):(E9 l).length=l.length + 64:=by simp [E9]
theorem LS {l:List Int} {i:Nat} (h:i < l.length):(E9 l)[i]? = l[i]?:=List.getElem?_append_left h
theorem Jz {l:List Int} {i:Nat} (h:l.length≤i) (h2:i < l.length + 64):(E9 l)[i]? = some (Hg i):=by
 unfold E9
 rw [List.getElem?_append_right h,List.getElem?_map,List.getElem?_range (by omega)]
 show some (Hg (l.length + (i - l.length)))=_
 congr 2
 omega
theorem PD (K:Nat):madeCells #[Value.int .i64 0] K=(CG (List.replicate K 0)).toArray:=by
 have:=toList_madeCells_one (.int .i64 0) K
 rw [← Array.toArray_toList (xs:=madeCells #[Value.int .i64 0] K),this]
 simp [CG]
theorem MC {l:List Int} {i:Nat} {v:Int} {K:Nat} (h:i < K) (hl:K≤l.length) (hv:l[i]? = some v):((CG (l.take i ++ List.replicate (K - i) 0)).toArray).setIfInBounds i (.int .i64 v)=(CG (l.take (i + 1) ++ List.replicate (K - (i + 1)) 0)).toArray:=by
 unfold CG
 rw [List.setIfInBounds_toArray]
 congr 1
 obtain⟨d,hd⟩:∃ d,K - i=d + 1:=⟨K - i - 1,by omega⟩
 rw [hd,show K - (i + 1)=d by omega,List.replicate_succ,List.map_append,List.map_cons,List.set_append_right _ _ (by simp;omega),List.length_map,List.length_take,show i - min i l.length=0 by omega,List.take_add_one,hv]
 simp
theorem Mo (A:Option Addr) (l:List Int) (c:Nat) (w:World) (hl:l.length≤16777216) (hb:Ch w A l) :
  Calls Tryz.prog 8 #[.slice A l.length c] w fun e w'=>e=.returned (.slice (some ⟨w.heap.size,0,none⟩) l.length (l.length + 64))∧Blk w' w.heap.size 2 (CG (E9 l)).toArray∧Below w.heap.size w w':=by
 obtain⟨n,hn⟩:∃ n,l.length=n:=⟨_,rfl⟩
 have hcell:∀ i x,l[i]? = some x→∃ b off,A=some ⟨b,off,none⟩∧b < w.heap.size∧w.cell? ⟨b,off + i,none⟩=some (.int .i64 x):=hb
 have hlen:=MU l
 have hleft:=fun i (h:i < l.length)=>LS (l:=l) h
 have hright:=fun i (h:l.length≤i) (h2:i < l.length + 64)=>Jz (l:=l) h h2
 obtain⟨W,hW⟩:=Ex0 (E9 l)
 rw [← hW] at hlen ⊢
 simp only [← hW] at hleft hright
 simp only [hn] at hlen hleft hright
 rw [hn] at hl ⊢
 have hmk:∀ wx,(Instr.makeSlice 26 (.int .i64 ((n:Int) + 64)) (.int .i64 ((n:Int) + 64))).run Tryz.prog wx=.ok (.slice (some ⟨wx.heap.size,0,none⟩) (n + 64) (n + 64)) (wx.alloc (.cells (CG (W.take 0 ++ List.replicate (n + 64 - 0) 0)).toArray 2)):=by
  intro wx
  have h:=run_make_row' (P:=Tryz.prog) 26 2 (.int .i64 0) 8 Tryz.underlying26 Ou rfl .i64 .i64 (n + 64) (by omega) (by omega) wx
  simp only [PD] at h
  exact h
 obtain⟨HC,HN,HLE,HL,HRT,HKB,HB0⟩:=Hd7 hcell hn hlen hleft hright (Blk.new w 2 (CG (W.take 0 ++ List.replicate (n + 64 - 0) 0)).toArray) (show Below w.heap.size w (w.alloc (.cells (CG (W.take 0 ++ List.replicate (n + 64 - 0) 0)).toArray 2)) from (Below.refl _ _).alloc (Nat.le_refl _) _)
 clear hcell hn hlen hleft hright hW hb
 go_in
 go_wp2_with fail
 go_loopw [4] (fun iv wr=>∃ i:Nat,i≤n + 64∧iv=.int .i64 i∧Blk wr w.heap.size 2 (CG (W.take i ++ List.replicate (n + 64 - i) 0)).toArray∧Below w.heap.size w wr) (fun iv _=>n + 64 - (intOf iv).toNat)
 case atStart=>exact ⟨0,by omega,rfl,HKB.out,HB0.out⟩
 case round =>
  obtain⟨i,hi,rfl,hkb,hbel⟩:=hrel
  by_cases hlt:i < n + 64
  ·have hcz:wr.cell? ⟨w.heap.size,i,none⟩=some (.int .i64 0):=by
    rw [hkb.cell i]
    unfold CG
    rw [List.getElem?_toArray,List.getElem?_map,List.getElem?_append_right (by rw [List.length_take];omega),List.length_take,List.getElem?_replicate,if_pos (by rw [HLE.out];omega)]
    rfl
   have hcf:=hkb.frozen i
   have hii:(i:Int) < n + 64:=by omega
   obtain⟨HK,HB⟩:=Hd2 hkb hbel
   clear hkb hbel
   by_cases hin:i < n
   ·obtain⟨x,hx⟩:∃ x,l[i]? = some x:=⟨_,List.getElem?_eq_getElem (by rw [HN.out];exact hin)⟩
    obtain⟨b,off,rfl,hbl,hc⟩:=HC.out i x hx
    have hcw:wr.cell? ⟨b,off + i,none⟩=some (.int .i64 x):=(HB.out.cell (p:=⟨b,_,none⟩) hbl).trans hc
    have hWi:W[i]? = some x:=by rw [HL.out i hin,hx]
    have HWI:=Lh hWi
    clear hx hWi hc
    go_wp2_with fail
    go_roundw
    case rel =>
     have hs:=HK.out.set_ i (.int .i64 x)
     rw [MC hlt (by rw [HLE.out];exact Nat.le_refl _) HWI.out] at hs
     exact ⟨i + 1,by omega,by go_num,hs,HB.out.setCell (p:=⟨w.heap.size,i,none⟩) (Nat.le_refl _) _⟩
    case measure=>(simp [intOf];try omega)
   ·have hWi:W[i]? = some (Hg i):=HRT.out i (by omega) (by omega)
    have HWI:=Lh hWi
    clear hWi
    have hge:(n:Int)≤i:=by omega
    have hmark:E3 9 (i:Int)=Hg i:=rfl
    go_wp2_with fail
    refine (FZ 9 (i:Int) _ (by omega) (by omega) (by omega) (by omega)).mono ?_
    rintro e w5 ⟨rfl,rfl⟩
    go_wp2_with fail
    go_roundw
    case rel =>
     have hs:=HK.out.set_ i (.int .i64 (Hg i))
     rw [MC hlt (by rw [HLE.out];exact Nat.le_refl _) HWI.out] at hs
     exact ⟨i + 1,by omega,by go_num,hs,HB.out.setCell (p:=⟨w.heap.size,i,none⟩) (Nat.le_refl _) _⟩
    case measure=>(simp [intOf];try omega)
  ·obtain rfl:i=n + 64:=by omega
   obtain⟨HK,HB⟩:=Hd2 hkb hbel
   have hfull:W.take (n + 64) ++ List.replicate (n + 64 - (n + 64)) 0=W:=by rw [List.take_of_length_le (by rw [HLE.out];exact Nat.le_refl _)];simp
   have HF:=Lh hfull
   clear hkb hbel hfull
   go_wp2_with fail
   go_ret
   have h:=HK.out
   rw [HF.out] at h
   exact ⟨rfl,h,HB.out⟩
theorem Le (b:Nat) (l:List Int) (w:World) (hl:l.length≤16777216) (hk:Blk w b 2 (CG (E9 l)).toArray) :
  Calls Tryz.prog 16 #[.slice (some ⟨b,0,none⟩) l.length (l.length + 64)] w fun e w'=>e=.returned (.bool true)∧w=w':=by
 obtain⟨n,hn⟩:∃ n,l.length=n:=⟨_,rfl⟩
 have hcell:∀ i,n≤i→i < n + 64→w.cell? ⟨b,i,none⟩=some (.int .i64 (Hg i)):=by
  intro i h1 h2
  rw [hk.cell i]
  unfold CG
  rw [List.getElem?_toArray,List.getElem?_map,Jz (by omega) (by omega)]
  rfl
 rw [hn] at hl ⊢
 have HC:=Lh hcell
 clear hcell hk hn
 go_in
 go_wp2_with fail
 go_loop [4,5] (fun iv _=>∃ i:Nat,n≤i∧i≤n + 64∧iv=.int .i64 i) (fun iv _=>n + 64 - (intOf iv).toNat)
 case atStart=>exact ⟨n,by omega,by omega,rfl⟩
 case round =>
  obtain⟨i,hi0,hi,rfl⟩:=hrel
  by_cases hlt:i < n + 64
  ·have hc:=HC.out i hi0 hlt
   have hii:(i:Int) < n + 64:=by omega
   have hmark:E3 9 (i:Int)=Hg i:=rfl
   have hself:(E3 9 (i:Int) == E3 9 (i:Int))=true:=by simp
   have hself2:(Hg i == E3 9 (i:Int))=true:=by simp [Hg]
   go_wp2_with fail
   refine (FZ 9 (i:Int) _ (by omega) (by omega) (by omega) (by omega)).mono ?_
   rintro e w5 ⟨rfl,rfl⟩
   go_wp2_with fail
   go_round
   case rel=>exact ⟨i + 1,by omega,by omega,by go_num⟩
   case measure=>(simp [intOf];try omega)
  ·obtain rfl:i=n + 64:=by omega
   go_wp2_with fail
   go_ret
   exact ⟨rfl,rfl⟩
theorem Ng (A B:Option Addr) (l:List Int) (c d:Nat) (w:World) (hl:l.length≤16777216) (ha:Ch w A l) (hb:Ch w B l) :
  Calls Tryz.prog 15 #[.slice A l.length c,.slice B l.length d] w fun e w'=>e=.returned (.bool true)∧Below w.heap.size w w':=by
 obtain⟨n,hn⟩:∃ n,l.length=n:=⟨_,rfl⟩
 have hac:∀ i x,l[i]? = some x→∃ b off,A=some ⟨b,off,none⟩∧b < w.heap.size∧w.cell? ⟨b,off + i,none⟩=some (.int .i64 x):=ha
 have hbc:∀ i x,l[i]? = some x→∃ b off,B=some ⟨b,off,none⟩∧b < w.heap.size∧w.cell? ⟨b,off + i,none⟩=some (.int .i64 x):=hb
 rw [hn] at hl ⊢
 obtain⟨HA,HB,HN⟩:=Hd3 hac hbc hn
 clear hac hbc ha hb hn
 go_in
 go_wp2_with fail
 go_loopw [5] (fun iv wr=>∃ i:Nat,i≤n∧iv=.int .i64 i∧Below w.heap.size w wr) (fun iv _=>n - (intOf iv).toNat)
 case atStart=>exact ⟨0,by omega,rfl,Below.refl _ _⟩
 case round =>
  obtain⟨i,hi,rfl,hbel⟩:=hrel
  have HBE:=Lh hbel
  by_cases hlt:i < n
  ·obtain⟨x,hx⟩:∃ x,l[i]? = some x:=⟨_,List.getElem?_eq_getElem (by rw [HN.out];exact hlt)⟩
   obtain⟨b1,o1,rfl,h1,hc1⟩:=HA.out i x hx
   obtain⟨b2,o2,rfl,h2,hc2⟩:=HB.out i x hx
   have hd1:wr.cell? ⟨b1,o1 + i,none⟩=some (.int .i64 x):=(hbel.cell (p:=⟨b1,_,none⟩) h1).trans hc1
   have hd2:wr.cell? ⟨b2,o2 + i,none⟩=some (.int .i64 x):=(hbel.cell (p:=⟨b2,_,none⟩) h2).trans hc2
   have hii:(i:Int) < n:=by omega
   clear hx hc1 hc2 hbel
   go_wp2_with fail
   refine A8 (by kernel_rfl) (by kernel_rfl) ?_
   go_wp2_with fail
   refine AX.normal ?_
   go_wp2_with fail
   go_roundw
   case rel=>exact ⟨i + 1,by omega,by go_num,HBE.out.drew⟩
   case measure=>(simp [intOf];try omega)
  ·clear hbel
   go_wp2_with fail
   go_ret
   exact ⟨rfl,HBE.out⟩
theorem IN {w:World} {b:Nat} {l:List Int} (hk:Blk w b 2 (CG (E9 l)).toArray):Ch w (some ⟨b,0,none⟩) l:=
 fun k x hx=>⟨b,0,rfl,hk.lt,by
  have hkl:=(List.getElem?_eq_some_iff.1 hx).1
  rw [Nat.zero_add,hk.cell k]
  unfold CG
  rw [List.getElem?_toArray,List.getElem?_map,LS hkl,hx]
  rfl⟩
def Hr (L:List Be):Prop:=∀ (j k:Nat) (x y:Be) (a:Addr),L[j]? = some x→L[k]? = some y→x.A=some a→y.A=some a→j=k
def Dx (w:World) (C:Nat) (L:List Be) (n i:Nat):Prop:=∀ (k:Nat) (x:Be),L[k]? = some x→∃ xs,CO w C x xs∧(k < n→xs=Cc k x.n)∧(k=n→xs.take i=Cc k i)
section
variable {w:World}
include w
theorem Gc {C i:Nat} {x:Be} {xs:List Value} (h:CO w C x xs) (hi:i < x.n):∃ g u,x.A=some ⟨g,0,none⟩∧C≤g∧g < w.heap.size∧w.cell? ⟨g,i,none⟩=some u∧xs[i]? = some u∧w.frozen? ⟨g,i,none⟩=false∧∃ cs,Blk w g 5 cs:=by
 obtain⟨h1,h2⟩:=h
 rcases h2 with ⟨_,hn⟩ | ⟨g,cap,cur,e,hB,hh,h5,h6,h7,h8⟩
 ·omega
 ·injection e with e1 _ _
  have hb:Blk w g 5 cur:=hh
  have hlt:i < cur.size:=by omega
  have hl:xs.length=x.n:=by simpa using h1
  refine ⟨g,cur[i],e1,hB,hb.lt,by rw [hb.cell];exact Array.getElem?_eq_getElem hlt,?_,hb.frozen i,cur,hb⟩
  rw [← h8,List.getElem?_take,if_pos (by omega),Array.getElem?_toList]
  exact Array.getElem?_eq_getElem hlt
theorem Uc {C g:Nat} {y:Be} {xs:List Value} (hy:CO w C y xs) (h:y.A≠some ⟨g,0,none⟩):y.val.ownBlock≠some g:=by
 rcases Ks hy with e | ⟨g2,e,_⟩
 ·unfold Be.val;rw [e];simp [Value.ownBlock]
 ·unfold Be.val
  rw [e]
  intro q
  injection q with q
  subst q
  exact h e
theorem Dx.step {C n i g:Nat} {L:List Be} {x:Be} (h:Dx w C L n i) (hl:Hr L) (hx:L[n]? = some x) (hi:i < x.n) (hg:x.A=some ⟨g,0,none⟩):Dx (w.setCell ⟨g,i,none⟩ (.int .u8 (D4 n i))) C L n (i + 1):=by
 intro k y hy
 obtain⟨xs,h1,h2,h3⟩:=h k y hy
 by_cases hk:k=n
 ·subst hk
  rw [hx] at hy
  injection hy with hy
  subst hy
  have hlen:xs.length=x.n:=by simpa using h1.1
  have hv:x.val=.slice (some ⟨g,0,none⟩) x.n x.c:=by unfold Be.val;rw [hg]
  unfold CO at h1
  rw [hv] at h1
  have h4:=Rl (u:=.int .u8 (D4 k i)) h1 hi
  refine ⟨xs.set i (.int .u8 (D4 k i)),by unfold CO;rw [hv];exact h4,fun e=>by omega,fun _=>?_⟩
  rw [Jw,← h3 rfl,List.take_add_one,List.take_set_of_le (Nat.le_refl _),List.getElem?_set_self (by omega)]
  rfl
 ·refine ⟨xs,Bm h1 (Uc h1 (fun e=>hk (hl k n y x _ hy hx e hg))) _,h2,fun e=>absurd e hk⟩
theorem Dx.next {C n i:Nat} {L:List Be} {x:Be} (h:Dx w C L n i) (hx:L[n]? = some x) (hi:x.n≤i):Dx w C L (n + 1) 0:=by
 intro k y hy
 obtain⟨xs,h1,h2,h3⟩:=h k y hy
 refine ⟨xs,h1,fun hk=>?_,fun _=>by simp [Cc]⟩
 by_cases hkn:k=n
 ·subst hkn
  rw [hx] at hy
  injection hy with hy
  subst hy
  have hlen:xs.length=x.n:=by simpa using h1.1
  have h4:=h3 rfl
  have h5:xs.take x.n=Cc k x.n:=by
   have:=congrArg (List.take x.n) h4
   rwa [List.take_take,Nat.min_eq_left hi,J7 hi] at this
  rw [← h5,List.take_of_length_le (by omega)]
 ·exact h2 (by omega)
theorem Dx.all {C n i:Nat} {L:List Be} (h:Dx w C L n i) (hn:L.length≤n):∀ (k:Nat) (x:Be),L[k]? = some x→CO w C x (Cc k x.n):=by
 intro k x hx
 obtain⟨xs,h1,h2,_⟩:=h k x hx
 rw [← h2 (by have:=(List.getElem?_eq_some_iff.1 hx).1;omega)]
 exact h1
end
theorem Dx.frm {w w':World} {C n i B:Nat} {L:List Be} (h:Dx w C L n i) (hf:Frm B [] w w'):Dx w' C L n i:=fun k x hx=>by
 obtain⟨xs,h1,h2⟩:=h k x hx
 exact ⟨xs,hf.own h1 (by simp),h2⟩
theorem Qa {w w':World} (h:w.grownBy w' none) (row:Option Nat):w.grownBy w' row:=⟨h.os,h.tape,h.output,h.size,fun k hk _=>h.block k hk (by simp)⟩
def Ef (w:World) (C D:Nat) (L os ms:List Be):Prop:=∀ (k:Nat) (x:Be),L[k]? = some x→CO w C x (Cc k x.n) ∧
 (∀ y,os[k]? = some y→y.n=x.n + 1∧CO w C y (Cc k (x.n + 1))∧(y.A=x.A∨∃ g,y.A=some ⟨g,0,none⟩∧D≤g)) ∧
 (∀ y,ms[k]? = some y→y.n=x.n + 70∧CO w C y (Cc k (x.n + 70))∧(y.A=x.A∨∃ g,y.A=some ⟨g,0,none⟩∧D≤g))
theorem Ef.step {w wr:World} {C D:Nat} {L os ms:List Be} {x l y:Be} {i:Nat} (h:Ef w C D L os ms) (hL:Hr L) (hx:L[os.length]? = some x) (hm:ms.length=os.length) (hD:∀ (k:Nat) (z:Be) (g:Nat),L[k]? = some z→z.A=some ⟨g,0,none⟩→g < D)
  (hDw:D≤w.heap.size) (hg:He w wr C os.length x l (some y) i) (hi:i=x.n + 70):Ef wr C D L (os ++ [y]) (ms ++ [l]):=by
 intro k z hz
 obtain⟨h1,h2,h3⟩:=h k z hz
 by_cases hk:k=os.length
 ·subst hk
  rw [hx] at hz
  injection hz with hz
  subst hz
  obtain⟨q1,q2,q3,q4,q5⟩:=hg.oo y rfl
  refine ⟨hg.xo,fun y' hy'=>?_,fun y' hy'=>?_⟩
  ·rw [List.getElem?_append_right (Nat.le_refl _),Nat.sub_self] at hy'
   injection hy' with hy'
   subst hy'
   exact ⟨q1,q3,q5.imp id (fun ⟨g,e1,e2⟩=>⟨g,e1,by omega⟩)⟩
  ·rw [List.getElem?_append_right (by omega),hm,Nat.sub_self] at hy'
   injection hy' with hy'
   subst hy'
   have hlo:=hg.lo
   rw [hi] at hlo
   exact ⟨by rw [hg.len,hi],hlo,hg.far.imp id (fun ⟨g,e1,e2⟩=>⟨g,e1,by omega⟩)⟩
 ·have hne:∀ r:Be,(r.A=z.A∨∃ g,r.A=some ⟨g,0,none⟩∧D≤g)→r.A=none∨r.A≠x.A:=fun r hr=>by
   cases hrA:r.A with
   | none=>exact .inl rfl
   | some a =>
    refine .inr ?_
    intro e
    rcases hr with hr | ⟨g,hr,hg2⟩
    ·exact hk (hL k os.length z x a hz hx (by rw [← hr,hrA]) e.symm)
    ·rw [hrA] at hr
     rw [hr] at e
     have:=hD _ _ g hx e.symm
     omega
  have hlt:∀ (q:List Be) (t:Be) (r:Be),(q ++ [t])[k]? = some r→q.length=os.length→q[k]? = some r:=fun q t r hr hq=>by
   by_cases hkl:k < q.length
   ·rwa [List.getElem?_append_left hkl] at hr
   ·rw [List.getElem?_append_right (by omega)] at hr
    obtain⟨j,hj⟩:∃ j,k - q.length=j + 1:=⟨k - q.length - 1,by omega⟩
    rw [hj] at hr
    simp at hr
  refine ⟨ET h1 hg.keep (hne z (.inl rfl)),fun y' hy'=>?_,fun y' hy'=>?_⟩
  ·obtain⟨p1,p2,p3⟩:=h2 y' (hlt _ _ _ hy' rfl)
   exact ⟨p1,ET p2 hg.keep (hne y' p3),p3⟩
  ·obtain⟨p1,p2,p3⟩:=h3 y' (hlt _ _ _ hy' hm)
   exact ⟨p1,ET p2 hg.keep (hne y' p3),p3⟩
theorem Ef.keep {w w':World} {C D:Nat} {L os ms:List Be} (h:Ef w C D L os ms) (hk:∀ (g:Nat) (cs:Array Value) (fr:Nat × Nat),w.heap[g]? = some (Obj.cells cs 5 fr)→w'.heap[g]? = w.heap[g]?):Ef w' C D L os ms:=by
 have hm:∀ {r:Be} {xs:List Value},CO w C r xs→CO w' C r xs:=fun {r xs} hr=>ET (A:=none) hr (fun g cs fr h0 _=>hk g cs fr h0) (by cases h9:r.A <;> simp)
 intro k x hx
 obtain⟨h1,h2,h3⟩:=h k x hx
 exact ⟨hm h1,fun y hy=>by obtain⟨p1,p2,p3⟩:=h2 y hy;exact ⟨p1,hm p2,p3⟩,fun y hy=>by obtain⟨p1,p2,p3⟩:=h3 y hy;exact ⟨p1,hm p2,p3⟩⟩
theorem Ef.start {w:World} {C D:Nat} {L:List Be} (h:∀ (k:Nat) (x:Be),L[k]? = some x→CO w C x (Cc k x.n)):Ef w C D L [] []:=fun k x hx=>⟨h k x hx,fun y hy=>by simp at hy,fun y hy=>by simp at hy⟩
def Io (w w':World) (x x':Be):Prop:=(∃ g,x.A=some ⟨g,0,none⟩∧x'.A=x.A∧x'.c=x.c∧w.grownBy w' (some g))∨(∃ g,x'.A=some ⟨g,0,none⟩∧w.heap.size≤g∧w.grownBy w' none)
theorem Io.grown {w w':World} {x x':Be} (h:Io w w' x x'):w.grownBy w' x.val.ownBlock:=by
 rcases h with ⟨g,e1,_,_,hg⟩ | ⟨g,_,_,hg⟩
 ·unfold Be.val;rw [e1];exact hg
 ·exact Qa hg _
theorem P9 {w:World} {C:Nat} {e:TypeId} {x:Be} {xs:List Value} (h:w.ownsRow C e 1 x.val x.n xs):x.A=none∨∃ g,x.A=some ⟨g,0,none⟩∧C≤g∧g < w.heap.size:=by
 rcases h.2 with ⟨e,_⟩ | ⟨g,cap,cur,e,hB,hh,_⟩
 ·injection e with e1 _ _
  exact .inl e1
 ·injection e with e1 _ _
  exact .inr ⟨g,e1,hB,(Array.getElem?_eq_some_iff.1 hh).1⟩
section
variable {w w':World} {x x' z:Be} {C:Nat} {e:TypeId} {zs:List Value} (h:Io w w' x x') (hz:w.ownsRow C e 1 z.val z.n zs)
include w w' x x' z C e zs h hz
theorem Io.other (hne:z.A=none∨z.A≠x.A):w'.ownsRow C e 1 z.val z.n zs∧(z.A=none∨z.A≠x'.A):=by
 have hA:=P9 hz
 rcases h with ⟨g,e1,e2,_,hg⟩ | ⟨g,e1,hgs,hg⟩
 ·refine ⟨hz.kept hg ?_,by rw [e2];exact hne⟩
  rcases hA with h0 | ⟨g2,h0,_,_⟩
  ·left;unfold Be.val;rw [h0];rfl
  ·right
   unfold Be.val
   rw [h0]
   intro q
   injection q with q
   subst q
   rcases hne with h | h
   ·rw [h0] at h;cases h
   ·exact h (h0.trans e1.symm)
 ·refine ⟨hz.kept hg (by cases hv:z.val.ownBlock <;> simp),?_⟩
  rcases hA with h0 | ⟨g2,h0,_,h2⟩
  ·exact .inl h0
  ·right
   rw [h0,e1]
   intro q
   injection q with q
   injection q with q
   omega
theorem Io.ne (hne:x.A=none∨x.A≠z.A):x'.A=none∨x'.A≠z.A:=by
 have hA:=P9 hz
 rcases h with ⟨g,e1,e2,_,hg⟩ | ⟨g,e1,hgs,hg⟩
 ·rw [e2];exact hne
 ·right
  rcases hA with h0 | ⟨g2,h0,_,h2⟩
  ·rw [h0,e1];simp
  ·rw [h0,e1]
   intro q
   injection q with q
   injection q with q
   omega
end
structure P2B (w2 wr:World) (C D:Nat) (L os ms:List Be) (o m:Be) (n:Nat):Prop where
 ol:os.length=n
 ml:ms.length=n
 on:o.n=n
 mn:m.n=n
 oo:wr.ownsRow D 34 1 o.val o.n (BD os)
 mo:wr.ownsRow D 34 1 m.val m.n (BD ms)
 ne:o.A=none∨o.A≠m.A
 fr:Frm C [5] w2 wr
 dn:Ef wr C D L os ms
structure Gw (w2 wi wr:World) (C D:Nat) (os ms:List Be) (x l o m:Be) (n i:Nat) (y:Option Be):Prop where
 gr:He wi wr C n x l y i
 on:o.n=n + y.toList.length
 oo:wr.ownsRow D 34 1 o.val o.n (BD (os ++ y.toList))
 mo:wr.ownsRow D 34 1 m.val m.n (BD ms)
 ne:o.A=none∨o.A≠m.A
 fr:Frm C [5] w2 wr
 nn:(y=none∧i=x.n)∨((∃ y',y=some y')∧x.n < i)
theorem P2B.enter {w2 wr:World} {C D:Nat} {L os ms:List Be} {o m x:Be} {n:Nat} (h:P2B w2 wr C D L os ms o m n) (hx:L[n]? = some x):Gw w2 wr wr C D os ms x x o m n x.n none:=by
 obtain⟨h1,_,_⟩:=h.dn n x hx
 exact ⟨⟨rfl,Nat.le_refl _,h1,h1,.inr (.inr rfl),.inl rfl,fun y hy=>(by cases hy),KD.refl _ _,Nat.le_refl _⟩,by rw [h.on];rfl,by simpa using h.oo,h.mo,h.ne,h.fr,.inl ⟨rfl,rfl⟩⟩
theorem Gw.grow {w2 wi wr w':World} {C D:Nat} {os ms:List Be} {x l l' o m:Be} {n i:Nat} {y:Option Be} (h:Gw w2 wi wr C D os ms x l o m n i y) (hC:C≤wr.heap.size) (ob:Obj) (hl':l'.n=i + 1)
  (ho:CO w' C l' (Cc n i ++ [.int .u8 (D4 n i)])) (hw:Io (wr.alloc ob) w' l l'):He wi w' C n x l' y (i + 1)∧w'.ownsRow D 34 1 o.val o.n (BD (os ++ y.toList))∧w'.ownsRow D 34 1 m.val m.n (BD ms)∧Frm C [5] w2 w':=by
 have hlo:(wr.alloc ob).ownsRow C 5 1 l.val i (Cc n i):=by
  have h1:=h.gr.lo
  unfold CO at h1
  rw [h.gr.len] at h1
  exact h1.alloc ob
 have hf:Frm C [5] wr w':=((Frm.refl C [5] wr).alloc hC ob).grown hlo hw.grown (Nat.le_refl _) (by rw [World.size_alloc];omega) (by simp)
 exact ⟨h.gr.step (World.grownBy_alloc wr ob none) ho hl' hw,hf.own h.oo (by simp),hf.own h.mo (by simp),h.fr.trans hf⟩
theorem LN {w w':World} {x x':Be} {D:Nat} {xs:List Value} (ob:Obj) (hx:w.ownsRow D 34 1 x.val x.n xs) (h:Io (w.alloc ob) w' x x'):(∀ (g:Nat) (cs:Array Value) (fr:Nat × Nat),w.heap[g]? = some (Obj.cells cs 5 fr)→w'.heap[g]? = w.heap[g]?)∧w.heap.size≤w'.heap.size:=by
 have hz:=h.grown.size
 rw [World.size_alloc] at hz
 refine ⟨fun g cs fr hg=>?_,by omega⟩
 have hlt:=(Array.getElem?_eq_some_iff.1 hg).1
 rw [h.grown.block g (by rw [World.size_alloc];omega) ?_,Below.heap_alloc w ob g hlt]
 intro e
 rcases hx.2 with ⟨e0,_⟩ | ⟨g2,cap,cur,e0,_,hh,_⟩
 ·rw [e0] at e;simp [Value.ownBlock] at e
 ·rw [e0] at e
  simp only [Value.ownBlock,Option.some.injEq] at e
  subst e
  rw [hg] at hh
  injection hh with hh
  injection hh with _ q _
  revert q
  decide
theorem Gw.lay {w2 wi wr w':World} {C D:Nat} {os ms:List Be} {x l o o' m:Be} {n:Nat} (hg:He wi wr C n x l none (x.n + 1)) (hon:o.n=n) (hoo:wr.ownsRow D 34 1 o.val o.n (BD os)) (hmo:wr.ownsRow D 34 1 m.val m.n (BD ms)) (hne:o.A=none∨o.A≠m.A) (hfr:Frm C [5] w2 wr)
  (hD:w2.heap.size≤D) (hC2:C≤w2.heap.size) (hDw:D≤wr.heap.size) (ob:Obj) (ho'n:o'.n=o.n + 1) (hoo':w'.ownsRow D 34 1 o'.val o'.n (BD os ++ [l.val])) (hw:Io (wr.alloc ob) w' o o'):Gw w2 wi w' C D os ms x l o' m n (x.n + 1) (some l):=by
 obtain⟨hk,hs⟩:=LN ob hoo hw
 have hmo2:=hmo.alloc ob
 refine ⟨hg.lay hk hs,by rw [ho'n,hon];rfl,?_,(hw.other hmo2 ?_).1,hw.ne hmo2 hne,?_,.inr ⟨⟨l,rfl⟩,by omega⟩⟩
 ·unfold BD at hoo' ⊢
  rw [List.map_append]
  exact hoo'
 ·rcases P9 hmo with h | ⟨g,h,_⟩
  ·exact .inl h
  ·rcases hne with h2 | h2
   ·right;rw [h,h2];simp
   ·exact .inr (Ne.symm h2)
 ·exact (hfr.alloc (by have:=hfr.size;omega) ob).grownNew (hoo.alloc ob) hw.grown hD hC2
theorem Gw.leave {w2 wi wr w':World} {C D:Nat} {L os ms:List Be} {x l o m m' y:Be} {n:Nat} (h:Gw w2 wi wr C D os ms x l o m n (x.n + 70) (some y)) (hd:Ef wi C D L os ms) (hL:Hr L) (hx:L[n]? = some x) (hol:os.length=n) (hml:ms.length=n) (hmn:m.n=n)
  (hLD:∀ (k:Nat) (z:Be) (g:Nat),L[k]? = some z→z.A=some ⟨g,0,none⟩→g < D) (hDi:D≤wi.heap.size) (hD:w2.heap.size≤D) (hC2:C≤w2.heap.size) (ob:Obj) (hm'n:m'.n=m.n + 1) (hmo':w'.ownsRow D 34 1 m'.val m'.n (BD ms ++ [l.val])) (hw:Io (wr.alloc ob) w' m m') :
  P2B w2 w' C D L (os ++ [y]) (ms ++ [l]) o m' (n + 1):=by
 obtain⟨hk,hs⟩:=LN ob h.mo hw
 have hoo2:=h.oo.alloc ob
 subst hol
 have hdn:=hd.step hL hx hml hLD hDi h.gr rfl
 refine ⟨by simp,by simp [hml],by rw [h.on];rfl,by rw [hm'n,hmn],(hw.other hoo2 h.ne).1,?_,(hw.other hoo2 h.ne).2,?_,hdn.keep hk⟩
 ·unfold BD at hmo' ⊢
  rw [List.map_append]
  exact hmo'
 ·exact (h.fr.alloc (by have:=h.fr.size;omega) ob).grownNew (h.mo.alloc ob) hw.grown hD hC2
section
variable (w:World) (C gb N rc:Nat) (A:Option Addr) (L:List Be)
theorem Jk (hb:Blk w gb 68 (Dm (.slice A N rc))) (ho:w.ownsRow C 34 1 (.slice A N rc) N (BD L)) (hN:L.length=N) (hN4:N≤400) (hC:C≤w.heap.size) (hLn:∀ x∈L,x.n≤16777216) (hlone:Hr L) (hown:∀ (k:Nat) (x:Be),L[k]? = some x→∃ xs,CO w C x xs) :
  Calls Tryz.prog 59 #[.pointer (some ⟨gb,0,none⟩)] w fun e w'=>e=.returned (.bool true)∧Frm C [5] w w':=by
 have hrow:=fun (wr:World) (hf:Frm C [5] w wr) (k:Nat) (x:Be) (hx:L[k]? = some x)=>Hy (hf.own ho (by decide)) k x.val (by unfold BD;rw [List.getElem?_map,hx];rfl)
 have hbag:=fun (wr:World) (hf:Frm C [5] w wr)=>(show wr.cell? ⟨gb,0,none⟩=some (.slice A N rc) from (hf.blk hb (by decide)).cell 0)
 have hget:∀ k,k < N→∃ x,L[k]? = some x∧x.n≤16777216:=fun k hk=>⟨_,List.getElem?_eq_getElem (by omega),hLn _ (List.getElem_mem _)⟩
 have hmk:Dx w C L 0 0:=fun k x hx=>by
  obtain⟨xs,h⟩:=hown k x hx
  exact ⟨xs,h,fun e=>by omega,fun _=>by simp [Cc]⟩
 obtain⟨HROW,HBAG,HGET,HMK,HLONE,HN⟩:=Hd6 hrow hbag hget hmk hlone hN
 clear hrow hbag hget hmk hlone hN hown hLn hb ho
 go_in
 go_wp2_with fail
 go_loopw [3,4] (fun v2 _ wr=>∃ n:Nat,n≤N∧v2=.int .i64 n∧Dx wr C L n 0∧Frm C [5] w wr) (fun v2 _ _=>N - (intOf v2).toNat)
 case atStart=>exact ⟨0,by omega,rfl,HMK.out,Frm.refl _ _ _⟩
 case round =>
  obtain⟨n,hn,rfl,hma,hfr⟩:=hrel
  have k5:=HBAG.out wr hfr
  by_cases hlt:n < N
  ·obtain⟨x,hx,hxn⟩:=HGET.out n hlt
   have HX:=Lh hx
   obtain⟨rb,rfl,hrb,hrbl,kr⟩:=HROW.out wr hfr n x hx
   obtain⟨xA,xn,xc⟩:=x
   simp only [Be.val] at kr hxn
   have hnI:(n:Int) < N:=by omega
   have hfr0:=hfr
   obtain⟨HMA,HFR⟩:=Hd2 hma hfr
   clear hx hma hfr hfr0
   go_wp2_with fail
   go_loopw [4] (fun v4 wr=>∃ i:Nat,i≤xn∧v4=.int .i64 i∧Dx wr C L n i∧Frm C [5] w wr) (fun v4 _=>xn - (intOf v4).toNat)
   case atStart=>exact ⟨0,by omega,rfl,HMA.out,HFR.out⟩
   case round =>
    obtain⟨i,hi,rfl,hma,hfr⟩:=hrel
    have k5:=HBAG.out wr hfr
    obtain⟨rb',e',_,_,kr⟩:=HROW.out wr hfr n _ HX.out
    injection e' with e'
    injection e' with e'
    subst e'
    simp only [Be.val] at kr
    by_cases hil:i < xn
    ·obtain⟨xs,hxs,_,_⟩:=hma n _ HX.out
     obtain⟨g,u,hg,hCg,hgl,kc,_,kz,cs,hgb⟩:=Gc hxs hil
     simp only at hg
     subst hg
     have hst:Dx (wr.setCell ⟨g,i,none⟩ (.int .u8 (D4 n i))) C L n (i + 1):=hma.step HLONE.out HX.out hil rfl
     have hfs:=(hfr.set_ (i:=i) hgb hCg (by simp) (.int .u8 (D4 n i)))
     have hil2:(i:Int) < xn:=by omega
     have k5d:wr.drew.cell? ⟨gb,0,none⟩=some (.slice (some ⟨rb,0,none⟩) N rc):=k5
     have krd:wr.drew.cell? ⟨rb,n,none⟩=some (.slice (some ⟨g,0,none⟩) xn xc):=kr
     have kcd:wr.drew.cell? ⟨g,i,none⟩=some u:=kc
     have kzd:wr.drew.frozen? ⟨g,i,none⟩=false:=kz
     have hmark:IntKind.u8.wrap (31 * (n:Int) + 7 * (i:Int) + 3)=D4 n i:=rfl
     have hw31:IntKind.i64.wrap (31 * (n:Int))=31 * (n:Int):=by rw [IntKind.wrap_i64];(try unfold wrap64);omega
     have hw7:IntKind.i64.wrap (7 * (i:Int))=7 * (i:Int):=by rw [IntKind.wrap_i64];(try unfold wrap64);omega
     have hwa:IntKind.i64.wrap (31 * (n:Int) + 7 * (i:Int))=31 * (n:Int) + 7 * (i:Int):=by rw [IntKind.wrap_i64];(try unfold wrap64);omega
     have hwb:IntKind.i64.wrap (31 * (n:Int) + 7 * (i:Int) + 3)=31 * (n:Int) + 7 * (i:Int) + 3:=by rw [IntKind.wrap_i64];(try unfold wrap64);omega
     have k5s:=HBAG.out _ hfs
     obtain⟨rb2,e2,_,_,krs⟩:=HROW.out _ hfs n _ HX.out
     injection e2 with e2
     injection e2 with e2
     subst e2
     simp only [Be.val] at krs
     obtain⟨HST,HFS⟩:=Hd2 hst hfs
     clear hma hfr hxs hst hfs hgb
     go_wp2_with fail
     all_goals
      go_wp2_with fail
      go_roundw
      case rel=>exact ⟨i + 1,by omega,by go_num,HST.out,HFS.out⟩
      case measure=>(simp [intOf];try omega)
    ·have he:i=xn:=by omega
     subst he
     have hnx:=hma.next HX.out (Nat.le_refl _)
     obtain⟨HNX,HFR2⟩:=Hd2 hnx hfr
     clear hma hfr hnx
     go_wp2_with fail
     go_roundw
     case rel=>exact ⟨n + 1,by omega,by go_num,HNX.out,HFR2.out⟩
     case measure=>(simp [intOf];try omega)
  ·have he:n=N:=by omega
   subst he
   have hall:=hma.all (by rw [HN.out];exact Nat.le_refl _)
   have HD0:=Lh (Ef.start (D:=wr.heap.size) hall)
   have HALT:=Lh (show ∀ (k:Nat) (z:Be) (g:Nat),L[k]? = some z→z.A=some ⟨g,0,none⟩→g < wr.heap.size from fun k z g hz hA=>by
    rcases Ks (hall k z hz) with e | ⟨g2,e,_,h2,_⟩
    ·rw [e] at hA;cases hA
    ·rw [e] at hA;injection hA with hA;injection hA with hA;omega)
   have HFR:=Lh hfr
   obtain⟨D,hD⟩:=Ex0 wr.heap.size
   have hCD:C≤D:=by rw [hD];have:=hfr.size;omega
   obtain⟨w2,hw2⟩:=Ex0 wr
   rw [← hw2] at HD0 HALT HFR hD k5 ⊢
   rw [← hD] at HD0 HALT
   have HDe:=Lh hD
   clear hma hfr hall hw2 hD
   have hCw2:C≤w2.heap.size:=by rw [← HDe.out];exact hCD
   have hDw2:D≤w2.heap.size:=by rw [HDe.out];exact Nat.le_refl _
   have hDw3:w2.heap.size≤D:=by rw [HDe.out];exact Nat.le_refl _
   have hp0:P2B w2 w2 C D L [] [] ⟨none,0,0⟩ ⟨none,0,0⟩ 0:=⟨rfl,rfl,rfl,rfl,World.ownsRow_nil _ _ _ _,World.ownsRow_nil _ _ _ _,.inl rfl,Frm.refl _ _ _,HD0.out⟩
   have HP0:=Lh hp0
   clear hp0
   go_wp2_with fail
   go_loopw [5,6,7,8,9] (fun v5 v6 v7 _ _ wr=>∃ (n2:Nat) (os ms:List Be) (o m:Be),n2≤n∧v7=.int .i64 n2∧v5=o.val∧v6=m.val∧P2B w2 wr C D L os ms o m n2) (fun _ _ v7 _ _ _=>n - (intOf v7).toNat)
   case atStart=>exact ⟨0,[],[],⟨none,0,0⟩,⟨none,0,0⟩,by omega,rfl,rfl,rfl,HP0.out⟩
   case round =>
    obtain⟨k,os,ms,o,m,hk,rfl,rfl,rfl,hp⟩:=hrel
    have hfr:=HFR.out.trans hp.fr
    have k5:=HBAG.out wr hfr
    by_cases hlt:k < n
    ·obtain⟨x,hx,hxn⟩:=HGET.out k hlt
     have HX:=Lh hx
     obtain⟨rb,rfl,hrb,hrbl,kr⟩:=HROW.out wr hfr k x hx
     have hent:=hp.enter hx
     obtain⟨wi,hwi⟩:=Ex0 wr
     rw [← hwi] at hp
     have hDi:D≤wi.heap.size:=by have:=hp.fr.size;omega
     obtain⟨HENT,HP,HWI,HOM⟩:=Hd4 hent hp hwi (show o.n=k∧m.n=k from ⟨hp.on,hp.mn⟩)
     obtain⟨xA,xn,xc⟩:=x
     obtain⟨mA,mn,mc⟩:=m
     obtain⟨oA,on,oc⟩:=o
     simp only [Be.val] at kr hxn ⊢
     have hkI:(k:Int) < n:=by omega
     clear hx hp hfr hent hwi
     go_wp2_with fail
     go_loopw [5,8,9] (fun v5 v8 v9 wr=>∃ (i:Nat) (l o:Be) (y:Option Be),xn≤i∧i≤xn + 70∧v9=.int .i64 i∧v5=o.val∧v8=l.val∧Gw w2 wi wr C D os ms ⟨xA,xn,xc⟩ l o ⟨mA,mn,mc⟩ k i y) (fun _ _ v9 _=>xn + 70 - (intOf v9).toNat)
     case atStart=>exact ⟨xn,⟨xA,xn,xc⟩,⟨oA,on,oc⟩,none,by omega,by omega,rfl,rfl,rfl,by rw [HWI.out];exact HENT.out⟩
     case round =>
      obtain⟨i,l,o,y,hi0,hi,rfl,rfl,rfl,hpi⟩:=hrel
      have hfr:=HFR.out.trans hpi.fr
      have hCw:C≤wr.heap.size:=by have:=hfr.size;omega
      have k5:=HBAG.out wr hfr
      obtain⟨rb2,e2,_,_,kr⟩:=HROW.out wr hfr k _ HX.out
      injection e2 with e2
      injection e2 with e2
      subst e2
      simp only [Be.val] at kr
      obtain⟨lA,ln,lc⟩:=l
      obtain⟨pA,pn,pc⟩:=o
      have hln:ln=i:=hpi.gr.len
      subst hln
      by_cases hil:ln < xn + 70
      ·obtain⟨l',w',hr,hl',ho',hways⟩:=Er (P:=Tryz.prog) (w:=wr.alloc (.cells #[.int .u8 (D4 k ln)] 5)) (base:=C) (t:=34) (ty:=34) UW ⟨lA,ln,lc⟩ (Cc k ln) (World.ownsRow.alloc hpi.gr.lo _) wr.heap.size 0 1 (.int .u8 (D4 k ln)) ((Blk.new wr 5 #[.int .u8 (D4 k ln)]).cell 0) rfl (by simp only [maxLen];omega) (by simp only;omega) (by rw [World.size_alloc];omega)
       obtain⟨hg1,ho1,hm1,hf1⟩:=hpi.grow hCw _ hl' (by unfold CO;exact ho') hways
       obtain⟨qA,qn,qc⟩:=l'
       simp only at hl'
       subst hl'
       simp only [Be.val] at hr
       have hfr1:=HFR.out.trans hf1
       have k51:=HBAG.out w' hfr1
       obtain⟨rb3,e3,_,_,kr1⟩:=HROW.out w' hfr1 k _ HX.out
       injection e3 with e3
       injection e3 with e3
       subst e3
       simp only [Be.val] at kr1
       have hw31:IntKind.i64.wrap (31 * (k:Int))=31 * (k:Int):=by rw [IntKind.wrap_i64];(try unfold wrap64);omega
       have hw7:IntKind.i64.wrap (7 * (ln:Int))=7 * (ln:Int):=by rw [IntKind.wrap_i64];(try unfold wrap64);omega
       have hwa:IntKind.i64.wrap (31 * (k:Int) + 7 * (ln:Int))=31 * (k:Int) + 7 * (ln:Int):=by rw [IntKind.wrap_i64];(try unfold wrap64);omega
       have hwb:IntKind.i64.wrap (31 * (k:Int) + 7 * (ln:Int) + 3)=31 * (k:Int) + 7 * (ln:Int) + 3:=by rw [IntKind.wrap_i64];(try unfold wrap64);omega
       have hmark:IntKind.u8.wrap (31 * (k:Int) + 7 * (ln:Int) + 3)=D4 k ln:=rfl
       have hilI:(ln:Int) < (xn:Int) + 70:=by omega
       obtain⟨HR,HG1,HO1,HM1,HF1,HNE,HON⟩:=Hd7 hr hg1 ho1 hm1 hf1 hpi.ne hpi.on
       rcases hpi.nn with ⟨rfl,hixn⟩ | ⟨⟨y',rfl⟩,hixn⟩
       ·have hix:ln=xn:=hixn
        subst hix
        have hbq:((ln:Int) == (ln:Int))=true:=by simp
        have hpn:pn=k:=by have:=hpi.on;simpa using this
        have ho1':w'.ownsRow D 34 1 (Be.val ⟨pA,pn,pc⟩) pn (BD os):=by have h9:=ho1;simpa using h9
        have hz1:=hf1.size
        have hc8:(w'.alloc (.cells #[.slice qA (ln + 1) qc] 34)).cell? ⟨w'.heap.size,0,none⟩=some (.slice qA (ln + 1) qc):=(Blk.new w' 34 #[.slice qA (ln + 1) qc]).cell 0
        obtain⟨o',w3,hr2,ho'n,hoo',hways2⟩:=Er (P:=Tryz.prog) (w:=w'.alloc (.cells #[.slice qA (ln + 1) qc] 34)) (base:=D) (t:=46) (ty:=46) Nt ⟨pA,pn,pc⟩ (BD os) (ho1'.alloc _) w'.heap.size 0 1 (.slice qA (ln + 1) qc) hc8 rfl (by simp only [maxLen];omega) (by simp only;omega) (by rw [World.size_alloc];omega)
        have hlay:=Gw.lay (x:=⟨xA,ln,xc⟩) (l:=⟨qA,ln + 1,qc⟩) (o:=⟨pA,pn,pc⟩) (m:=⟨mA,mn,mc⟩) (o':=o') hg1 hpn ho1' hm1 hpi.ne hf1 hDw3 hCw2 (by omega) _ ho'n hoo' hways2
        obtain⟨sA,sn,sc⟩:=o'
        simp only [Be.val] at hr2
        rw [hpn] at hr2
        obtain⟨HR2,HLY⟩:=Hd2 hr2 hlay
        clear hpi hfr hr ho' hways hg1 ho1 ho1' hm1 hf1 hfr1 hr2 hoo' hways2 hlay hc8
        simp only [Be.val]
        go_wp2_with (at_builtin;go_loud (first | (refine Cw rfl _ _ 34 rfl (.slice lA ln lc) (.slice (some ⟨wr.heap.size,0,none⟩) 1 1) (.slice qA (ln + 1) qc) w' (by kernel_rfl) (by kernel_rfl) HR.out ?_;clear HR) | (refine Cw rfl _ _ 46 rfl (.slice pA k pc) (.slice (some ⟨w'.heap.size,0,none⟩) 1 1) (.slice sA sn sc) w3 (by kernel_rfl) (by kernel_rfl) HR2.out ?_;clear HR2)))
        go_roundw
        case rel=>exact ⟨ln + 1,⟨qA,ln + 1,qc⟩,⟨sA,sn,sc⟩,_,by omega,by omega,by go_num,(by show Value.slice sA (k + 1) sc=Value.slice sA sn sc;rw [show sn=k + 1 by omega]),rfl,HLY.out⟩
        case measure=>(simp [intOf];try omega)
       ·have hbq:((ln:Int) == (xn:Int))=false:=by simp only [beq_eq_false_iff_ne,ne_eq];simp only at hixn;omega
        have hnx:Gw w2 wi w' C D os ms ⟨xA,xn,xc⟩ ⟨qA,ln + 1,qc⟩ ⟨pA,pn,pc⟩ ⟨mA,mn,mc⟩ k (ln + 1) (some y'):=⟨hg1,hpi.on,ho1,hm1,hpi.ne,hf1,.inr ⟨⟨y',rfl⟩,by simp only at hixn ⊢;omega⟩⟩
        have HNX:=Lh hnx
        clear hpi hfr hr ho' hways hg1 ho1 hm1 hf1 hfr1 hnx
        simp only [Be.val]
        go_wp2_with (at_builtin;go_loud (refine Cw rfl _ _ 34 rfl (.slice lA ln lc) (.slice (some ⟨wr.heap.size,0,none⟩) 1 1) (.slice qA (ln + 1) qc) w' (by kernel_rfl) (by kernel_rfl) HR.out ?_;clear HR))
        go_roundw
        case rel=>exact ⟨ln + 1,⟨qA,ln + 1,qc⟩,⟨pA,pn,pc⟩,_,by omega,by omega,by go_num,rfl,rfl,HNX.out⟩
        case measure=>(simp [intOf];try omega)
      ·have hix:ln=xn + 70:=by omega
       have hmn:mn=k:=HOM.out.2
       obtain⟨y',rfl⟩:∃ y',y=some y':=by
        rcases hpi.nn with ⟨_,h2⟩ | ⟨h1,_⟩
        ·simp only at h2;omega
        ·exact h1
       have hmo:=hpi.mo
       have hc8:(wr.alloc (.cells #[.slice lA (xn + 70) lc] 34)).cell? ⟨wr.heap.size,0,none⟩=some (.slice lA (xn + 70) lc):=(Blk.new wr 34 #[.slice lA (xn + 70) lc]).cell 0
       obtain⟨m',w3,hr2,hm'n,hmo',hways2⟩:=Er (P:=Tryz.prog) (w:=wr.alloc (.cells #[.slice lA (xn + 70) lc] 34)) (base:=D) (t:=46) (ty:=46) Nt ⟨mA,mn,mc⟩ (BD ms) (hmo.alloc _) wr.heap.size 0 1 (.slice lA (xn + 70) lc) hc8 rfl (by simp only [maxLen];omega) (by simp only;omega) (by rw [World.size_alloc];have:=hpi.fr.size;omega)
       have hpi2:Gw w2 wi wr C D os ms ⟨xA,xn,xc⟩ ⟨lA,xn + 70,lc⟩ ⟨pA,pn,pc⟩ ⟨mA,mn,mc⟩ k (xn + 70) (some y'):=by rw [← hix];exact hpi
       have hlv:=Gw.leave (m':=m') hpi2 HP.out.dn HLONE.out HX.out HP.out.ol HP.out.ml hmn HALT.out hDi hDw3 hCw2 _ hm'n hmo' hways2
       have hpn:pn=k + 1:=by have:=hpi.on;simpa using this
       obtain⟨sA,sn,sc⟩:=m'
       simp only [Be.val] at hr2
       obtain⟨HR2,HLV⟩:=Hd2 hr2 hlv
       have hsn:sn=k + 1:=by simp only at hm'n;omega
       have hilI:¬ (ln:Int) < (xn:Int) + 70:=by omega
       have HPN:=Lh hpn
       clear hmn hpn
       clear hpi hpi2 hfr hr2 hmo hmo' hways2 hlv hc8
       simp only [Be.val]
       rw [hix]
       go_wp2_with (at_builtin;go_loud (refine Cw rfl _ _ 46 rfl (.slice mA mn mc) (.slice (some ⟨wr.heap.size,0,none⟩) 1 1) (.slice sA sn sc) w3 (by kernel_rfl) (by kernel_rfl) HR2.out ?_;clear HR2))
       go_roundw
       case rel=>exact ⟨k + 1,_,_,⟨pA,pn,pc⟩,⟨sA,sn,sc⟩,by omega,by go_num,rfl,(by show Value.slice sA (k + 1) sc=Value.slice sA sn sc;rw [hsn]),HLV.out⟩
       case measure=>(simp [intOf];try omega)
    ·have he:k=n:=by omega
     subst he
     have hfr:=HFR.out.trans hp.fr
     have hmr:=fun (i:Nat) (y:Be) (hy:ms[i]? = some y)=>Hy (show wr.ownsRow D 34 1 (.slice m.A m.n m.c) m.n (BD ms) from hp.mo) i y.val (by unfold BD;rw [List.getElem?_map,hy];rfl)
     have hor:=fun (i:Nat) (y:Be) (hy:os[i]? = some y)=>Hy (show wr.ownsRow D 34 1 (.slice o.A o.n o.c) o.n (BD os) from hp.oo) i y.val (by unfold BD;rw [List.getElem?_map,hy];rfl)
     have hrr:=HROW.out wr hfr
     have hmn:m.n=k:=hp.mn
     have hol:=hp.ol
     have hml:=hp.ml
     obtain⟨HMR,HOR,HRR,HDN,HOC,HOL,HML,HFRW⟩:=Hd8 hmr hor hrr hp.dn hp.on hol hml hfr
     obtain⟨mA,mn,mc⟩:=m
     obtain⟨oA,on,oc⟩:=o
     simp only at hmn
     subst hmn
     clear hp hfr hmr hor hrr hol hml
     simp only [Be.val]
     obtain⟨W,hW⟩:=Ex0 wr
     have HW:=Lh hW
     have hW0:W.drewN 0=wr:=hW
     rw [← hW] at HMR HOR HRR HFRW HDN
     clear hW
     go_wp2_with fail
     go_loopw [10,11,12,13] (fun v10 _ _ _ wr=>∃ (k j:Nat),k≤mn∧v10=.int .i64 k∧wr=W.drewN j) (fun v10 _ _ _ _=>mn - (intOf v10).toNat)
     case atStart=>exact ⟨0,0,by omega,rfl,hW0.symm⟩
     case round =>
      obtain⟨k,j,hk,rfl,rfl⟩:=hrel
      by_cases hkl:k < mn
      ·obtain⟨x,hx,hxn⟩:=HGET.out k hkl
       obtain⟨y,hy⟩:∃ y,os[k]? = some y:=⟨_,List.getElem?_eq_getElem (by rw [HOL.out];exact hkl)⟩
       obtain⟨z,hz⟩:∃ z,ms[k]? = some z:=⟨_,List.getElem?_eq_getElem (by rw [HML.out];exact hkl)⟩
       obtain⟨q1,q2,q3⟩:=HDN.out k x hx
       obtain⟨qy1,qy2,_⟩:=q2 y hy
       obtain⟨qz1,qz2,_⟩:=q3 z hz
       obtain⟨mb,rfl,_,hmb,km⟩:=HMR.out k z hz
       obtain⟨ob,rfl,_,hob,ko⟩:=HOR.out k y hy
       obtain⟨rb,rfl,_,hrb,kr⟩:=HRR.out k x hx
       have k5:=HBAG.out W HFRW.out
       obtain⟨Q1,QY,QZ⟩:=Hd3 q1 qy2 qz2
       obtain⟨xA,xn,xc⟩:=x
       obtain⟨yA,yn,yc⟩:=y
       obtain⟨zA,zn,zc⟩:=z
       simp only at qy1 qz1 hxn
       subst qy1 qz1
       simp only [Be.val] at km ko kr
       have hkI:(k:Int) < mn:=by omega
       have HX:=Lh hx
       clear q1 q2 q3 qy2 qz2 hx hy hz
       obtain⟨WJ,hWJ⟩:=Ex0 (W.drewN j)
       have hcj:∀ a,WJ.cell? a=W.cell? a:=fun a=>by rw [hWJ];rfl
       rw [← hcj] at km ko kr k5
       rw [← hWJ]
       obtain⟨HWJ,HCJ⟩:=Hd2 hWJ hcj
       clear hWJ hcj
       go_wp2_with fail
       go_loopw [11,12,13] (fun v11 _ _ wr=>∃ (i j2:Nat),i≤xn + 70∧v11=.int .i64 i∧wr=W.drewN j2) (fun v11 _ _ _=>xn + 70 - (intOf v11).toNat)
       case atStart=>exact ⟨0,j,by omega,rfl,HWJ.out⟩
       case round =>
        obtain⟨i,j2,hi,rfl,hWJ2⟩:=hrel
        have hcj2:∀ a,wr.cell? a=W.cell? a:=fun a=>by rw [hWJ2];rfl
        rw [HCJ.out] at km ko kr k5
        rw [← hcj2] at km ko kr k5
        obtain⟨HWJ,HCJ2⟩:=Hd2 hWJ2.symm hcj2
        clear hWJ2 hcj2 HCJ
        by_cases hil:i < xn + 70
        ·obtain⟨zg,zu,rfl,_,_,kz,hzu,_⟩:=Gc QZ.out (i:=i) hil
         rw [Ji hil] at hzu
         injection hzu with hzu
         subst hzu
         rw [← HCJ2.out] at kz
         have hilI:(i:Int) < (xn:Int) + 70:=by omega
         have hself:(D4 k i == D4 k i)=true:=by simp
         have hmark:IntKind.u8.wrap (31 * (k:Int) + 7 * (i:Int) + 3)=D4 k i:=rfl
         have hkI:(k:Int) < mn:=by omega
         by_cases h1:i < xn
         ·obtain⟨xg,xu,rfl,_,_,kx,hxu,_⟩:=Gc Q1.out (i:=i) h1
          rw [Ji h1] at hxu
          injection hxu with hxu
          subst hxu
          rw [← HCJ2.out] at kx
          have h1I:(i:Int) < xn:=by omega
          have h1n:((i:Int) == (xn:Int))=false:=by simp only [beq_eq_false_iff_ne,ne_eq];omega
          go_wp2_with fail
          go_roundw
          case rel=>exact ⟨i + 1,j2,by omega,by go_num,HWJ.out.symm⟩
          case measure=>(simp [intOf];try omega)
         by_cases h2:i < xn + 1
         ·obtain⟨yg,yu,rfl,_,_,ky,hyu,_⟩:=Gc QY.out (i:=i) (show i < xn + 1 by omega)
          rw [Ji (by omega)] at hyu
          injection hyu with hyu
          subst hyu
          rw [← HCJ2.out] at ky
          have h2I:(i:Int) < (xn:Int) + 1:=by omega
          have hkon:(k:Int) < on:=by have h9:=HOC.out;omega
          have h1I:¬ (i:Int) < xn:=by omega
          have h1d:decide ((i:Int) < xn)=false:=by simp only [decide_eq_false_iff_not];omega
          have h1n:((i:Int) == (xn:Int))=true:=by simp only [beq_iff_eq];omega
          go_wp2_with fail
          go_roundw
          case rel=>exact ⟨i + 1,j2,by omega,by go_num,HWJ.out.symm⟩
          case measure=>(simp [intOf];try omega)
         have h1I:¬ (i:Int) < xn:=by omega
         have h1d:decide ((i:Int) < xn)=false:=by simp only [decide_eq_false_iff_not];omega
         have h1n:((i:Int) == (xn:Int))=false:=by simp only [beq_eq_false_iff_ne,ne_eq];omega
         go_wp2_with fail
         go_roundw
         case rel=>exact ⟨i + 1,j2,by omega,by go_num,HWJ.out.symm⟩
         case measure=>(simp [intOf];try omega)
        ·have he:i=xn + 70:=by omega
         subst he
         go_wp2_with fail
         go_roundw
         case rel=>exact ⟨k + 1,j2,by omega,by go_num,HWJ.out.symm⟩
         case measure=>(simp [intOf];try omega)
      ·have he:k=mn:=by omega
       subst he
       go_wp2_with fail
       go_ret
       exact ⟨rfl,HFRW.out.drewN j⟩
end
end Go.Proofs.YtmpcbaflcogmmaaGreatDoor
