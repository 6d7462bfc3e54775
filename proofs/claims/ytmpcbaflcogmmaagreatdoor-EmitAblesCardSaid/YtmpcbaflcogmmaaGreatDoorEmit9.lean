/- Emit3 Emit4 Emit5 Emit6 Emit8 Emit9 -/
import Derived.IntWalk
import Derived.Test.YtmpcbaflcogmmaaGreatDoorAble
import Derived.Test.YtmpcbaflcogmmaaGreatDoorEmit2
namespace Go.Proofs.YtmpcbaflcogmmaaGreatDoor
open Go.RowKit
set_option linter.all false
set_option maxHeartbeats 4000000
set_option maxRecDepth 100000
def Ft (p:Nat × Nat) (b:List Int):List Int:=(b.set p.1 (hi8 p.2)).set (p.1 + 1) (u8 p.2)
theorem QW (p:Nat × Nat) (l:List (Nat × Nat)) (b:List Int):Du (p :: l) b=Du l (Ft p b):=rfl
theorem Gk (l:List Int) (k:Nat) (v:Int):(Ba l).set k (.int .u8 v)=Ba (l.set k v):=by simp [Ba,List.map_set]
theorem JA (B kb:Nat) (tv im tm mb:Value) (s:MS) (p q g1 g2 g3:Nat) (w:World) (h:EK w B kb tv im tm mb s) (k1:Blk w g1 3 #[.int .i64 q]) (k2:Blk w g2 146 #[.pointer (some ⟨kb,0,none⟩)]) (k3:Blk w g3 3 #[.int .i64 p]) (hp:p + 1 < s.b.length) (hm:s.ms≤1000000) (hq:q≤1000000) :
  Calls Tryz.prog 162 #[.pointer (some ⟨g1,0,none⟩),.pointer (some ⟨g2,0,none⟩),.pointer (some ⟨g3,0,none⟩)] w fun e w'=>e=.returned (.tuple #[])∧EK w' B kb tv im tm mb { s with b:=Ft (p,q) s.b }∧Frm B [5] w w':=by
 obtain⟨hB,hks⟩:=h.size
 obtain⟨bv,lv,vals,_,kk,o1,l1,a1⟩:=h
 obtain⟨L,hL⟩:∃ L,s.b.length=L:=⟨_,rfl⟩
 have hLm:L≤1000000:=by unfold MS.ms at hm;omega
 rw [hL] at o1 hp
 obtain⟨Ab,cb,rfl⟩:=AJ o1
 obtain⟨gb,rfl⟩:∃ gb,Ab=some ⟨gb,0,none⟩:=by
  obtain⟨g,cap,e,_⟩:=o1.form (by omega)
  injection e with e
  exact ⟨g,e⟩
 have d1:w.cell? ⟨g1,0,none⟩=some (.int .i64 q):=k1.cell 0
 have d2:w.cell? ⟨g2,0,none⟩=some (.pointer (some ⟨kb,0,none⟩)):=k2.cell 0
 have d3:w.cell? ⟨g3,0,none⟩=some (.int .i64 p):=k3.cell 0
 have d4:w.cell? ⟨kb,3,none⟩=some (.slice (some ⟨gb,0,none⟩) L cb):=kk.cell 3
 have n1:gb≠g1:=fun e=>AR o1 k1 (by decide) (by rw [← e];rfl)
 have n2:gb≠g2:=fun e=>AR o1 k2 (by decide) (by rw [← e];rfl)
 have n3:gb≠g3:=fun e=>AR o1 k3 (by decide) (by rw [← e];rfl)
 have n4:gb≠kb:=fun e=>AR o1 kk (by decide) (by rw [← e];rfl)
 have hgb:=(o1.lt gb rfl).1
 obtain⟨v0,hv0⟩:∃ v,(Ba s.b)[p]? = some v:=⟨_,List.getElem?_eq_getElem (by simp [Ba];omega)⟩
 obtain⟨v1,hv1⟩:∃ v,(Ba s.b)[p + 1]? = some v:=⟨_,List.getElem?_eq_getElem (by simp [Ba];omega)⟩
 have c0:w.cell? ⟨gb,p,none⟩=some v0:=by rw [o1.cellAt p (by omega),hv0]
 have c1:w.cell? ⟨gb,p + 1,none⟩=some v1:=by rw [o1.cellAt (p + 1) (by omega),hv1]
 have z0:=o1.frozenAt p
 have z1:=o1.frozenAt (p + 1)
 have e1:IntKind.u8.wrap ((q:Int) / 256)=hi8 q:=rfl
 have e2:IntKind.u8.wrap (q:Int)=u8 q:=rfl
 have hpi:(p:Int) < L:=by omega
 have hpi1:(p:Int) + 1 < L:=by omega
 have jp:p < L:=by omega
 have jp1:p + 1 < L:=by omega
 have hps:IntKind.i64.wrap ((p:Int) + 1)=(p:Int) + 1:=IntWalk.i64_in _ (by omega)
 have hp0:(0:Int)≤(p:Int) + 1:=by omega
 have hpt:((p:Int) + 1).toNat=p + 1:=by omega
 obtain⟨O1,KK,L1,A1,HL⟩:=Hd5 o1 kk l1 a1 hL
 clear o1 kk l1 a1 hL hm k1 k2 k3 hv0 hv1
 go_in
 go_wp2_with fail
 go_region_held3 (fun w'=>w'.cell? ⟨g1,0,none⟩=some (.int .i64 q)∧w'.cell? ⟨g2,0,none⟩=some (.pointer (some ⟨kb,0,none⟩))∧w'.cell? ⟨g3,0,none⟩=some (.int .i64 p)∧w'.cell? ⟨kb,3,none⟩=some (.slice (some ⟨gb,0,none⟩) L cb))
  (first | exact ⟨d1,d2,d3,d4⟩ | go_keep) ((first | fail))
 all_goals go_wp2_with fail
 go_end0
 obtain⟨W,hW⟩:=Ex0 (((w.setCell ⟨gb,p,none⟩ (.int .u8 (hi8 q))).setCell ⟨gb,p + 1,none⟩ (.int .u8 (u8 q))).drew)
 rw [← hW]
 have s1:=(((O1.out.stored p (.int .u8 (hi8 q))).1).stored (p + 1) (.int .u8 (u8 q))).1.drew
 rw [← hW] at s1
 have kb1:=O1.out.2
 have fr:Frm B [5] w W:=by
  obtain⟨g0,cap0,cur,he,hb0,hg0,hfr⟩:∃ g0 cap0 cur,(Value.slice (some ⟨gb,0,none⟩) L cb)=.slice (some ⟨g0,0,none⟩) L cap0∧B≤g0∧Blk w g0 5 cur∧True:=by
   rcases kb1 with ⟨h1,h2⟩ | ⟨g0,cap0,cur,h1,h2,h3,_⟩
   ·omega
   ·exact ⟨g0,cap0,cur,h1,h2,h3,trivial⟩
  injection he with he
  injection he with he
  injection he with he
  subst he
  rw [hW]
  exact (((Frm.refl B [5] w).set_ hg0 hb0 (by decide) _).set_ (hg0.set_ p _) hb0 (by decide) _).drew
 refine ⟨rfl,⟨.slice (some ⟨gb,0,none⟩) L cb,lv,vals,hB,?_,?_,?_,fun k r hk=>?_⟩,fr⟩
 ·rw [hW]
  exact ((KK.out.far (p:=⟨gb,p,none⟩) (Ne.symm n4) _).far (p:=⟨gb,p + 1,none⟩) (Ne.symm n4) _).drew
 ·have e:(Ft (p,q) s.b).length=L:=by simp [Ft,HL.out]
  show World.ownsRow _ B _ 1 _ (Ft (p,q) s.b).length (Ba (Ft (p,q) s.b))
  rw [e]
  unfold Ft
  rw [← Gk,← Gk]
  exact s1
 ·have nl:lv.ownBlock≠some gb:=by
   intro e
   rcases kb1 with ⟨h1,h2⟩ | ⟨g0,cap0,cur,h1,h2,h3,_⟩
   ·omega
   ·injection h1 with h1
    injection h1 with h1
    injection h1 with h1
    subst h1
    exact AR L1.out (g:=gb) (t:=5) (cs:=cur) h3 (by decide) e
  rw [hW]
  exact (Bm (Bm L1.out (p:=⟨gb,p,none⟩) nl _) (p:=⟨gb,p + 1,none⟩) nl _).drew
 ·obtain⟨v,hv,hw⟩:=A1.out k r hk
  exact ⟨v,hv,hw.frm (fr.more (by simp))⟩
def E6 (w0:World) (B kb:Nat) (tv im tm mb:Value) (rec:Nat→MS→MS) (i:Nat):Prop:=
 ∀ (s:MS) (w:World),Below B w0 w→EK w B kb tv im tm mb s→(rec i s).ms≤1000000 →
  Calls Tryz.prog 106 #[.pointer (some ⟨kb,0,none⟩),.int .i64 i] w fun e w'=>e=.returned (.tuple #[])∧EK w' B kb tv im tm mb (rec i s)∧Frm B TE w w'
theorem Hd (w0:World) (B kb:Nat) (tv im tm mb:Value) (rec:Nat→MS→MS) (hgr:Do rec) (kids:List Nat) (A:Option Addr) (n c base:Nat) (s:MS) (w:World) (hr:∀ j∈kids,E6 w0 B kb tv im tm mb rec j) (hb:Below B w0 w) (h:EK w B kb tv im tm mb s) (hm:(Bw rec kids s).ms≤1000000) (hk:kids.length≤100000)
  (ho:w.ownsRow base 3 1 (.slice A n c) n (AQ (kids.map fun j:Nat=>(j:Int)))) :
  Calls Tryz.prog 145 #[.pointer (some ⟨kb,0,none⟩),.slice A n c] w fun e w'=>e=.returned (.tuple #[])∧EK w' B kb tv im tm mb (Bw rec kids s)∧Frm B TE w w':=by
 obtain⟨R,hR⟩:=Ex0 (Bw rec kids s)
 rw [← hR] at hm ⊢
 have hin:=Bt ho
 have hnk:kids.length=n:=by have:=hin.2;simpa using this
 have hkn:n≤100000:=by omega
 obtain⟨HR,HNK,HRC,HB,H,HO,HGR⟩:=Hd7 hR hnk hr hb h ho hgr
 clear hR hin hnk hr hb h ho hk hgr
 go_in
 go_wp2_with fail
 go_loopw [5,8] (fun _ iv wr=>∃ (k:Nat) (s':MS),k≤n∧iv=.int .i64 k∧Hid (R=Bw rec (kids.drop k) s')∧EK wr B kb tv im tm mb s'∧Frm B TE w wr) (fun _ iv _=>n - (intOf iv).toNat)
 case atStart=>exact ⟨0,s,by omega,rfl,HR,H.out,Frm.refl _ _ _⟩
 case round =>
  obtain⟨k,s',hkn2,rfl,HRk,hek,hfr⟩:=hrel
  by_cases hlt:k < n
  ·obtain⟨j,hj⟩:∃ j,kids[k]? = some j:=⟨_,List.getElem?_eq_getElem (by rw [HNK.out];exact hlt)⟩
   have hKJ:(kids.map (fun j:Nat=>(j:Int)))[k]? = some (j:Int):=by rw [List.getElem?_map,hj];rfl
   obtain⟨b,o,rfl,hbs,hcj⟩:=(Bt (hfr.own HO.out (by decide))).1 k _ hKJ
   have hstep:R=Bw rec (kids.drop (k + 1)) (rec j s'):=by
    obtain⟨hlt',e⟩:=List.getElem?_eq_some_iff.1 hj
    rw [HRk.out,List.drop_eq_getElem_cons hlt',e]
    rfl
   have hmj:(rec j s').ms≤1000000:=by
    have h1:=Cy HGR.out (kids.drop (k + 1)) (rec j s')
    rw [← hstep] at h1
    omega
   have hcall:=HRC.out j (List.mem_of_getElem? hj) s' wr (HB.out.trans hfr.below) hek hmj
   obtain⟨HS,HC,HF⟩:=Hd3 hstep hcall hfr
   have hkI:(k:Int) < n:=by omega
   clear hj hKJ hstep hmj hcall hfr hek hbs
   go_wp2_with fail
   refine HC.out.mono ?_
   rintro e w2 ⟨rfl,h2,f2⟩
   obtain⟨H2,F2⟩:=Hd2 h2 (HF.out.trans f2)
   clear h2 f2
   go_wp2_with fail
   go_roundw
   case rel=>exact ⟨k + 1,rec j s',by omega,by go_num,HS.out,H2.out,F2.out⟩
   case measure=>(simp [intOf];try omega)
  ·have hkk:k=n:=by omega
   have hfin:R=s':=by rw [HRk.out,List.drop_of_length_le (by rw [HNK.out];omega)];rfl
   subst hfin
   obtain⟨HEK,HF⟩:=Hd2 hek hfr
   clear hek hfr
   go_wp2_with fail
   go_end0
   exact ⟨rfl,HEK.out,HF.out⟩
noncomputable def Cg:Mk Tryz.prog 118 Int:=Qw Tryz.prog 118 .i8 Tryz.underlying118
theorem JE (w:World):(zeroValue 211).run Tryz.prog w=.ok (.agg #[.nilFunc]) w:=by kernel_rfl
def EE (op:Int):Option FuncId:=
 if op=10 then some 144 else if op=30 then some 146 else if op=33 then some 148 else if op=36 then some 149 else if op=37 then some 150
 else if op=38 then some 151 else if op=39 then some 151 else if op=50 then some 152 else if op=13 then some 153 else if op=16 then some 153
 else if op=14 then some 154 else if op=15 then some 155 else if op=49 then some 156 else if op=19 then some 157
 else if op=11 then some 160 else if op=12 then some 160 else none
def Gq (w:World) (B:Nat) (mb:Value):Prop:=
 ∃ mk f,mb=.map (some mk)∧mk < B∧MK Cg w mk f∧(∀ op K,EE op=some K→f op=some (.agg #[.func (.func K) #[] #[]])) ∧
  ∀ op c,Cf op=some c→∃ g,g < B∧f op=some (.agg #[.func (.func 159) #[] #[.pointer (some ⟨g,0,none⟩)]])∧Blk w g 5 #[.int .u8 c]
theorem Gq.below {w w':World} {B:Nat} {mb:Value} (h:Gq w B mb) (hb:Below B w w'):Gq w' B mb:=by
 obtain⟨mk,f,h1,h2,h3,h4,h5⟩:=h
 refine ⟨mk,f,h1,h2,h3.of_block Cg (hb.block mk h2),h4,fun op c hc=>?_⟩
 obtain⟨g,hg,e,hk⟩:=h5 op c hc
 exact ⟨g,hg,e,hk.below hb hg⟩
theorem Gq.lookS {w:World} {B:Nat} {mb:Value} (h:Gq w B mb) {op:Int} {K:FuncId} (hk:EE op=some K) :
  (Instr.lookup 147 mb (.int .i8 op) false).run Tryz.prog w=.ok (.agg #[.func (.func K) #[] #[]]) w:=by
 obtain⟨mk,f,rfl,h2,h3,h4,h5⟩:=h
 have:=h3.lookup Cg Tryz.underlying147 JE op false
 rw [h4 op K hk] at this
 exact this
theorem Gq.looksP {w0:World} {B:Nat} {mb:Value} (h:Gq w0 B mb) {op c:Int} (hk:Cf op=some c) :
  ∃ g,g < B∧Blk w0 g 5 #[.int .u8 c]∧∀ w,Below B w0 w→(Instr.lookup 147 mb (.int .i8 op) false).run Tryz.prog w=.ok (.agg #[.func (.func 159) #[] #[.pointer (some ⟨g,0,none⟩)]]) w:=by
 obtain⟨mk,f,rfl,h2,h3,h4,h5⟩:=h
 obtain⟨g,hg,e,hkk⟩:=h5 op c hk
 refine ⟨g,hg,hkk,fun w hb=>?_⟩
 have:=(h3.of_block Cg (hb.block mk h2)).lookup Cg Tryz.underlying147 JE op false
 rw [e] at this
 exact this
def Au.vals (x:Au):Array Value:=#[.int .i8 x.op,.int .i8 x.kind,.int .i64 x.n,.int .i64 x.m,.string x.text,.int .i64 x.pos,.int .i64 x.kids]
def BH (w0:World) (B kb:Nat) (tv im tm mb:Value) (ts:List Au) (F:MS→MS) (i:Nat) (x:Au) (K:FuncId) (caps:Array Value):Prop:=
 ∀ (s:MS) (w:World) (A:Option Addr) (n c base:Nat),Below B w0 w→EK w B kb tv im tm mb s→w.ownsRow base 3 1 (.slice A n c) n (AQ ((Am ts i).map fun j:Nat=>(j:Int)))→(F s).ms≤1000000 →
  Calls Tryz.prog K (#[.pointer (some ⟨kb,0,none⟩),.agg #[.int .i8 x.op,.int .i8 x.kind,.int .i64 x.n,.int .i64 x.m,.string x.text,.int .i64 x.pos,.int .i64 x.kids],.slice A n c] ++ caps) w fun e w'=>e=.returned (.tuple #[])∧EK w' B kb tv im tm mb (F s)∧Frm B TE w w'
theorem Jx {l:List Nat}:l.map (fun j:Nat=>Value.int .i64 j)=AQ (l.map fun j:Nat=>(j:Int)):=by simp [AQ]
theorem Ir (v:Value) (w:World):(Instr.field 211 (.agg #[v]) 0).run Tryz.prog w=.ok v w:=by kernel_rfl
theorem Ej {w':World} {B kb g:Nat} {tv im tm mb V:Value} {s:MS} {x:Au} (h:EK w' B kb tv im tm mb s) (kn:Blk w' g 120 #[.int .i8 x.op,.int .i8 x.kind,.int .i64 x.n,.int .i64 x.m,.string x.text,.int .i64 x.pos,.int .i64 x.kids]) (hl:(Instr.lookup 147 mb (.int .i8 x.op) false).run Tryz.prog w'=.ok V w') :
  w'.cell? ⟨kb,0,none⟩=some tv∧w'.cell? ⟨kb,5,none⟩=some mb∧w'.cell? ⟨g,0,none⟩=some (.int .i8 x.op)∧w'.cell? ⟨g,1,none⟩=some (.int .i8 x.kind)∧w'.cell? ⟨g,2,none⟩=some (.int .i64 x.n)∧w'.cell? ⟨g,3,none⟩=some (.int .i64 x.m)∧w'.cell? ⟨g,4,none⟩=some (.string x.text)∧w'.cell? ⟨g,5,none⟩=some (.int .i64 x.pos)∧w'.cell? ⟨g,6,none⟩=some (.int .i64 x.kids)∧(Instr.lookup 147 mb (.int .i8 x.op) false).run Tryz.prog w'=.ok V w':=by
 obtain⟨e0,e1,e2,e4,e5,y4⟩:=h.cells
 exact ⟨e0,e5,kn.cell 0,kn.cell 1,kn.cell 2,kn.cell 3,kn.cell 4,kn.cell 5,kn.cell 6,hl⟩
theorem Bo {w:World} {base g n c k j:Nat} {l:List Nat} (ho:w.ownsRow base 3 1 (.slice (some ⟨g,0,none⟩) n c) n (AQ (l.map fun j:Nat=>(j:Int)))) (hj:l[k]? = some j):w.cell? ⟨g,k,none⟩=some (.int .i64 j):=by
 have hlen:=ho.1
 have hkl:=(List.getElem?_eq_some_iff.1 hj).1
 simp only [AQ,List.length_map] at hlen
 rw [ho.cellAt k (by omega)]
 simp [AQ,hj]
theorem By {w:World} {base n c k j:Nat} {A:Option Addr} {l:List Nat} (ho:w.ownsRow base 3 1 (.slice A n c) n (AQ (l.map fun j:Nat=>(j:Int)))) (hj:l[k]? = some j):l.length=n∧k < n∧∃ g,A=some ⟨g,0,none⟩∧g < w.heap.size:=by
 have hlen:=ho.1
 have hkl:=(List.getElem?_eq_some_iff.1 hj).1
 simp only [AQ,List.length_map,Nat.mul_one] at hlen
 obtain⟨g,cap,e,_⟩:=ho.form (by omega)
 injection e with e1 e2 e3
 subst e1
 exact ⟨hlen,by omega,g,rfl,(ho.lt g rfl).2⟩
theorem KY {w0 w:World} {B kb base n c:Nat} {tv im tm mb:Value} {s:MS} {A:Option Addr} {l:List Value} (x:Au) (hb:Below B w0 w) (h:EK w B kb tv im tm mb s) (ho:w.ownsRow base 3 1 (.slice A n c) n l) :
  ∃ w1,w1=w.alloc (.cells #[.int .i8 x.op,.int .i8 x.kind,.int .i64 x.n,.int .i64 x.m,.string x.text,.int .i64 x.pos,.int .i64 x.kids] 120)∧Below B w0 w1∧EK w1 B kb tv im tm mb s∧w1.ownsRow base 3 1 (.slice A n c) n l∧Frm B TE w w1 ∧
   Blk w1 w.heap.size 120 #[.int .i8 x.op,.int .i8 x.kind,.int .i64 x.n,.int .i64 x.m,.string x.text,.int .i64 x.pos,.int .i64 x.kids]:=by
 have hz:=h.size
 refine ⟨_,rfl,hb.trans ((Below.refl _ _).alloc (by omega) _),h.alloc _,ho.alloc _,(Frm.refl _ _ _).alloc (by omega) _,Blk.new w _ _⟩
theorem CT {l:List Nat} {k j:Nat} (h:l[k]? = some j):j∈l:=List.mem_of_getElem? h
section
variable (w0:World) (B kb:Nat) (tv im tm mb:Value) (ts:List Au) (rec:Nat→MS→MS) (hgr:Do rec) (i:Nat) (x:Au) (hr:∀ j∈Am ts i,E6 w0 B kb tv im tm mb rec j) (hkl:(Am ts i).length≤100000)
include hgr hr hkl
theorem Ut (pg:Nat) (pc:Int) (hpg:pg < B) (kp:Blk w0 pg 5 #[.int .u8 pc]):BH w0 B kb tv im tm mb ts (fun s=>opE pc [] (Bw rec (Am ts i) s)) i x 159 #[.pointer (some ⟨pg,0,none⟩)]:=by
 intro s w A n c base hb0 h0 ho0 hm
 obtain⟨w1,hw1,hb,h,ho,f0,kn⟩:=KY x hb0 h0 ho0
 obtain⟨HW1,F0⟩:=Hd2 hw1 f0
 have nc:w1.cell? ⟨w.heap.size,2,none⟩=some (.int .i64 x.n):=kn.cell 2
 have KN:=Lh kn
 have hns:=Hd w0 B kb tv im tm mb rec hgr (Am ts i) A n c base s w1 hr hb h (by have:=hm;rw [AL] at this;omega) hkl ho
 have hop:=fun wx hx=>Gj B kb tv im tm mb (Bw rec (Am ts i) s) pc wx hx (by have:=hm;rw [AL] at this;omega)
 obtain⟨HOP,HNS,KP,HB⟩:=Hd4 hop hns kp hb
 clear hw1 f0 kn hb0 h0 ho0 hns hop hb h ho hm hr kp
 go_in
 go_wp2_with fail
 rw [← HW1.out]
 refine HNS.out.mono ?_
 rintro e w2 ⟨rfl,h2,f2⟩
 have cp:w2.cell? ⟨pg,0,none⟩=some (.int .u8 pc):=(KP.out.below (HB.out.trans f2.below) hpg).cell 0
 have nc2:w2.cell? ⟨w.heap.size,2,none⟩=some (.int .i64 x.n):=(f2.blk KN.out (by decide)).cell 2
 obtain⟨H2,F2⟩:=Hd2 h2 f2
 clear h2 f2
 go_wp2_with fail
 refine (HOP.out _ H2.out).mono ?_
 rintro e w3 ⟨rfl,h3,f3⟩
 go_wp2_with fail
 go_end0
 exact ⟨rfl,h3,(F0.out.trans F2.out).trans f3⟩
end
section
variable (w:World)
include w
theorem Sz:(Instr.index 251 (.agg #[.int .u8 40,.int .u8 0,.int .u8 42,.int .u8 43,.int .u8 44,.int .u8 0,.int .u8 16,.int .u8 17,.int .u8 18]) (.int .i64 0)).run Tryz.prog w=.ok (.int .u8 40) w:=by kernel_rfl
theorem T0:(Instr.index 251 (.agg #[.int .u8 40,.int .u8 0,.int .u8 42,.int .u8 43,.int .u8 44,.int .u8 0,.int .u8 16,.int .u8 17,.int .u8 18]) (.int .i64 2)).run Tryz.prog w=.ok (.int .u8 42) w:=by kernel_rfl
theorem TI:(Instr.index 251 (.agg #[.int .u8 40,.int .u8 0,.int .u8 42,.int .u8 43,.int .u8 44,.int .u8 0,.int .u8 16,.int .u8 17,.int .u8 18]) (.int .i64 3)).run Tryz.prog w=.ok (.int .u8 43) w:=by kernel_rfl
theorem TM:(Instr.index 251 (.agg #[.int .u8 40,.int .u8 0,.int .u8 42,.int .u8 43,.int .u8 44,.int .u8 0,.int .u8 16,.int .u8 17,.int .u8 18]) (.int .i64 4)).run Tryz.prog w=.ok (.int .u8 44) w:=by kernel_rfl
theorem SK:(Instr.index 251 (.agg #[.int .u8 40,.int .u8 0,.int .u8 42,.int .u8 43,.int .u8 44,.int .u8 0,.int .u8 16,.int .u8 17,.int .u8 18]) (.int .i64 6)).run Tryz.prog w=.ok (.int .u8 16) w:=by kernel_rfl
theorem SH:(Instr.index 251 (.agg #[.int .u8 40,.int .u8 0,.int .u8 42,.int .u8 43,.int .u8 44,.int .u8 0,.int .u8 16,.int .u8 17,.int .u8 18]) (.int .i64 7)).run Tryz.prog w=.ok (.int .u8 17) w:=by kernel_rfl
theorem SP:(Instr.index 251 (.agg #[.int .u8 40,.int .u8 0,.int .u8 42,.int .u8 43,.int .u8 44,.int .u8 0,.int .u8 16,.int .u8 17,.int .u8 18]) (.int .i64 8)).run Tryz.prog w=.ok (.int .u8 18) w:=by kernel_rfl
end
section
variable (B kb:Nat) (tv im tm mb:Value) (s:MS) (c:Int) (w:World) (h:EK w B kb tv im tm mb s)
include h
theorem Hh (hm:s.ms + 0 + 2≤1000000) :
  Calls Tryz.prog 107 #[.pointer (some ⟨kb,0,none⟩),.int .u8 c,.slice none 0 0] w fun e w'=>∃ v,e=.returned v∧LA w' kb v (AI c [] s).at_∧EK w' B kb tv im tm mb (AI c [] s)∧Frm B TE w w':=
 Hk B kb tv im tm mb s c [] none 0 0 w w h (Below.refl _ _) (World.ownsRow_nil w _ _ _) hm
theorem Mu (x y:Int) (hm:s.ms + 2 + 2≤1000000) :
  Calls Tryz.prog 107 #[.pointer (some ⟨kb,0,none⟩),.int .u8 c,.slice (some ⟨w.heap.size,0,none⟩) 2 2] (w.alloc (.cells #[.int .u8 x,.int .u8 y] 5)) fun e w'=>∃ v,e=.returned v∧LA w' kb v (AI c [x,y] s).at_∧EK w' B kb tv im tm mb (AI c [x,y] s)∧Frm B TE w w':=
 Hk B kb tv im tm mb s c [x,y] (some ⟨w.heap.size,0,none⟩) 2 2 w _ h ((Below.refl _ _).alloc (Nat.le_refl _) _) (World.ownsRow_lit w #[.int .u8 x,.int .u8 y] 2 (Nat.le_refl _) (by decide) rfl) hm
end
structure StE (w0 wl0:World) (B kb:Nat) (tv im tm mb:Value) (s:MS) (w:World):Prop where
 be:Below B w0 wl0
 k:EK w B kb tv im tm mb s
 f:Frm B TE wl0 w
def NxE (w0 wl0:World) (B kb:Nat) (tv im tm mb:Value) (w:World) (s':MS) (e:Ending) (w':World):Prop:=e=.returned (.tuple #[])∧StE w0 wl0 B kb tv im tm mb s' w'∧Frm B TE w w'
def AhE (w:World) (kb ga gb p:Nat):Prop:=Blk w ga 146 #[.pointer (some ⟨kb,0,none⟩)]∧Blk w gb 3 #[.int .i64 p]
theorem AhE.up {B:Nat} {w w':World} {kb ga gb p:Nat} (h:Hid (AhE w kb ga gb p)) (f:Frm B TE w w'):Hid (AhE w' kb ga gb p):=⟨f.blk h.out.1 (by decide),f.blk h.out.2 (by decide)⟩
section
variable {rec:Nat→MS→MS} (h:Do rec)
include rec h
theorem sN (j:Nat) (s:MS):∃ t,Hid (t=rec j s)∧s.ms≤t.ms:=⟨_,rfl,h _ _⟩
theorem sL (l:List Nat) (s:MS):∃ t,Hid (t=Bw rec l s)∧s.ms≤t.ms:=⟨_,rfl,Cy h _ _⟩
end
theorem sO (c:Int) (s:MS):∃ t,Hid (t=opE c [] s)∧t.ms=s.ms + 1:=⟨_,rfl,by rw [AL];rfl⟩
theorem sI (c x:Int) (s:MS):∃ t,Hid (t=opE c [x] s)∧t.ms=s.ms + 2:=⟨_,rfl,by rw [AL];rfl⟩
theorem sA (c:Int) (s:MS):∃ t,Hid (t=AI c [] s)∧t.ms=s.ms + 3:=⟨_,rfl,by rw [Bk];rfl⟩
theorem sB (c x y:Int) (s:MS):∃ t,Hid (t=AI c [x,y] s)∧t.ms=s.ms + 5:=⟨_,rfl,by rw [Bk];rfl⟩
theorem sH (p:Nat) (s:MS):∃ t,Hid (t=Bq p s)∧t.ms=s.ms + 1:=⟨_,rfl,Bj _ _⟩
theorem sP (o:Option Int) (s:MS):∃ t,Hid (t=Dn o s)∧t.ms=s.ms + 3:=⟨_,rfl,CC _ _⟩
theorem sW (c n:Int) (s:MS):∃ t,Hid (t=Ec c n s)∧t.ms=s.ms + 3:=⟨_,rfl,DE _ _ _⟩
theorem sM (o:Option Int) (s:MS):∃ t,Hid (t=C9 o s)∧t.ms=s.ms:=⟨_,rfl,EC _ _⟩
section
variable {w0 wl0 w:World} {B kb:Nat} {tv im tm mb:Value} {s s':MS} (h:StE w0 wl0 B kb tv im tm mb s w)
include h
theorem StE.low:Below B w0 w:=h.be.trans h.f.below
theorem StE.nx {e:Ending} {w':World} (r:e=.returned (.tuple #[])∧EK w' B kb tv im tm mb s'∧Frm B TE w w'):NxE w0 wl0 B kb tv im tm mb w s' e w':=⟨r.1,⟨h.be,r.2.1,h.f.trans r.2.2⟩,r.2.2⟩
theorem StE.op0 (c:Int) (hs:Hid (s'=opE c [] s)) (hm:s.ms≤1000000):Calls Tryz.prog 108 #[.pointer (some ⟨kb,0,none⟩),.int .u8 c,.slice none 0 0] w (NxE w0 wl0 B kb tv im tm mb w s'):=
 (Gj B kb tv im tm mb s c w h.k hm).mono fun e w' r=>h.nx (by rw [hs.out];exact r)
theorem StE.op1 (c x:Int) (hs:Hid (s'=opE c [x] s)) (hm:s.ms + 1≤1000000):Calls Tryz.prog 108 #[.pointer (some ⟨kb,0,none⟩),.int .u8 c,.slice (some ⟨w.heap.size,0,none⟩) 1 1] (w.alloc (.cells #[.int .u8 x] 5)) (NxE w0 wl0 B kb tv im tm mb w s'):=
 (PA B kb tv im tm mb s c w h.k x hm).mono fun e w' r=>h.nx (by rw [hs.out];exact r)
theorem StE.push {pi:Int→Option Int} (hp:Hid (DR w0 B im pi)) (hpb:Hid (∀ n v,pi n=some v→0≤v∧v≤10000000)) (n:Int) (hs:Hid (s'=Dn (pi n) s)) (hm:s.ms + 2≤1000000):Calls Tryz.prog 147 #[.pointer (some ⟨kb,0,none⟩),.int .i64 n] w (NxE w0 wl0 B kb tv im tm mb w s'):=
 (NJ B kb tv im tm mb s w h.k pi n (hp.out.below h.low) hpb.out hm).mono fun e w' r=>h.nx (by rw [hs.out];exact r)
theorem StE.wide (c n:Int) (h0:0≤n∧n≤10000000) (hs:Hid (s'=Ec c n s)) (hm:s.ms + 2≤1000000):Calls Tryz.prog 202 #[.pointer (some ⟨kb,0,none⟩),.int .u8 c,.int .i64 n] w (NxE w0 wl0 B kb tv im tm mb w s'):=
 (DG B kb tv im tm mb s w h.k c n h0.1 h0.2 hm).mono fun e w' r=>h.nx (by rw [hs.out];exact r)
theorem StE.node {rec:Nat→MS→MS} {j:Nat} (hr:E6 w0 B kb tv im tm mb rec j) (hs:Hid (s'=rec j s)) (hm:s'.ms≤1000000):Calls Tryz.prog 106 #[.pointer (some ⟨kb,0,none⟩),.int .i64 j] w (NxE w0 wl0 B kb tv im tm mb w s'):=
 (hr s w h.low h.k (hs.out▸hm)).mono fun e w' r=>h.nx (by rw [hs.out];exact r)
theorem StE.nodes {rec:Nat→MS→MS} {ts:List Au} {i base n c:Nat} {A:Option Addr} (hg:Hid (Do rec)) (hkl:Hid ((Am ts i).length≤100000)) (hr:Hid (∀ j∈Am ts i,E6 w0 B kb tv im tm mb rec j)) (ho:Hid (wl0.ownsRow base 3 1 (.slice A n c) n (AQ ((Am ts i).map fun j:Nat=>(j:Int))))) (hs:Hid (s'=Bw rec (Am ts i) s)) (hm:s'.ms≤1000000) :
  Calls Tryz.prog 145 #[.pointer (some ⟨kb,0,none⟩),.slice A n c] w (NxE w0 wl0 B kb tv im tm mb w s'):=
 (Hd w0 B kb tv im tm mb rec hg.out (Am ts i) A n c base s w hr.out h.low h.k (hs.out▸hm) hkl.out (h.f.own ho.out (by decide))).mono fun e w' r=>h.nx (by rw [hs.out];exact r)
theorem StE.num {pi:Int→Option Int} (hp:Hid (DR w0 B im pi)) (n:Int) (hs:Hid (s'=C9 (pi n) s)):Calls Tryz.prog 203 #[.pointer (some ⟨kb,0,none⟩),.int .i64 n] w fun e w'=>e=.returned (.int .i64 ((pi n).getD 0))∧StE w0 wl0 B kb tv im tm mb s' w'∧Frm B TE w w':=
 (GG B kb tv im tm mb s w h.k pi n (hp.out.below h.low)).mono fun e w' r=>⟨r.1,⟨h.be,by rw [hs.out];exact r.2.1,h.f.trans r.2.2⟩,r.2.2⟩
theorem StE.here {ga gb p:Nat} (k:Hid (AhE w kb ga gb p)) (hs:Hid (s'=Bq p s)) (hm:s.ms≤1000000):Calls Tryz.prog 161 #[.pointer (some ⟨ga,0,none⟩),.pointer (some ⟨gb,0,none⟩)] w (NxE w0 wl0 B kb tv im tm mb w s'):=
 (IJ B kb tv im tm mb s p ga gb w h.k k.out.1 k.out.2 hm).mono fun e w' r=>h.nx (by rw [hs.out];exact r)
theorem StE.ahd {c:Int} {x:List Int} {e:Ending} {w':World} (hs:Hid (s'=AI c x s)) (r:∃ v,e=.returned v∧LA w' kb v (AI c x s).at_∧EK w' B kb tv im tm mb (AI c x s)∧Frm B TE w w') :
  ∃ ga gb,e=.returned (.func (.func 161) #[] #[.pointer (some ⟨ga,0,none⟩),.pointer (some ⟨gb,0,none⟩)])∧StE w0 wl0 B kb tv im tm mb s' w'∧Frm B TE w w'∧Hid (AhE w' kb ga gb s'.at_):=by
 obtain⟨v,e1,⟨ga,gb,e2,k1,k2⟩,h1,f⟩:=r
 rw [hs.out,e1,e2]
 exact ⟨ga,gb,rfl,⟨h.be,h1,h.f.trans f⟩,f,k1,k2⟩
theorem StE.ah0 (c:Int) (hs:Hid (s'=AI c [] s)) (hm:s.ms + 2≤1000000):Calls Tryz.prog 107 #[.pointer (some ⟨kb,0,none⟩),.int .u8 c,.slice none 0 0] w fun e w'=>∃ ga gb,e=.returned (.func (.func 161) #[] #[.pointer (some ⟨ga,0,none⟩),.pointer (some ⟨gb,0,none⟩)])∧StE w0 wl0 B kb tv im tm mb s' w'∧Frm B TE w w'∧Hid (AhE w' kb ga gb s'.at_):=
 (Hh B kb tv im tm mb s c w h.k hm).mono fun e w' r=>h.ahd hs r
theorem StE.ah2 (c x y:Int) (hs:Hid (s'=AI c [x,y] s)) (hm:s.ms + 4≤1000000):Calls Tryz.prog 107 #[.pointer (some ⟨kb,0,none⟩),.int .u8 c,.slice (some ⟨w.heap.size,0,none⟩) 2 2] (w.alloc (.cells #[.int .u8 x,.int .u8 y] 5)) fun e w'=>∃ ga gb,e=.returned (.func (.func 161) #[] #[.pointer (some ⟨ga,0,none⟩),.pointer (some ⟨gb,0,none⟩)])∧StE w0 wl0 B kb tv im tm mb s' w'∧Frm B TE w w'∧Hid (AhE w' kb ga gb s'.at_):=
 (Mu B kb tv im tm mb s c w h.k x y hm).mono fun e w' r=>h.ahd hs r
theorem StE.kid {base n c k j g:Nat} {l:List Nat} (ho:Hid (wl0.ownsRow base 3 1 (.slice (some ⟨g,0,none⟩) n c) n (AQ (l.map fun j:Nat=>(j:Int))))) (hj:l[k]? = some j):w.cell? ⟨g,k,none⟩=some (.int .i64 j):=Bo (h.f.own ho.out (by decide)) hj
theorem StE.cell {g:Nat} {cs:Array Value} (v:Value) (i:Nat) (k:Hid (Blk wl0 g 120 cs)) (e:cs[i]? = some v):w.cell? ⟨g,i,none⟩=some v:=by rw [← e];exact (h.f.blk k.out (by decide)).cell i
end
theorem u8e (x:Au):IntKind.u8.wrap x.n=u8 x.n∧IntKind.u8.wrap x.m=u8 x.m∧IntKind.u8.wrap (u8 x.m + 1)=u8 (u8 x.m + 1):=⟨rfl,rfl,rfl⟩
theorem CE {w0 w:World} {B kb base n c:Nat} {tv im tm mb:Value} {s:MS} {A:Option Addr} {l:List Value} (x:Au) (hb:Below B w0 w) (h:EK w B kb tv im tm mb s) (ho:w.ownsRow base 3 1 (.slice A n c) n l) :
  ∃ wl0,Hid (wl0=w.alloc (.cells #[.int .i8 x.op,.int .i8 x.kind,.int .i64 x.n,.int .i64 x.m,.string x.text,.int .i64 x.pos,.int .i64 x.kids] 120))∧StE w0 wl0 B kb tv im tm mb s wl0∧Hid (wl0.ownsRow base 3 1 (.slice A n c) n l)∧Frm B TE w wl0∧Hid (Blk wl0 w.heap.size 120 #[.int .i8 x.op,.int .i8 x.kind,.int .i64 x.n,.int .i64 x.m,.string x.text,.int .i64 x.pos,.int .i64 x.kids]):=by
 obtain⟨wl0,hw1,hb,h,ho,f0,kn⟩:=KY x hb h ho
 exact ⟨wl0,hw1,⟨hb,h,Frm.refl _ _ _⟩,ho,f0,kn⟩
theorem Fs {w:World} {base n c:Nat} {A:Option Addr} {l:List Nat} {j:Nat} (ho:w.ownsRow base 3 1 (.slice A n c) n (AQ (l.map fun j:Nat=>(j:Int)))) (hj:l[0]? = some j):∃ g,n=l.length∧A=some ⟨g,0,none⟩∧g < w.heap.size:=by
 obtain⟨h1,_,g,h2,h3⟩:=By ho hj
 exact ⟨g,h1.symm,h2,h3⟩
def Lf (g:Nat):Value:=.agg #[.func (.func 159) #[] #[.pointer (some ⟨g,0,none⟩)]]
theorem Su (mk tbx:Nat) (f:Int→Option Value) (op c:Int) (w:World) (hm:MK Cg w mk f) (kt:Blk w tbx 147 #[.map (some mk)]) :
  Calls Tryz.prog 158 #[.int .i8 op,.int .u8 c,.pointer (some ⟨tbx,0,none⟩)] w fun e w'=>e=.returned (.tuple #[])∧Blk w' w.heap.size 5 #[.int .u8 c]∧MK Cg w' mk (upd Cg f op (some (Lf w.heap.size)))∧w.grownBy w' (some mk)∧w.heap.size < w'.heap.size:=by
 have ct:w.cell? ⟨tbx,0,none⟩=some (.map (some mk)):=kt.cell 0
 have hlt:=hm.lt Cg
 have htl:=kt.lt
 obtain⟨w1,hw1⟩:=Ex0 (w.alloc (.cells #[.int .u8 c] 5))
 have m1:MK Cg w1 mk f:=by rw [hw1];exact hm.alloc Cg _
 have k1:Blk w1 w.heap.size 5 #[.int .u8 c]:=by rw [hw1];exact Blk.new w _ _
 have ct1:w1.cell? ⟨tbx,0,none⟩=some (.map (some mk)):=by rw [hw1];exact (kt.alloc _).cell 0
 obtain⟨w2,hup,m2,g2⟩:=m1.update Cg Tryz.underlying147 op (Lf w.heap.size)
 have hup2:(Instr.mapUpdate 147 (.map (some mk)) (.int .i8 op) (.agg #[.func (.func 159) #[] #[.pointer (some ⟨w.heap.size,0,none⟩)]])).run Tryz.prog w1=.ok () w2:=hup
 have hz:w1.heap.size=w.heap.size + 1:=by rw [hw1];simp
 have k2:=k1.grown g2 (by intro e;injection e with e;omega)
 have g02:w.grownBy w2 (some mk):=by
  refine ⟨?_,?_,?_,by have:=g2.size;omega,fun k hk hne=>?_⟩
  ·rw [g2.os,hw1];rfl
  ·rw [g2.tape,hw1];rfl
  ·rw [g2.output,hw1];rfl
  ·rw [g2.block k (by omega) hne,hw1]
   exact Below.heap_alloc w _ k hk
 have hz2:=g2.size
 obtain⟨HW,K2,M2,G2⟩:=Hd4 hw1 k2 m2 g02
 rw [hw1] at hup2 ct1
 clear hm kt hw1 m1 k1 hup m2 g2 k2 g02
 go_in
 go_wp2_with fail
 go_end0
 exact ⟨rfl,K2.out,M2.out,G2.out,by omega⟩
theorem OJ (f:Int→Option Value) (x y:Int) (v:Option Value):upd Cg f x v y=if y=x then v else f y:=by
 unfold upd
 have:Cg.eqb y x=decide (y=x):=by show (y == x)=_;rw [Bool.eq_iff_iff];simp
 rw [this]
 by_cases h:y=x <;> simp [h]
structure Pc (w:World) (mk tbx:Nat) (f:Int→Option Value) (done:List (Int × Int)):Prop where
 map:MK Cg w mk f
 box:Blk w tbx 147 #[.map (some mk)]
 st:∀ op K,EE op=some K→op≠11→op≠12→f op=some (.agg #[.func (.func K) #[] #[]])
 pl:∀ p∈done,∃ g,g < w.heap.size∧f p.1=some (Lf g)∧Blk w g 5 #[.int .u8 p.2]
theorem Jq {w:World} {mk g:Nat} {f:Int→Option Value} {t:TypeId} {cs:Array Value} (h:MK Cg w mk f) (k:Blk w g t cs):g≠mk:=by
 rintro rfl
 obtain⟨es,clock,l,hb,_⟩:=h
 have hk:w.heap[g]? = some (.cells cs t (0,0)):=k
 rw [hk] at hb
 injection hb with hb
 cases hb
theorem Pc.step {w w':World} {mk tbx:Nat} {f:Int→Option Value} {done:List (Int × Int)} {op c:Int} (h:Pc w mk tbx f done) (hs:EE op=none∨op=11∨op=12) (hd:∀ p∈done,p.1≠op) (m:MK Cg w' mk (upd Cg f op (some (Lf w.heap.size)))) (k:Blk w' w.heap.size 5 #[.int .u8 c]) (g:w.grownBy w' (some mk)) (hz:w.heap.size < w'.heap.size) :
  Pc w' mk tbx (upd Cg f op (some (Lf w.heap.size))) ((op,c) :: done):=by
 refine ⟨m,h.box.grown g (by intro e;injection e with e;exact Jq h.map h.box e),fun o K hK h1 h2=>?_,fun p hp=>?_⟩
 ·rw [OJ,if_neg]
  ·exact h.st o K hK h1 h2
  ·rintro rfl
   rcases hs with hs | hs | hs
   ·rw [hs] at hK;cases hK
   ·exact h1 hs
   ·exact h2 hs
 ·rcases List.mem_cons.1 hp with rfl | hp
  ·exact ⟨_,hz,by rw [OJ,if_pos rfl],k⟩
  ·obtain⟨q,h1,h2,h3⟩:=h.pl p hp
   exact ⟨q,by omega,by rw [OJ,if_neg (hd p hp)];exact h2,h3.grown g (by intro e;injection e with e;exact Jq h.map h3 e)⟩
theorem CQ {w:World} {mk tbx:Nat} {f:Int→Option Value} {done:List (Int × Int)} (op c:Int) (h:Pc w mk tbx f done) (hs:EE op=none∨op=11∨op=12) (hd:∀ p∈done,p.1≠op) :
  Calls Tryz.prog 158 #[.int .i8 op,.int .u8 c,.pointer (some ⟨tbx,0,none⟩)] w fun e w'=>e=.returned (.tuple #[])∧(∃ f',Pc w' mk tbx f' ((op,c) :: done))∧w.grownBy w' (some mk):=by
 refine (Su mk tbx f op c w h.map h.box).mono ?_
 rintro e w' ⟨rfl,h1,h2,h3,h4⟩
 exact ⟨rfl,⟨_,h.step hs hd h2 h1 h3 h4⟩,h3⟩
def Vk:List (Int × Int):=[(40,19),(41,20),(42,21),(43,22),(44,10),(45,11),(46,12),(47,13),(48,14)]
def UL (k:Nat):List (Int × Int):=(Vk.take k).reverse
theorem Sa {op c:Int} (h:Cf op=some c):(op,c)∈((18,35):Int × Int) :: ((17,34):Int × Int) :: ((32,3):Int × Int) :: ((31,2):Int × Int) :: ((35,15):Int × Int) :: ((34,23):Int × Int) :: UL 9:=by
 have hop:op=40∨op=41∨op=42∨op=43∨op=44∨op=45∨op=46∨op=47∨op=48∨op=34∨op=35∨op=31∨op=32∨op=17∨op=18:=by
  by_cases hn:op=40∨op=41∨op=42∨op=43∨op=44∨op=45∨op=46∨op=47∨op=48∨op=34∨op=35∨op=31∨op=32∨op=17∨op=18
  ·exact hn
  ·exfalso
   unfold Cf at h
   rw [if_neg (by omega),if_neg (by omega),if_neg (by omega),if_neg (by omega),if_neg (by omega),if_neg (by omega),if_neg (by omega),if_neg (by omega),if_neg (by omega),if_neg (by omega),if_neg (by omega),if_neg (by omega),if_neg (by omega),if_neg (by omega),if_neg (by omega)] at h
   cases h
 rcases hop with rfl | rfl | rfl | rfl | rfl | rfl | rfl | rfl | rfl | rfl | rfl | rfl | rfl | rfl | rfl <;> (injection h with h;subst h;decide)
noncomputable def Tu:Int→Option Value:=
 upd Cg (upd Cg (upd Cg (upd Cg (upd Cg (upd Cg (upd Cg (upd Cg (upd Cg (upd Cg (upd Cg (upd Cg (upd Cg (upd Cg ((fun _=>none)) 10 (some (.agg #[.func (.func 144) #[] #[]]))) 30 (some (.agg #[.func (.func 146) #[] #[]]))) 33 (some (.agg #[.func (.func 148) #[] #[]]))) 36 (some (.agg #[.func (.func 149) #[] #[]]))) 37 (some (.agg #[.func (.func 150) #[] #[]]))) 38 (some (.agg #[.func (.func 151) #[] #[]]))) 39 (some (.agg #[.func (.func 151) #[] #[]]))) 50 (some (.agg #[.func (.func 152) #[] #[]]))) 13 (some (.agg #[.func (.func 153) #[] #[]]))) 16 (some (.agg #[.func (.func 153) #[] #[]]))) 14 (some (.agg #[.func (.func 154) #[] #[]]))) 15 (some (.agg #[.func (.func 155) #[] #[]]))) 49 (some (.agg #[.func (.func 156) #[] #[]]))) 19 (some (.agg #[.func (.func 157) #[] #[]]))
theorem Uv (op:Int) (K:FuncId) (h:EE op=some K) (h1:op≠11) (h2:op≠12):Tu op=some (.agg #[.func (.func K) #[] #[]]):=by
 unfold Tu
 simp only [OJ]
 have hop:op=10∨op=30∨op=33∨op=36∨op=37∨op=38∨op=39∨op=50∨op=13∨op=16∨op=14∨op=15∨op=49∨op=19:=by
  by_cases hn:op=10∨op=30∨op=33∨op=36∨op=37∨op=38∨op=39∨op=50∨op=13∨op=16∨op=14∨op=15∨op=49∨op=19
  ·exact hn
  ·exfalso
   unfold EE at h
   rw [if_neg (by omega),if_neg (by omega),if_neg (by omega),if_neg (by omega),if_neg (by omega),if_neg (by omega),if_neg (by omega),if_neg (by omega),if_neg (by omega),if_neg (by omega),if_neg (by omega),if_neg (by omega),if_neg (by omega),if_neg (by omega),if_neg (by omega),if_neg (by omega)] at h
   cases h
 rcases hop with rfl | rfl | rfl | rfl | rfl | rfl | rfl | rfl | rfl | rfl | rfl | rfl | rfl | rfl <;> (injection h with h;subst h;rfl)
theorem GV (w:World):Calls Tryz.prog 105 #[] w fun e w'=>∃ mb,e=.returned mb∧Gq w' w'.heap.size mb∧Below w.heap.size w w':=by
 have hmm:=@run_makeMap Tryz.prog
 have m0:=MK.made Cg w
 have hB0:Below w.heap.size w (w.alloc (.map #[] 0)):=(Below.refl _ _).alloc (Nat.le_refl _) _
 generalize hw0:w.alloc (.map #[] 0)=w0 at m0 hB0
 have hs0:w.heap.size≤w0.heap.size:=hB0.size
 obtain⟨w1,r1,m1,g1⟩:=m0.update Cg Tryz.underlying147 (10:Int) (.agg #[.func (.func 144) #[] #[]])
 have hB1:=hB0.grown g1 hB0.size (fun k hk=>by injection hk with hk;omega)
 clear hB0 g1 m0
 obtain⟨w2,r2,m2,g2⟩:=m1.update Cg Tryz.underlying147 (30:Int) (.agg #[.func (.func 146) #[] #[]])
 have hB2:=hB1.grown g2 hB1.size (fun k hk=>by injection hk with hk;omega)
 clear hB1 g2 m1
 obtain⟨w3,r3,m3,g3⟩:=m2.update Cg Tryz.underlying147 (33:Int) (.agg #[.func (.func 148) #[] #[]])
 have hB3:=hB2.grown g3 hB2.size (fun k hk=>by injection hk with hk;omega)
 clear hB2 g3 m2
 obtain⟨w4,r4,m4,g4⟩:=m3.update Cg Tryz.underlying147 (36:Int) (.agg #[.func (.func 149) #[] #[]])
 have hB4:=hB3.grown g4 hB3.size (fun k hk=>by injection hk with hk;omega)
 clear hB3 g4 m3
 obtain⟨w5,r5,m5,g5⟩:=m4.update Cg Tryz.underlying147 (37:Int) (.agg #[.func (.func 150) #[] #[]])
 have hB5:=hB4.grown g5 hB4.size (fun k hk=>by injection hk with hk;omega)
 clear hB4 g5 m4
 obtain⟨w6,r6,m6,g6⟩:=m5.update Cg Tryz.underlying147 (38:Int) (.agg #[.func (.func 151) #[] #[]])
 have hB6:=hB5.grown g6 hB5.size (fun k hk=>by injection hk with hk;omega)
 clear hB5 g6 m5
 obtain⟨w7,r7,m7,g7⟩:=m6.update Cg Tryz.underlying147 (39:Int) (.agg #[.func (.func 151) #[] #[]])
 have hB7:=hB6.grown g7 hB6.size (fun k hk=>by injection hk with hk;omega)
 clear hB6 g7 m6
 obtain⟨w8,r8,m8,g8⟩:=m7.update Cg Tryz.underlying147 (50:Int) (.agg #[.func (.func 152) #[] #[]])
 have hB8:=hB7.grown g8 hB7.size (fun k hk=>by injection hk with hk;omega)
 clear hB7 g8 m7
 obtain⟨w9,r9,m9,g9⟩:=m8.update Cg Tryz.underlying147 (13:Int) (.agg #[.func (.func 153) #[] #[]])
 have hB9:=hB8.grown g9 hB8.size (fun k hk=>by injection hk with hk;omega)
 clear hB8 g9 m8
 obtain⟨w10,r10,m10,g10⟩:=m9.update Cg Tryz.underlying147 (16:Int) (.agg #[.func (.func 153) #[] #[]])
 have hB10:=hB9.grown g10 hB9.size (fun k hk=>by injection hk with hk;omega)
 clear hB9 g10 m9
 obtain⟨w11,r11,m11,g11⟩:=m10.update Cg Tryz.underlying147 (14:Int) (.agg #[.func (.func 154) #[] #[]])
 have hB11:=hB10.grown g11 hB10.size (fun k hk=>by injection hk with hk;omega)
 clear hB10 g11 m10
 obtain⟨w12,r12,m12,g12⟩:=m11.update Cg Tryz.underlying147 (15:Int) (.agg #[.func (.func 155) #[] #[]])
 have hB12:=hB11.grown g12 hB11.size (fun k hk=>by injection hk with hk;omega)
 clear hB11 g12 m11
 obtain⟨w13,r13,m13,g13⟩:=m12.update Cg Tryz.underlying147 (49:Int) (.agg #[.func (.func 156) #[] #[]])
 have hB13:=hB12.grown g13 hB12.size (fun k hk=>by injection hk with hk;omega)
 clear hB12 g13 m12
 obtain⟨w14,r14,m14,g14⟩:=m13.update Cg Tryz.underlying147 (19:Int) (.agg #[.func (.func 157) #[] #[]])
 have hB14:=hB13.grown g14 hB13.size (fun k hk=>by injection hk with hk;omega)
 clear hB13 g14 m13
 have hlm:=m14.lt Cg
 obtain⟨wb,hwb⟩:=Ex0 (w14.alloc (.cells #[.map (some w.heap.size)] 147))
 have ti:Pc wb w.heap.size w14.heap.size Tu []:=by
  rw [hwb]
  exact ⟨m14.alloc Cg _,Blk.new _ _ _,Uv,fun p hp=>by simp at hp⟩
 have bb:Below w.heap.size w wb:=by rw [hwb];exact hB14.alloc hB14.size _
 obtain⟨TI0,BB0,HWB⟩:=Hd3 ti bb hwb
 have hzb:wb.heap.size=w14.heap.size + 1:=by rw [hwb];simp
 clear m14 hB14 hs0 ti bb
 subst hw0
 have s1:(Instr.mapUpdate 147 (.map (some w.heap.size)) (.int .i8 10) (.agg #[.func (.func 144) #[] #[]])).run Tryz.prog (w.alloc (.map #[] 0))=.ok () w1:=r1
 have s2:(Instr.mapUpdate 147 (.map (some w.heap.size)) (.int .i8 30) (.agg #[.func (.func 146) #[] #[]])).run Tryz.prog w1=.ok () w2:=r2
 have s3:(Instr.mapUpdate 147 (.map (some w.heap.size)) (.int .i8 33) (.agg #[.func (.func 148) #[] #[]])).run Tryz.prog w2=.ok () w3:=r3
 have s4:(Instr.mapUpdate 147 (.map (some w.heap.size)) (.int .i8 36) (.agg #[.func (.func 149) #[] #[]])).run Tryz.prog w3=.ok () w4:=r4
 have s5:(Instr.mapUpdate 147 (.map (some w.heap.size)) (.int .i8 37) (.agg #[.func (.func 150) #[] #[]])).run Tryz.prog w4=.ok () w5:=r5
 have s6:(Instr.mapUpdate 147 (.map (some w.heap.size)) (.int .i8 38) (.agg #[.func (.func 151) #[] #[]])).run Tryz.prog w5=.ok () w6:=r6
 have s7:(Instr.mapUpdate 147 (.map (some w.heap.size)) (.int .i8 39) (.agg #[.func (.func 151) #[] #[]])).run Tryz.prog w6=.ok () w7:=r7
 have s8:(Instr.mapUpdate 147 (.map (some w.heap.size)) (.int .i8 50) (.agg #[.func (.func 152) #[] #[]])).run Tryz.prog w7=.ok () w8:=r8
 have s9:(Instr.mapUpdate 147 (.map (some w.heap.size)) (.int .i8 13) (.agg #[.func (.func 153) #[] #[]])).run Tryz.prog w8=.ok () w9:=r9
 have s10:(Instr.mapUpdate 147 (.map (some w.heap.size)) (.int .i8 16) (.agg #[.func (.func 153) #[] #[]])).run Tryz.prog w9=.ok () w10:=r10
 have s11:(Instr.mapUpdate 147 (.map (some w.heap.size)) (.int .i8 14) (.agg #[.func (.func 154) #[] #[]])).run Tryz.prog w10=.ok () w11:=r11
 have s12:(Instr.mapUpdate 147 (.map (some w.heap.size)) (.int .i8 15) (.agg #[.func (.func 155) #[] #[]])).run Tryz.prog w11=.ok () w12:=r12
 have s13:(Instr.mapUpdate 147 (.map (some w.heap.size)) (.int .i8 49) (.agg #[.func (.func 156) #[] #[]])).run Tryz.prog w12=.ok () w13:=r13
 have s14:(Instr.mapUpdate 147 (.map (some w.heap.size)) (.int .i8 19) (.agg #[.func (.func 157) #[] #[]])).run Tryz.prog w13=.ok () w14:=r14
 clear r1 r2 r3 r4 r5 r6 r7 r8 r9 r10 r11 r12 r13 r14
 have lb:=Blk.new wb 5 #[.int .u8 19,.int .u8 20,.int .u8 21,.int .u8 22,.int .u8 10,.int .u8 11,.int .u8 12,.int .u8 13,.int .u8 14]
 have ti1:Pc (wb.alloc (.cells #[.int .u8 19,.int .u8 20,.int .u8 21,.int .u8 22,.int .u8 10,.int .u8 11,.int .u8 12,.int .u8 13,.int .u8 14] 5)) w.heap.size w14.heap.size Tu []:=⟨TI0.out.map.alloc Cg _,TI0.out.box.alloc _,TI0.out.st,fun p hp=>by simp at hp⟩
 have bb1:Below w.heap.size w (wb.alloc (.cells #[.int .u8 19,.int .u8 20,.int .u8 21,.int .u8 22,.int .u8 10,.int .u8 11,.int .u8 12,.int .u8 13,.int .u8 14] 5)):=BB0.out.alloc BB0.out.size _
 obtain⟨LB,TI1,BB1⟩:=Hd3 lb ti1 bb1
 clear lb ti1 bb1
 clear hwb
 go_in
 go_wp2_with fail
 rw [← HWB.out]
 have hzw:=TI0.out.box.lt
 go_loopw [3,4,25] (fun _ _ iv wr=>∃ (k:Nat) (f:Int→Option Value),k≤9∧iv=.int .i64 k∧Pc wr w.heap.size w14.heap.size f (UL k)∧Below w.heap.size w wr∧Blk wr wb.heap.size 5 #[.int .u8 19,.int .u8 20,.int .u8 21,.int .u8 22,.int .u8 10,.int .u8 11,.int .u8 12,.int .u8 13,.int .u8 14]) (fun _ _ iv _=>9 - (intOf iv).toNat)
 case atStart=>exact ⟨0,Tu,by omega,rfl,TI1.out,BB1.out,LB.out⟩
 case round =>
  obtain⟨k,f,hk9,rfl,hti,hbel,hlb⟩:=hrel
  have hk:k=0∨k=1∨k=2∨k=3∨k=4∨k=5∨k=6∨k=7∨k=8∨k=9:=by omega
  have hne:=Jq hti.map hlb
  rcases hk with rfl | rfl | rfl | rfl | rfl | rfl | rfl | rfl | rfl | rfl
  ·have hc:wr.cell? ⟨wb.heap.size,0,none⟩=some (.int .u8 19):=hlb.cell 0
   rw [hzb] at hc
   have hcall:=CQ 40 19 hti (.inl rfl) (by decide)
   obtain⟨HC,HLB,HBE⟩:=Hd3 hcall hlb hbel
   clear hcall hti hlb hbel
   go_wp2_with fail
   refine HC.out.mono ?_
   rintro e w2 ⟨rfl,⟨f2,hti2⟩,hg2⟩
   obtain⟨HT2,HL2,HB2⟩:=Hd3 hti2 (HLB.out.grown hg2 (by intro e;injection e with e;exact hne e)) (HBE.out.grown hg2 HBE.out.size (fun q hq=>by injection hq with hq;omega))
   clear hti2 hg2
   go_wp2_with fail
   go_roundw
   case rel=>exact ⟨1,f2,by omega,rfl,HT2.out,HB2.out,HL2.out⟩
   case measure=>(simp [intOf];try omega)
  ·have hc:wr.cell? ⟨wb.heap.size,1,none⟩=some (.int .u8 20):=hlb.cell 1
   rw [hzb] at hc
   have hcall:=CQ 41 20 hti (.inl rfl) (by decide)
   obtain⟨HC,HLB,HBE⟩:=Hd3 hcall hlb hbel
   clear hcall hti hlb hbel
   go_wp2_with fail
   refine HC.out.mono ?_
   rintro e w2 ⟨rfl,⟨f2,hti2⟩,hg2⟩
   obtain⟨HT2,HL2,HB2⟩:=Hd3 hti2 (HLB.out.grown hg2 (by intro e;injection e with e;exact hne e)) (HBE.out.grown hg2 HBE.out.size (fun q hq=>by injection hq with hq;omega))
   clear hti2 hg2
   go_wp2_with fail
   go_roundw
   case rel=>exact ⟨2,f2,by omega,rfl,HT2.out,HB2.out,HL2.out⟩
   case measure=>(simp [intOf];try omega)
  ·have hc:wr.cell? ⟨wb.heap.size,2,none⟩=some (.int .u8 21):=hlb.cell 2
   rw [hzb] at hc
   have hcall:=CQ 42 21 hti (.inl rfl) (by decide)
   obtain⟨HC,HLB,HBE⟩:=Hd3 hcall hlb hbel
   clear hcall hti hlb hbel
   go_wp2_with fail
   refine HC.out.mono ?_
   rintro e w2 ⟨rfl,⟨f2,hti2⟩,hg2⟩
   obtain⟨HT2,HL2,HB2⟩:=Hd3 hti2 (HLB.out.grown hg2 (by intro e;injection e with e;exact hne e)) (HBE.out.grown hg2 HBE.out.size (fun q hq=>by injection hq with hq;omega))
   clear hti2 hg2
   go_wp2_with fail
   go_roundw
   case rel=>exact ⟨3,f2,by omega,rfl,HT2.out,HB2.out,HL2.out⟩
   case measure=>(simp [intOf];try omega)
  ·have hc:wr.cell? ⟨wb.heap.size,3,none⟩=some (.int .u8 22):=hlb.cell 3
   rw [hzb] at hc
   have hcall:=CQ 43 22 hti (.inl rfl) (by decide)
   obtain⟨HC,HLB,HBE⟩:=Hd3 hcall hlb hbel
   clear hcall hti hlb hbel
   go_wp2_with fail
   refine HC.out.mono ?_
   rintro e w2 ⟨rfl,⟨f2,hti2⟩,hg2⟩
   obtain⟨HT2,HL2,HB2⟩:=Hd3 hti2 (HLB.out.grown hg2 (by intro e;injection e with e;exact hne e)) (HBE.out.grown hg2 HBE.out.size (fun q hq=>by injection hq with hq;omega))
   clear hti2 hg2
   go_wp2_with fail
   go_roundw
   case rel=>exact ⟨4,f2,by omega,rfl,HT2.out,HB2.out,HL2.out⟩
   case measure=>(simp [intOf];try omega)
  ·have hc:wr.cell? ⟨wb.heap.size,4,none⟩=some (.int .u8 10):=hlb.cell 4
   rw [hzb] at hc
   have hcall:=CQ 44 10 hti (.inl rfl) (by decide)
   obtain⟨HC,HLB,HBE⟩:=Hd3 hcall hlb hbel
   clear hcall hti hlb hbel
   go_wp2_with fail
   refine HC.out.mono ?_
   rintro e w2 ⟨rfl,⟨f2,hti2⟩,hg2⟩
   obtain⟨HT2,HL2,HB2⟩:=Hd3 hti2 (HLB.out.grown hg2 (by intro e;injection e with e;exact hne e)) (HBE.out.grown hg2 HBE.out.size (fun q hq=>by injection hq with hq;omega))
   clear hti2 hg2
   go_wp2_with fail
   go_roundw
   case rel=>exact ⟨5,f2,by omega,rfl,HT2.out,HB2.out,HL2.out⟩
   case measure=>(simp [intOf];try omega)
  ·have hc:wr.cell? ⟨wb.heap.size,5,none⟩=some (.int .u8 11):=hlb.cell 5
   rw [hzb] at hc
   have hcall:=CQ 45 11 hti (.inl rfl) (by decide)
   obtain⟨HC,HLB,HBE⟩:=Hd3 hcall hlb hbel
   clear hcall hti hlb hbel
   go_wp2_with fail
   refine HC.out.mono ?_
   rintro e w2 ⟨rfl,⟨f2,hti2⟩,hg2⟩
   obtain⟨HT2,HL2,HB2⟩:=Hd3 hti2 (HLB.out.grown hg2 (by intro e;injection e with e;exact hne e)) (HBE.out.grown hg2 HBE.out.size (fun q hq=>by injection hq with hq;omega))
   clear hti2 hg2
   go_wp2_with fail
   go_roundw
   case rel=>exact ⟨6,f2,by omega,rfl,HT2.out,HB2.out,HL2.out⟩
   case measure=>(simp [intOf];try omega)
  ·have hc:wr.cell? ⟨wb.heap.size,6,none⟩=some (.int .u8 12):=hlb.cell 6
   rw [hzb] at hc
   have hcall:=CQ 46 12 hti (.inl rfl) (by decide)
   obtain⟨HC,HLB,HBE⟩:=Hd3 hcall hlb hbel
   clear hcall hti hlb hbel
   go_wp2_with fail
   refine HC.out.mono ?_
   rintro e w2 ⟨rfl,⟨f2,hti2⟩,hg2⟩
   obtain⟨HT2,HL2,HB2⟩:=Hd3 hti2 (HLB.out.grown hg2 (by intro e;injection e with e;exact hne e)) (HBE.out.grown hg2 HBE.out.size (fun q hq=>by injection hq with hq;omega))
   clear hti2 hg2
   go_wp2_with fail
   go_roundw
   case rel=>exact ⟨7,f2,by omega,rfl,HT2.out,HB2.out,HL2.out⟩
   case measure=>(simp [intOf];try omega)
  ·have hc:wr.cell? ⟨wb.heap.size,7,none⟩=some (.int .u8 13):=hlb.cell 7
   rw [hzb] at hc
   have hcall:=CQ 47 13 hti (.inl rfl) (by decide)
   obtain⟨HC,HLB,HBE⟩:=Hd3 hcall hlb hbel
   clear hcall hti hlb hbel
   go_wp2_with fail
   refine HC.out.mono ?_
   rintro e w2 ⟨rfl,⟨f2,hti2⟩,hg2⟩
   obtain⟨HT2,HL2,HB2⟩:=Hd3 hti2 (HLB.out.grown hg2 (by intro e;injection e with e;exact hne e)) (HBE.out.grown hg2 HBE.out.size (fun q hq=>by injection hq with hq;omega))
   clear hti2 hg2
   go_wp2_with fail
   go_roundw
   case rel=>exact ⟨8,f2,by omega,rfl,HT2.out,HB2.out,HL2.out⟩
   case measure=>(simp [intOf];try omega)
  ·have hc:wr.cell? ⟨wb.heap.size,8,none⟩=some (.int .u8 14):=hlb.cell 8
   rw [hzb] at hc
   have hcall:=CQ 48 14 hti (.inl rfl) (by decide)
   obtain⟨HC,HLB,HBE⟩:=Hd3 hcall hlb hbel
   clear hcall hti hlb hbel
   go_wp2_with fail
   refine HC.out.mono ?_
   rintro e w2 ⟨rfl,⟨f2,hti2⟩,hg2⟩
   obtain⟨HT2,HL2,HB2⟩:=Hd3 hti2 (HLB.out.grown hg2 (by intro e;injection e with e;exact hne e)) (HBE.out.grown hg2 HBE.out.size (fun q hq=>by injection hq with hq;omega))
   clear hti2 hg2
   go_wp2_with fail
   go_roundw
   case rel=>exact ⟨9,f2,by omega,rfl,HT2.out,HB2.out,HL2.out⟩
   case measure=>(simp [intOf];try omega)
  ·have HT0:=Lh hti
   have HB0:=Lh hbel
   clear hti hbel hlb
   go_wp2_with fail
   refine (CQ 34 23 HT0.out (.inl rfl) (by decide)).mono ?_
   rintro e v1 ⟨rfl,⟨f1,hti⟩,hg⟩
   obtain⟨HT1,HB1⟩:=Hd2 hti (HB0.out.grown hg HB0.out.size (fun q hq=>by injection hq with hq;omega))
   clear hti hg
   go_wp2_with fail
   refine (CQ 35 15 HT1.out (.inl rfl) (by decide)).mono ?_
   rintro e v2 ⟨rfl,⟨f2,hti⟩,hg⟩
   obtain⟨HT2,HB2⟩:=Hd2 hti (HB1.out.grown hg HB1.out.size (fun q hq=>by injection hq with hq;omega))
   clear hti hg
   go_wp2_with fail
   refine (CQ 31 2 HT2.out (.inl rfl) (by decide)).mono ?_
   rintro e v3 ⟨rfl,⟨f3,hti⟩,hg⟩
   obtain⟨HT3,HB3⟩:=Hd2 hti (HB2.out.grown hg HB2.out.size (fun q hq=>by injection hq with hq;omega))
   clear hti hg
   go_wp2_with fail
   refine (CQ 32 3 HT3.out (.inl rfl) (by decide)).mono ?_
   rintro e v4 ⟨rfl,⟨f4,hti⟩,hg⟩
   obtain⟨HT4,HB4⟩:=Hd2 hti (HB3.out.grown hg HB3.out.size (fun q hq=>by injection hq with hq;omega))
   clear hti hg
   go_wp2_with fail
   refine (CQ 17 34 HT4.out (.inl rfl) (by decide)).mono ?_
   rintro e v5 ⟨rfl,⟨f5,hti⟩,hg⟩
   obtain⟨HT5,HB5⟩:=Hd2 hti (HB4.out.grown hg HB4.out.size (fun q hq=>by injection hq with hq;omega))
   clear hti hg
   go_wp2_with fail
   refine (CQ 18 35 HT5.out (.inl rfl) (by decide)).mono ?_
   rintro e v6 ⟨rfl,⟨f6,hti⟩,hg⟩
   obtain⟨HT6,HB6⟩:=Hd2 hti (HB5.out.grown hg HB5.out.size (fun q hq=>by injection hq with hq;omega))
   clear hti hg
   go_wp2_with fail
   have hbx:=(HT6.out.box.alloc (.cells #[.func (.func 160) #[] #[]] 211)).drew
   have hst:Blk ((v6.alloc (.cells #[.func (.func 160) #[] #[]] 211)).drew) v6.heap.size 211 #[.func (.func 160) #[] #[]]:=(Blk.new v6 _ _).drew
   have mW:MK Cg ((v6.alloc (.cells #[.func (.func 160) #[] #[]] 211)).drew) w.heap.size f6:=(HT6.out.map.alloc Cg _).drew Cg
   have nb:=Jq mW hbx
   have ns:=Jq mW hst
   obtain⟨w15,q15,m15,g15⟩:=mW.update Cg Tryz.underlying147 11 (.agg #[.func (.func 160) #[] #[]])
   obtain⟨w16,q16,m16,g16⟩:=m15.update Cg Tryz.underlying147 12 (.agg #[.func (.func 160) #[] #[]])
   have q15':(Instr.mapUpdate 147 (.map (some w.heap.size)) (.int .i8 11) (.agg #[.func (.func 160) #[] #[]])).run Tryz.prog ((v6.alloc (.cells #[.func (.func 160) #[] #[]] 211)).drew)=.ok () w15:=q15
   have q16':(Instr.mapUpdate 147 (.map (some w.heap.size)) (.int .i8 12) (.agg #[.func (.func 160) #[] #[]])).run Tryz.prog w15=.ok () w16:=q16
   have bx15:=hbx.grown g15 (by intro e;injection e with e;exact nb e)
   have bx16:=bx15.grown g16 (by intro e;injection e with e;exact nb e)
   have st15:=hst.grown g15 (by intro e;injection e with e;exact ns e)
   have st16:=st15.grown g16 (by intro e;injection e with e;exact ns e)
   have sA:((v6.alloc (.cells #[.func (.func 160) #[] #[]] 211)).drew).cell? ⟨w14.heap.size,0,none⟩=some (.map (some w.heap.size))∧((v6.alloc (.cells #[.func (.func 160) #[] #[]] 211)).drew).cell? ⟨v6.heap.size,0,none⟩=some (.func (.func 160) #[] #[]):=⟨hbx.cell 0,hst.cell 0⟩
   have sB:w15.cell? ⟨w14.heap.size,0,none⟩=some (.map (some w.heap.size))∧w15.cell? ⟨v6.heap.size,0,none⟩=some (.func (.func 160) #[] #[]):=⟨bx15.cell 0,st15.cell 0⟩
   have sC:w16.cell? ⟨w14.heap.size,0,none⟩=some (.map (some w.heap.size))∧w16.cell? ⟨v6.heap.size,0,none⟩=some (.func (.func 160) #[] #[]):=⟨bx16.cell 0,st16.cell 0⟩
   have c16:w16.cell? ⟨w14.heap.size,0,none⟩=some (.map (some w.heap.size)):=bx16.cell 0
   have fin:Gq w16 w16.heap.size (.map (some w.heap.size)):=by
    refine ⟨_,_,rfl,m16.lt Cg,m16,fun o K hK=>?_,fun o c hc=>?_⟩
    ·rw [OJ,OJ]
     by_cases q2:o=12
     ·rw [if_pos q2];subst q2;injection hK with hK;subst hK;rfl
     ·rw [if_neg q2]
      by_cases q1:o=11
      ·rw [if_pos q1];subst q1;injection hK with hK;subst hK;rfl
      ·rw [if_neg q1];exact HT6.out.st o K hK q1 q2
    ·obtain⟨g,hg,he,hk⟩:=HT6.out.pl (o,c) (Sa hc)
     have ho:o≠11∧o≠12:=⟨(by rintro rfl;cases hc),(by rintro rfl;cases hc)⟩
     have hkW:Blk ((v6.alloc (.cells #[.func (.func 160) #[] #[]] 211)).drew) g 5 #[.int .u8 c]:=(hk.alloc _).drew
     have ng:=Jq mW hkW
     have hk16:=(hkW.grown g15 (by intro e;injection e with e;exact ng e)).grown g16 (by intro e;injection e with e;exact ng e)
     exact ⟨g,hk16.lt,by rw [OJ,OJ,if_neg ho.2,if_neg ho.1];exact he,hk16⟩
   have hW:Below w.heap.size w ((v6.alloc (.cells #[.func (.func 160) #[] #[]] 211)).drew):=(HB6.out.alloc HB6.out.size _).drew
   have hB15:=hW.grown g15 hW.size (fun q hq=>by injection hq with hq;omega)
   have hB16:=hB15.grown g16 hB15.size (fun q hq=>by injection hq with hq;omega)
   obtain⟨FIN,HB16⟩:=Hd2 fin hB16
   clear hbx hst mW m15 g15 m16 g16 q15 q16 bx15 bx16 st15 st16 fin hW hB15 hB16
   go_region_held3 (fun w'=>w'.cell? ⟨w14.heap.size,0,none⟩=some (.map (some w.heap.size))∧w'.cell? ⟨v6.heap.size,0,none⟩=some (.func (.func 160) #[] #[])) (first | exact sA | exact sB | exact sC) ((first | fail))
   all_goals go_wp2_with fail
   all_goals go_ret
   all_goals exact ⟨_,rfl,FIN.out,HB16.out⟩
end Go.Proofs.YtmpcbaflcogmmaaGreatDoor
