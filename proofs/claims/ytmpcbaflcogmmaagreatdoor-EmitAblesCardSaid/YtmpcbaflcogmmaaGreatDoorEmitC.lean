/- EmitNA Emit10 Emit11 EmitExt EmitC EmitSm -/
import Derived.Test.YtmpcbaflcogmmaaGreatDoorAble10
import Derived.Test.YtmpcbaflcogmmaaGreatDoorCopyL
import Derived.Test.YtmpcbaflcogmmaaGreatDoorEmit6e
import Derived.Test.YtmpcbaflcogmmaaGreatDoorEmit6f
import Derived.Test.YtmpcbaflcogmmaaGreatDoorEmit9
import Derived.Test.YtmpcbaflcogmmaaGreatDoorRef0
import Derived.Test.YtmpcbaflcogmmaaGreatDoorRef1
import Derived.Test.YtmpcbaflcogmmaaGreatDoorSizesT
namespace Go.Proofs.YtmpcbaflcogmmaaGreatDoor
open Go.RowKit
set_option linter.all false
set_option maxHeartbeats 4000000
set_option maxRecDepth 100000
theorem Ey {l:List Nat} (h:l.length=2):∃ a b,l=[a,b]:=by
 match l,h with
 | [a,b],_=>exact ⟨a,b,rfl⟩
theorem UO {l:List Nat} (h:l.length=3):∃ a b c,l=[a,b,c]:=by
 match l,h with
 | [a,b,c],_=>exact ⟨a,b,c,rfl⟩
theorem Ha (w0:World) (B kb tb toff cap:Nat) (im tm mb:Value) (ts:List Au) (pi:Int→Option Int) (pt:ByteArray→Option Int) (hl:ts.length≤2000) (htb:tb < B) (hn0:As w0 tb toff ts) (ht0:Gq w0 B mb)
  (hp:DR w0 B im pi) (hpb:∀ n v,pi n=some v→0≤v∧v≤10000000) (hpt:FF w0 B tm pt) (hptb:∀ n v,pt n=some v→0≤v∧v≤10000000) :
  ∀ (f i:Nat),ts.length≤i + f→i < ts.length→0≤Ap ts i→Fc ts f i→E6 w0 B kb (.slice (some ⟨tb,toff,none⟩) ts.length cap) im tm mb (CJ pi pt ts f) i
 | 0,i,h2,h3,_,_=>absurd h3 (by omega)
 | f + 1,i,h2,hi,hbe,hf=>by
  obtain⟨x,hx⟩:∃ x,ts[i]? = some x:=⟨_,List.getElem?_eq_getElem hi⟩
  have hgx:ts.getD i AF=x:=by rw [List.getD_eq_getElem?_getD,hx];rfl
  have hr1:∀ j∈Am ts i,Fc ts f j→E6 w0 B kb (.slice (some ⟨tb,toff,none⟩) ts.length cap) im tm mb (CJ pi pt ts f) j:=fun j hj hfj=>by
   obtain⟨g1,g2,g3,_⟩:=AU hj
   exact Ha w0 B kb tb toff cap im tm mb ts pi pt hl htb hn0 ht0 hp hpb hpt hptb f j (by omega) g2 g3 hfj
  have hkr:∀ j∈Am ts i,j < ts.length:=fun j hj=>(AU hj).2.1
  have hgr:=Fd pi pt ts f
  obtain⟨ha,n51,n52,hk⟩:=hf
  rw [hgx] at ha n51 n52 hk
  unfold Cz at hk
  have hkl:(Am ts i).length≤100000:=AM hbe (by omega)
  intro s w hb h hm
  have hE:CJ pi pt ts (f + 1) i s=Cs pi pt ts (CJ pi pt ts f) i s:=rfl
  rw [hE] at hm ⊢
  generalize hrec:CJ pi pt ts f=rec at *
  clear hrec hE
  obtain⟨l,hll⟩:=Ex0 (Am ts i)
  obtain⟨tv,htv⟩:=Ex0 (Value.slice (some ⟨tb,toff,none⟩) ts.length cap)
  by_cases q50:x.op=50∧(x.n=1∨x.n=5)
  ·rw [if_pos q50] at hk
   have h2l:(Am ts i).length=2:=by
    rcases q50 with ⟨q,q1 | q1⟩ <;> simp [Bb,q,q1,Bp,Bz] at ha <;> exact ha
   obtain⟨j0,j1,hkk⟩:=Ey h2l
   have hr0:=hr1 j0 (by rw [hkk];simp) (hk j0 (by rw [hkk];simp))
   obtain⟨y,hy⟩:∃ y,ts[j1]? = some y:=⟨_,List.getElem?_eq_getElem (hkr j1 (by rw [hkk];simp))⟩
   have hF:Cs pi pt ts rec i=fun s=>Bi pt ts rec x (Am ts i) s:=by
    funext s;unfold Cs;simp only [hgx];simp [q50.1]
   rw [hF] at hm ⊢
   rcases q50 with ⟨q,q1 | q1⟩
   ·exact AT 152 (fun _ _=>by kernel_rfl) w0 B kb tb toff cap im tm mb ts _ i x s w hl htb hn0 ht0 hi hbe hx (by rw [q];rfl) (UC w0 B kb _ im tm mb ts rec hgr i x hkl j0 j1 hkk hr0 pt q1 tb toff cap rfl htb hn0 y hy) hb h hm
   ·exact AT 152 (fun _ _=>by kernel_rfl) w0 B kb tb toff cap im tm mb ts _ i x s w hl htb hn0 ht0 hi hbe hx (by rw [q];rfl) (Uw w0 B kb _ im tm mb ts rec hgr i x hkl j0 j1 hkk hr0 pt hpt hptb q1 tb toff cap rfl htb hn0 y hy) hb h hm
  rw [if_neg q50] at hk
  have hr:=fun j hj=>hr1 j hj (hk j hj)
  unfold Cs at hm ⊢
  simp only [hgx] at hm ⊢
  by_cases q10:x.op=10
  ·rw [if_pos q10] at hm ⊢
   exact AT 144 (fun _ _=>by kernel_rfl) w0 B kb tb toff cap im tm mb ts _ i x s w hl htb hn0 ht0 hi hbe hx (by rw [q10];rfl) (V4 w0 B kb _ im tm mb ts rec hgr i x hr hkl) hb h hm
  rw [if_neg q10] at hm ⊢
  by_cases q30:x.op=30
  ·rw [if_pos q30] at hm ⊢
   exact AT 146 (fun _ _=>by kernel_rfl) w0 B kb tb toff cap im tm mb ts (fun s=>Dn (pi x.n) s) i x s w hl htb hn0 ht0 hi hbe hx (by rw [q30];rfl) (V3 w0 B kb _ im tm mb ts i x pi hp hpb) hb h hm
  rw [if_neg q30] at hm ⊢
  by_cases q33:x.op=33
  ·rw [if_pos q33] at hm ⊢
   exact AT 148 (fun _ _=>by kernel_rfl) w0 B kb tb toff cap im tm mb ts (fun s=>opE 4 [u8 x.n] s) i x s w hl htb hn0 ht0 hi hbe hx (by rw [q33];rfl) (V1 w0 B kb _ im tm mb ts i x) hb h hm
  rw [if_neg q33] at hm ⊢
  by_cases q36:x.op=36
  ·rw [if_pos q36] at hm ⊢
   obtain⟨j0,j1,hkk⟩:=Ey (l:=Am ts i) (by simpa [Bb,q36] using ha)
   exact AT 149 (fun _ _=>by kernel_rfl) w0 B kb tb toff cap im tm mb ts (fun s=>orE rec (Am ts i) s) i x s w hl htb hn0 ht0 hi hbe hx (by rw [q36];rfl) (Vv w0 B kb _ im tm mb ts rec hgr i x hr hkl j0 j1 hkk) hb h hm
  rw [if_neg q36] at hm ⊢
  by_cases q37:x.op=37
  ·rw [if_pos q37] at hm ⊢
   obtain⟨j0,j1,hkk⟩:=Ey (l:=Am ts i) (by simpa [Bb,q37] using ha)
   exact AT 150 (fun _ _=>by kernel_rfl) w0 B kb tb toff cap im tm mb ts (fun s=>II rec (Am ts i) s) i x s w hl htb hn0 ht0 hi hbe hx (by rw [q37];rfl) (Ve w0 B kb _ im tm mb ts rec hgr i x hr hkl j0 j1 hkk) hb h hm
  rw [if_neg q37] at hm ⊢
  by_cases q38:x.op=38∨x.op=39
  ·rw [if_pos q38] at hm ⊢
   obtain⟨j0,j1,hkk⟩:=Ey (l:=Am ts i) (by rcases q38 with q | q <;> simpa [Bb,q] using ha)
   obtain⟨y,hy⟩:∃ y,ts[j0]? = some y:=⟨_,List.getElem?_eq_getElem (hkr j0 (by rw [hkk];simp))⟩
   rcases q38 with q | q
   ·exact AT 151 (fun _ _=>by kernel_rfl) w0 B kb tb toff cap im tm mb ts (fun s=>Dt ts rec x (Am ts i) s) i x s w hl htb hn0 ht0 hi hbe hx (by rw [q];rfl) (RO w0 B kb _ im tm mb ts rec hgr i x hr hkl j0 j1 hkk q tb toff cap rfl htb hn0 y hy) hb h hm
   ·exact AT 151 (fun _ _=>by kernel_rfl) w0 B kb tb toff cap im tm mb ts (fun s=>Dt ts rec x (Am ts i) s) i x s w hl htb hn0 ht0 hi hbe hx (by rw [q];rfl) (Rb w0 B kb _ im tm mb ts rec hgr i x hr hkl j0 j1 hkk q tb toff cap rfl htb hn0 y hy) hb h hm
  rw [if_neg q38] at hm ⊢
  by_cases q5:x.op=50
  ·rw [if_pos q5] at hm ⊢
   have hxn:x.n=0∨x.n=2∨x.n=3∨x.n=4∨x.n=6∨x.n=7∨x.n=8:=by
    have hne:¬ (x.n=1∨x.n=5):=fun h=>q50 ⟨q5,h⟩
    have hs:∃ sg,Bp Bz x.n=some sg:=by
     cases hsg:Bp Bz x.n with
     | none=>simp [Bb,q5,hsg] at ha
     | some sg=>exact ⟨sg,rfl⟩
    obtain⟨sg,hsg⟩:=hs
    obtain⟨g1,g2,_⟩:=CA hsg
    have:x.n.toNat < 9:=g2
    omega
   have K:EE x.op=some 152:=by rw [q5];rfl
   rcases hxn with q | q | q | q | q | q | q
   ·exact AT 152 (fun _ _=>by kernel_rfl) w0 B kb tb toff cap im tm mb ts (fun s=>Bi pt ts rec x (Am ts i) s) i x s w hl htb hn0 ht0 hi hbe hx K (Uj w0 B kb _ im tm mb ts rec hgr i x hr hkl pt q) hb h hm
   ·exact AT 152 (fun _ _=>by kernel_rfl) w0 B kb tb toff cap im tm mb ts (fun s=>Bi pt ts rec x (Am ts i) s) i x s w hl htb hn0 ht0 hi hbe hx K (UF w0 B kb _ im tm mb ts rec hgr i x hr hkl pt q) hb h hm
   ·exact AT 152 (fun _ _=>by kernel_rfl) w0 B kb tb toff cap im tm mb ts (fun s=>Bi pt ts rec x (Am ts i) s) i x s w hl htb hn0 ht0 hi hbe hx K (Ur w0 B kb _ im tm mb ts rec hgr i x hr hkl pt q) hb h hm
   ·exact AT 152 (fun _ _=>by kernel_rfl) w0 B kb tb toff cap im tm mb ts (fun s=>Bi pt ts rec x (Am ts i) s) i x s w hl htb hn0 ht0 hi hbe hx K (U6 w0 B kb _ im tm mb ts rec hgr i x hr hkl pt q) hb h hm
   ·exact AT 152 (fun _ _=>by kernel_rfl) w0 B kb tb toff cap im tm mb ts (fun s=>Bi pt ts rec x (Am ts i) s) i x s w hl htb hn0 ht0 hi hbe hx K (U2 w0 B kb _ im tm mb ts rec hgr i x hr hkl pt q) hb h hm
   ·exact AT 152 (fun _ _=>by kernel_rfl) w0 B kb tb toff cap im tm mb ts (fun s=>Bi pt ts rec x (Am ts i) s) i x s w hl htb hn0 ht0 hi hbe hx K (Us w0 B kb _ im tm mb ts rec hgr i x hr hkl pt q) hb h hm
   ·exact AT 152 (fun _ _=>by kernel_rfl) w0 B kb tb toff cap im tm mb ts (fun s=>Bi pt ts rec x (Am ts i) s) i x s w hl htb hn0 ht0 hi hbe hx K (Um w0 B kb _ im tm mb ts rec hgr i x hr hkl pt q) hb h hm
  rw [if_neg q5] at hm ⊢
  by_cases q13:x.op=13∨x.op=16
  ·rw [if_pos q13] at hm ⊢
   have h23:(Am ts i).length=2∨(Am ts i).length=3:=by rcases q13 with q | q <;> simpa [Bb,q] using ha
   rcases h23 with hn | hn
   ·obtain⟨j0,j1,hkk⟩:=Ey hn
    rcases q13 with q | q
    ·exact AT 153 (fun _ _=>by kernel_rfl) w0 B kb tb toff cap im tm mb ts (fun s=>Ds rec x (Am ts i) s) i x s w hl htb hn0 ht0 hi hbe hx (by rw [q];rfl) (QN w0 B kb _ im tm mb ts rec hgr i x hr hkl j0 j1 hkk q) hb h hm
    ·exact AT 153 (fun _ _=>by kernel_rfl) w0 B kb tb toff cap im tm mb ts (fun s=>Ds rec x (Am ts i) s) i x s w hl htb hn0 ht0 hi hbe hx (by rw [q];rfl) (RF w0 B kb _ im tm mb ts rec hgr i x hr hkl j0 j1 hkk q) hb h hm
   ·obtain⟨j0,j1,j2,hkk⟩:=UO hn
    rcases q13 with q | q
    ·exact AT 153 (fun _ _=>by kernel_rfl) w0 B kb tb toff cap im tm mb ts (fun s=>Ds rec x (Am ts i) s) i x s w hl htb hn0 ht0 hi hbe hx (by rw [q];rfl) (Rj w0 B kb _ im tm mb ts rec hgr i x hr hkl j0 j1 j2 hkk q) hb h hm
    ·exact AT 153 (fun _ _=>by kernel_rfl) w0 B kb tb toff cap im tm mb ts (fun s=>Ds rec x (Am ts i) s) i x s w hl htb hn0 ht0 hi hbe hx (by rw [q];rfl) (Si w0 B kb _ im tm mb ts rec hgr i x hr hkl j0 j1 j2 hkk q) hb h hm
  rw [if_neg q13] at hm ⊢
  by_cases q14:x.op=14
  ·rw [if_pos q14] at hm ⊢
   exact AT 154 (fun _ _=>by kernel_rfl) w0 B kb tb toff cap im tm mb ts (fun s=>D9 pi rec x (Am ts i) s) i x s w hl htb hn0 ht0 hi hbe hx (by rw [q14];rfl) (Td w0 B kb _ im tm mb ts rec hgr i x hr hkl pi hp hpb) hb h hm
  rw [if_neg q14] at hm ⊢
  by_cases q15:x.op=15
  ·rw [if_pos q15] at hm ⊢
   obtain⟨j0,j1,hkk⟩:=Ey (l:=Am ts i) (by simpa [Bb,q15] using ha)
   exact AT 155 (fun _ _=>by kernel_rfl) w0 B kb tb toff cap im tm mb ts (fun s=>Fq pi rec x (Am ts i) s) i x s w hl htb hn0 ht0 hi hbe hx (by rw [q15];rfl) (Vd w0 B kb _ im tm mb ts rec hgr i x hr hkl j0 j1 hkk pi hp hpb) hb h hm
  rw [if_neg q15] at hm ⊢
  by_cases q49:x.op=49
  ·rw [if_pos q49] at hm ⊢
   exact AT 156 (fun _ _=>by kernel_rfl) w0 B kb tb toff cap im tm mb ts (fun s=>opE 46 [u8 x.n] (Bw rec (Am ts i) s)) i x s w hl htb hn0 ht0 hi hbe hx (by rw [q49];rfl) (V2 w0 B kb _ im tm mb ts rec hgr i x hr hkl) hb h hm
  rw [if_neg q49] at hm ⊢
  by_cases q19:x.op=19
  ·rw [if_pos q19] at hm ⊢
   exact AT 157 (fun _ _=>by kernel_rfl) w0 B kb tb toff cap im tm mb ts (fun s=>opE 60 [u8 x.n] (Bw rec (Am ts i) s)) i x s w hl htb hn0 ht0 hi hbe hx (by rw [q19];rfl) (Vy w0 B kb _ im tm mb ts rec hgr i x hr hkl) hb h hm
  rw [if_neg q19] at hm ⊢
  by_cases q11:x.op=11∨x.op=12
  ·rw [if_pos q11] at hm ⊢
   exact AT 160 (fun _ _=>by kernel_rfl) w0 B kb tb toff cap im tm mb ts (fun s=>opE 5 [u8 x.n] (Bw rec (Am ts i) s)) i x s w hl htb hn0 ht0 hi hbe hx (by rcases q11 with q | q <;> rw [q] <;> rfl) (Vx w0 B kb _ im tm mb ts rec hgr i x hr hkl) hb h hm
  rw [if_neg q11] at hm ⊢
  obtain⟨pc,hpc⟩:∃ pc,Cf x.op=some pc:=Pm (by omega) ha
  have e:EX rec (Cf x.op) (Am ts i) s=opE pc [] (Bw rec (Am ts i) s):=by rw [hpc];rfl
  rw [e] at hm ⊢
  exact LF w0 B kb tb toff cap im tm mb ts (fun s=>opE pc [] (Bw rec (Am ts i) s)) i x s w hl htb hn0 ht0 hi hbe hx pc hpc (fun pg hpg kp=>Ut w0 B kb _ im tm mb ts rec hgr i x hr hkl pg pc hpg kp) hb h hm
theorem DR.up {w w':World} {B B':Nat} {im:Value} {pi:Int→Option Int} (h:DR w B im pi) (hb:Below B w w') (hB:B≤B'):DR w' B' im pi:=by
 obtain⟨ib,h1,h2,h3⟩:=h.below hb
 exact ⟨ib,h1,by omega,h3⟩
theorem FF.up {w w':World} {B B':Nat} {tm:Value} {pt:ByteArray→Option Int} (h:FF w B tm pt) (hb:Below B w w') (hB:B≤B'):FF w' B' tm pt:=by
 obtain⟨ib,h1,h2,h3⟩:=h.below hb
 exact ⟨ib,h1,by omega,h3⟩
theorem EK.start (w:World) (tv im tm mb:Value):EK (w.alloc (.cells #[tv,im,tm,.slice none 0 0,.bool false,mb,.slice none 0 0] 151)) w.heap.size w.heap.size tv im tm mb ⟨[],false,[]⟩:=
 ⟨.slice none 0 0,.slice none 0 0,[],Nat.le_refl _,Blk.new w _ _,World.ownsRow_nil _ _ _ _,World.ownsRow_nil _ _ _ _,fun k p hk=>by simp at hk⟩
theorem Fk {w:World} {B B' n size:Nat} {e:TypeId} {v:Value} {xs:List Value} (h:w.ownsRow B e size v n xs) (hb:B'≤B):w.ownsRow B' e size v n xs:=by
 refine ⟨h.1,?_⟩
 rcases h.2 with h2 | ⟨g,cap,cur,h2,h3,h4⟩
 ·exact .inl h2
 ·exact .inr ⟨g,cap,cur,h2,by omega,h4⟩
theorem EU:∀ (l:List (Nat × Nat)) (b:List Int),(Du l b).length=b.length
 | [],b=>rfl
 | p :: l,b=>by rw [QW,EU l];simp [Ft]
theorem M6 {l:List (Nat × Nat)} {k:Nat} {p:Nat × Nat} (h:l[k]? = some p) (b:List Int):Du (l.take (k + 1)) b=Ft p (Du (l.take k) b):=by
 rw [List.take_add_one,h]
 simp [Du,Ft]
theorem JN (tb toff n c ib mt mk:Nat) (w:World):(Instr.build 151 #[(0,.slice (some ⟨tb,toff,none⟩) n c),(1,.map (some ib)),(2,.map (some mt)),(5,.map (some mk))]).run Tryz.prog w=.ok (.agg #[.slice (some ⟨tb,toff,none⟩) n c,.map (some ib),.map (some mt),.slice none 0 0,.bool false,.map (some mk),.slice none 0 0]) w:=
 run_build w _ _ _ (by kernel_rfl)
theorem U5 (on:Int) (SA:Option Addr) (sn sc tb toff tc:Nat) (ts:List Au) (im tm:Value) (pi:Int→Option Int) (pt:ByteArray→Option Int) (w:World) (hl:ts.length≤2000) (hl0:0 < ts.length) (hn:As w tb toff ts) (htb:tb < w.heap.size)
  (hp:DR w w.heap.size im pi) (hpb:∀ n v,pi n=some v→0≤v∧v≤10000000) (hpt:FF w w.heap.size tm pt) (hptb:∀ n v,pt n=some v→0≤v∧v≤10000000) (hfit:Fc ts ts.length 0) (hbe:0≤Ap ts 0) (hm:(BY pi pt false ts).ms≤1000000) :
  Calls Tryz.prog 45 #[.agg #[.int .i64 on,.slice SA sn sc,.bool false,.slice (some ⟨tb,toff,none⟩) ts.length tc],im,tm] w fun e w'=>∃ bv,e=.returned (.tuple #[bv,.bool (!(BY pi pt false ts).bad)])∧w'.ownsRow w.heap.size 5 1 bv (BY pi pt false ts).b.length (Ba (Du (BY pi pt false ts).later (BY pi pt false ts).b))∧Below w.heap.size w w':=by
 obtain⟨ib,rfl⟩:∃ ib,im=.map (some ib):=by obtain⟨ib,e,_⟩:=hp;exact ⟨ib,e⟩
 obtain⟨mt,rfl⟩:∃ mt,tm=.map (some mt):=by obtain⟨mt,e,_⟩:=hpt;exact ⟨mt,e⟩
 obtain⟨s1,hs1⟩:=Ex0 (CJ pi pt ts ts.length 0 ⟨[],false,[]⟩)
 obtain⟨s2,hs2⟩:=Ex0 (opE 34 [] s1)
 have hM:BY pi pt false ts=s2:=by rw [hs2,hs1];rfl
 have hok:OKm s2:=hM▸Pb pi pt false ts
 rw [hM] at hm ⊢
 have hm2:s2.ms=s1.ms + 1:=by rw [hs2,AL];rfl
 have bm1:s1.ms≤1000000:=by omega
 have bm1':(CJ pi pt ts ts.length 0 ⟨[],false,[]⟩).ms≤1000000:=hs1▸bm1
 obtain⟨HM1,HS1,HS2,HOK⟩:=Hd4 bm1' hs1 hs2 hok
 clear hM hs1 hs2 hok bm1'
 obtain⟨w1,hw1⟩:=Ex0 (w.alloc (.cells #[.int .i64 on,.slice SA sn sc,.bool false,.slice (some ⟨tb,toff,none⟩) ts.length tc] 25))
 have b1:Below w.heap.size w w1:=by rw [hw1];exact (Below.refl _ _).alloc (Nat.le_refl _) _
 have k1:Blk w1 w.heap.size 25 #[.int .i64 on,.slice SA sn sc,.bool false,.slice (some ⟨tb,toff,none⟩) ts.length tc]:=by rw [hw1];exact Blk.new w _ _
 have ht:=GV w1
 have ht2:=GV w1.drew
 obtain⟨HW1,HT,HT2,K1,B1,HN,HP,HPB,HPT,HPTB,HFIT⟩:=Hd11 hw1 ht ht2 k1 b1 hn hp hpb hpt hptb hfit
 have hbm:=JN
 clear hw1 ht ht2 k1 b1 hn hp hpb hpt hptb hfit
 go_in
 go_wp2_with fail
 rw [← HW1.out]
 have sA:w1.drew.cell? ⟨w.heap.size,3,none⟩=some (.slice (some ⟨tb,toff,none⟩) ts.length tc):=K1.out.cell 3
 go_region_held3 (fun w'=>w'.cell? ⟨w.heap.size,3,none⟩=some (.slice (some ⟨tb,toff,none⟩) ts.length tc)) (first | exact sA | exact sB | exact sC)
  ((first | (go_at_call 105;refine HT2.out.mono ?_;rintro e w2 ⟨mb,rfl,htab,hbt⟩;obtain⟨mk,rfl⟩:∃ mk,mb=.map (some mk):=(by obtain⟨mk,_,e,_⟩:=htab;exact ⟨mk,e⟩);have k2:=K1.out.drew.below hbt K1.out.lt;have sB:w2.cell? ⟨w.heap.size,3,none⟩=some (.slice (some ⟨tb,toff,none⟩) ts.length tc):=k2.cell 3;have sC:(w2.alloc (.cells #[.slice (some ⟨tb,toff,none⟩) ts.length tc,.map (some ib),.map (some mt),.slice none 0 0,.bool false,.map (some mk),.slice none 0 0] 151)).cell? ⟨w.heap.size,3,none⟩=some (.slice (some ⟨tb,toff,none⟩) ts.length tc):=(k2.alloc _).cell 3)))
 have hb2:Below w.heap.size w w2:=B1.out.drew.trans (hbt.mono B1.out.drew.size)
 have hz2:=hb2.size
 have hlt2:=K1.out.lt
 have hz12:=hbt.size
 have hnode:=Ha w2 w2.heap.size w2.heap.size tb toff tc (.map (some ib)) (.map (some mt)) (.map (some mk)) ts pi pt hl (by omega) (HN.out.below hb2 htb) htab (HP.out.up hb2 hz2) HPB.out (HPT.out.up hb2 hz2) HPTB.out ts.length 0 (by omega) hl0 hbe HFIT.out
 obtain⟨w3,hw3⟩:=Ex0 (w2.alloc (.cells #[.slice (some ⟨tb,toff,none⟩) ts.length tc,.map (some ib),.map (some mt),.slice none 0 0,.bool false,.map (some mk),.slice none 0 0] 151))
 have ek:=EK.start w2 (.slice (some ⟨tb,toff,none⟩) ts.length tc) (.map (some ib)) (.map (some mt)) (.map (some mk))
 have k3:=k2.alloc (.cells #[.slice (some ⟨tb,toff,none⟩) ts.length tc,.map (some ib),.map (some mt),.slice none 0 0,.bool false,.map (some mk),.slice none 0 0] 151)
 have hb23:Below w2.heap.size w2 w3:=by rw [hw3];exact (Below.refl _ _).alloc (Nat.le_refl _) _
 rw [← hw3] at ek k3 ⊢
 have c2:w3.cell? ⟨w.heap.size,2,none⟩=some (.bool false):=k3.cell 2
 obtain⟨HNODE,EK3,HB23,HB2⟩:=Hd4 hnode ek hb23 hb2
 clear hnode ek hb23 hb2 hw3 k2 k3 htab hbt sA sB sC
 go_wp2_with fail
 refine (HNODE.out ⟨[],false,[]⟩ w3 HB23.out EK3.out HM1.out).mono ?_
 rintro e w4 ⟨rfl,h4,f4⟩
 rw [← HS1.out] at h4
 obtain⟨EK4,FR4⟩:=Hd2 h4 f4
 clear h4 f4
 go_wp2_with fail
 refine (Gj w2.heap.size w2.heap.size _ _ _ _ s1 34 w4 EK4.out bm1).mono ?_
 rintro e w5 ⟨rfl,h5,f5⟩
 rw [← HS2.out] at h5
 obtain⟨EK5,FR5⟩:=Hd2 h5 (FR4.out.trans f5)
 obtain⟨bv,lv,vals,hB5,mk5,ob5,ol5,wt5⟩:=h5
 obtain⟨nl,hnl⟩:∃ nl,s2.later.length=nl:=⟨_,rfl⟩
 have hnlb:nl≤1000000:=by have:=hm;unfold MS.ms at this;omega
 rw [hnl] at ol5
 obtain⟨Al,cl,rfl⟩:=AJ ol5
 have c6:w5.cell? ⟨w2.heap.size,6,none⟩=some (.slice Al nl cl):=mk5.cell 6
 obtain⟨OL5,WT5,HNL⟩:=Hd3 ol5 wt5 hnl
 clear f5 mk5 ob5 ol5 wt5 hnl
 go_wp2_with fail
 go_loopw [11,41] (fun _ iv wr=>∃ (k:Nat),k≤nl∧iv=.int .i64 k∧EK wr w2.heap.size w2.heap.size (.slice (some ⟨tb,toff,none⟩) ts.length tc) (.map (some ib)) (.map (some mt)) (.map (some mk)) { s2 with b:=Du (s2.later.take k) s2.b }∧wr.ownsRow w2.heap.size 1 1 (.slice Al nl cl) nl vals∧Frm w2.heap.size [5] w5 wr) (fun _ iv _=>nl - (intOf iv).toNat)
 case atStart=>exact ⟨0,by omega,rfl,EK5.out,OL5.out,Frm.refl _ _ _⟩
 case round =>
  obtain⟨k,hkn,rfl,hek,hol,hfr⟩:=hrel
  by_cases hlt:k < nl
  ·obtain⟨⟨pp,qq⟩,hpq⟩:∃ p,s2.later[k]? = some p:=⟨_,List.getElem?_eq_getElem (by rw [HNL.out];exact hlt)⟩
   obtain⟨v,hv,hw⟩:=WT5.out k _ hpq
   obtain⟨g1,g2,g3,rfl,kk1,kk2,kk3⟩:=hw.frm (hfr.more (by simp))
   obtain⟨gl,rfl⟩:∃ gl,Al=some ⟨gl,0,none⟩:=by
    obtain⟨g,cap,e,_⟩:=hol.form (by omega)
    injection e with e
    exact ⟨g,e⟩
   have hc:wr.cell? ⟨gl,k,none⟩=some (.func (.func 162) #[] #[.pointer (some ⟨g1,0,none⟩),.pointer (some ⟨g2,0,none⟩),.pointer (some ⟨g3,0,none⟩)]):=by rw [hol.cellAt k (by omega),hv]
   have hkI:(k:Int) < nl:=by omega
   have hin:=HOK.out (pp,qq) (List.mem_of_getElem? hpq)
   have hsl:(Du (s2.later.take k) s2.b).length=s2.b.length:=EU _ _
   have hsm:({ s2 with b:=Du (s2.later.take k) s2.b }:MS).ms≤1000000:=by unfold MS.ms at hm ⊢;simp only [hsl];exact hm
   have hlay:=JA _ _ _ _ _ _ _ pp qq g1 g2 g3 wr hek kk1 kk2 kk3 (by simp only [hsl];exact hin.1) hsm (by unfold MS.ms at hm;have:=hin.2;simp only at this;omega)
   have hst:=M6 hpq s2.b
   obtain⟨HLAY,HOL,HFR,HST⟩:=Hd4 hlay hol hfr hst
   clear hpq hv hw kk1 kk2 kk3 hin hsl hsm hlay hst hek hol hfr
   go_wp2_with fail
   refine HLAY.out.mono ?_
   rintro e w6 ⟨rfl,h6,f6⟩
   have h7:EK w6 w2.heap.size w2.heap.size (.slice (some ⟨tb,toff,none⟩) ts.length tc) (.map (some ib)) (.map (some mt)) (.map (some mk)) { s2 with b:=Du (s2.later.take (k + 1)) s2.b }:=by rw [HST.out];exact h6
   obtain⟨EK6,OL6,FR6⟩:=Hd3 h7 (f6.own HOL.out (by decide)) (HFR.out.trans f6)
   clear h6 h7 f6
   go_wp2_with fail
   go_roundw
   case rel=>exact ⟨k + 1,by omega,by go_num,EK6.out,OL6.out,FR6.out⟩
   case measure=>(simp [intOf];try omega)
  ·have hkk:k=nl:=by omega
   have htk:s2.later.take k=s2.later:=List.take_of_length_le (by rw [HNL.out];omega)
   rw [htk] at hek
   have hlen:(Du s2.later s2.b).length=s2.b.length:=EU _ _
   obtain⟨bv,lv,vv,hB,mkk,ob,_,_⟩:=hek
   simp only [hlen] at ob mkk
   obtain⟨Ab,cb,rfl⟩:=AJ ob
   have c3:wr.cell? ⟨w2.heap.size,3,none⟩=some (.slice Ab s2.b.length cb):=mkk.cell 3
   have c4:wr.cell? ⟨w2.heap.size,4,none⟩=some (.bool s2.bad):=mkk.cell 4
   have hbe2:Below w.heap.size w wr:=((HB2.out.trans (HB23.out.mono hz2)).trans (FR5.out.below.mono hz2)).trans (hfr.below.mono hz2)
   obtain⟨OB,HBE2⟩:=Hd2 (Fk ob hz2) hbe2
   clear htk hlen hB mkk ob hbe2 hol hfr
   go_wp2_with fail
   have d3:wr.drew.cell? ⟨w2.heap.size,3,none⟩=some (.slice Ab s2.b.length cb):=c3
   have d4:wr.drew.cell? ⟨w2.heap.size,4,none⟩=some (.bool s2.bad):=c4
   go_region_held3 (fun w'=>w'.cell? ⟨w2.heap.size,3,none⟩=some (.slice Ab s2.b.length cb)∧w'.cell? ⟨w2.heap.size,4,none⟩=some (.bool s2.bad)) (first | exact ⟨d3,d4⟩) ((first | fail))
   go_wp2_with fail
   go_ret2
   exact ⟨_,rfl,OB.out.drew,HBE2.out.drew⟩
theorem SI (on:Int) (SA:Option Addr) (sn sc tb toff tc:Nat) (ts:List Au) (im tm:Value) (pi:Int→Option Int) (pt:ByteArray→Option Int) (w:World) (hl:ts.length≤2000) (hl0:0 < ts.length) (hn:As w tb toff ts) (htb:tb < w.heap.size)
  (hp:DR w w.heap.size im pi) (hpb:∀ n v,pi n=some v→0≤v∧v≤10000000) (hpt:FF w w.heap.size tm pt) (hptb:∀ n v,pt n=some v→0≤v∧v≤10000000) (hfit:Fc ts ts.length 0) (hbe:0≤Ap ts 0) (hb2l:(Ap ts 0).toNat < ts.length) (hfit2:Fc ts ts.length (Ap ts 0).toNat) (hbe2:0≤Ap ts (Ap ts 0).toNat) (hm:(BY pi pt true ts).ms≤1000000) :
  Calls Tryz.prog 45 #[.agg #[.int .i64 on,.slice SA sn sc,.bool true,.slice (some ⟨tb,toff,none⟩) ts.length tc],im,tm] w fun e w'=>∃ bv,e=.returned (.tuple #[bv,.bool (!(BY pi pt true ts).bad)])∧w'.ownsRow w.heap.size 5 1 bv (BY pi pt true ts).b.length (Ba (Du (BY pi pt true ts).later (BY pi pt true ts).b))∧Below w.heap.size w w':=by
 obtain⟨ib,rfl⟩:∃ ib,im=.map (some ib):=by obtain⟨ib,e,_⟩:=hp;exact ⟨ib,e⟩
 obtain⟨mt,rfl⟩:∃ mt,tm=.map (some mt):=by obtain⟨mt,e,_⟩:=hpt;exact ⟨mt,e⟩
 obtain⟨s1,hs1⟩:=Ex0 (CJ pi pt ts ts.length 0 ⟨[],false,[]⟩)
 obtain⟨J,hJ⟩:=Ex0 ((Ap ts 0).toNat)
 have hJb:(Ap ts 0)=(J:Int):=by omega
 obtain⟨sa,hsa⟩:=Ex0 (AI 31 [] s1)
 obtain⟨sb,hsb⟩:=Ex0 (CJ pi pt ts ts.length J sa)
 obtain⟨sc',hsc⟩:∃ sc',sc'=Bq sa.at_ sb:=⟨_,rfl⟩
 obtain⟨s2,hs2⟩:=Ex0 (opE 34 [] sc')
 have hM:BY pi pt true ts=s2:=by rw [hs2,hsc,hsb,hsa,hs1,hJ];rfl
 have hok:OKm s2:=hM▸Pb pi pt true ts
 rw [hM] at hm ⊢
 have hm2:s2.ms=sc'.ms + 1:=by rw [hs2,AL];rfl
 have hmc:sc'.ms=sb.ms + 1:=by rw [hsc,Bj]
 have hmb:sa.ms≤sb.ms:=by rw [hsb];exact Fd pi pt ts _ _ _
 have hma:sa.ms=s1.ms + 3:=by rw [hsa,Bk];rfl
 have bm1:s1.ms≤1000000:=by omega
 have bma:s1.ms + 0 + 2≤1000000:=by omega
 have bmb:sb.ms≤1000000:=by omega
 have bmc:sc'.ms≤1000000:=by omega
 have bmb':(CJ pi pt ts ts.length J sa).ms≤1000000:=hsb▸bmb
 rw [← hJ] at hb2l hfit2 hbe2
 obtain⟨HMB,HSA,HSB,HSC,HFIT2⟩:=Hd5 bmb' hsa hsb hsc hfit2
 clear hsa hsb hsc hfit2 hJ bmb'
 have bm1':(CJ pi pt ts ts.length 0 ⟨[],false,[]⟩).ms≤1000000:=hs1▸bm1
 obtain⟨HM1,HS1,HS2,HOK⟩:=Hd4 bm1' hs1 hs2 hok
 clear hM hs1 hs2 hok bm1'
 obtain⟨w1,hw1⟩:=Ex0 (w.alloc (.cells #[.int .i64 on,.slice SA sn sc,.bool true,.slice (some ⟨tb,toff,none⟩) ts.length tc] 25))
 have b1:Below w.heap.size w w1:=by rw [hw1];exact (Below.refl _ _).alloc (Nat.le_refl _) _
 have k1:Blk w1 w.heap.size 25 #[.int .i64 on,.slice SA sn sc,.bool true,.slice (some ⟨tb,toff,none⟩) ts.length tc]:=by rw [hw1];exact Blk.new w _ _
 have ht:=GV w1
 have ht2:=GV w1.drew
 obtain⟨HW1,HT,HT2,K1,B1,HN,HP,HPB,HPT,HPTB,HFIT⟩:=Hd11 hw1 ht ht2 k1 b1 hn hp hpb hpt hptb hfit
 have hbm:=JN
 clear hw1 ht ht2 k1 b1 hn hp hpb hpt hptb hfit
 go_in
 go_wp2_with fail
 rw [← HW1.out]
 have sA:w1.drew.cell? ⟨w.heap.size,3,none⟩=some (.slice (some ⟨tb,toff,none⟩) ts.length tc):=K1.out.cell 3
 go_region_held3 (fun w'=>w'.cell? ⟨w.heap.size,3,none⟩=some (.slice (some ⟨tb,toff,none⟩) ts.length tc)) (first | exact sA | exact sB | exact sC)
  ((first | (go_at_call 105;refine HT2.out.mono ?_;rintro e w2 ⟨mb,rfl,htab,hbt⟩;obtain⟨mk,rfl⟩:∃ mk,mb=.map (some mk):=(by obtain⟨mk,_,e,_⟩:=htab;exact ⟨mk,e⟩);have k2:=K1.out.drew.below hbt K1.out.lt;have sB:w2.cell? ⟨w.heap.size,3,none⟩=some (.slice (some ⟨tb,toff,none⟩) ts.length tc):=k2.cell 3;have sC:(w2.alloc (.cells #[.slice (some ⟨tb,toff,none⟩) ts.length tc,.map (some ib),.map (some mt),.slice none 0 0,.bool false,.map (some mk),.slice none 0 0] 151)).cell? ⟨w.heap.size,3,none⟩=some (.slice (some ⟨tb,toff,none⟩) ts.length tc):=(k2.alloc _).cell 3)))
 have hb2:Below w.heap.size w w2:=B1.out.drew.trans (hbt.mono B1.out.drew.size)
 have hz2:=hb2.size
 have hlt2:=K1.out.lt
 have hz12:=hbt.size
 have hnode:=Ha w2 w2.heap.size w2.heap.size tb toff tc (.map (some ib)) (.map (some mt)) (.map (some mk)) ts pi pt hl (by omega) (HN.out.below hb2 htb) htab (HP.out.up hb2 hz2) HPB.out (HPT.out.up hb2 hz2) HPTB.out ts.length 0 (by omega) hl0 hbe HFIT.out
 have hnode2:=Ha w2 w2.heap.size w2.heap.size tb toff tc (.map (some ib)) (.map (some mt)) (.map (some mk)) ts pi pt hl (by omega) (HN.out.below hb2 htb) htab (HP.out.up hb2 hz2) HPB.out (HPT.out.up hb2 hz2) HPTB.out ts.length J (by omega) hb2l hbe2 HFIT2.out
 obtain⟨HNODE2,HN2⟩:=Hd2 hnode2 (HN.out.below hb2 htb)
 clear hnode2
 obtain⟨w3,hw3⟩:=Ex0 (w2.alloc (.cells #[.slice (some ⟨tb,toff,none⟩) ts.length tc,.map (some ib),.map (some mt),.slice none 0 0,.bool false,.map (some mk),.slice none 0 0] 151))
 have ek:=EK.start w2 (.slice (some ⟨tb,toff,none⟩) ts.length tc) (.map (some ib)) (.map (some mt)) (.map (some mk))
 have k3:=k2.alloc (.cells #[.slice (some ⟨tb,toff,none⟩) ts.length tc,.map (some ib),.map (some mt),.slice none 0 0,.bool false,.map (some mk),.slice none 0 0] 151)
 have hb23:Below w2.heap.size w2 w3:=by rw [hw3];exact (Below.refl _ _).alloc (Nat.le_refl _) _
 rw [← hw3] at ek k3 ⊢
 have c2:w3.cell? ⟨w.heap.size,2,none⟩=some (.bool true):=k3.cell 2
 obtain⟨K3,HNODE,EK3,HB23,HB2⟩:=Hd5 k3 hnode ek hb23 hb2
 clear hnode ek hb23 hb2 hw3 k2 k3 htab hbt sA sB sC
 go_wp2_with fail
 refine (HNODE.out ⟨[],false,[]⟩ w3 HB23.out EK3.out HM1.out).mono ?_
 rintro e w4 ⟨rfl,h4,f4⟩
 rw [← HS1.out] at h4
 obtain⟨EK4,FR4⟩:=Hd2 h4 f4
 clear h4 f4
 go_wp2_with fail
 refine (Hh w2.heap.size w2.heap.size _ _ _ _ s1 31 w4 EK4.out bma).mono ?_
 rintro e wa ⟨av,rfl,⟨ga,gb,rfl,ka,kb⟩,ha,fa⟩
 rw [← HSA.out] at ha kb
 obtain⟨EKA,FRA,KA,KB⟩:=Hd4 ha (FR4.out.trans fa) ka kb
 have ca3:wa.cell? ⟨w.heap.size,3,none⟩=some (.slice (some ⟨tb,toff,none⟩) ts.length tc):=(FRA.out.blk K3.out (by decide)).cell 3
 have hbi:=CL tb toff tc ts 0 wa (by omega) (HN2.out.below (HB23.out.trans FRA.out.below) (by omega)) hl0
 rw [hJb] at hbi
 have hbd:=CL tb toff tc ts 0 wa.drew (by omega) (HN2.out.below ((HB23.out.trans FRA.out.below).drew) (by omega)) hl0
 rw [hJb] at hbd
 obtain⟨HBI,HBD⟩:=Hd2 hbi hbd
 clear ha fa ka kb hbi hbd
 go_wp2_with fail
 refine HBI.out.mono ?_
 rintro e w' ⟨rfl,rfl⟩
 go_wp2_with fail
 refine (HNODE2.out sa wa (HB23.out.trans FRA.out.below) EKA.out HMB.out).mono ?_
 rintro e wb ⟨rfl,hb,fb⟩
 rw [← HSB.out] at hb
 obtain⟨EKB,FRB,KA2,KB2⟩:=Hd4 hb (FRA.out.trans fb) (fb.blk KA.out (by decide)) (fb.blk KB.out (by decide))
 clear hb fb
 go_wp2_with fail
 refine (IJ w2.heap.size w2.heap.size _ _ _ _ sb sa.at_ ga gb wb EKB.out KA2.out KB2.out bmb).mono ?_
 rintro e wc ⟨rfl,hc,fc⟩
 rw [← HSC.out] at hc
 obtain⟨EKC,FRC⟩:=Hd2 hc (FRB.out.trans fc)
 clear hc fc
 go_wp2_with fail
 refine (Gj w2.heap.size w2.heap.size _ _ _ _ sc' 34 wc EKC.out bmc).mono ?_
 rintro e w5 ⟨rfl,h5,f5⟩
 rw [← HS2.out] at h5
 obtain⟨EK5,FR5⟩:=Hd2 h5 (FRC.out.trans f5)
 obtain⟨bv,lv,vals,hB5,mk5,ob5,ol5,wt5⟩:=h5
 obtain⟨nl,hnl⟩:∃ nl,s2.later.length=nl:=⟨_,rfl⟩
 have hnlb:nl≤1000000:=by have:=hm;unfold MS.ms at this;omega
 rw [hnl] at ol5
 obtain⟨Al,cl,rfl⟩:=AJ ol5
 have c6:w5.cell? ⟨w2.heap.size,6,none⟩=some (.slice Al nl cl):=mk5.cell 6
 obtain⟨OL5,WT5,HNL⟩:=Hd3 ol5 wt5 hnl
 clear f5 mk5 ob5 ol5 wt5 hnl
 go_wp2_with fail
 go_loopw [11,41] (fun _ iv wr=>∃ (k:Nat),k≤nl∧iv=.int .i64 k∧EK wr w2.heap.size w2.heap.size (.slice (some ⟨tb,toff,none⟩) ts.length tc) (.map (some ib)) (.map (some mt)) (.map (some mk)) { s2 with b:=Du (s2.later.take k) s2.b }∧wr.ownsRow w2.heap.size 1 1 (.slice Al nl cl) nl vals∧Frm w2.heap.size [5] w5 wr) (fun _ iv _=>nl - (intOf iv).toNat)
 case atStart=>exact ⟨0,by omega,rfl,EK5.out,OL5.out,Frm.refl _ _ _⟩
 case round =>
  obtain⟨k,hkn,rfl,hek,hol,hfr⟩:=hrel
  by_cases hlt:k < nl
  ·obtain⟨⟨pp,qq⟩,hpq⟩:∃ p,s2.later[k]? = some p:=⟨_,List.getElem?_eq_getElem (by rw [HNL.out];exact hlt)⟩
   obtain⟨v,hv,hw⟩:=WT5.out k _ hpq
   obtain⟨g1,g2,g3,rfl,kk1,kk2,kk3⟩:=hw.frm (hfr.more (by simp))
   obtain⟨gl,rfl⟩:∃ gl,Al=some ⟨gl,0,none⟩:=by
    obtain⟨g,cap,e,_⟩:=hol.form (by omega)
    injection e with e
    exact ⟨g,e⟩
   have hc:wr.cell? ⟨gl,k,none⟩=some (.func (.func 162) #[] #[.pointer (some ⟨g1,0,none⟩),.pointer (some ⟨g2,0,none⟩),.pointer (some ⟨g3,0,none⟩)]):=by rw [hol.cellAt k (by omega),hv]
   have hkI:(k:Int) < nl:=by omega
   have hin:=HOK.out (pp,qq) (List.mem_of_getElem? hpq)
   have hsl:(Du (s2.later.take k) s2.b).length=s2.b.length:=EU _ _
   have hsm:({ s2 with b:=Du (s2.later.take k) s2.b }:MS).ms≤1000000:=by unfold MS.ms at hm ⊢;simp only [hsl];exact hm
   have hlay:=JA _ _ _ _ _ _ _ pp qq g1 g2 g3 wr hek kk1 kk2 kk3 (by simp only [hsl];exact hin.1) hsm (by unfold MS.ms at hm;have:=hin.2;simp only at this;omega)
   have hst:=M6 hpq s2.b
   obtain⟨HLAY,HOL,HFR,HST⟩:=Hd4 hlay hol hfr hst
   clear hpq hv hw kk1 kk2 kk3 hin hsl hsm hlay hst hek hol hfr
   go_wp2_with fail
   refine HLAY.out.mono ?_
   rintro e w6 ⟨rfl,h6,f6⟩
   have h7:EK w6 w2.heap.size w2.heap.size (.slice (some ⟨tb,toff,none⟩) ts.length tc) (.map (some ib)) (.map (some mt)) (.map (some mk)) { s2 with b:=Du (s2.later.take (k + 1)) s2.b }:=by rw [HST.out];exact h6
   obtain⟨EK6,OL6,FR6⟩:=Hd3 h7 (f6.own HOL.out (by decide)) (HFR.out.trans f6)
   clear h6 h7 f6
   go_wp2_with fail
   go_roundw
   case rel=>exact ⟨k + 1,by omega,by go_num,EK6.out,OL6.out,FR6.out⟩
   case measure=>(simp [intOf];try omega)
  ·have hkk:k=nl:=by omega
   have htk:s2.later.take k=s2.later:=List.take_of_length_le (by rw [HNL.out];omega)
   rw [htk] at hek
   have hlen:(Du s2.later s2.b).length=s2.b.length:=EU _ _
   obtain⟨bv,lv,vv,hB,mkk,ob,_,_⟩:=hek
   simp only [hlen] at ob mkk
   obtain⟨Ab,cb,rfl⟩:=AJ ob
   have c3:wr.cell? ⟨w2.heap.size,3,none⟩=some (.slice Ab s2.b.length cb):=mkk.cell 3
   have c4:wr.cell? ⟨w2.heap.size,4,none⟩=some (.bool s2.bad):=mkk.cell 4
   have hbe2:Below w.heap.size w wr:=((HB2.out.trans (HB23.out.mono hz2)).trans (FR5.out.below.mono hz2)).trans (hfr.below.mono hz2)
   obtain⟨OB,HBE2⟩:=Hd2 (Fk ob hz2) hbe2
   clear htk hlen hB mkk ob hbe2 hol hfr
   go_wp2_with fail
   have d3:wr.drew.cell? ⟨w2.heap.size,3,none⟩=some (.slice Ab s2.b.length cb):=c3
   have d4:wr.drew.cell? ⟨w2.heap.size,4,none⟩=some (.bool s2.bad):=c4
   go_region_held3 (fun w'=>w'.cell? ⟨w2.heap.size,3,none⟩=some (.slice Ab s2.b.length cb)∧w'.cell? ⟨w2.heap.size,4,none⟩=some (.bool s2.bad)) (first | exact ⟨d3,d4⟩) ((first | fail))
   go_wp2_with fail
   go_ret2
   exact ⟨_,rfl,OB.out.drew,HBE2.out.drew⟩
def Ext {κ:Type} (f g:κ→Option Int):Prop:=∀ n v,f n=some v→g n=some v
theorem Ext.refl {κ:Type} (f:κ→Option Int):Ext f f:=fun _ _ h=>h
theorem Ext.trans {κ:Type} {f g h:κ→Option Int} (a:Ext f g) (b:Ext g h):Ext f h:=fun n v q=>b n v (a n v q)
section
variable {κ:Type} {eqb:κ→κ→Bool} (he:∀ a b,eqb a b=true→a=b)
include he
omit he in
theorem KL:∀ (l:List κ) (k:Nat) (f:κ→Option Int),(∀ n v,f n=some v→0≤v∧v≤4095)→∀ n v,Ff eqb k f l n=some v→0≤v∧v≤4095
 | [],k,f,hf=>hf
 | x :: r,k,f,hf=>by
  rw [Ff]
  refine KL r (k + 1) _ ?_
  split
  ·rename_i hc
   intro n v h
   have h:(if eqb n x=true then some (k:Int) else f n)=some v:=h
   split at h
   ·injection h with h
    have:=hc.2
    omega
   ·exact hf n v h
  ·exact hf
end
theorem NS (l:List Int):∀ n v,Dp l n=some v→0≤v∧v≤4095:=KL l 0 _ (fun n v h=>by cases h)
theorem Tx (l:List ByteArray):∀ n v,DA l n=some v→0≤v∧v≤4095:=KL l 0 _ (fun n v h=>by cases h)
def Sm (r r':Nat→MS→MS):Prop:=∀ i s,(r i s).bad=false→s.bad=false∧r' i s=r i s
section
variable {pi pi':Int→Option Int} {pt pt':ByteArray→Option Int} (hi:Ext pi pi') (hq:Ext pt pt')
variable {rec rec':Nat→MS→MS} (hr:Sm rec rec')
include hr
end
section
variable {pi pi':Int→Option Int} {pt pt':ByteArray→Option Int} (hi:Ext pi pi') (hq:Ext pt pt')
include hi hq
end
noncomputable def E8 (on:Int) (slots:List Int) (wh:Bool) (ts:List Au) (ints:List Int) (texts:List ByteArray):List Int × Int:=
 if Bg on slots wh ts=true then
  if (BY (Dp ints) (DA texts) wh ts).bad=true then ([],42) else (Du (BY (Dp ints) (DA texts) wh ts).later (BY (Dp ints) (DA texts) wh ts).b,0)
 else ([],1)
theorem Rw (on:Int) (SA TA:Option Addr) (slots:List Int) (sc tc:Nat) (wh:Bool) (ts:List Au) (im tm:Value) (pi:Int→Option Int) (pt:ByteArray→Option Int) (w:World) (hb:Bg on slots wh ts=true) (hT:Bv w TA ts)
  (hp:DR w w.heap.size im pi) (hpb:∀ n v,pi n=some v→0≤v∧v≤4095) (hpt:FF w w.heap.size tm pt) (hptb:∀ n v,pt n=some v→0≤v∧v≤4095) :
  Calls Tryz.prog 45 #[.agg #[.int .i64 on,.slice SA slots.length sc,.bool wh,.slice TA ts.length tc],im,tm] w fun e w'=>∃ bv,e=.returned (.tuple #[bv,.bool (!(BY pi pt wh ts).bad)])∧w'.ownsRow w.heap.size 5 1 bv (BY pi pt wh ts).b.length (Ba (Du (BY pi pt wh ts).later (BY pi pt wh ts).b))∧Below w.heap.size w w':=by
 have hm:=GA pi pt hb
 obtain⟨f1,f2⟩:=JH hb
 obtain⟨hl,hp0,m,hmm,hml,he,_,hwt,hwf⟩:=Ij hb
 have hpb':∀ n v,pi n=some v→0≤v∧v≤10000000:=fun n v h=>by have:=hpb n v h;omega
 have hptb':∀ n v,pt n=some v→0≤v∧v≤10000000:=fun n v h=>by have:=hptb n v h;omega
 rcases hT with rfl | ⟨tb,toff,rfl,htb,hn⟩
 ·simp at hp0
 rw [hmm,Int.toNat_natCast] at f1
 cases wh with
 | false =>
  have:=hwf rfl
  subst this
  exact U5 on SA slots.length sc tb toff tc ts im tm pi pt w hl hp0 hn htb hp hpb' hpt hptb' f1 (by omega) hm
 | true =>
  obtain⟨hbm,_⟩:=hwt rfl
  have hbn:(Ap ts 0).toNat=m:=by rw [hbm];rfl
  exact SI on SA slots.length sc tb toff tc ts im tm pi pt w hl hp0 hn htb hp hpb' hpt hptb' (f2 rfl) (by omega) (by omega) (by rw [hbn];exact f1) (by rw [hbn];omega) hm
def Qi (w:World) (r:List Int × Int) (e:Ending) (w':World):Prop:=∃ bv,e=.returned (.tuple #[bv,.int .i64 r.2])∧w'.ownsRow w.heap.size 5 1 bv r.1.length (Ba r.1)∧Below w.heap.size w w'
section
variable (on:Int) (SA TA:Option Addr) (slots:List Int) (sc tc:Nat) (wh:Bool) (ts:List Au) (IA XA:Option Addr) (ints:List Int) (texts:List ByteArray) (ic xc:Nat) (w:World)
theorem MF (hT:Bv w TA ts) (hS:AV w SA slots) (htxt:∀ y∈ts,y.text.size≤1099511627776) (bx:Array Value) (b:Bool) (hb:Bg on slots wh ts=b) :
  Calls Tryz.prog 44 #[.agg #[.int .i64 on,.slice SA slots.length sc,.bool wh,.slice TA ts.length tc]] (w.alloc (.cells bx 25)) fun e w'=>e=.returned (.bool b)∧Below w.heap.size w w'∧Blk w' w.heap.size 25 bx:=by
 have hbel:Below w.heap.size w (w.alloc (.cells bx 25)):=(Below.refl _ _).alloc (Nat.le_refl _) _
 refine (Ue on SA TA slots sc tc wh ts _ (hT.below hbel) (hS.below hbel) htxt).mono ?_
 rintro e w' ⟨rfl,h⟩
 rw [hb]
 simp only [World.size_alloc] at h
 exact ⟨rfl,hbel.trans (h.mono (by omega)),(Blk.new w _ bx).below h (by omega)⟩
theorem TD (hT:Bv w TA ts) (hS:AV w SA slots) (htxt:∀ y∈ts,y.text.size≤1099511627776) (hb:Bg on slots wh ts=false) :
  Calls Tryz.prog 10 #[.agg #[.int .i64 on,.slice SA slots.length sc,.bool wh,.slice TA ts.length tc],.slice IA ints.length ic,.slice XA texts.length xc] w (Qi w ([],1)):=by
 have hc:=MF on SA TA slots sc tc wh ts w hT hS htxt #[.int .i64 on,.slice SA slots.length sc,.bool wh,.slice TA ts.length tc] false hb
 have HC:=Lh hc
 clear hc hT hS htxt hb
 go_in
 go_wp2_with fail
 refine HC.out.mono ?_
 rintro e w1 ⟨rfl,h1,h2⟩
 go_wp2_with fail
 go_ret2
 exact ⟨_,rfl,World.ownsRow_nil _ _ _ _,h1⟩
theorem Sl (M:MS) (hM:BY (Dp ints) (DA texts) wh ts=M) (hi:ints.length≤100000000) (hx:texts.length≤100000000) (hI:Ch w IA ints) (hX:BE w XA texts) (hT:Bv w TA ts) (hS:AV w SA slots) (htxt:∀ y∈ts,y.text.size≤1099511627776) (hb:Bg on slots wh ts=true) (q:Bool) (hq:M.bad=q) :
  Calls Tryz.prog 10 #[.agg #[.int .i64 on,.slice SA slots.length sc,.bool wh,.slice TA ts.length tc],.slice IA ints.length ic,.slice XA texts.length xc] w (Qi w (if q=true then ([],42) else (Du M.later M.b,0))):=by
 have hc:=MF on SA TA slots sc tc wh ts w hT hS htxt #[.int .i64 on,.slice SA slots.length sc,.bool wh,.slice TA ts.length tc] true hb
 have hni:=fun (w':World) (h:Below w.heap.size w w')=>NB IA ints ints.length ic w' (hI.below h) rfl hi
 have hnx:=fun (w':World) (h:Below w.heap.size w w')=>NF XA texts texts.length xc w' (hX.below h) rfl hx
 have hmd:=fun (im tm:Value) (w':World) (h:Below w.heap.size w w') (hp:DR w' w'.heap.size im (Dp ints)) (hpt:FF w' w'.heap.size tm (DA texts))=>Rw on SA TA slots sc tc wh ts im tm (Dp ints) (DA texts) w' hb (hT.below h) hp (NS ints) hpt (Tx texts)
 simp only [hM,hq] at hmd
 have hlen:(Du M.later M.b).length=M.b.length:=EU _ _
 rw [← hlen] at hmd
 obtain⟨L,hL⟩:=Ex0 (Du M.later M.b)
 rw [← hL] at hmd ⊢
 obtain⟨r,hr⟩:∃ r:List Int × Int,r=(if q=true then ([],42) else (L,0)):=⟨_,rfl⟩
 rw [← hr]
 have HR:=Lh hr
 clear hr
 obtain⟨ni,hni'⟩:∃ n,ints.length=n:=⟨_,rfl⟩
 obtain⟨nx,hnx'⟩:∃ n,texts.length=n:=⟨_,rfl⟩
 obtain⟨ns,hns'⟩:∃ n,slots.length=n:=⟨_,rfl⟩
 obtain⟨nt,hnt'⟩:∃ n,ts.length=n:=⟨_,rfl⟩
 rw [hni'] at hni ⊢
 rw [hnx'] at hnx ⊢
 rw [hns',hnt'] at hc ⊢
 simp only [hns',hnt'] at hmd
 obtain⟨HC,HNI,HNX,HMD⟩:=Hd4 hc hni hnx hmd
 clear hc hni hnx hmd hT hS htxt hb hI hX hM hq hlen hL hni' hnx' hns' hnt' hi hx
 go_in
 go_wp2_with fail
 refine HC.out.mono ?_
 rintro e w1 ⟨rfl,h1,k1⟩
 obtain⟨B1,K1⟩:=Hd2 h1 k1
 clear h1 k1
 go_wp2_with fail
 have sA:w1.drew.cell? ⟨w.heap.size,0,none⟩=some (.int .i64 on)∧w1.drew.cell? ⟨w.heap.size,1,none⟩=some (.slice SA ns sc)∧w1.drew.cell? ⟨w.heap.size,2,none⟩=some (.bool wh)∧w1.drew.cell? ⟨w.heap.size,3,none⟩=some (.slice TA nt tc):=⟨K1.out.cell 0,K1.out.cell 1,K1.out.cell 2,K1.out.cell 3⟩
 go_region_held3 (fun w'=>w'.cell? ⟨w.heap.size,0,none⟩=some (.int .i64 on)∧w'.cell? ⟨w.heap.size,1,none⟩=some (.slice SA ns sc)∧w'.cell? ⟨w.heap.size,2,none⟩=some (.bool wh)∧w'.cell? ⟨w.heap.size,3,none⟩=some (.slice TA nt tc)) (first | exact sA | exact sB | exact sC | exact sD)
  ((first | (go_at_call 46;refine (HNI.out _ B1.out.drew).mono ?_;rintro e w2 ⟨m1,rfl,hg2,hm2,hb2⟩;have B2:=Lh (B1.out.drew.trans (hb2.mono B1.out.size));have k2:=K1.out.drew.below hb2 K1.out.lt;have K2:=Lh k2;have M2:=Lh hm2;have z2:m1 < w2.heap.size:=hm2.lt Fg;have sB:w2.cell? ⟨w.heap.size,0,none⟩=some (.int .i64 on)∧w2.cell? ⟨w.heap.size,1,none⟩=some (.slice SA ns sc)∧w2.cell? ⟨w.heap.size,2,none⟩=some (.bool wh)∧w2.cell? ⟨w.heap.size,3,none⟩=some (.slice TA nt tc):=⟨k2.cell 0,k2.cell 1,k2.cell 2,k2.cell 3⟩;clear hm2 hb2 k2)
          | (go_at_call 47;refine (HNX.out _ B2.out).mono ?_;rintro e w3 ⟨m2,rfl,hg3,hm3,hb3⟩;have B3:=Lh (B2.out.trans (hb3.mono B2.out.size));have k3:=K2.out.below hb3 K2.out.lt;have K3:=Lh k3;have P2:Hid (DR w3 w3.heap.size (.map (some m1)) (Dp ints)):=Lh (DR.up (B:=w2.heap.size) ⟨m1,rfl,z2,M2.out⟩ hb3 hb3.size);have P3:Hid (FF w3 w3.heap.size (.map (some m2)) (DA texts)):=Lh ⟨m2,rfl,hm3.lt Fb,hm3⟩;have sC:w3.cell? ⟨w.heap.size,0,none⟩=some (.int .i64 on)∧w3.cell? ⟨w.heap.size,1,none⟩=some (.slice SA ns sc)∧w3.cell? ⟨w.heap.size,2,none⟩=some (.bool wh)∧w3.cell? ⟨w.heap.size,3,none⟩=some (.slice TA nt tc):=⟨k3.cell 0,k3.cell 1,k3.cell 2,k3.cell 3⟩;clear hm3 hb3 k3)
          | (go_at_call 45;refine (HMD.out _ _ _ B3.out P2.out P3.out).mono ?_;rintro e w4 ⟨bv,rfl,ho4,hb4⟩;have B4:=Lh (B3.out.trans (hb4.mono B3.out.size));have O4:=Lh (Fk ho4 B3.out.size);have k4:=K3.out.below hb4 K3.out.lt;have sD:w4.cell? ⟨w.heap.size,0,none⟩=some (.int .i64 on)∧w4.cell? ⟨w.heap.size,1,none⟩=some (.slice SA ns sc)∧w4.cell? ⟨w.heap.size,2,none⟩=some (.bool wh)∧w4.cell? ⟨w.heap.size,3,none⟩=some (.slice TA nt tc):=⟨k4.cell 0,k4.cell 1,k4.cell 2,k4.cell 3⟩;clear ho4 hb4 k4)))
 cases q with
 | true =>
  obtain rfl:r=([],42):=HR.out
  go_wp2_with fail
  go_ret2
  exact ⟨_,rfl,World.ownsRow_nil _ _ _ _,B4.out⟩
 | false =>
  obtain rfl:r=(L,0):=HR.out
  go_wp2_with fail
  go_ret2
  exact ⟨_,rfl,O4.out,B4.out⟩
theorem IU (hi:ints.length≤100000000) (hx:texts.length≤100000000) (hI:Ch w IA ints) (hX:BE w XA texts) (hT:Bv w TA ts) (hS:AV w SA slots) (htxt:∀ y∈ts,y.text.size≤1099511627776) :
  Calls Tryz.prog 10 #[.agg #[.int .i64 on,.slice SA slots.length sc,.bool wh,.slice TA ts.length tc],.slice IA ints.length ic,.slice XA texts.length xc] w (Qi w (E8 on slots wh ts ints texts)):=by
 cases hb:Bg on slots wh ts with
 | false =>
  have e:E8 on slots wh ts ints texts=([],1):=by unfold E8;rw [if_neg (by rw [hb];decide)]
  rw [e]
  exact TD on SA TA slots sc tc wh ts IA XA ints texts ic xc w hT hS htxt hb
 | true =>
  have e:E8 on slots wh ts ints texts=(if (BY (Dp ints) (DA texts) wh ts).bad=true then ([],42) else (Du (BY (Dp ints) (DA texts) wh ts).later (BY (Dp ints) (DA texts) wh ts).b,0)):=by unfold E8;rw [if_pos hb]
  rw [e]
  exact Sl on SA TA slots sc tc wh ts IA XA ints texts ic xc w _ rfl hi hx hI hX hT hS htxt hb _ rfl
end
def Dr:List Au:=[nd 10 0 0 0 1,nd 19 0 6 0 2,nd 33 3 0 0 0,nd 30 1 5 0 0]
theorem Qn:E8 0 [3,4] false Dr [0,1,5] []=([4,0,1,0,2,60,6,34],0):=by kernel_rfl
theorem RH:E8 0 [3,4] false Dr [0,1] []=([],42):=by kernel_rfl
end Go.Proofs.YtmpcbaflcogmmaaGreatDoor
