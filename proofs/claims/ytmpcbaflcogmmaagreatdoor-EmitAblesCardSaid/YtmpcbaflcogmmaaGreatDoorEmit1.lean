/- Emit0 Emit1 -/
import Derived.Laws.AppendOwnNone
import Derived.Test.YtmpcbaflcogmmaaGreatDoorAble10
import Derived.Test.YtmpcbaflcogmmaaGreatDoorLook13
import Derived.Test.YtmpcbaflcogmmaaGreatDoorSerial3
namespace Go.Proofs.YtmpcbaflcogmmaaGreatDoor
open Go.RowKit
set_option linter.all false
set_option maxHeartbeats 1600000
set_option maxRecDepth 100000
theorem FM {w w':World} {B B' s1 s2 n1 n2:Nat} {e1 e2:TypeId} {v1 v2:Value} {x1 x2:List Value} (h1:w.ownsRow B e1 s1 v1 n1 x1) (h2:w.ownsRow B' e2 s2 v2 n2 x2) (hne:e2≠e1) (hg:w.grownBy w' v2.ownBlock):w'.ownsRow B e1 s1 v1 n1 x1:=by
 refine h1.kept hg ?_
 rcases h1.2 with ⟨rfl,_⟩ | ⟨g',cp,cu,rfl,_,hh,_⟩
 ·exact .inl rfl
 ·right
  intro e
  exact AR h2 (g:=g') (t:=e1) (cs:=cu) hh hne e.symm
theorem Tw:(Tryz.prog.info? 5).map (fun i=>(i.zero,i.size,i.bytes))=some (some (.int .u8 0),1,1):=by kernel_rfl
theorem Gp:ElT Tryz.prog 34 5 1 1:=⟨Tryz.underlying34,by decide,by
 obtain⟨i0,hi,hz0,hz1,hz2⟩:=info_parts Tw
 exact ⟨i0,_,hi,hz0,hz1,hz2,rfl⟩⟩
theorem Ul:(Tryz.prog.info? 1).map (fun i=>(i.zero,i.size,i.bytes))=some (some .nilFunc,1,8):=by kernel_rfl
theorem UK:ElT Tryz.prog 149 1 1 8:=⟨Tryz.underlying149,by decide,by
 obtain⟨i0,hi,hz0,hz1,hz2⟩:=info_parts Ul
 exact ⟨i0,_,hi,hz0,hz1,hz2,rfl⟩⟩
def Ba (l:List Int):List Value:=l.map (Value.int .u8)
def Ph (w:World) (kb:Nat) (v:Value) (p:Nat × Nat):Prop:=
 ∃ g1 g2 g3,v=.func (.func 162) #[] #[.pointer (some ⟨g1,0,none⟩),.pointer (some ⟨g2,0,none⟩),.pointer (some ⟨g3,0,none⟩)] ∧
  Blk w g1 3 #[.int .i64 p.2]∧Blk w g2 146 #[.pointer (some ⟨kb,0,none⟩)]∧Blk w g3 3 #[.int .i64 p.1]
def EK (w:World) (B kb:Nat) (tv im tm mb:Value) (s:MS):Prop:=
 ∃ bv lv vals,B≤kb∧Blk w kb 151 #[tv,im,tm,bv,.bool s.bad,mb,lv]∧w.ownsRow B 5 1 bv s.b.length (Ba s.b)∧w.ownsRow B 1 1 lv s.later.length vals ∧
  ∀ (k:Nat) (p:Nat × Nat),s.later[k]? = some p→∃ v,vals[k]? = some v∧Ph w kb v p
abbrev TE:List TypeId:=[151,5,1]
section
variable {B kb:Nat} {tv im tm mb:Value} {s s':MS} {w w':World}
theorem Ph.frm {v:Value} {p:Nat × Nat} (h:Ph w kb v p) (hf:Frm B TE w w'):Ph w' kb v p:=by
 obtain⟨g1,g2,g3,h1,h2,h3,h4⟩:=h
 exact ⟨g1,g2,g3,h1,hf.blk h2 (by decide),hf.blk h3 (by decide),hf.blk h4 (by decide)⟩
theorem EK.size (h:EK w B kb tv im tm mb s):B≤kb∧kb < w.heap.size:=by
 obtain⟨bv,lv,vals,h1,h2,_⟩:=h
 exact ⟨h1,h2.lt⟩
theorem EK.below (h:EK w B kb tv im tm mb s) (hb:Below w.heap.size w w'):EK w' B kb tv im tm mb s:=by
 obtain⟨bv,lv,vals,h1,h2,h3,h4,h5⟩:=h
 have f:=Frm.of_below (B:=0) (T:=[]) hb (Nat.zero_le _)
 refine ⟨bv,lv,vals,h1,f.blk h2 (by simp),f.own h3 (by simp),f.own h4 (by simp),fun k p hk=>?_⟩
 obtain⟨v,hv,hw⟩:=h5 k p hk
 exact ⟨v,hv,hw.frm (f.more (by simp))⟩
theorem EK.alloc (h:EK w B kb tv im tm mb s) (o:Obj):EK (w.alloc o) B kb tv im tm mb s:=h.below ((Below.refl _ _).alloc (Nat.le_refl _) o)
theorem EK.drew (h:EK w B kb tv im tm mb s):EK w.drew B kb tv im tm mb s:=h
theorem EK.cells (h:EK w B kb tv im tm mb s):w.cell? ⟨kb,0,none⟩=some tv∧w.cell? ⟨kb,1,none⟩=some im∧w.cell? ⟨kb,2,none⟩=some tm∧w.cell? ⟨kb,4,none⟩=some (.bool s.bad)∧w.cell? ⟨kb,5,none⟩=some mb∧w.frozen? ⟨kb,4,none⟩=false:=by
 obtain⟨bv,lv,vals,h1,h2,_⟩:=h
 exact ⟨h2.cell 0,h2.cell 1,h2.cell 2,h2.cell 4,h2.cell 5,h2.frozen 4⟩
theorem EK.bcell (h:EK w B kb tv im tm mb s):∃ A c,w.cell? ⟨kb,3,none⟩=some (.slice A s.b.length c):=by
 obtain⟨bv,lv,vals,h1,h2,h3,_⟩:=h
 obtain⟨A,c,rfl⟩:=AJ h3
 exact ⟨A,c,h2.cell 3⟩
theorem EK.setBad (h:EK w B kb tv im tm mb s) (b:Bool):EK (w.setCell ⟨kb,4,none⟩ (.bool b)) B kb tv im tm mb { s with bad:=b }∧Frm B TE w (w.setCell ⟨kb,4,none⟩ (.bool b)):=by
 obtain⟨bv,lv,vals,h1,h2,h3,h4,h5⟩:=h
 have f:Frm B TE w (w.setCell ⟨kb,4,none⟩ (.bool b)):=(Frm.refl _ _ _).set_ h2 h1 (by decide) _
 refine ⟨⟨bv,lv,vals,h1,h2.set_ 4 _,Bm h3 (AR h3 h2 (by decide)) _,Bm h4 (AR h4 h2 (by decide)) _,fun k p hk=>?_⟩,f⟩
 obtain⟨v,hv,hw⟩:=h5 k p hk
 exact ⟨v,hv,hw.frm f⟩
end
def Ih (w0 w:World) (XA:Option Addr) (x:List Int) (n c:Nat):Prop:=
 (x=[]∧XA=none∧n=0∧c=0)∨(n=x.length∧0 < n∧∃ lb,XA=some ⟨lb,0,none⟩∧w0.heap.size≤lb∧lb < w.heap.size∧∀ j u,(Ba x)[j]? = some u→w.cell? ⟨lb,j,none⟩=some u)
theorem Ih.none_ (w0 w:World):Ih w0 w none [] 0 0:=.inl ⟨rfl,rfl,rfl,rfl⟩
theorem Ih.lit (w:World) (x:List Int) (hx:0 < x.length) (cs:Array Value) (hc:cs=(Ba x).toArray):Ih w (w.alloc (.cells cs 5)) (some ⟨w.heap.size,0,none⟩) x x.length x.length:=
  .inr ⟨rfl,hx,_,rfl,Nat.le_refl _,by simp,fun j u hj=>by
  rw [hc,(Blk.new w _ _).cell j,List.getElem?_toArray]
  exact hj⟩
theorem OE {B kb:Nat} {w w1:World} {cs:Array Value} {A:Option Addr} {nb bc nl:Nat} {bs vals:List Value} {lv:Value} (K2:Blk w kb 151 cs) (O2:w.ownsRow B 5 1 (.slice A nb bc) nb bs) (L2:w.ownsRow B 1 1 lv nl vals) (FB:Frm B TE w w)
  (G1:w.grownBy w1 (Value.slice A nb bc).ownBlock) (hBw:B≤w.heap.size) :
  Hid (Blk w1 kb 151 cs)∧Hid (w1.ownsRow B 1 1 lv nl vals)∧Hid (Frm B TE w w1)∧B≤w1.heap.size∧w1.cell? ⟨kb,3,none⟩=cs[3]?∧w1.frozen? ⟨kb,3,none⟩=false:=by
 have k:=K2.grown G1 (AR O2 K2 (by decide)).symm
 exact ⟨k,FM L2 O2 (by decide) G1,FB.grown O2 G1 (Nat.le_refl _) hBw (by decide),by have:=G1.size;omega,k.cell 3,k.frozen 3⟩
theorem Ox {B kb n1:Nat} {w1 w2:World} {cs:Array Value} {v1:Value} {xs:List Value} (K3:Blk w1 kb 151 cs) (O1:w1.ownsRow B 5 1 v1 n1 xs) (G2:w1.grownBy w2 v1.ownBlock) :
  w2.cell? ⟨kb,3,none⟩=cs[3]?∧w2.frozen? ⟨kb,3,none⟩=false∧Hid (Blk w2 kb 151 cs):=by
 have k:=K3.grown G2 (AR O1 K3 (by decide)).symm
 exact ⟨k.cell 3,k.frozen 3,k⟩
theorem PL {B kb:Nat} {w0 w w1:World} {cs:Array Value} {A:Option Addr} {nb bc nl lb:Nat} {bs vals:List Value} {lv:Value} {x:List Int} (K2:Blk w kb 151 cs) (O2:w.ownsRow B 5 1 (.slice A nb bc) nb bs) (L2:w.ownsRow B 1 1 lv nl vals) (FB:Frm B TE w w)
  (HOB:∀ g,(Value.slice A nb bc).ownBlock=some g→g < w0.heap.size) (hlb:w0.heap.size≤lb) (hlt:lb < w.heap.size) (G1:w.grownBy w1 (Value.slice A nb bc).ownBlock) (hBw:B≤w.heap.size) (HCL:∀ (j:Nat) (u:Value),(Ba x)[j]? = some u→w.cell? ⟨lb,j,none⟩=some u) :
  Blk w1 kb 151 cs∧Hid (w1.ownsRow B 1 1 lv nl vals)∧Hid (Frm B TE w w1)∧(∀ (j:Nat) (u:Value),(Ba x)[j]? = some u→w1.cell? ((⟨lb,0,none⟩:Addr).add j)=some u)∧B≤w1.heap.size:=by
 refine ⟨K2.grown G1 (AR O2 K2 (by decide)).symm,FM L2 O2 (by decide) G1,FB.grown O2 G1 (Nat.le_refl _) hBw (by decide),?_,by have:=G1.size;omega⟩
 have hlb1:w1.heap[lb]? = w.heap[lb]?:=by
  refine G1.block lb hlt ?_
  intro e
  have:=HOB lb e.symm
  omega
 intro j u hj
 rw [← HCL j u hj]
 have e:(⟨lb,0,none⟩:Addr).add j=⟨lb,j,none⟩:=by unfold Addr.add;cases j <;> simp
 rw [e]
 unfold World.cell?
 rw [hlb1]
theorem Gh (B kb:Nat) (tv im tm mb:Value) (s:MS) (c:Int) (x:List Int) (XA:Option Addr) (n cp:Nat) (w0 w:World) (h:EK w0 B kb tv im tm mb s) (hb:Below w0.heap.size w0 w) (hx:Ih w0 w XA x n cp) (hm:s.ms + x.length≤1000000) :
  Calls Tryz.prog 108 #[.pointer (some ⟨kb,0,none⟩),.int .u8 c,.slice XA n cp] w fun e w'=>e=.returned (.tuple #[])∧EK w' B kb tv im tm mb (opE c x s)∧Frm B TE w w':=by
 obtain⟨hB,hks⟩:=h.size
 obtain⟨bv,lv,vals,_,k1,o1,l1,a1⟩:=h
 have fb:Frm B TE w0 w:=Frm.of_below hb (by omega)
 have f0:=Frm.of_below (B:=0) (T:=[]) hb (Nat.zero_le _)
 have k2:=f0.blk k1 (by simp)
 have o2:=f0.own o1 (by simp)
 have l2:=f0.own l1 (by simp)
 have hobk:∀ g,bv.ownBlock=some g→g < w0.heap.size:=fun g hg=>(o1.lt g hg).2
 have hsz:=hb.size
 obtain⟨nb,hnb⟩:∃ nb,s.b.length=nb:=⟨_,rfl⟩
 have hnm:nb + x.length≤1000000:=by unfold MS.ms at hm;omega
 rw [hnb] at o2
 obtain⟨A,bc,rfl⟩:=AJ o2
 have kk3:=k2.cell 3
 have kf3:=k2.frozen 3
 have hBw:B≤w.heap.size:=by omega
 have hfin:∀ (v2:Value) (w2:World),Blk w2 kb 151 #[tv,im,tm,.slice A nb bc,.bool s.bad,mb,lv]→w2.ownsRow B 5 1 v2 (nb + 1 + x.length) (Ba s.b ++ [Value.int .u8 c] ++ Ba x)→w2.ownsRow B 1 1 lv s.later.length vals→Frm B TE w w2 →
   EK (w2.setCell ⟨kb,3,none⟩ v2) B kb tv im tm mb (opE c x s)∧Frm B TE w (w2.setCell ⟨kb,3,none⟩ v2):=by
  intro v2 w2 h1 h2 h3 h4
  have f2:Frm B TE w (w2.setCell ⟨kb,3,none⟩ v2):=h4.set_ h1 hB (by decide) _
  refine ⟨⟨v2,lv,vals,hB,h1.set_ 3 _,?_,Bm h3 (AR h3 h1 (by decide)) _,fun k p hk=>?_⟩,f2⟩
  ·have e:(opE c x s).b.length=nb + 1 + x.length:=by simp [opE,hnb];omega
   have e2:Ba (opE c x s).b=Ba s.b ++ [Value.int .u8 c] ++ Ba x:=by simp [opE,Ba]
   rw [e,e2]
   exact Bm h2 (AR h2 h1 (by decide)) _
  ·obtain⟨v,hv,hw⟩:=a1 k p hk
   exact ⟨v,hv,hw.frm (fb.trans f2)⟩
 obtain⟨HFIN,K2,O2,L2,FB,HOB,HX⟩:=Hd7 hfin k2 o2 l2 (Frm.refl B TE w) hobk hx
 clear hfin k1 k2 o1 o2 l1 l2 a1 fb f0 hobk hx hm hnb hb
 obtain⟨nx,hnx⟩:∃ nx,x.length=nx:=⟨_,rfl⟩
 rw [hnx] at hnm
 have HNX:=Lh hnx
 clear hnx
 rcases HX.out with ⟨hx0,rfl,rfl,rfl⟩ | ⟨hn,hn0,lb,rfl,hlb,hlt,hcell⟩
 ·have hnx0:nx=0:=by have:=HNX.out;rw [hx0] at this;simpa using this.symm
  subst hnx0
  obtain⟨i0,z0,hi0,hz0,hsz0,hby0,hzc0⟩:=Gp.info
  have HX0:=Lh hx0
  clear hx0
  go_in
  go_wp2_with (at_builtin;first | (refine Cb Gp rfl _ _ rfl B w [.int .u8 c] rfl _ _ _ rfl O2.out rfl rfl (by simp [Value.oneCell']) (by unfold maxLen;omega) (by omega) hBw ?_;intro v1 w1 hown1 hg1;obtain⟨A1,c1,rfl⟩:=AJ hown1;have O1:=Lh hown1;have G1:=Lh hg1;clear hg1;have FX:=OE K2.out O2.out L2.out FB.out G1.out hBw;obtain⟨K3,L3,F3,hBw1,kk3',kf3'⟩:=FX) | (refine wpList_append_own_none rfl _ _ 34 rfl B 5 i0 1 Gp.und hi0 _ _ _ rfl (by assumption) rfl ?_))
  go_end0
  have h:=HFIN.out _ w1 K3.out (by rw [HX0.out];simpa [Ba] using O1.out) L3.out F3.out
  exact ⟨rfl,h⟩
 ·have hnn:n=nx:=by rw [hn,HNX.out]
  subst hnn
  obtain⟨i0,z0,hi0,hz0,hsz0,hby0,hzc0⟩:=Gp.info
  have HCL:=Lh hcell
  clear hcell hn
  go_in
  go_wp2_with (at_builtin;first | (refine Cb Gp rfl _ _ rfl B w [.int .u8 c] rfl _ _ _ rfl O2.out rfl rfl (by simp [Value.oneCell']) (by unfold maxLen;omega) (by omega) hBw ?_;intro v1 w1 hown1 hg1;obtain⟨A1,c1,rfl⟩:=AJ hown1;have O1:=Lh hown1;have G1:=Lh hg1;clear hg1;have FX:=PL K2.out O2.out L2.out FB.out HOB.out hlb hlt G1.out hBw HCL.out;obtain⟨K3,L3,F3,HC1,hBw1⟩:=FX) | (refine wpList_append_own_at _ rfl _ _ 34 rfl B 5 i0 z0 1 1 Gp.und hi0 hz0 hsz0 hby0 hzc0 (by decide) _ _ _ rfl (by assumption) ⟨lb,0,none⟩ n cp (Ba x) rfl (by simp [Ba];exact HNX.out) (by assumption) (by intro u hu;obtain⟨y,_,rfl⟩:=List.mem_map.1 hu;rfl) (by unfold maxLen;omega) (by omega) (by assumption) ?_;intro v2 w2 hown2 hg2 _ _;obtain⟨A2,c2,rfl⟩:=AJ hown2;have FY:=Ox (by assumption) (by assumption) hg2;obtain⟨kk4,kf4,K4⟩:=FY;have O3:=Lh hown2;have G2:=Lh hg2;clear hown2 hg2))
  go_end0
  have l4:=FM L3.out O1.out (by decide) G2.out
  have f4:=F3.out.grown O1.out G2.out (Nat.le_refl _) hBw1 (by decide)
  have h:=HFIN.out _ w2 K4.out (by rw [HNX.out];exact O3.out) l4 f4
  exact ⟨rfl,h⟩
section
variable (B kb:Nat) (tv im tm mb:Value) (s:MS) (c:Int) (w:World) (h:EK w B kb tv im tm mb s)
include h
theorem Gj (hm:s.ms≤1000000) :
  Calls Tryz.prog 108 #[.pointer (some ⟨kb,0,none⟩),.int .u8 c,.slice none 0 0] w fun e w'=>e=.returned (.tuple #[])∧EK w' B kb tv im tm mb (opE c [] s)∧Frm B TE w w':=
 Gh B kb tv im tm mb s c [] none 0 0 w w h (Below.refl _ _) (Ih.none_ w w) hm
theorem PA (x:Int) (hm:s.ms + 1≤1000000) :
  Calls Tryz.prog 108 #[.pointer (some ⟨kb,0,none⟩),.int .u8 c,.slice (some ⟨w.heap.size,0,none⟩) 1 1] (w.alloc (.cells #[.int .u8 x] 5)) fun e w'=>e=.returned (.tuple #[])∧EK w' B kb tv im tm mb (opE c [x] s)∧Frm B TE w w':=by
 have hb:Below w.heap.size w (w.alloc (.cells #[.int .u8 x] 5)):=(Below.refl _ _).alloc (Nat.le_refl _) _
 refine (Gh B kb tv im tm mb s c [x] (some ⟨w.heap.size,0,none⟩) 1 1 w _ h hb (Ih.lit w [x] (by simp) #[.int .u8 x] rfl) hm).mono ?_
 rintro e w1 ⟨rfl,h1,f1⟩
 exact ⟨rfl,h1,(Frm.of_below hb (by have:=h.size;omega)).trans f1⟩
theorem Qy (x y:Int) (hm:s.ms + 2≤1000000) :
  Calls Tryz.prog 108 #[.pointer (some ⟨kb,0,none⟩),.int .u8 c,.slice (some ⟨w.heap.size,0,none⟩) 2 2] (w.alloc (.cells #[.int .u8 x,.int .u8 y] 5)) fun e w'=>e=.returned (.tuple #[])∧EK w' B kb tv im tm mb (opE c [x,y] s)∧Frm B TE w w':=by
 have hb:Below w.heap.size w (w.alloc (.cells #[.int .u8 x,.int .u8 y] 5)):=(Below.refl _ _).alloc (Nat.le_refl _) _
 refine (Gh B kb tv im tm mb s c [x,y] (some ⟨w.heap.size,0,none⟩) 2 2 w _ h hb (Ih.lit w [x,y] (by simp) #[.int .u8 x,.int .u8 y] rfl) hm).mono ?_
 rintro e w1 ⟨rfl,h1,f1⟩
 exact ⟨rfl,h1,(Frm.of_below hb (by have:=h.size;omega)).trans f1⟩
end
noncomputable def Fg:Mk Tryz.prog 2 Int:=Qw Tryz.prog 2 .i64 Tryz.underlying2
noncomputable def Fb:Mk Tryz.prog 9 ByteArray:=Va Tryz.prog 9 Tryz.underlying9
theorem GP (w:World):(zeroValue 3).run Tryz.prog w=.ok (.int .i64 0) w:=by kernel_rfl
def LY (o:Option Int):Option Value:=o.map (Value.int .i64)
def DR (w:World) (B:Nat) (im:Value) (pi:Int→Option Int):Prop:=∃ ib,im=.map (some ib)∧ib < B∧MK Fg w ib (fun n=>LY (pi n))
def FF (w:World) (B:Nat) (tm:Value) (pt:ByteArray→Option Int):Prop:=∃ tb,tm=.map (some tb)∧tb < B∧MK Fb w tb (fun n=>LY (pt n))
theorem DR.below {w w':World} {B:Nat} {im:Value} {pi:Int→Option Int} (h:DR w B im pi) (hb:Below B w w'):DR w' B im pi:=by
 obtain⟨ib,h1,h2,h3⟩:=h
 exact ⟨ib,h1,h2,h3.of_block Fg (hb.block ib h2)⟩
theorem FF.below {w w':World} {B:Nat} {tm:Value} {pt:ByteArray→Option Int} (h:FF w B tm pt) (hb:Below B w w'):FF w' B tm pt:=by
 obtain⟨ib,h1,h2,h3⟩:=h
 exact ⟨ib,h1,h2,h3.of_block Fb (hb.block ib h2)⟩
section
variable (B kb:Nat) (tv im tm mb:Value) (s:MS) (w:World) (h:EK w B kb tv im tm mb s)
include h
theorem DG (c n:Int) (h0:0≤n) (h1:n≤10000000) (hm:s.ms + 2≤1000000) :
  Calls Tryz.prog 202 #[.pointer (some ⟨kb,0,none⟩),.int .u8 c,.int .i64 n] w fun e w'=>e=.returned (.tuple #[])∧EK w' B kb tv im tm mb (Ec c n s)∧Frm B TE w w':=by
 have hop:=Qy B kb tv im tm mb s c w h (hi8 n) (u8 n) hm
 have HOP:=Lh hop
 have e1:IntKind.u8.wrap (n / 256)=hi8 n:=rfl
 have e2:IntKind.u8.wrap n=u8 n:=rfl
 clear hop h
 go_in
 go_wp2_with fail
 refine HOP.out.mono ?_
 rintro e w1 ⟨rfl,h2,f2⟩
 go_wp2_with fail
 go_end0
 exact ⟨rfl,h2,f2⟩
theorem GG (pi:Int→Option Int) (n:Int) (hp:DR w B im pi) :
  Calls Tryz.prog 203 #[.pointer (some ⟨kb,0,none⟩),.int .i64 n] w fun e w'=>e=.returned (.int .i64 ((pi n).getD 0))∧EK w' B kb tv im tm mb (C9 (pi n) s)∧Frm B TE w w':=by
 obtain⟨ib,rfl,hib,hmk⟩:=hp
 obtain⟨c0,c1,c2,c4,c5,f4⟩:=h.cells
 have hlk:=hmk.lookup Fg Tryz.underlying98 GP n true
 have hset:=fun b=>h.setBad b
 obtain⟨HSET,H⟩:=Hd2 hset h
 cases hpn:pi n with
 | none =>
  have hl2:(Instr.lookup 98 (.map (some ib)) (.int .i64 n) true).run Tryz.prog w=.ok (.tuple #[.int .i64 0,.bool false]) w:=by
   have:=hlk
   simp only [hpn,LY] at this
   exact this
  clear hlk hmk h hset hpn
  obtain⟨sb,hsb⟩:∃ sb,s.bad=sb:=⟨_,rfl⟩
  rw [hsb] at c4
  have HSB:=Lh hsb
  clear hsb
  cases sb with
  | true =>
   go_in
   go_wp2_with fail
   go_ret
   refine ⟨rfl,?_,(HSET.out true).2⟩
   have:=(HSET.out true).1
   have e:C9 none s={ s with bad:=true }:=by simp [C9]
   rw [e]
   exact this
  | false =>
   go_in
   go_wp2_with fail
   go_ret
   refine ⟨rfl,?_,(HSET.out true).2⟩
   have:=(HSET.out true).1
   have e:C9 none s={ s with bad:=true }:=by simp [C9]
   rw [e]
   exact this
 | some v =>
  have hl2:(Instr.lookup 98 (.map (some ib)) (.int .i64 n) true).run Tryz.prog w=.ok (.tuple #[.int .i64 v,.bool true]) w:=by
   have:=hlk
   simp only [hpn,LY] at this
   exact this
  clear hlk hmk h hset hpn
  obtain⟨sb,hsb⟩:∃ sb,s.bad=sb:=⟨_,rfl⟩
  rw [hsb] at c4
  have HSB:=Lh hsb
  clear hsb
  cases sb with
  | true =>
   go_in
   go_wp2_with fail
   go_ret
   refine ⟨rfl,?_,(HSET.out true).2⟩
   have:=(HSET.out true).1
   have e:C9 (some v) s={ s with bad:=true }:=by simp [C9,HSB.out]
   rw [e]
   exact this
  | false =>
   go_in
   go_wp2_with fail
   go_ret
   refine ⟨rfl,?_,(HSET.out false).2⟩
   have:=(HSET.out false).1
   have e:C9 (some v) s={ s with bad:=false }:=by simp [C9,HSB.out]
   rw [e]
   exact this
theorem NJ (pi:Int→Option Int) (n:Int) (hp:DR w B im pi) (hpb:∀ n v,pi n=some v→0≤v∧v≤10000000) (hm:s.ms + 2≤1000000) :
  Calls Tryz.prog 147 #[.pointer (some ⟨kb,0,none⟩),.int .i64 n] w fun e w'=>e=.returned (.tuple #[])∧EK w' B kb tv im tm mb (Dn (pi n) s)∧Frm B TE w w':=by
 have h1:=GG B kb tv im tm mb s w h pi n hp
 have hv:0≤(pi n).getD 0∧(pi n).getD 0≤10000000:=by
  cases hpn:pi n with
  | none=>simp
  | some v=>exact hpb n v hpn
 have h2:=fun wx hx=>DG B kb tv im tm mb (C9 (pi n) s) wx hx 1 ((pi n).getD 0) hv.1 hv.2 hm
 obtain⟨v,hvv⟩:=Ex0 ((pi n).getD 0)
 rw [← hvv] at h1 h2
 obtain⟨H1,H2,HV⟩:=Hd3 h1 h2 hvv
 clear h1 h2 h hp hpb hv hvv
 go_in
 go_wp2_with fail
 refine H1.out.mono ?_
 rintro e w1 ⟨rfl,g1,f1⟩
 have G1:=Lh g1
 clear g1
 go_wp2_with fail
 refine (H2.out _ G1.out).mono ?_
 rintro e w2 ⟨rfl,g2,f2⟩
 go_wp2_with fail
 go_end0
 refine ⟨rfl,?_,f1.trans f2⟩
 unfold Dn
 rw [← HV.out]
 exact g2
end
end Go.Proofs.YtmpcbaflcogmmaaGreatDoor
