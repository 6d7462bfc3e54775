/- Emit2 -/
import Derived.Deep.RegionHeld3
import Derived.Deep.AppendLies
import Derived.Deep.RegionLaw
import Derived.Test.YtmpcbaflcogmmaaGreatDoorEmit1
namespace Go.Proofs.YtmpcbaflcogmmaaGreatDoor
open Go.RowKit
set_option linter.all false
set_option maxHeartbeats 1600000
set_option maxRecDepth 100000
theorem Ih.of_own {w0 w:World} {x:List Int} {v:Value} {n:Nat} (h:w.ownsRow w0.heap.size 5 1 v n (Ba x)) (hp:0 < n):∃ A c,v=.slice A n c∧Ih w0 w A x n c:=by
 obtain⟨A,c,rfl⟩:=AJ h
 have hlen:=h.1
 simp only [Ba,List.length_map] at hlen
 refine ⟨A,c,rfl,.inr ⟨by omega,hp,?_⟩⟩
 rcases h.2 with ⟨h1,h2⟩ | ⟨g,cap,cur,h1,h2,h3,_⟩
 ·omega
 ·injection h1 with h1 h4 h5
  subst h1 h5
  have hg:=h.lt g rfl
  refine ⟨g,rfl,hg.1,hg.2,fun j u hj=>?_⟩
  have hjl:=(List.getElem?_eq_some_iff.1 hj).1
  simp only [Ba,List.length_map] at hjl
  rw [h.cellAt j (by omega),hj]
theorem Vn {x:List Int}:Ba x ++ [Value.int .u8 0,Value.int .u8 0]=Ba (x ++ [0,0]):=by simp [Ba]
theorem Ih.of_own2 {w0 w:World} {x:List Int} {g n c:Nat} (h:w.ownsRow w0.heap.size 5 1 (.slice (some ⟨g,0,none⟩) n c) n (Ba x)) (hp:0 < n):Ih w0 w (some ⟨g,0,none⟩) x n c:=by
 obtain⟨A,c',he,hn⟩:=Ih.of_own h hp
 injection he with h1 h2 h3
 subst h1 h3
 exact hn
def LA (w:World) (kb:Nat) (v:Value) (p:Nat):Prop:=
 ∃ g2 g3,v=.func (.func 161) #[] #[.pointer (some ⟨g2,0,none⟩),.pointer (some ⟨g3,0,none⟩)]∧Blk w g2 146 #[.pointer (some ⟨kb,0,none⟩)]∧Blk w g3 3 #[.int .i64 p]
theorem LA.frm {w w':World} {B kb p:Nat} {v:Value} (h:LA w kb v p) (hf:Frm B TE w w'):LA w' kb v p:=by
 obtain⟨g2,g3,h1,h2,h3⟩:=h
 exact ⟨g2,g3,h1,hf.blk h2 (by decide),hf.blk h3 (by decide)⟩
theorem Hk (B kb:Nat) (tv im tm mb:Value) (s:MS) (c:Int) (x:List Int) (XA:Option Addr) (n cp:Nat) (w0 w:World) (h:EK w0 B kb tv im tm mb s) (hb:Below w0.heap.size w0 w) (hx:w.ownsRow w0.heap.size 5 1 (.slice XA n cp) n (Ba x)) (hm:s.ms + x.length + 2≤1000000) :
  Calls Tryz.prog 107 #[.pointer (some ⟨kb,0,none⟩),.int .u8 c,.slice XA n cp] w fun e w'=>∃ v,e=.returned v∧LA w' kb v (AI c x s).at_∧EK w' B kb tv im tm mb (AI c x s)∧Frm B TE w0 w':=by
 obtain⟨hB,hks⟩:=h.size
 have hnx:x.length=n:=by have:=hx.1;simp only [Ba,List.length_map] at this;omega
 have hbx:Below w0.heap.size w0 (w.alloc (.cells #[.pointer (some ⟨kb,0,none⟩)] 146)):=hb.alloc hb.size _
 have kx:=Blk.new w 146 #[.pointer (some ⟨kb,0,none⟩)]
 have hx1:=hx.alloc (.cells #[.pointer (some ⟨kb,0,none⟩)] 146)
 obtain⟨w1,hw1⟩:=Ex0 (w.alloc (.cells #[.pointer (some ⟨kb,0,none⟩)] 146))
 rw [← hw1] at hbx kx hx1
 have hz1:w.heap.size < w1.heap.size:=by rw [hw1];simp
 have hop:=fun (wx:World) (A:Option Addr) (c':Nat) (h1:Below w0.heap.size w0 wx) (h2:Ih w0 wx A (x ++ [0,0]) (n + 2) c')=>Gh B kb tv im tm mb s c (x ++ [0,0]) A (n + 2) c' w0 wx h h1 h2 (by simp;omega)
 obtain⟨HOP,HBX,KX,HX1,HW1,HX0⟩:=Hd6 hop hbx kx hx1 hw1 (fun g hg=>(hx.lt g hg).2:∀ g,(Value.slice XA n cp).ownBlock=some g→g < w.heap.size)
 have hsz:=hb.size
 clear hop hbx kx hx1 hw1 h hb hx
 go_in
 go_wp2_with fail
 have ad:w1.cell? ⟨w.heap.size,0,none⟩=some (.pointer (some ⟨kb,0,none⟩)):=KX.out.cell 0
 rw [← HW1.out]
 obtain⟨i0,z0,hi0,hz0,hsz0,hby0,hzc0⟩:=Gp.info
 have hne:some w.heap.size≠(Value.slice XA n cp).ownBlock:=fun e=>by have:=(HX1.out.lt w.heap.size e.symm);have:=HX0.out w.heap.size e.symm;omega
 go_region_held3 (fun w'=>w'.cell? ⟨w.heap.size,0,none⟩=some (.pointer (some ⟨kb,0,none⟩)))
  (first | exact ad | exact ad3 | go_keep | (rw [hgrow.cell_far _ (by simp;omega) hne];first | exact ad | go_keep) | (rw [hgrow.cell_far _ (by simp;omega) hne];rw [World.cell?_alloc_past] <;> first | exact ad | (simp;omega)))
  ((first
   | (refine step_append_lies _ (by rfl) _ _ _ (by rfl) w0.heap.size 5 i0 z0 1 1 Gp.und hi0 hz0 hsz0 hby0 hzc0 (by decide) (.slice XA n cp) n (Ba x) (by rfl) ((HX1.out.alloc _).drew) ⟨w1.heap.size,0,none⟩ 2 2 [.int .u8 0,.int .u8 0] (by rfl) (by rfl) (World.news_of_block (cs:=#[.int .u8 0,.int .u8 0]) (t:=5) (fr:=(0,0)) (heap_alloc_new w1 _)) (by simp [Value.oneCell']) (by omega) (by unfold maxLen;omega) (by omega) (by simp;omega) (w1.heap.size + 1) (by simp) ?_;intro gg cap w2 hown2 hgrow hat hlt)
   | (go_at_call 108;have hb2:=Below.of_own ((HBX.out.alloc HBX.out.size (.cells #[.int .u8 0,.int .u8 0] 5)).drew) ((HX1.out.alloc (.cells #[.int .u8 0,.int .u8 0] 5)).drew) hgrow (Nat.le_refl _) (by simp;omega);have hn2:=Ih.of_own2 (x:=x ++ [0,0]) (Vn▸hown2) (by omega);have KX2:=((KX.out.alloc (.cells #[.int .u8 0,.int .u8 0] 5)).drew).grown hgrow hne;refine (HOP.out _ _ _ hb2 hn2).mono ?_;rintro e w3 ⟨rfl,h3,f3⟩;have KX3:=f3.blk KX2 (by decide);have ad3:w3.cell? ⟨w.heap.size,0,none⟩=some (.pointer (some ⟨kb,0,none⟩)):=KX3.cell 0)))
 obtain⟨A3,c3,kb3⟩:=h3.bcell
 obtain⟨L,hL⟩:∃ L,(opE c (x ++ [0,0]) s).b.length=L:=⟨_,rfl⟩
 have hL3:3≤L:=by rw [← hL];simp [opE];omega
 have hLm:L≤1000001:=by rw [← hL];unfold MS.ms at hm;simp [opE];omega
 rw [hL] at kb3
 have h4:=h3.alloc (.cells #[.int .i64 ((L:Int) - 2)] 3)
 have hat2:((AI c x s).at_:Int)=(L:Int) - 2:=by
  have e:(AI c x s).at_=L - 2:=by unfold MS.at_ AI;rw [hL]
  rw [e];omega
 have f4:Frm B TE w0 (w3.alloc (.cells #[.int .i64 ((L:Int) - 2)] 3)):=((Frm.of_below hb2 (by omega)).trans f3).alloc (by have:=f3.size;have:=hb2.size;omega) _
 have kx4:=KX3.alloc (.cells #[.int .i64 ((L:Int) - 2)] 3)
 have kn:=Blk.new w3 3 #[.int .i64 ((L:Int) - 2)]
 obtain⟨H4,F4,KX4,KN,HAT⟩:=Hd5 h4 f4 kx4 kn hat2
 clear h3 f3 KX3 KX2 hb2 hn2 hgrow hown2 hat hlt h4 f4 kx4 kn hat2 hL hm
 go_wp2_with fail
 go_ret
 refine ⟨_,rfl,⟨w.heap.size,w3.heap.size,rfl,KX4.out,?_⟩,H4.out,F4.out⟩
 rw [HAT.out]
 exact KN.out
theorem Nk {B kb p g2 g3 gg cap L nl cb cl:Nat} {tv im tm mb:Value} {s:MS} {Ab Al:Option Addr} {vals:List Value} {w w1 w2:World} (hB:B≤kb) (hBw:B≤w.heap.size) (hL:s.b.length=L) (hnl:s.later.length=nl)
  (F1:Frm B TE w w1) (kt:Blk w1 w.heap.size 3 #[.int .i64 (L:Int)]) (m1:Blk w1 kb 151 #[tv,im,tm,.slice Ab L cb,.bool s.bad,mb,.slice Al nl cl]) (m2:Blk w1 g2 146 #[.pointer (some ⟨kb,0,none⟩)]) (k3:Blk w g3 3 #[.int .i64 p])
  (o1:w1.ownsRow B 5 1 (.slice Ab L cb) L (Ba s.b)) (l2:w1.ownsRow B 1 1 (.slice Al nl cl) nl vals) (a1:∀ (k:Nat) (p:Nat × Nat),s.later[k]? = some p→∃ v,vals[k]? = some v∧Ph w kb v p)
  (hown2:w2.ownsRow B 1 1 (.slice (some ⟨gg,0,none⟩) (nl + 1) cap) (nl + 1) (vals ++ [(.func (.func 162) #[] #[.pointer (some ⟨w.heap.size,0,none⟩),.pointer (some ⟨g2,0,none⟩),.pointer (some ⟨g3,0,none⟩)])])) (hgrow:((w1.alloc (.cells #[(.func (.func 162) #[] #[.pointer (some ⟨w.heap.size,0,none⟩),.pointer (some ⟨g2,0,none⟩),.pointer (some ⟨g3,0,none⟩)])] 1)).drew).grownBy w2 (Value.slice Al nl cl).ownBlock) :
  EK (w2.setCell ⟨kb,6,none⟩ (.slice (some ⟨gg,0,none⟩) (nl + 1) cap)) B kb tv im tm mb (Bq p s)∧Frm B TE w (w2.setCell ⟨kb,6,none⟩ (.slice (some ⟨gg,0,none⟩) (nl + 1) cap)):=by
 have hz:=F1.size
 have l3:((w1.alloc (.cells #[(.func (.func 162) #[] #[.pointer (some ⟨w.heap.size,0,none⟩),.pointer (some ⟨g2,0,none⟩),.pointer (some ⟨g3,0,none⟩)])] 1)).drew).ownsRow B 1 1 (.slice Al nl cl) nl vals:=(l2.alloc _).drew
 have m3:Blk ((w1.alloc (.cells #[(.func (.func 162) #[] #[.pointer (some ⟨w.heap.size,0,none⟩),.pointer (some ⟨g2,0,none⟩),.pointer (some ⟨g3,0,none⟩)])] 1)).drew) kb 151 #[tv,im,tm,.slice Ab L cb,.bool s.bad,mb,.slice Al nl cl]:=(m1.alloc _).drew
 have k4:=m3.grown hgrow (AR l3 m3 (by decide)).symm
 have f2:Frm B TE w w2:=((F1.alloc (by omega) (.cells #[(.func (.func 162) #[] #[.pointer (some ⟨w.heap.size,0,none⟩),.pointer (some ⟨g2,0,none⟩),.pointer (some ⟨g3,0,none⟩)])] 1)).drew).grown l3 hgrow (Nat.le_refl _) (by show B≤(w1.alloc _).heap.size;simp;omega) (by decide)
 have f3:Frm B TE w (w2.setCell ⟨kb,6,none⟩ (.slice (some ⟨gg,0,none⟩) (nl + 1) cap)):=f2.set_ k4 hB (by decide) _
 have f13:Frm B TE w1 (w2.setCell ⟨kb,6,none⟩ (.slice (some ⟨gg,0,none⟩) (nl + 1) cap)):=((((Frm.refl B TE w1).alloc (by omega) (.cells #[(.func (.func 162) #[] #[.pointer (some ⟨w.heap.size,0,none⟩),.pointer (some ⟨g2,0,none⟩),.pointer (some ⟨g3,0,none⟩)])] 1)).drew).grown l3 hgrow (Nat.le_refl _) (by show B≤(w1.alloc _).heap.size;simp;omega) (by decide)).set_ k4 hB (by decide) _
 have o3:((w1.alloc (.cells #[(.func (.func 162) #[] #[.pointer (some ⟨w.heap.size,0,none⟩),.pointer (some ⟨g2,0,none⟩),.pointer (some ⟨g3,0,none⟩)])] 1)).drew).ownsRow B 5 1 (.slice Ab L cb) L (Ba s.b):=(o1.alloc _).drew
 have o4:=FM o3 l3 (by decide) hgrow
 have hln:vals.length=nl:=by have:=l2.1;omega
 refine ⟨⟨.slice Ab L cb,.slice (some ⟨gg,0,none⟩) (nl + 1) cap,vals ++ [(.func (.func 162) #[] #[.pointer (some ⟨w.heap.size,0,none⟩),.pointer (some ⟨g2,0,none⟩),.pointer (some ⟨g3,0,none⟩)])],hB,k4.set_ 6 _,?_,?_,fun k q hk=>?_⟩,f3⟩
 ·show World.ownsRow _ B _ 1 _ s.b.length (Ba s.b)
  rw [hL]
  exact Bm o4 (AR o4 k4 (by decide)) _
 ·have e:(Bq p s).later.length=nl + 1:=by simp [Bq,hnl]
  rw [e]
  exact Bm hown2 (AR hown2 k4 (by decide)) _
 ·have hk':(s.later ++ [(p,s.b.length)])[k]? = some q:=hk
  by_cases hlt:k < nl
  ·rw [List.getElem?_append_left (by omega)] at hk'
   obtain⟨v,hv,hw⟩:=a1 k q hk'
   exact ⟨v,by rw [List.getElem?_append_left (by omega)];exact hv,hw.frm f3⟩
  ·rw [List.getElem?_append_right (by omega)] at hk'
   have hk0:k=nl:=by
    have:=(List.getElem?_eq_some_iff.1 hk').1
    simp at this
    omega
   subst hk0
   rw [hnl,Nat.sub_self] at hk'
   have hq:q=(p,s.b.length):=by simpa using hk'.symm
   subst hq
   refine ⟨_,by rw [List.getElem?_append_right (by omega),hln,Nat.sub_self];rfl,w.heap.size,g2,g3,rfl,?_,f13.blk m2 (by decide),f3.blk k3 (by decide)⟩
   have:=f13.blk kt (by decide)
   simp only [hL]
   exact this
theorem IJ (B kb:Nat) (tv im tm mb:Value) (s:MS) (p g2 g3:Nat) (w:World) (h:EK w B kb tv im tm mb s) (k2:Blk w g2 146 #[.pointer (some ⟨kb,0,none⟩)]) (k3:Blk w g3 3 #[.int .i64 p]) (hm:s.ms≤1000000) :
  Calls Tryz.prog 161 #[.pointer (some ⟨g2,0,none⟩),.pointer (some ⟨g3,0,none⟩)] w fun e w'=>e=.returned (.tuple #[])∧EK w' B kb tv im tm mb (Bq p s)∧Frm B TE w w':=by
 obtain⟨hB,hks⟩:=h.size
 obtain⟨bv,lv,vals,_,k1,o1,l1,a1⟩:=h
 obtain⟨L,hL⟩:∃ L,s.b.length=L:=⟨_,rfl⟩
 obtain⟨nl,hnl⟩:∃ nl,s.later.length=nl:=⟨_,rfl⟩
 have hLm:L + nl≤1000000:=by unfold MS.ms at hm;omega
 rw [hL] at o1
 rw [hnl] at l1
 obtain⟨Ab,cb,rfl⟩:=AJ o1
 obtain⟨Al,cl,rfl⟩:=AJ l1
 have d2:=k2.cell 0
 have d3:=k1.cell 3
 have d6:=k1.cell 6
 have z6:=k1.frozen 6
 have hBw:B≤w.heap.size:=by omega
 obtain⟨K1,K2,K3,O1,L1,A1,HL,HNL⟩:=Hd8 k1 k2 k3 o1 l1 a1 hL hnl
 clear k1 k2 k3 o1 l1 a1 hL hnl hm
 go_in
 go_wp2_with fail
 obtain⟨w1,hw1⟩:=Ex0 (w.alloc (.cells #[.int .i64 (L:Int)] 3))
 rw [← hw1]
 have hz1:w1.heap.size=w.heap.size + 1:=by rw [hw1];simp
 have f1:Frm B TE w w1:=by rw [hw1];exact (Frm.refl _ _ _).alloc hBw _
 have kt:Blk w1 w.heap.size 3 #[.int .i64 (L:Int)]:=by rw [hw1];exact Blk.new w _ _
 have m1:Blk w1 kb 151 #[tv,im,tm,.slice Ab L cb,.bool s.bad,mb,.slice Al nl cl]:=by rw [hw1];exact K1.out.alloc _
 have m2:=f1.blk K2.out (by decide)
 have l2:w1.ownsRow B 1 1 (.slice Al nl cl) nl vals:=by rw [hw1];exact L1.out.alloc _
 have ad2:=m2.cell 0
 have ad6:w1.cell? ⟨kb,6,none⟩=some (.slice Al nl cl):=m1.cell 6
 have az6:=m1.frozen 6
 have ne2:some g2≠(Value.slice Al nl cl).ownBlock:=(AR l2 m2 (by decide)).symm
 have nek:some kb≠(Value.slice Al nl cl).ownBlock:=(AR l2 m1 (by decide)).symm
 have lt2:=m2.lt
 have ltk:=m1.lt
 have ob1:w1.ownsRow B 5 1 (.slice Ab L cb) L (Ba s.b):=by rw [hw1];exact O1.out.alloc _
 obtain⟨OB1,M1,M2,L2,F1,KT⟩:=Hd6 ob1 m1 m2 l2 f1 kt
 obtain⟨i0,z0,hi0,hz0,hsz0,hby0,hzc0⟩:=UK.info
 have hz2:w.heap.size < w1.heap.size:=by omega
 clear ob1 hw1 hz1 m1 m2 l2 f1 kt d2 d3 d6 z6
 go_region_law (refine step_append_lies _ (by rfl) _ _ _ (by rfl) B 1 i0 z0 1 8 UK.und hi0 hz0 hsz0 hby0 hzc0 (by decide) (.slice Al nl cl) nl vals (by rfl) ((L2.out.alloc _).drew) ⟨w1.heap.size,0,none⟩ 1 1 [.func (.func 162) #[] #[.pointer (some ⟨w.heap.size,0,none⟩),.pointer (some ⟨g2,0,none⟩),.pointer (some ⟨g3,0,none⟩)]] (by rfl) (by rfl) (World.news_of_block (cs:=#[.func (.func 162) #[] #[.pointer (some ⟨w.heap.size,0,none⟩),.pointer (some ⟨g2,0,none⟩),.pointer (some ⟨g3,0,none⟩)]]) (t:=1) (fr:=(0,0)) (heap_alloc_new w1 _)) (by simp [Value.oneCell']) (by omega) (by unfold maxLen;omega) (by omega) (by simp;omega) (w1.heap.size + 1) (by simp) ?_;intro gg cap w2 hown2 hgrow hat hlt;have k4:=(M1.out.alloc (.cells #[.func (.func 162) #[] #[.pointer (some ⟨w.heap.size,0,none⟩),.pointer (some ⟨g2,0,none⟩),.pointer (some ⟨g3,0,none⟩)]] 1)).drew.grown hgrow nek;have k46:w2.cell? ⟨kb,6,none⟩=some (.slice Al nl cl):=k4.cell 6;have ad24:w2.cell? ⟨g2,0,none⟩=some (.pointer (some ⟨kb,0,none⟩)):=((M2.out.alloc (.cells #[.func (.func 162) #[] #[.pointer (some ⟨w.heap.size,0,none⟩),.pointer (some ⟨g2,0,none⟩),.pointer (some ⟨g3,0,none⟩)]] 1)).drew.grown hgrow ne2).cell 0;have z46:=k4.frozen 6)
 all_goals go_end0
 all_goals exact ⟨rfl,Nk hB hBw HL.out HNL.out F1.out KT.out M1.out M2.out K3.out OB1.out L2.out A1.out hown2 hgrow⟩
end Go.Proofs.YtmpcbaflcogmmaaGreatDoor
