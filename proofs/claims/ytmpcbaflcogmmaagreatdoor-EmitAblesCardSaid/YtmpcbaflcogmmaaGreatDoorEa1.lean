/- Ea0 Ea1 -/
import Derived.Test.YtmpcbaflcogmmaaGreatDoorBagB2
import Derived.Test.YtmpcbaflcogmmaaGreatDoorBagB3
import Derived.Test.YtmpcbaflcogmmaaGreatDoorEmitBy
import Derived.Test.YtmpcbaflcogmmaaGreatDoorPkT
import Derived.Test.YtmpcbaflcogmmaaGreatDoorRef11
import Derived.Test.YtmpcbaflcogmmaaGreatDoorSubst
import Derived.Test.YtmpcbaflcogmmaaGreatDoorWideA
namespace Go.Proofs.YtmpcbaflcogmmaaGreatDoor
open Go.RowKit
set_option linter.all false
set_option maxHeartbeats 16000000
set_option maxRecDepth 100000
structure EaS (w0:World) (jb bx5:Array Value) (b5 b1 b2 gi gt m:Nat) (slots:List Int) (ts:List Au) (li:List Int) (lt:List ByteArray) (w:World):Prop where
 be:Below w0.heap.size w0 w
 x2:Blk w w0.heap.size 29 jb
 x5:Blk w b5 25 bx5
 ks:Blk w b1 118 (B6 (E7 slots)).toArray
 kn:BN w b2 (m + 64) (Fo ts) (m + 64)
 ki:Blk w gi 2 (CG li).toArray
 kt:Blk w gt 9 (CF lt).toArray
 li0:w0.heap.size≤gi
 lt0:w0.heap.size≤gt
section
variable {w0 w w':World} {jb bx5:Array Value} {b5 b1 b2 gi gt m:Nat} {slots:List Int} {ts:List Au} {li:List Int} {lt:List ByteArray}
theorem EaS.step (h:EaS w0 jb bx5 b5 b1 b2 gi gt m slots ts li lt w) (hb:Below w.heap.size w w'):EaS w0 jb bx5 b5 b1 b2 gi gt m slots ts li lt w':=
 ⟨h.be.trans (hb.mono h.be.size),h.x2.below hb h.x2.lt,h.x5.below hb h.x5.lt,h.ks.below hb h.ks.lt,h.kn.below hb,h.ki.below hb h.ki.lt,h.kt.below hb h.kt.lt,h.li0,h.lt0⟩
theorem EaS.drewN (h:EaS w0 jb bx5 b5 b1 b2 gi gt m slots ts li lt w) (n:Nat):EaS w0 jb bx5 b5 b1 b2 gi gt m slots ts li lt (w.drewN n):=h.step (Frm.drewN (Frm.refl w.heap.size [] w) n).below
theorem EaS.drew (h:EaS w0 jb bx5 b5 b1 b2 gi gt m slots ts li lt w):EaS w0 jb bx5 b5 b1 b2 gi gt m slots ts li lt w.drew:=h.step (Below.refl _ _).drew
theorem LC (l:List Int) (i:Nat) (v:Int):(CG l).toArray.setIfInBounds i (.int .i64 v)=(CG (l.set i v)).toArray:=by
 simp [CG,List.setIfInBounds_toArray,List.map_set]
theorem Ln (l:List ByteArray) (i:Nat) (v:ByteArray):(CF l).toArray.setIfInBounds i (.string v)=(CF (l.set i v)).toArray:=by
 simp [CF,List.setIfInBounds_toArray,List.map_set]
theorem BN.frm {b K i B:Nat} {W:List Au} {T:List TypeId} (h:BN w b K W i) (hf:Frm B T w w') (ht : 120 ∉ T):BN w' b K W i:=by
 obtain⟨cs,h1,h2⟩:=h
 exact ⟨cs,hf.blk h1 ht,h2⟩
theorem EaS.setI (h:EaS w0 jb bx5 b5 b1 b2 gi gt m slots ts li lt w) (i j:Nat) (u v:Int) :
  EaS w0 jb bx5 b5 b1 b2 gi gt m slots ts ((li.set i u).set j v) lt ((w.setCell ⟨gi,i,none⟩ (.int .i64 u)).setCell ⟨gi,j,none⟩ (.int .i64 v))∧Frm w0.heap.size [2] w ((w.setCell ⟨gi,i,none⟩ (.int .i64 u)).setCell ⟨gi,j,none⟩ (.int .i64 v)):=by
 have k1:=h.ki.set_ i (.int .i64 u)
 rw [LC] at k1
 have k2:=k1.set_ j (.int .i64 v)
 rw [LC] at k2
 have f:Frm w0.heap.size [2] w ((w.setCell ⟨gi,i,none⟩ (.int .i64 u)).setCell ⟨gi,j,none⟩ (.int .i64 v)):=((Frm.refl _ _ _).set_ h.ki h.li0 (by decide) _).set_ (h.ki.set_ i (.int .i64 u)) h.li0 (by decide) _
 exact ⟨⟨h.be.trans f.below,f.blk h.x2 (by decide),f.blk h.x5 (by decide),f.blk h.ks (by decide),h.kn.frm f (by decide),k2,f.blk h.kt (by decide),h.li0,h.lt0⟩,f⟩
theorem EaS.setT (h:EaS w0 jb bx5 b5 b1 b2 gi gt m slots ts li lt w) (i j:Nat) (u v:ByteArray) :
  EaS w0 jb bx5 b5 b1 b2 gi gt m slots ts li ((lt.set i u).set j v) ((w.setCell ⟨gt,i,none⟩ (.string u)).setCell ⟨gt,j,none⟩ (.string v))∧Frm w0.heap.size [9] w ((w.setCell ⟨gt,i,none⟩ (.string u)).setCell ⟨gt,j,none⟩ (.string v)):=by
 have k1:=h.kt.set_ i (.string u)
 rw [Ln] at k1
 have k2:=k1.set_ j (.string v)
 rw [Ln] at k2
 have f:Frm w0.heap.size [9] w ((w.setCell ⟨gt,i,none⟩ (.string u)).setCell ⟨gt,j,none⟩ (.string v)):=((Frm.refl _ _ _).set_ h.kt h.lt0 (by decide) _).set_ (h.kt.set_ i (.string u)) h.lt0 (by decide) _
 exact ⟨⟨h.be.trans f.below,f.blk h.x2 (by decide),f.blk h.x5 (by decide),f.blk h.ks (by decide),h.kn.frm f (by decide),f.blk h.ki (by decide),k2,h.li0,h.lt0⟩,f⟩
theorem EaS.ints (h:EaS w0 jb bx5 b5 b1 b2 gi gt m slots ts li lt w) (n:Nat):Ch w (some ⟨gi,0,none⟩) (li.take n):=fun k x hk=>⟨gi,0,rfl,h.ki.lt,by
 have hkn:=(List.getElem?_eq_some_iff.1 hk).1
 rw [List.getElem?_take,if_pos (by simp at hkn;omega)] at hk
 rw [Nat.zero_add,h.ki.cell k]
 simp [CG,hk]⟩
theorem EaS.texts (h:EaS w0 jb bx5 b5 b1 b2 gi gt m slots ts li lt w) (n:Nat):BE w (some ⟨gt,0,none⟩) (lt.take n):=fun k x hk=>⟨gt,0,rfl,h.kt.lt,by
 have hkn:=(List.getElem?_eq_some_iff.1 hk).1
 rw [List.getElem?_take,if_pos (by simp at hkn;omega)] at hk
 rw [Nat.zero_add,h.kt.cell k]
 simp [CF,hk]⟩
theorem EaS.atI (h:EaS w0 jb bx5 b5 b1 b2 gi gt m slots ts li lt w) {i:Nat} (hi:i < li.length):∃ v,li[i]? = some v∧w.cell? ⟨gi,i,none⟩=some (.int .i64 v)∧w.frozen? ⟨gi,i,none⟩=false:=
 ⟨li[i],List.getElem?_eq_getElem hi,by rw [h.ki.cell i];simp [CG,hi],h.ki.frozen i⟩
theorem EaS.atT (h:EaS w0 jb bx5 b5 b1 b2 gi gt m slots ts li lt w) {i:Nat} (hi:i < lt.length):∃ v,lt[i]? = some v∧w.cell? ⟨gt,i,none⟩=some (.string v)∧w.frozen? ⟨gt,i,none⟩=false:=
 ⟨lt[i],List.getElem?_eq_getElem hi,by rw [h.kt.cell i];simp [CF,hi],h.kt.frozen i⟩
end
theorem Qm (l:List Int):(E9 l).take l.length=l:=by simp [E9]
theorem Qb (l:List ByteArray):(E0 l).take l.length=l:=by simp [E0]
theorem Ko (A B:Option Addr) (c d B1 B2 n:Nat) (l:List Int) (w:World) (hn:l.length=n) (hl:n≤1000000) (h1:w.ownsRow B1 5 1 (.slice A n c) n (Ba l)) (h2:w.ownsRow B2 5 1 (.slice B n d) n (Ba l)) :
  Calls Tryz.prog 12 #[.slice A n c,.slice B n d] w fun e w'=>e=.returned (.bool true)∧∃ k,w'=w.drewN k:=by
 have h:=JK A B c d l l w (by omega) (by omega) (PU h1).weak (PU h2).weak
 rw [hn] at h
 refine h.mono ?_
 rintro e w' ⟨rfl,k⟩
 exact ⟨by simp,k⟩
theorem Ow {on:Int} {slots:List Int} {wh:Bool} {ts:List Au} {ints:List Int} {texts:List ByteArray} {x:List Int} {e:Int} (h:E8 on slots wh ts ints texts=(x,e)):x.length≤1000000:=by
 unfold E8 at h
 split at h
 ·rename_i hb
  have hm:=GA (Dp ints) (DA texts) hb
  split at h
  ·injection h with h1 h2
   rw [← h1]
   simp
  ·injection h with h1 h2
   rw [← h1,EU]
   unfold MS.ms at hm
   omega
 ·injection h with h1 h2
  rw [← h1]
  simp
theorem AZ {w w':World} {B size n:Nat} {e:TypeId} {v:Value} {xs:List Value} (h:w.ownsRow B e size v n xs) (hb:Below w.heap.size w w'):w'.ownsRow B e size v n xs:=(Frm.of_below (B:=0) (T:=[]) hb (Nat.zero_le _)).own h (by simp)
theorem BS {w:World} {B size n:Nat} {e:TypeId} {v:Value} {xs:List Value} (h:w.ownsRow B e size v n xs) (k:Nat):(w.drewN k).ownsRow B e size v n xs:=AZ h (Frm.drewN (Frm.refl w.heap.size [] w) k).below
theorem Vh {x y z:Be} {c1 c2:Nat} (hc:c1≤c2) (hx:∀ a,x.A=some a→a.block < c1) (hy:∀ a,y.A=some a→c1≤a.block∧a.block < c2) (hz:∀ a,z.A=some a→c2≤a.block):Hr [x,y,z]:=by
 intro j k p q a hj hk ha hb
 have hxy:∀ a,x.A=some a→y.A=some a→False:=fun a h1 h2=>by have:=hx a h1;have:=hy a h2;omega
 have hyz:∀ a,y.A=some a→z.A=some a→False:=fun a h1 h2=>by have:=hy a h1;have:=hz a h2;omega
 have hxz:∀ a,x.A=some a→z.A=some a→False:=fun a h1 h2=>by
  have h3:=hx a h1
  have h4:=hz a h2
  omega
 match j,k with
 | 0,0=>rfl
 | 1,1=>rfl
 | 2,2=>rfl
 | 0,1=>simp at hj hk;subst hj hk;exact (hxy a ha hb).elim
 | 1,0=>simp at hj hk;subst hj hk;exact (hxy a hb ha).elim
 | 1,2=>simp at hj hk;subst hj hk;exact (hyz a ha hb).elim
 | 2,1=>simp at hj hk;subst hj hk;exact (hyz a hb ha).elim
 | 0,2=>simp at hj hk;subst hj hk;exact (hxz a ha hb).elim
 | 2,0=>simp at hj hk;subst hj hk;exact (hxz a hb ha).elim
 | j + 3,_=>simp at hj
 | _,k + 3=>simp at hk
theorem Lp {w:World} {B n c:Nat} {A:Option Addr} {e:TypeId} {xs:List Value} (h:w.ownsRow B e 1 (.slice A n c) n xs):∀ a,A=some a→B≤a.block∧a.block < w.heap.size:=by
 intro a ha
 subst ha
 rcases h.2 with ⟨h1,_⟩ | ⟨g,cap,cur,h1,h2,h3,_⟩
 ·cases h1
 ·have:=h.lt g (by rw [h1];rfl)
  injection h1 with h1
  injection h1 with h1
  subst h1
  exact this
theorem MZ {P:Program} {o:Oper} {A:Act} {w:World} {t:Nat} {ty e:TypeId} {a:Option Addr} {n k:Nat} (ho:o.op=.call { callee:=.builtin .len,args:=#[.tmp t],argTypes:=#[ty] }) (hty:P.underlying ty=some (.slice e)) (hx:A.eval (.tmp t)=.slice a n k):(execOp A.eval o).run P w=.ok (.value (.int .i64 n)) w:=by
 have e1:execOp A.eval o=(do let x ← Builtin.len_ #[ty] o.type (#[.tmp t].map A.eval);Pure.pure (Next.value x):Sem Next):=by
  simp only [execOp,ho,resolve]
  rfl
 rw [e1]
 simp [Builtin.len_,run_underlying hty,hx,goInt]
theorem GI.up {w w':World} (h:GI w w.heap.size) (hb:Below w.heap.size w w'):GI w' w'.heap.size:=fun w2 h2=>h w2 (hb.trans (h2.mono hb.size))
section
variable (on:Int) (SA TA:Option Addr) (slots:List Int) (sc tc:Nat) (wh:Bool) (ts:List Au) (IA XA:Option Addr) (ints:List Int) (texts:List ByteArray) (ic xc:Nat) (w:World)
theorem NV (hl:slots.length≤281474976710656) (ht:ts.length≤281474976710656) (hil:ints.length≤281474976710656) (hxl:texts.length≤281474976710656) (hT:Bv w TA ts) (hS:AV w SA slots) (hI:Ch w IA ints) (hX:BE w XA texts) (htx:∀ x∈ts,x.text.size≤4611686018427387904) (hxx:∀ x∈texts,x.size≤4611686018427387904) (hrng:∀ y∈ts,I64 y.n∧I64 y.m) (htab:GI w w.heap.size) :
  Calls Tryz.prog 3 #[.agg #[.int .i64 on,.slice SA slots.length sc,.bool wh,.slice TA ts.length tc,.slice IA ints.length ic,.slice XA texts.length xc]] w fun e w'=>e=.returned (.bool true)∧Below w.heap.size w w':=by
 obtain⟨W,hW⟩:=Ex0 (w.alloc (.cells #[.int .i64 on,.slice SA slots.length sc,.bool wh,.slice TA ts.length tc,.slice IA ints.length ic,.slice XA texts.length xc] 29))
 have hBW:Below w.heap.size w W:=by rw [hW];exact (Below.refl _ _).alloc (Nat.le_refl _) _
 have hb0:Blk W w.heap.size 29 #[.int .i64 on,.slice SA slots.length sc,.bool wh,.slice TA ts.length tc,.slice IA ints.length ic,.slice XA texts.length xc]:=by rw [hW];exact Blk.new _ _ _
 have hby:=Qr on SA TA slots sc tc wh ts IA XA ints texts ic xc W hl ht hil hxl (hT.below hBW) (hX.below hBW) htx hxx
 have hnb:=fun h=>PF (slots:=slots) (ts:=ts) (ints:=ints) (texts:=texts) h
 obtain⟨⟨x,er⟩,hr1⟩:∃ r,E8 on slots wh ts ints texts=r:=⟨_,rfl⟩
 have hxle:=Ow hr1
 have hwa:=fun (w':World) (h1:slots.length≤16777216) (h2:ts.length≤16777216) (h:Below w.heap.size w w')=>Nb on SA TA slots sc tc wh ts w' h1 h2 (hT.below h) (hS.below h)
 have hwl:=fun (w':World) (h1:ints.length≤16777216) (h:Below w.heap.size w w')=>Mo IA ints ic w' h1 (hI.below h)
 have hwt:=fun (w':World) (h1:texts.length≤16777216) (h:Below w.heap.size w w')=>Mg XA texts xc w' h1 (hX.below h) (htab.up h)
 have hab:=fun (b1 b2:Nat) (I2 X2:Option Addr) (i2 x2:Nat) (li:List Int) (lt:List ByteArray) (w':World) (h1:li.length≤16777216) (h2:lt.length≤16777216) (h3:∀ y∈ts,y.text.size≤1099511627776) (a:Ch w' I2 li) (b:BE w' X2 lt) (c:BN w' b2 (ts.length + 64) (Fo ts) (ts.length + 64)) (d:Blk w' b1 118 (B6 (E7 slots)).toArray)=>IU on (some ⟨b1,0,none⟩) (some ⟨b2,0,none⟩) slots (slots.length + 64) (ts.length + 64) wh ts I2 X2 li lt i2 x2 w' (by omega) (by omega) a b (J0 c) (Ho d) h3
 have hrf:=fun (I2 X2:Option Addr) (i2 x2:Nat) (li:List Int) (lt:List ByteArray) (w':World) (h1:li.length≤16777216) (h2:lt.length≤16777216) (h3:∀ y∈ts,y.text.size≤1099511627776) (a:Ch w' I2 li) (b:BE w' X2 lt) (h:Below w.heap.size w w')=>Rf on SA TA slots sc tc wh ts I2 X2 li lt i2 x2 w' (by omega) (by omega) a b (hT.below h) (hS.below h) h3 hrng
 have heq:=fun (b1 b2:Nat) (w':World) (h1:slots.length≤16777216) (h2:ts.length≤16777216) (h:Below w.heap.size w w') (c:BN w' b2 (ts.length + 64) (Fo ts) (ts.length + 64)) (d:Blk w' b1 118 (B6 (E7 slots)).toArray)=>Od on (some ⟨b1,0,none⟩) (some ⟨b2,0,none⟩) SA TA slots (slots.length + 64) (ts.length + 64) sc tc wh ts w' h1 h2 (Ho d) (J0 c) (hS.below h) (hT.below h)
 have hsp:=fun (b1 b2:Nat) (w':World) (h1:slots.length≤16777216) (h2:ts.length≤16777216) (c:BN w' b2 (ts.length + 64) (Fo ts) (ts.length + 64)) (d:Blk w' b1 118 (B6 (E7 slots)).toArray)=>Mq on slots wh ts w' h1 h2 b1 b2 d c
 have hel:=fun (gi:Nat) (w':World) (h1:ints.length≤16777216) (h:Below w.heap.size w w') (k:Blk w' gi 2 (CG (E9 ints)).toArray)=>Ng (some ⟨gi,0,none⟩) IA ints (ints.length + 64) ic w' h1 (IN k) (hI.below h)
 have hsl:=fun (gi:Nat) (w':World) (h1:ints.length≤16777216) (k:Blk w' gi 2 (CG (E9 ints)).toArray)=>Le gi ints w' h1 k
 have het:=fun (gt:Nat) (w':World) (h1:texts.length≤16777216) (h:Below w.heap.size w w') (k:Blk w' gt 9 (CF (E0 texts)).toArray)=>Nd (some ⟨gt,0,none⟩) XA texts (texts.length + 64) xc w' h1 (IK k) (hX.below h)
 have hst:=fun (gt:Nat) (w':World) (h1:texts.length≤16777216) (h:Below w.heap.size w w') (k:Blk w' gt 9 (CF (E0 texts)).toArray)=>Ll gt texts w' h1 (htab.up h) k
 have hwli:=MU ints
 have hwlt:=Mz texts
 have htki:=Qm ints
 have htkt:=Qb texts
 obtain⟨p,hp⟩:∃ p,slots.length=p:=⟨_,rfl⟩
 obtain⟨m,hm⟩:∃ m,ts.length=m:=⟨_,rfl⟩
 obtain⟨ni,hni⟩:∃ n,ints.length=n:=⟨_,rfl⟩
 obtain⟨nx,hnx⟩:∃ n,texts.length=n:=⟨_,rfl⟩
 obtain⟨nc,hnc⟩:∃ n,x.length=n:=⟨_,rfl⟩
 rw [hnc] at hxle
 have hab1:=fun (b1 b2 gi gt:Nat) (w':World) (h1:ni≤16777216) (h2:nx≤16777216) (h3:∀ y∈ts,y.text.size≤1099511627776) (ki:Blk w' gi 2 (CG (E9 ints)).toArray) (kt:Blk w' gt 9 (CF (E0 texts)).toArray) (c:BN w' b2 (m + 64) (Fo ts) (m + 64)) (d:Blk w' b1 118 (B6 (E7 slots)).toArray)=>hab b1 b2 (some ⟨gi,0,none⟩) (some ⟨gt,0,none⟩) (ni + 64) (nx + 64) ints texts w' (by omega) (by omega) h3 (IN ki) (IK kt) (by rw [hm];exact c) d
 have hrf1:=fun (w':World) (h1:ni≤16777216) (h2:nx≤16777216) (h3:∀ y∈ts,y.text.size≤1099511627776) (h:Below w.heap.size w w')=>hrf IA XA ic xc ints texts w' (by omega) (by omega) h3 (hI.below h) (hX.below h) h
 simp only [hr1,hp,hm,hni,hnx] at hab1 hrf1
 simp only [hp,hm,hni,hnx] at hwa hwl hwt hab hrf heq hsp hel hsl het hst hb0 hW hby hnb hwli hwlt htki htkt ⊢
 obtain⟨bb,hbb⟩:∃ bb,GY slots ts ints texts=bb:=⟨_,rfl⟩
 rw [hbb] at hby hnb
 obtain⟨HBY,HNB,HWA,HWL,HWT,HAB,HRF,HAB1,HRF1,HEQ,HSP,HEL,HSL,HET,HST,HLI,HLT,HTKI,HTKT,HNC,HB0,HBW,HW,HWK⟩:=Hd24 hby hnb hwa hwl hwt hab hrf hab1 hrf1 heq hsp hel hsl het hst hwli hwlt htki htkt hnc hb0 hBW hW Ok
 have hee:(er == er)=true:=by simp
 clear hby hnb hwa hwl hwt hab hrf hab1 hrf1 heq hsp hel hsl het hst hwli hwlt htki htkt hnc hb0 hBW hW hp hm hni hnx hT hS hI hX htx hxx hrng htab hr1 hbb hl ht hil hxl
 go_in
 go_wp2_with fail
 rw [← HW.out]
 refine HBY.out.mono ?_
 rintro e w1 ⟨rfl,hb1⟩
 obtain⟨B1,X1⟩:=Hd2 (HBW.out.trans (hb1.mono HBW.out.size)) (HB0.out.below hb1 HB0.out.lt)
 clear hb1
 cases bb with
 | true =>
  go_wp2_with fail
  go_ret
  exact ⟨rfl,B1.out⟩
 | false =>
 obtain⟨s1,s2,s3,s4,s5⟩:=HNB.out rfl
 have H5:=Lh s5
 clear s5
 have d0:=X1.out.cell 0
 have d1:=X1.out.cell 1
 have d2:=X1.out.cell 2
 have d3:=X1.out.cell 3
 have d4:=X1.out.cell 4
 have d5:=X1.out.cell 5
 go_wp2_with fail
 refine (HWA.out _ s1 s2 B1.out).mono ?_
 rintro e w2 ⟨b1,b2,rfl,hk1,hk2,hb2⟩
 obtain⟨w2a,hw2a⟩:=Ex0 (w2.alloc (.cells #[.int .i64 on,.slice (some ⟨b1,0,none⟩) p (p + 64),.bool wh,.slice (some ⟨b2,0,none⟩) m (m + 64)] 25))
 have hba:Below w2.heap.size w2 w2a:=by rw [hw2a];exact (Below.refl _ _).alloc (Nat.le_refl _) _
 have k5:Blk w2a w2.heap.size 25 #[.int .i64 on,.slice (some ⟨b1,0,none⟩) p (p + 64),.bool wh,.slice (some ⟨b2,0,none⟩) m (m + 64)]:=by rw [hw2a];exact Blk.new _ _ _
 have B2:=Lh ((B1.out.trans (hb2.mono B1.out.size)).trans (hba.mono (B1.out.trans (hb2.mono B1.out.size)).size))
 have x2:=(X1.out.below hb2 X1.out.lt)
 obtain⟨X2,K1,K2,K5,HW2⟩:=Hd5 (x2.below hba x2.lt) (hk1.below hba hk1.lt) (hk2.below hba) k5 hw2a
 have e4:w2.cell? ⟨w.heap.size,4,none⟩=some (.slice IA ni ic):=x2.cell 4
 clear hk1 hk2 hb2 hw2a hba k5 x2 d0 d1 d2 d3 d4 d5
 have d4:=X2.out.cell 4
 have d5:=X2.out.cell 5
 have d4a:=d4
 rw [HW2.out] at d4a
 go_wp2_with fail
 rw [← HW2.out]
 refine (HWL.out _ s3 B2.out).mono ?_
 rintro e w3 ⟨rfl,hki,hb3⟩
 obtain⟨gi,hgi⟩:=Ex0 w2a.heap.size
 rw [← hgi] at hki ⊢
 obtain⟨B3,X3,L1,L2,L5,KI,HGI⟩:=Hd7 (B2.out.trans (hb3.mono B2.out.size)) (X2.out.below hb3 X2.out.lt) (K1.out.below hb3 K1.out.lt) (K2.out.below hb3) (K5.out.below hb3 K5.out.lt) hki hgi
 have hgi0:w.heap.size≤gi:=by rw [hgi];exact B2.out.size
 have d5:=X3.out.cell 5
 clear hki hb3 d4 d4a e4 hgi
 go_wp2_with fail
 refine (HWT.out _ s4 B3.out).mono ?_
 rintro e w4 ⟨rfl,hkt,hb4⟩
 obtain⟨gt,hgt⟩:=Ex0 w3.heap.size
 rw [← hgt] at hkt ⊢
 have hgt0:w.heap.size≤gt:=by rw [hgt];exact B3.out.size
 have A4:Hid (EaS w #[.int .i64 on,.slice SA p sc,.bool wh,.slice TA m tc,.slice IA ni ic,.slice XA nx xc] #[.int .i64 on,.slice (some ⟨b1,0,none⟩) p (p + 64),.bool wh,.slice (some ⟨b2,0,none⟩) m (m + 64)] w2.heap.size b1 b2 gi gt m slots ts (E9 ints) (E0 texts) w4):=
  Lh ⟨B3.out.trans (hb4.mono B3.out.size),X3.out.below hb4 X3.out.lt,L5.out.below hb4 L5.out.lt,L1.out.below hb4 L1.out.lt,L2.out.below hb4,KI.out.below hb4 KI.out.lt,hkt,hgi0,hgt0⟩
 clear hkt hb4 hgt B1 B2 B3 X1 X2 X3 L1 L2 L5 K1 K2 K5 KI HW2
 have e0:=A4.out.x5.cell 0
 have e1:=A4.out.x5.cell 1
 have e2:=A4.out.x5.cell 2
 have e3:=A4.out.x5.cell 3
 go_wp2_with fail
 refine (HAB1.out b1 b2 gi gt w4 s3 s4 H5.out A4.out.ki A4.out.kt A4.out.kn A4.out.ks).mono ?_
 rintro e w5 ⟨xv,rfl,hox,hb5⟩
 simp only [HNC.out] at hox
 obtain⟨Ax,cx,rfl⟩:=AJ hox
 obtain⟨OX,A5⟩:=Hd2 hox (A4.out.step hb5)
 have z5:=hb5.size
 clear hox hb5 e0 e1 e2 e3
 have e0:=A5.out.x5.cell 0
 have e1:=A5.out.x5.cell 1
 have e2:=A5.out.x5.cell 2
 have e3:=A5.out.x5.cell 3
 go_wp2_with fail
 refine (HAB1.out b1 b2 gi gt w5 s3 s4 H5.out A5.out.ki A5.out.kt A5.out.kn A5.out.ks).mono ?_
 rintro e w6 ⟨yv,rfl,hoy,hb6⟩
 simp only [HNC.out] at hoy
 obtain⟨Ay,cy,rfl⟩:=AJ hoy
 obtain⟨OY,A6,PX⟩:=Hd3 hoy (A5.out.step hb6) (AZ OX.out hb6)
 have z6:=hb6.size
 clear hoy hb6 e0 e1 e2 e3
 have d0:=A6.out.x2.cell 0
 have d1:=A6.out.x2.cell 1
 have d2:=A6.out.x2.cell 2
 have d3:=A6.out.x2.cell 3
 have d4:=A6.out.x2.cell 4
 have d5:=A6.out.x2.cell 5
 go_wp2_with fail
 refine (HRF1.out w6 s3 s4 H5.out A6.out.be).mono ?_
 rintro e w7 ⟨wv,rfl,how,hb7⟩
 simp only [HNC.out] at how
 obtain⟨Aw,cw,rfl⟩:=AJ how
 obtain⟨OW,A7,QX,QY⟩:=Hd4 how (A6.out.step hb7) (AZ PX.out hb7) (AZ OY.out hb7)
 have z7:=hb7.size
 clear how hb7 d0 d1 d2 d3 d4 d5
 go_wp2_with fail
 refine (Ko Ax Aw cx cw _ _ nc x w7 HNC.out hxle QX.out OW.out).mono ?_
 rintro e w8 ⟨rfl,k8,rfl⟩
 go_wp2_with fail
 refine (Ko Ay Aw cy cw _ _ nc x (w7.drewN k8) HNC.out hxle (BS QY.out k8) (BS OW.out k8)).mono ?_
 rintro e w9 ⟨rfl,k9,rfl⟩
 obtain⟨w9,hw9⟩:=Ex0 ((w7.drewN k8).drewN k9)
 rw [← hw9]
 obtain⟨A9,RX,RY,RW⟩:=Hd4 ((A7.out.drewN k8).drewN k9) (BS (BS QX.out k8) k9) (BS (BS QY.out k8) k9) (BS (BS OW.out k8) k9)
 have z9:w7.heap.size≤w9.heap.size:=by rw [hw9];exact Nat.le_refl _
 rw [← hw9] at A9 RX RY RW
 clear hw9
 have d0:=A9.out.x2.cell 0
 have d1:=A9.out.x2.cell 1
 have d2:=A9.out.x2.cell 2
 have d3:=A9.out.x2.cell 3
 have d4:=A9.out.x2.cell 4
 have d5:=A9.out.x2.cell 5
 have e0:=A9.out.x5.cell 0
 have e1:=A9.out.x5.cell 1
 have e2:=A9.out.x5.cell 2
 have e3:=A9.out.x5.cell 3
 go_wp2_with fail
 refine (HEQ.out b1 b2 w9 s1 s2 A9.out.be A9.out.kn A9.out.ks).mono ?_
 rintro e wa ⟨rfl,hba⟩
 obtain⟨Aa,RXa,RYa,RWa⟩:=Hd4 (A9.out.step hba) (AZ RX.out hba) (AZ RY.out hba) (AZ RW.out hba)
 have za:=hba.size
 clear hba d0 d1 d2 d3 d4 d5 e0 e1 e2 e3
 have e0:=Aa.out.x5.cell 0
 have e1:=Aa.out.x5.cell 1
 have e2:=Aa.out.x5.cell 2
 have e3:=Aa.out.x5.cell 3
 go_wp2_with fail
 refine (HSP.out b1 b2 wa s1 s2 Aa.out.kn Aa.out.ks).mono ?_
 rintro e wb ⟨rfl,hbb⟩
 obtain⟨Ab,RXb,RYb,RWb⟩:=Hd4 (Aa.out.step hbb) (AZ RXa.out hbb) (AZ RYa.out hbb) (AZ RWa.out hbb)
 have zb:=hbb.size
 clear hbb e0 e1 e2 e3
 have d0:=Ab.out.x2.cell 0
 have d1:=Ab.out.x2.cell 1
 have d2:=Ab.out.x2.cell 2
 have d3:=Ab.out.x2.cell 3
 have d4:=Ab.out.x2.cell 4
 have d5:=Ab.out.x2.cell 5
 go_wp2_with fail
 refine (HEL.out gi wb s3 Ab.out.be Ab.out.ki).mono ?_
 rintro e wc ⟨rfl,hbc⟩
 obtain⟨Ac,RXc,RYc,RWc⟩:=Hd4 (Ab.out.step hbc) (AZ RXb.out hbc) (AZ RYb.out hbc) (AZ RWb.out hbc)
 have zc:=hbc.size
 clear hbc d0 d1 d2 d3 d4 d5
 go_wp2_with fail
 refine (HSL.out gi wc s3 Ac.out.ki).mono ?_
 rintro e wd ⟨rfl,rfl⟩
 have d0:=Ac.out.x2.cell 0
 have d1:=Ac.out.x2.cell 1
 have d2:=Ac.out.x2.cell 2
 have d3:=Ac.out.x2.cell 3
 have d4:=Ac.out.x2.cell 4
 have d5:=Ac.out.x2.cell 5
 go_wp2_with fail
 refine (HET.out gt wc s4 Ac.out.be Ac.out.kt).mono ?_
 rintro e wd ⟨rfl,hbd⟩
 obtain⟨Ad,RXd,RYd,RWd⟩:=Hd4 (Ac.out.step hbd) (AZ RXc.out hbd) (AZ RYc.out hbd) (AZ RWc.out hbd)
 have zd:=hbd.size
 clear hbd d0 d1 d2 d3 d4 d5
 go_wp2_with fail
 refine (HST.out gt wd s4 Ad.out.be Ad.out.kt).mono ?_
 rintro e we ⟨rfl,hbe⟩
 obtain⟨Ae,RXe,RYe,RWe⟩:=Hd4 (Ad.out.step hbe) (AZ RXd.out hbe) (AZ RYd.out hbe) (AZ RWd.out hbe)
 have ze:=hbe.size
 clear hbe
 go_wp2_with fail
 go_loopw [12] (fun iv2 wr=>∃ (k:Nat) (li:List Int),k≤ni∧iv2=.int .i64 k∧Hid (li.length=ni + 64)∧EaS w #[.int .i64 on,.slice SA p sc,.bool wh,.slice TA m tc,.slice IA ni ic,.slice XA nx xc] #[.int .i64 on,.slice (some ⟨b1,0,none⟩) p (p + 64),.bool wh,.slice (some ⟨b2,0,none⟩) m (m + 64)] w2.heap.size b1 b2 gi gt m slots ts li (E0 texts) wr∧Frm w.heap.size [2] we wr) (fun iv2 _=>ni - (intOf iv2).toNat)
 case atStart=>exact ⟨0,E9 ints,by omega,rfl,HLI,Ae.out,Frm.refl _ _ _⟩
 case round =>
  obtain⟨k,li,hkn,rfl,HLL,hea,hfr⟩:=hrel
  obtain⟨EA,FR⟩:=Hd2 hea hfr
  clear hea hfr
  by_cases hlt:2 * k + 1 < ni
  ·obtain⟨j,hj⟩:∃ j:Nat,j + 1 + k=ni:=⟨ni - 1 - k,by omega⟩
   have hjl:j < ni:=by omega
   have hjk:k < ni:=by omega
   obtain⟨u,hu,hcu,hzu⟩:=EA.out.atI (i:=k) (by rw [HLL.out];omega)
   obtain⟨v,hv,hcv,hzv⟩:=EA.out.atI (i:=j) (by rw [HLL.out];omega)
   have hset:=EA.out.setI k j v u
   have HSET:=Lh hset
   have hji:(j:Int) < ni:=by omega
   have hki2:(k:Int) < ni:=by omega
   have hlI:2 * (k:Int) + 1 < ni:=by omega
   have dlt:decide (2 * (k:Int) + 1 < ni)=true:=decide_eq_true hlI
   clear hset hu hv
   go_wp2_with fail
   have hw1:IntKind.i64.wrap ((ni:Int) - 1)=(ni:Int) - 1:=by rw [IntKind.wrap_i64];omega
   have hw2:IntKind.i64.wrap ((ni:Int) - 1 - (k:Int))=(j:Int):=by rw [IntKind.wrap_i64];omega
   refine Gs [⟨3,117,[(4,.slice (some ⟨gi,0,none⟩) ni (ni + 64))],.slice (some ⟨gi,0,none⟩) ni (ni + 64)⟩,⟨4,118,[(117,.slice (some ⟨gi,0,none⟩) ni (ni + 64))],.int .i64 ni⟩,⟨5,119,[(118,.int .i64 ni)],.int .i64 ((ni:Int) - 1)⟩,⟨6,120,[(12,.int .i64 k)],.int .i64 k⟩,⟨7,121,[(119,.int .i64 ((ni:Int) - 1)),(120,.int .i64 k)],.int .i64 j⟩,⟨9,123,[(4,.slice (some ⟨gi,0,none⟩) ni (ni + 64))],.slice (some ⟨gi,0,none⟩) ni (ni + 64)⟩,⟨10,124,[(123,.slice (some ⟨gi,0,none⟩) ni (ni + 64))],.int .i64 ni⟩,⟨11,125,[(124,.int .i64 ni)],.int .i64 ((ni:Int) - 1)⟩,⟨12,126,[(12,.int .i64 k)],.int .i64 k⟩,⟨13,127,[(125,.int .i64 ((ni:Int) - 1)),(126,.int .i64 k)],.int .i64 j⟩] (by kernel_rfl) (by kernel_rfl) ⟨⟨rfl,trivial⟩,⟨rfl,trivial⟩,⟨rfl,trivial⟩,⟨rfl,trivial⟩,⟨rfl,rfl,trivial⟩,⟨rfl,trivial⟩,⟨rfl,trivial⟩,⟨rfl,trivial⟩,⟨rfl,trivial⟩,⟨rfl,rfl,trivial⟩,trivial⟩ ⟨fun A w h=>Fj rfl h.1,fun A w h=>MZ rfl Tryz.underlying26 h.1,fun A w h=>GH rfl h.1 rfl hw1,fun A w h=>Fj rfl h.1,fun A w h=>GH rfl h.1 h.2.1 hw2,fun A w h=>Fj rfl h.1,fun A w h=>MZ rfl Tryz.underlying26 h.1,fun A w h=>GH rfl h.1 rfl hw1,fun A w h=>Fj rfl h.1,fun A w h=>GH rfl h.1 h.2.1 hw2,trivial⟩ (by kernel_rfl) ?_
   clear hw1 hw2
   simp only [CR,Ky,List.find?,Nat.reduceBEq,Nat.reduceAdd,G0]
   go_wp2_with fail
   refine AX.normal ?_
   go_wp2_with fail
   go_roundw
   case rel=>exact ⟨k + 1,(li.set k v).set j u,by omega,by go_num,Lh (by rw [List.length_set,List.length_set];exact HLL.out),HSET.out.1.drew,(FR.out.trans HSET.out.2).drew⟩
   case measure=>(simp [intOf];try omega)
  ·obtain⟨wo,rfl⟩:∃ wo:World,wo=wr:=⟨_,rfl⟩
   have dlt:decide (2 * (k:Int) + 1 < ni)=false:=decide_eq_false (by omega)
   go_wp2_with fail
   clear hlt dlt
   obtain⟨k0,rfl⟩:∃ k0:Nat,k0=k:=⟨_,rfl⟩
   go_loopw [13] (fun iv2 wr=>∃ (k:Nat) (lt:List ByteArray),k≤nx∧iv2=.int .i64 k∧Hid (lt.length=nx + 64)∧EaS w #[.int .i64 on,.slice SA p sc,.bool wh,.slice TA m tc,.slice IA ni ic,.slice XA nx xc] #[.int .i64 on,.slice (some ⟨b1,0,none⟩) p (p + 64),.bool wh,.slice (some ⟨b2,0,none⟩) m (m + 64)] w2.heap.size b1 b2 gi gt m slots ts li lt wr∧Frm w.heap.size [9] wo wr) (fun iv2 _=>nx - (intOf iv2).toNat)
   case atStart=>exact ⟨0,E0 texts,by omega,rfl,HLT,EA.out,Frm.refl _ _ _⟩
   case round =>
    obtain⟨k,lt,hkn,rfl,HLT2,hea,hfr⟩:=hrel
    obtain⟨EB,FS⟩:=Hd2 hea hfr
    clear hea hfr
    by_cases hlt:2 * k + 1 < nx
    ·obtain⟨j,hj⟩:∃ j:Nat,j + 1 + k=nx:=⟨nx - 1 - k,by omega⟩
     have hjl:j < nx:=by omega
     have hjk:k < nx:=by omega
     obtain⟨u,hu,hcu,hzu⟩:=EB.out.atT (i:=k) (by rw [HLT2.out];omega)
     obtain⟨v,hv,hcv,hzv⟩:=EB.out.atT (i:=j) (by rw [HLT2.out];omega)
     have hset:=EB.out.setT k j v u
     have HSET:=Lh hset
     have hji:(j:Int) < nx:=by omega
     have hki2:(k:Int) < nx:=by omega
     have hlI:2 * (k:Int) + 1 < nx:=by omega
     have dlt:decide (2 * (k:Int) + 1 < nx)=true:=decide_eq_true hlI
     clear hset hu hv
     go_wp2_with fail
     have hw1:IntKind.i64.wrap ((nx:Int) - 1)=(nx:Int) - 1:=by rw [IntKind.wrap_i64];omega
     have hw2:IntKind.i64.wrap ((nx:Int) - 1 - (k:Int))=(j:Int):=by rw [IntKind.wrap_i64];omega
     refine Gs [⟨3,147,[(5,.slice (some ⟨gt,0,none⟩) nx (nx + 64))],.slice (some ⟨gt,0,none⟩) nx (nx + 64)⟩,⟨4,148,[(147,.slice (some ⟨gt,0,none⟩) nx (nx + 64))],.int .i64 nx⟩,⟨5,149,[(148,.int .i64 nx)],.int .i64 ((nx:Int) - 1)⟩,⟨6,150,[(13,.int .i64 k)],.int .i64 k⟩,⟨7,151,[(149,.int .i64 ((nx:Int) - 1)),(150,.int .i64 k)],.int .i64 j⟩,⟨9,153,[(5,.slice (some ⟨gt,0,none⟩) nx (nx + 64))],.slice (some ⟨gt,0,none⟩) nx (nx + 64)⟩,⟨10,154,[(153,.slice (some ⟨gt,0,none⟩) nx (nx + 64))],.int .i64 nx⟩,⟨11,155,[(154,.int .i64 nx)],.int .i64 ((nx:Int) - 1)⟩,⟨12,156,[(13,.int .i64 k)],.int .i64 k⟩,⟨13,157,[(155,.int .i64 ((nx:Int) - 1)),(156,.int .i64 k)],.int .i64 j⟩] (by kernel_rfl) (by kernel_rfl) ⟨⟨rfl,trivial⟩,⟨rfl,trivial⟩,⟨rfl,trivial⟩,⟨rfl,trivial⟩,⟨rfl,rfl,trivial⟩,⟨rfl,trivial⟩,⟨rfl,trivial⟩,⟨rfl,trivial⟩,⟨rfl,trivial⟩,⟨rfl,rfl,trivial⟩,trivial⟩ ⟨fun A w h=>Fj rfl h.1,fun A w h=>MZ rfl Tryz.underlying27 h.1,fun A w h=>GH rfl h.1 rfl hw1,fun A w h=>Fj rfl h.1,fun A w h=>GH rfl h.1 h.2.1 hw2,fun A w h=>Fj rfl h.1,fun A w h=>MZ rfl Tryz.underlying27 h.1,fun A w h=>GH rfl h.1 rfl hw1,fun A w h=>Fj rfl h.1,fun A w h=>GH rfl h.1 h.2.1 hw2,trivial⟩ (by kernel_rfl) ?_
     clear hw1 hw2
     simp only [CR,Ky,List.find?,Nat.reduceBEq,Nat.reduceAdd,G0]
     go_wp2_with fail
     refine AX.normal ?_
     go_wp2_with fail
     go_roundw
     case rel=>exact ⟨k + 1,(lt.set k v).set j u,by omega,by go_num,Lh (by rw [List.length_set,List.length_set];exact HLT2.out),HSET.out.1.drew,(FS.out.trans HSET.out.2).drew⟩
     case measure=>(simp [intOf];try omega)
    ·obtain⟨wg,rfl⟩:∃ wg:World,wg=wr:=⟨_,rfl⟩
     have hti:(li.take ni).length=ni:=by rw [List.length_take,HLL.out];omega
     have htt:(lt.take nx).length=nx:=by rw [List.length_take,HLT2.out];omega
     obtain⟨li2,hli2⟩:=Ex0 (li.take ni)
     obtain⟨lt2,hlt2⟩:=Ex0 (lt.take nx)
     obtain⟨⟨z,ez⟩,hz⟩:∃ r,E8 on slots wh ts li2 lt2=r:=⟨_,rfl⟩
     have hzle:=Ow hz
     obtain⟨nz,hnz⟩:∃ n,z.length=n:=⟨_,rfl⟩
     rw [hnz] at hzle
     have hI2:=EB.out.ints ni
     have hX2:=EB.out.texts nx
     rw [← hli2] at hI2 hti
     rw [← hlt2] at hX2 htt
     have hab:=HAB.out b1 b2 (some ⟨gi,0,none⟩) (some ⟨gt,0,none⟩) (ni + 64) (nx + 64) li2 lt2 wg (by omega) (by omega) H5.out hI2 hX2 EB.out.kn EB.out.ks
     rw [hz,hti,htt] at hab
     have hrf:=fun (I2 X2:Option Addr) (i2 x2:Nat) (w':World) (a:Ch w' I2 li2) (b:BE w' X2 lt2) (h:Below w.heap.size w w')=>HRF.out I2 X2 i2 x2 li2 lt2 w' (by omega) (by omega) H5.out a b h
     simp only [hz,hti,htt] at hrf
     have hcl:=fun (w':World) (a:Ch w' (some ⟨gi,0,none⟩) li2)=>Rx (some ⟨gi,0,none⟩) li2 ni (ni + 64) w' hti (by omega) a
     have hct:=fun (w':World) (a:BE w' (some ⟨gt,0,none⟩) lt2)=>Rn (some ⟨gt,0,none⟩) lt2 nx (nx + 64) w' htt (by omega) a
     have hin2:=fun (w':World) (h:EaS w #[.int .i64 on,.slice SA p sc,.bool wh,.slice TA m tc,.slice IA ni ic,.slice XA nx xc] #[.int .i64 on,.slice (some ⟨b1,0,none⟩) p (p + 64),.bool wh,.slice (some ⟨b2,0,none⟩) m (m + 64)] w2.heap.size b1 b2 gi gt m slots ts li lt w')=>h.ints ni
     have htx2:=fun (w':World) (h:EaS w #[.int .i64 on,.slice SA p sc,.bool wh,.slice TA m tc,.slice IA ni ic,.slice XA nx xc] #[.int .i64 on,.slice (some ⟨b1,0,none⟩) p (p + 64),.bool wh,.slice (some ⟨b2,0,none⟩) m (m + 64)] w2.heap.size b1 b2 gi gt m slots ts li lt w')=>h.texts nx
     simp only [← hli2] at hin2
     simp only [← hlt2] at htx2
     have ffg:Frm w.heap.size [2,9] we wg:=(FR.out.more (by simp)).trans (FS.out.more (by simp))
     obtain⟨RXg,RYg,RWg⟩:=Hd3 (ffg.own RXe.out (by decide)) (ffg.own RYe.out (by decide)) (ffg.own RWe.out (by decide))
     have zg:=ffg.size
     obtain⟨HABZ,HRFZ,HCL,HCT,HIN,HTX,HNZ⟩:=Hd7 hab hrf hcl hct hin2 htx2 hnz
     have hez:(ez == ez)=true:=by simp
     clear hab hrf hcl hct hin2 htx2 hnz hz hI2 hX2 hti htt hli2 hlt2 ffg
     have dlt:decide (2 * (k:Int) + 1 < nx)=false:=decide_eq_false (by omega)
     have e0:=EB.out.x5.cell 0
     have e1:=EB.out.x5.cell 1
     have e2:=EB.out.x5.cell 2
     have e3:=EB.out.x5.cell 3
     go_wp2_with fail
     refine HABZ.out.mono ?_
     rintro e wh5 ⟨zv,rfl,hoz,hbh⟩
     simp only [HNZ.out] at hoz
     obtain⟨Az,cz,rfl⟩:=AJ hoz
     obtain⟨OZ,Ah,RXh,RYh,RWh⟩:=Hd5 hoz (EB.out.step hbh) (AZ RXg.out hbh) (AZ RYg.out hbh) (AZ RWg.out hbh)
     have zh:=hbh.size
     clear hoz hbh e0 e1 e2 e3
     go_wp2_with fail
     have hS:∀ wx,EaS w #[.int .i64 on,.slice SA p sc,.bool wh,.slice TA m tc,.slice IA ni ic,.slice XA nx xc] #[.int .i64 on,.slice (some ⟨b1,0,none⟩) p (p + 64),.bool wh,.slice (some ⟨b2,0,none⟩) m (m + 64)] w2.heap.size b1 b2 gi gt m slots ts li lt wx→(wx.cell? ⟨w.heap.size,0,none⟩=some (.int .i64 on)∧wx.cell? ⟨w.heap.size,1,none⟩=some (.slice SA p sc)∧wx.cell? ⟨w.heap.size,2,none⟩=some (.bool wh)∧wx.cell? ⟨w.heap.size,3,none⟩=some (.slice TA m tc)):=fun wx h=>⟨h.x2.cell 0,h.x2.cell 1,h.x2.cell 2,h.x2.cell 3⟩
     have sA:=hS _ Ah.out.drew
     have HSS:=Lh hS
     clear hS
     go_region_held3 (fun wx=>wx.cell? ⟨w.heap.size,0,none⟩=some (.int .i64 on)∧wx.cell? ⟨w.heap.size,1,none⟩=some (.slice SA p sc)∧wx.cell? ⟨w.heap.size,2,none⟩=some (.bool wh)∧wx.cell? ⟨w.heap.size,3,none⟩=some (.slice TA m tc)) (first | exact sA | exact sB | exact sC | exact sD)
      ((first | (go_at_call 19;refine (HCL.out _ (HIN.out _ Ah.out.drew)).mono ?_;rintro e wi ⟨v1,rfl,ho1,hbi⟩;obtain⟨A1,c1,rfl⟩:=AJ ho1;have Ai:=Lh (Ah.out.drew.step hbi);have sB:=HSS.out _ Ai.out;have O1:=Lh ho1;have BI:=Lh hbi;clear ho1 hbi)
              | (go_at_call 20;refine (HCT.out _ (HTX.out _ Ai.out)).mono ?_;rintro e wj ⟨v2,rfl,ho2,hbj⟩;obtain⟨A2,c2,rfl⟩:=AJ ho2;have Aj:=Lh (Ai.out.step hbj);have sC:=HSS.out _ Aj.out;have O2:=Lh ho2;have BJ:=Lh hbj;clear ho2 hbj)
              | (go_at_call 11;refine (HRFZ.out A1 A2 c1 c2 _ (R8 (AZ O1.out BJ.out)).1 (QP O2.out).1 Aj.out.be).mono ?_;rintro e wk ⟨v3,rfl,ho3,hbk⟩;have Ak:=Lh (Aj.out.step hbk);have sD:=HSS.out _ Ak.out;have BK:=Lh hbk;have O3:=Lh ho3;clear ho3 hbk)))
     have ho3:=O3.out
     simp only [HNZ.out] at ho3
     obtain⟨A3,c3,rfl⟩:=AJ ho3
     have bhk:Below wh5.heap.size wh5 wk:=((Below.refl wh5.heap.size wh5).drew.trans BI.out).trans ((BJ.out.mono (by have h:=BI.out.size;exact h)).trans (BK.out.mono (by have h:=BI.out.size;have h2:=BJ.out.size;exact Nat.le_trans h h2)))
     obtain⟨O3k,OZk,RXk,RYk,RWk⟩:=Hd5 ho3 (AZ OZ.out bhk) (AZ RXh.out bhk) (AZ RYh.out bhk) (AZ RWh.out bhk)
     have zk:=bhk.size
     clear ho3 bhk sA sB sC sD O3
     go_wp2_with fail
     refine (Ko Az A3 cz c3 _ _ nz z wk HNZ.out hzle OZk.out O3k.out).mono ?_
     rintro e wl ⟨rfl,k1,rfl⟩
     go_wp2_with fail
     refine (Ko Ax Aw cx cw _ _ nc x (wk.drewN k1) HNC.out hxle (BS RXk.out k1) (BS RWk.out k1)).mono ?_
     rintro e wm ⟨rfl,k2,rfl⟩
     obtain⟨wn,hwn⟩:=Ex0 ((wk.drewN k1).drewN k2)
     rw [← hwn]
     obtain⟨An,RXn,RYn,RZn⟩:=Hd4 ((Ak.out.drewN k1).drewN k2) (BS (BS RXk.out k1) k2) (BS (BS RYk.out k1) k2) (BS (BS OZk.out k1) k2)
     have zn:wk.heap.size≤wn.heap.size:=by rw [hwn];exact Nat.le_refl _
     rw [← hwn] at An RXn RYn RZn
     clear hwn
     obtain⟨wb2,hwb2⟩:=Ex0 (wn.alloc (.cells (Dm (.slice none 0 0)) 68))
     have hab2:Below wn.heap.size wn wb2:=by rw [hwb2];exact (Below.refl _ _).alloc (Nat.le_refl _) _
     have hbag0:Jc wb2 w.heap.size wn.heap.size []:=⟨none,0,by rw [hwb2];exact Blk.new _ _ _,World.ownsRow_nil _ _ _ _⟩
     have hBn:w.heap.size≤wn.heap.size:=An.out.be.size
     unfold Dm at hwb2
     obtain⟨HWB2,SX,SY,SZ,BB⟩:=Hd5 hwb2 (AZ RXn.out hab2) (AZ RYn.out hab2) (AZ RZn.out hab2) (An.out.be.trans (hab2.mono hBn))
     have zb2:=hab2.size
     have had0:=Fe wn.heap.size w.heap.size [] ⟨Ax,nc,cx⟩ wb2 hbag0 (by decide) hBn (by omega)
     simp only [Be.val] at had0
     have HAD0:=Lh had0
     clear hwb2 hab2 hbag0 had0
     go_wp2_with fail
     rw [← HWB2.out]
     refine HAD0.out.mono ?_
     rintro e wc3 ⟨rfl,hbag1,hf1⟩
     rw [if_pos (by decide)] at hbag1
     have had1:=Fe wn.heap.size w.heap.size _ ⟨Ay,nc,cy⟩ wc3 hbag1 (by simp) hBn (by have:=hf1.size;omega)
     simp only [Be.val] at had1
     obtain⟨HAD1,F1⟩:=Hd2 had1 hf1
     clear hbag1 had1 hf1
     go_wp2_with fail
     refine HAD1.out.mono ?_
     rintro e wd3 ⟨rfl,hbag2,hf2⟩
     rw [if_pos (by simp)] at hbag2
     have F2:=Lh (F1.out.trans hf2)
     have had2:=Fe wn.heap.size w.heap.size _ ⟨Az,nz,cz⟩ wd3 hbag2 (by simp) hBn (by have:=F2.out.size;omega)
     simp only [Be.val] at had2
     have HAD2:=Lh had2
     clear hbag2 had2 hf2
     go_wp2_with fail
     refine HAD2.out.mono ?_
     rintro e we3 ⟨rfl,hbag3,hf3⟩
     rw [if_pos (by simp)] at hbag3
     have F3:=Lh (F2.out.trans hf3)
     have TX:=F3.out.own SX.out (by decide)
     have TY:=F3.out.own SY.out (by decide)
     have TZ:=F3.out.own SZ.out (by decide)
     obtain⟨Ag,cg,hbg,hog⟩:=hbag3
     have z3:=F3.out.size
     have q4:=A4.out.be.size
     have qg:=EB.out.be.size
     have hlone:Hr [⟨Ax,nc,cx⟩,⟨Ay,nc,cy⟩,⟨Az,nz,cz⟩]:=Vh (c1:=w5.heap.size) (c2:=w6.heap.size) z6
      (fun a h=>(Lp OX.out a h).2)
      (fun a h=>Lp OY.out a h)
      (fun a h=>by have:=(Lp OZ.out a h).1;omega)
     have hap:=PK we3 wn.heap.size w.heap.size 3 cg Ag [⟨Ax,nc,cx⟩,⟨Ay,nc,cy⟩,⟨Az,nz,cz⟩] hbg hog rfl (by decide) (by omega) (by
      intro y hy
      simp only [List.mem_cons,List.not_mem_nil,or_false] at hy
      rcases hy with rfl | rfl | rfl <;> (simp only;omega)) hlone (by
      intro k y hk
      match k,hk with
      | 0,hk=>simp at hk;subst hk;exact ⟨_,Fk TX (by omega)⟩
      | 1,hk=>simp at hk;subst hk;exact ⟨_,Fk TY (by omega)⟩
      | 2,hk=>simp at hk;subst hk;exact ⟨_,Fk TZ (by omega)⟩
      | k + 3,hk=>simp at hk)
     obtain⟨HAP,BF⟩:=Hd2 hap (BB.out.trans F3.out.below)
     clear hap hlone hbg hog TX TY TZ hf3
     go_wp2_with fail
     refine HAP.out.mono ?_
     rintro e wf3 ⟨rfl,hf4⟩
     have BG:=Lh (BF.out.trans hf4.below)
     clear hf4
     go_wp2_with fail
     refine (HWK.out _).mono ?_
     rintro e wz ⟨rfl,hbz⟩
     have BZ:=Lh (BG.out.trans (hbz.mono BG.out.size))
     clear hbz
     go_wp2_with fail
     go_ret
     exact ⟨rfl,BZ.out⟩
end
end Go.Proofs.YtmpcbaflcogmmaaGreatDoor
