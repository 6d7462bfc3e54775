/- Ref2 Ref3 Ref8 -/
import Derived.Test.YtmpcbaflcogmmaaGreatDoorEmit6e
import Derived.Test.YtmpcbaflcogmmaaGreatDoorEmit9
import Derived.Test.YtmpcbaflcogmmaaGreatDoorEmitC
import Derived.Test.YtmpcbaflcogmmaaGreatDoorRef1
import Derived.Test.YtmpcbaflcogmmaaGreatDoorSizesT
namespace Go.Proofs.YtmpcbaflcogmmaaGreatDoor
open Go.RowKit
set_option linter.all false
set_option maxHeartbeats 3200000
set_option maxRecDepth 100000
section
variable {B kb:Nat} {tv iv xv:Value} {b:List Int} {w:World} {s:MS}
theorem RSm.num_some {o:Option Int} (h:RSm w B kb tv iv xv s b) (ho:o.isNone=false):RSm w B kb tv iv xv (C9 o s) b:=by
 refine ⟨?_,h.ref.num o⟩
 have e:(C9 o s).bad=s.bad:=by simp [C9,ho]
 rw [e]
 exact h.mem
theorem RSm.num_none (h:RSm w B kb tv iv xv s b):RSm (w.setCell ⟨kb,4,none⟩ (.bool true)) B kb tv iv xv (C9 none s) b∧Frm B TR w (w.setCell ⟨kb,4,none⟩ (.bool true)):=by
 obtain⟨h1,h2⟩:=h.mem.setBad true
 have e:(C9 none s).bad=true:=by simp [C9]
 exact ⟨⟨by rw [e];exact h1,h.ref.num none⟩,h2⟩
def NP (w:World) (B kb:Nat) (tv iv xv:Value) (s:MS) (b:List Int) (o:Option Int) (e:Ending) (w':World):Prop:=
 e=.returned (.int .i64 (o.getD 0))∧RSm w' B kb tv iv xv (C9 o s) b∧JUp s b (C9 o s) b∧Frm B TR w w'
theorem Hi (IA:Option Addr) (ints:List Int) (ic:Nat) (xv:Value) (n:Int) (h:RSm w B kb tv (.slice IA ints.length ic) xv s b) (hI:Ch w IA ints) (hil:ints.length≤281474976710656) :
  Calls Tryz.prog 169 #[.pointer (some ⟨kb,0,none⟩),.int .i64 n] w (NP w B kb tv (.slice IA ints.length ic) xv s b (Dp ints n)):=by
 obtain⟨o,ho⟩:=Ex0 (Dp ints n)
 rw [← ho]
 rw [PI] at ho
 have hsn:=fun (q:o.isNone=false)=>h.num_some q
 have hno:=h.num_none
 have hup:=JUp.num s b o
 obtain⟨d0,d1,d2,d4,z4⟩:=h.mem.cells
 obtain⟨N,hN⟩:∃ N,ints.length=N:=⟨_,rfl⟩
 rw [hN] at d1 hil hsn hno ⊢
 obtain⟨HO,HN,HI,HSN,HNO,HU⟩:=Hd6 ho hN hI hsn hno hup
 clear ho hN hI h hsn hno hup d0 d2
 go_in
 go_wp2
 go_loop [5] (fun iv2=>∃ k:Nat,k≤N∧iv2=.int .i64 k∧Hid (o=Df Fg.eqb k (ints.drop k) n)) (fun iv2=>N - (intOf iv2).toNat)
 case atStart=>exact ⟨0,by omega,rfl,HO⟩
 case round =>
  obtain⟨k,hkN,rfl,HK⟩:=hrel
  by_cases hlt:k < N
  ·by_cases h4:k < 4096
   ·obtain⟨v,hv⟩:∃ v,ints[k]? = some v:=⟨_,List.getElem?_eq_getElem (by rw [HN.out];exact hlt)⟩
    obtain⟨ib,ioff,rfl,hib,hcv⟩:=HI.out k v hv
    have HV:=Lh hv
    clear hv
    by_cases he:v=n
    ·subst he
     have hres:o=some (k:Int):=by rw [HK.out,J5 HV.out h4 ((KE _ _).2 rfl)]
     have HRES:=Lh hres
     clear hres
     go_wp2
     go_ret
     refine ⟨by rw [HRES.out];rfl,HSN.out (by rw [HRES.out];rfl),HU.out,Frm.refl _ _ _⟩
    ·have hstep:o=Df Fg.eqb (k + 1) (ints.drop (k + 1)) n:=by
      rw [HK.out,Jy HV.out h4 (by cases q:Fg.eqb v n with | false=>rfl | true=>exact absurd ((KE _ _).1 q) he)]
     have HS:=Lh hstep
     clear hstep
     go_wp2
     go_round
     case rel=>exact ⟨k + 1,by omega,by go_num,HS⟩
     case measure=>(simp [intOf];try omega)
   ·have hres:o=none:=by rw [HK.out,FU (.inr (by omega))]
    have HRES:=Lh hres
    clear hres
    go_wp2
    go_ret
    refine ⟨by rw [HRES.out];rfl,?_,HU.out,HNO.out.2⟩
    rw [HRES.out]
    exact HNO.out.1
  ·have hres:o=none:=by rw [HK.out,FU (.inl (by rw [HN.out];omega))]
   have HRES:=Lh hres
   clear hres
   go_wp2
   go_ret
   refine ⟨by rw [HRES.out];rfl,?_,HU.out,HNO.out.2⟩
   rw [HRES.out]
   exact HNO.out.1
theorem SN (l:List Int) (n:Int):∃ m:Nat,m≤4095∧(Dp l n).getD 0=(m:Int):=by
 cases h:Dp l n with
 | none=>exact ⟨0,by omega,rfl⟩
 | some v =>
  have:=NS l n v h
  exact ⟨v.toNat,by omega,by simp;omega⟩
theorem Sq (o:Option Int) (s:MS):E5 [hi8 (o.getD 0),u8 (o.getD 0)] (C9 o (opE 1 [] s))=Dn o s:=Rs o s
theorem Pf (IA:Option Addr) (ints:List Int) (ic:Nat) (xv:Value) (n:Int) (h:RSm w B kb tv (.slice IA ints.length ic) xv s b) (hI:∀ w',Below B w w'→Ch w' IA ints) (hil:ints.length≤281474976710656) (hm:s.ms + 1≤1000000) :
  Calls Tryz.prog 113 #[.pointer (some ⟨kb,0,none⟩),.int .i64 n] w (RP w B kb tv (.slice IA ints.length ic) xv s b (Dn (Dp ints n) s)):=by
 have hop:=F8 1 h (by omega)
 have hnu:=fun (w1:World) (b1:List Int) (h2:RSm w1 B kb tv (.slice IA ints.length ic) xv (opE 1 [] s) b1) (h3:Below B w w1)=>Hi IA ints ic xv n h2 (hI w1 h3) hil
 have htw:=fun (m:Nat) (hmm:m≤4095) (w1:World) (b1:List Int) (h2:RSm w1 B kb tv (.slice IA ints.length ic) xv (C9 (Dp ints n) (opE 1 [] s)) b1)=>Hw h2 m m (fun _=>rfl) (by omega) (by rw [EC,AL];simpa using hm)
 have hpp:=Sq (Dp ints n) s
 obtain⟨m,hm1,hm2⟩:=SN ints n
 have htw2:=htw m hm1
 obtain⟨o,ho⟩:=Ex0 (Dp ints n)
 obtain⟨N,hN⟩:∃ N,ints.length=N:=⟨_,rfl⟩
 simp only [← ho] at hm2 htw2 hnu hpp ⊢
 simp only [hN] at htw2 hnu hop ⊢
 rw [hm2] at hpp
 obtain⟨HOP,HNU,HTW,HM,HP⟩:=Hd5 hop hnu htw2 hm2 hpp
 clear hop hnu htw htw2 hm2 hpp hm1 ho hN h hI
 go_in
 go_wp2_with fail
 refine HOP.out.mono ?_
 rintro e w1 ⟨rfl,b1,r1,j1,f1⟩
 obtain⟨R1,J1,F1⟩:=Hd3 r1 j1 f1
 clear r1 j1 f1
 go_wp2_with fail
 refine (HNU.out w1 b1 R1.out F1.out.below).mono ?_
 rintro e w2 ⟨rfl,r2,j2,f2⟩
 rw [HM.out]
 obtain⟨R2,J2,F2⟩:=Hd3 r2 (J1.out.trans j2) (F1.out.trans f2)
 clear r2 j2 f2
 go_wp2_with fail
 refine (HTW.out w2 b1 R2.out).mono ?_
 rintro e w3 h3
 rw [HP.out] at h3
 obtain⟨rfl,h4⟩:=RP.then J2.out F2.out h3
 have H4:=Lh h4
 clear h3 h4
 go_wp2_with fail
 go_end0
 exact ⟨rfl,H4.out⟩
theorem Sf {v t:ByteArray} (h:¬ v=t):(v.toList == t.toList)=false:=by
 cases q:(v.toList == t.toList) with
 | false=>rfl
 | true =>
  exfalso
  apply h
  have e:=beq_iff_eq.1 q
  rw [ByteArray.toList_eq,ByteArray.toList_eq] at e
  cases v
  cases t
  congr
  exact Array.toList_inj.1 e
def ID (o:Option Int) (s:MS):MS:=E5 [hi8 (o.getD 0),u8 (o.getD 0)] (C9 o s)
theorem Q3 {o:Option Int} {m:Int} (s:MS) (h:o=some m):ID o s=E5 [hi8 m,u8 m] (C9 o s):=by unfold ID;rw [h];rfl
theorem Ru (o:Option Int) (s:MS):ID o (opE 45 [] s)=MR o s:=by simp [ID,MR,Ec,opE,E5,C9]
theorem Pv (XA:Option Addr) (texts:List ByteArray) (xc:Nat) (iv:Value) (t:ByteArray) (h:RSm w B kb tv iv (.slice XA texts.length xc) s b) (hX:BE w XA texts) (hxl:texts.length≤281474976710656) (hm:s.ms≤1000000) :
  Calls Tryz.prog 170 #[.pointer (some ⟨kb,0,none⟩),.string t] w (RP w B kb tv iv (.slice XA texts.length xc) s b (ID (DA texts t) s)):=by
 obtain⟨o,ho⟩:=Ex0 (DA texts t)
 rw [← ho]
 rw [P4] at ho
 have hsn:=fun (m:Nat) (hm4:m < 4096) (q:o=some (m:Int))=>Hw (h.num_some (o:=o) (by rw [q];rfl)) m m (fun _=>rfl) (by omega) hm
 have hno:=h.num_none
 have hup:=JUp.num s b o
 have hraw:=fun (q:o=none) (w':World) (h2:RSm w' B kb tv iv (.slice XA texts.length xc) (C9 none s) b)=>h2.ref.raw [hi8 ((0:Nat):Int),u8 ((0:Nat):Int)] [] (fun q=>by simp [C9] at q) (by simp)
 have hup2:=JUp.raw (C9 none s) b [hi8 ((0:Nat):Int),u8 ((0:Nat):Int)] []
 obtain⟨d0,d1,d2,d4,z4⟩:=h.mem.cells
 obtain⟨N,hN⟩:∃ N,texts.length=N:=⟨_,rfl⟩
 rw [hN] at d2 hxl hsn hno hraw ⊢
 obtain⟨HO,HN,HX,HSN,HNO,HU,HRW,HU2⟩:=Hd8 ho hN hX hsn hno hup hraw hup2
 clear ho hN hX h hsn hno hup d0 d1 hraw hup2 hm
 go_in
 go_wp2
 go_loop [4] (fun iv2=>∃ k:Nat,k≤N∧iv2=.int .i64 k∧Hid (o=Df Fb.eqb k (texts.drop k) t)) (fun iv2=>N - (intOf iv2).toNat)
 case atStart=>exact ⟨0,by omega,rfl,HO⟩
 case round =>
  obtain⟨k,hkN,rfl,HK⟩:=hrel
  by_cases hlt:k < N
  ·by_cases h4:k < 4096
   ·obtain⟨v,hv⟩:∃ v,texts[k]? = some v:=⟨_,List.getElem?_eq_getElem (by rw [HN.out];exact hlt)⟩
    obtain⟨ib,ioff,rfl,hib,hcv⟩:=HX.out k v hv
    have HV:=Lh hv
    clear hv
    by_cases he:v=t
    ·subst he
     have hres:o=some (k:Int):=by rw [HK.out,J5 HV.out h4 ((L7 _ _).2 rfl)]
     obtain⟨HC,HRES⟩:=Hd2 (HSN.out k h4 hres) hres
     clear hres
     go_wp2_with fail
     refine HC.out.mono ?_
     rintro e w2 h2
     have h3:=RP.then HU.out (Frm.refl _ _ _) h2
     obtain⟨rfl,h4⟩:=h3
     have H4:=Lh h4
     clear h2 h4
     go_wp2_with fail
     go_end0
     refine ⟨rfl,?_⟩
     have:=H4.out
     rw [Q3 s HRES.out]
     exact this
    ·have hstep:o=Df Fb.eqb (k + 1) (texts.drop (k + 1)) t:=by
      rw [HK.out,Jy HV.out h4 (by cases q:Fb.eqb v t with | false=>rfl | true=>exact absurd ((L7 _ _).1 q) he)]
     have HS:=Lh hstep
     have eb:(v.toList == t.toList)=false:=Sf he
     clear hstep
     go_wp2
     go_round
     case rel=>exact ⟨k + 1,by omega,by go_num,HS⟩
     case measure=>(simp [intOf];try omega)
   ·have hres:o=none:=by rw [HK.out,FU (.inr (by omega))]
    have HRES:=Lh hres
    clear hres
    go_wp2
    go_end0
    refine ⟨rfl,b ++ [],⟨?_,?_⟩,?_,HNO.out.2⟩
    ·rw [HRES.out,List.append_nil]
     exact HNO.out.1.mem
    ·rw [HRES.out]
     exact HRW.out HRES.out _ HNO.out.1
    ·rw [HRES.out]
     have:=HU.out
     rw [HRES.out] at this
     exact this.trans HU2.out
  ·have hres:o=none:=by rw [HK.out,FU (.inl (by rw [HN.out];omega))]
   have HRES:=Lh hres
   clear hres
   go_wp2
   go_end0
   refine ⟨rfl,b ++ [],⟨?_,?_⟩,?_,HNO.out.2⟩
   ·rw [HRES.out,List.append_nil]
    exact HNO.out.1.mem
   ·rw [HRES.out]
    exact HRW.out HRES.out _ HNO.out.1
   ·rw [HRES.out]
    have:=HU.out
    rw [HRES.out] at this
    exact this.trans HU2.out
end
def Bs (K:FuncId) (w0:World) (B kb:Nat) (tv iv xv:Value) (F:MS→MS) (i:Nat):Prop:=
 ∀ (s:MS) (b:List Int) (w:World),Below B w0 w→RSm w B kb tv iv xv s b→(F s).ms≤1000000→Calls Tryz.prog K #[.pointer (some ⟨kb,0,none⟩),.int .i64 i] w (RP w B kb tv iv xv s b (F s))
def D6 (K:FuncId) (w0:World) (B kb:Nat) (tv iv xv:Value) (ts:List Au) (F:MS→MS) (i:Nat) (x:Au):Prop:=
 ∀ (s:MS) (b:List Int) (w:World) (A:Option Addr) (n c base:Nat),Below B w0 w→RSm w B kb tv iv xv s b→w.ownsRow base 3 1 (.slice A n c) n (AQ ((Am ts i).map fun j:Nat=>(j:Int)))→(F s).ms≤1000000 →
  Calls Tryz.prog K #[.pointer (some ⟨kb,0,none⟩),.agg #[.int .i8 x.op,.int .i8 x.kind,.int .i64 x.n,.int .i64 x.m,.string x.text,.int .i64 x.pos,.int .i64 x.kids],.slice A n c] w (RP w B kb tv iv xv s b (F s))
def Oe (w0:World) (B kb:Nat) (tv iv xv:Value) (ts:List Au) (F:Nat→MS→MS) (i:Nat):Prop:=
 ∀ (s:MS) (b:List Int) (w:World) (A:Option Addr) (n c base:Nat) (q p:Nat),Jmp s b q p→Below B w0 w→RSm w B kb tv iv xv s b→w.ownsRow base 3 1 (.slice A n c) n (AQ ((Am ts i).map fun j:Nat=>(j:Int)))→(F p s).ms≤1000000 →
  Calls Tryz.prog 118 #[.pointer (some ⟨kb,0,none⟩),.int .i64 q,.slice A n c] w (RP w B kb tv iv xv s b (F p s))
structure G3 (w0:World) (B kb:Nat) (tv iv xv:Value) (pi:Int→Option Int) (pt:ByteArray→Option Int) (ts:List Au):Prop where
 push:∀ (n:Int) (s:MS) (b:List Int) (w:World),Below B w0 w→RSm w B kb tv iv xv s b→s.ms + 1≤1000000→Calls Tryz.prog 113 #[.pointer (some ⟨kb,0,none⟩),.int .i64 n] w (RP w B kb tv iv xv s b (Dn (pi n) s))
 num:∀ (n:Int) (s:MS) (b:List Int) (w:World),Below B w0 w→RSm w B kb tv iv xv s b→Calls Tryz.prog 169 #[.pointer (some ⟨kb,0,none⟩),.int .i64 n] w (NP w B kb tv iv xv s b (pi n))
 text:∀ (t:ByteArray) (s:MS) (b:List Int) (w:World),Below B w0 w→RSm w B kb tv iv xv s b→s.ms≤1000000→Calls Tryz.prog 170 #[.pointer (some ⟨kb,0,none⟩),.string t] w (RP w B kb tv iv xv s b (ID (pt t) s))
 tree:∃ tb toff cap,tv=.slice (some ⟨tb,toff,none⟩) ts.length cap∧tb < B∧As w0 tb toff ts
 small:ts.length≤2000
theorem TS (o:Option Int) (s:MS):(ID o s).ms=s.ms + 2:=by unfold ID;rw [QA,EC];rfl
section
variable {w0 w:World} {B kb:Nat} {tv iv xv:Value} {s:MS} {b:List Int} (x:Au)
theorem TC {base n c:Nat} {A:Option Addr} {l:List Value} (hb:Below B w0 w) (h:RSm w B kb tv iv xv s b) (ho:w.ownsRow base 3 1 (.slice A n c) n l) :
  ∃ w1,w1=w.alloc (.cells #[.int .i8 x.op,.int .i8 x.kind,.int .i64 x.n,.int .i64 x.m,.string x.text,.int .i64 x.pos,.int .i64 x.kids] 120)∧Below B w0 w1∧RSm w1 B kb tv iv xv s b∧w1.ownsRow base 3 1 (.slice A n c) n l∧Frm B TR w w1 ∧
   Blk w1 w.heap.size 120 #[.int .i8 x.op,.int .i8 x.kind,.int .i64 x.n,.int .i64 x.m,.string x.text,.int .i64 x.pos,.int .i64 x.kids]:=by
 have hz:=h.size
 exact ⟨_,rfl,hb.trans ((Below.refl _ _).alloc (by omega) _),h.alloc _,ho.alloc _,(Frm.refl _ _ _).alloc (by omega) _,Blk.new w _ _⟩
theorem SQ (hb:Below B w0 w) (h:RSm w B kb tv iv xv s b) :
  ∃ w1,w1=w.alloc (.cells #[.int .i8 x.op,.int .i8 x.kind,.int .i64 x.n,.int .i64 x.m,.string x.text,.int .i64 x.pos,.int .i64 x.kids] 120)∧Below B w0 w1∧RSm w1 B kb tv iv xv s b∧Frm B TR w w1 ∧
   Blk w1 w.heap.size 120 #[.int .i8 x.op,.int .i8 x.kind,.int .i64 x.n,.int .i64 x.m,.string x.text,.int .i64 x.pos,.int .i64 x.kids]:=by
 have hz:=h.size
 exact ⟨_,rfl,hb.trans ((Below.refl _ _).alloc (by omega) _),h.alloc _,(Frm.refl _ _ _).alloc (by omega) _,Blk.new w _ _⟩
end
theorem QI (n:Int):u8 (IntKind.i64.wrap n)=u8 n:=by
 simp only [u8,IntKind.wrap,IntKind.bits,IntKind.signed]
 simp
 omega
theorem ML (m:Int):u8 (wrap64 (m + 1))=u8 (u8 m + 1):=by rw [← Uk,IntWalk.i64_left]
theorem exH {α:Type} (e:α):∃ x,Hid (x=e):=⟨_,rfl⟩
structure StR (w0 wl0:World) (B kb:Nat) (tv iv xv:Value) (s0:MS) (b0:List Int) (s:MS) (b:List Int) (w:World):Prop where
 be:Below B w0 wl0
 k:RSm w B kb tv iv xv s b
 u:JUp s0 b0 s b
 f:Frm B TR wl0 w
section
variable {w0 wl0 w:World} {B kb:Nat} {tv iv xv:Value} {s0 s s':MS} {b0 b:List Int} (h:StR w0 wl0 B kb tv iv xv s0 b0 s b w)
include h
def NxR (w0 wl0:World) (B kb:Nat) (tv iv xv:Value) (s0:MS) (b0:List Int) (s:MS) (b:List Int) (s':MS) (e:Ending) (w':World):Prop:=
 e=.returned (.tuple #[])∧∃ b',StR w0 wl0 B kb tv iv xv s0 b0 s' b' w'∧JUp s b s' b'
theorem StR.low:Below B w0 w:=h.be.trans h.f.below
theorem StR.of_rp {e:Ending} {w':World} (r:RP w B kb tv iv xv s b s' e w'):NxR w0 wl0 B kb tv iv xv s0 b0 s b s' e w':=by
 obtain⟨h1,b',h2,h3,h4⟩:=r
 exact ⟨h1,b',⟨h.be,h2,h.u.trans h3,h.f.trans h4⟩,h3⟩
theorem StR.step {w':World} {b':List Int} (r:RSm w' B kb tv iv xv s' b') (j:JUp s b s' b') (f:Frm B TR w w'):StR w0 wl0 B kb tv iv xv s0 b0 s' b' w':=⟨h.be,r,h.u.trans j,h.f.trans f⟩
theorem StR.op0 (c:Int) (hs:Hid (s'=opE c [] s)) (hm:s.ms≤1000000):Calls Tryz.prog 54 #[.pointer (some ⟨kb,0,none⟩),.int .u8 c,.slice none 0 0] w (NxR w0 wl0 B kb tv iv xv s0 b0 s b s'):=
 (F8 c h.k hm).mono fun e w' r=>h.of_rp (by rw [hs.out];exact r)
theorem StR.op1 (c x:Int) (hs:Hid (s'=opE c [u8 x] s)) (hm:s.ms≤1000000):Calls Tryz.prog 54 #[.pointer (some ⟨kb,0,none⟩),.int .u8 c,.slice (some ⟨w.heap.size,0,none⟩) 1 1] (w.alloc (.cells #[.int .i64 x] 3)) (NxR w0 wl0 B kb tv iv xv s0 b0 s b s'):=
 (M9 c h.k x hm).mono fun e w' r=>h.of_rp (by rw [hs.out];exact r)
theorem StR.op1n (c x:Int) (hs:Hid (s'=opE c [u8 (u8 x + 1)] s)) (hm:s.ms≤1000000):Calls Tryz.prog 54 #[.pointer (some ⟨kb,0,none⟩),.int .u8 c,.slice (some ⟨w.heap.size,0,none⟩) 1 1] (w.alloc (.cells #[.int .i64 (wrap64 (x + 1))] 3)) (NxR w0 wl0 B kb tv iv xv s0 b0 s b s'):=
 (M9 c h.k (wrap64 (x + 1)) hm).mono fun e w' r=>h.of_rp (by rw [hs.out,← ML];exact r)
theorem StR.op2n (c x:Int) (hs:Hid (s'=opE c [u8 x,u8 (u8 x + 1)] s)) (hm:s.ms≤1000000):Calls Tryz.prog 54 #[.pointer (some ⟨kb,0,none⟩),.int .u8 c,.slice (some ⟨w.heap.size,0,none⟩) 2 2] (w.alloc (.cells #[.int .i64 x,.int .i64 (wrap64 (x + 1))] 3)) (NxR w0 wl0 B kb tv iv xv s0 b0 s b s'):=
 (Sn c h.k x (wrap64 (x + 1)) hm).mono fun e w' r=>h.of_rp (by rw [hs.out,← ML];exact r)
theorem StR.push {pi:Int→Option Int} {pt:ByteArray→Option Int} {ts:List Au} (H0:G3 w0 B kb tv iv xv pi pt ts) (n:Int) (hs:Hid (s'=Dn (pi n) s)) (hm:s.ms + 1≤1000000):Calls Tryz.prog 113 #[.pointer (some ⟨kb,0,none⟩),.int .i64 n] w (NxR w0 wl0 B kb tv iv xv s0 b0 s b s'):=
 (H0.push n s b w h.low h.k hm).mono fun e w' r=>h.of_rp (by rw [hs.out];exact r)
theorem StR.num {pi:Int→Option Int} {pt:ByteArray→Option Int} {ts:List Au} (H0:G3 w0 B kb tv iv xv pi pt ts) (n:Int) (hs:Hid (s'=C9 (pi n) s)):Calls Tryz.prog 169 #[.pointer (some ⟨kb,0,none⟩),.int .i64 n] w fun e w'=>e=.returned (.int .i64 ((pi n).getD 0))∧StR w0 wl0 B kb tv iv xv s0 b0 s' b w':=
 (H0.num n s b w h.low h.k).mono fun e w' ⟨r1,r2,r3,r4⟩=>⟨r1,by rw [hs.out];exact h.step r2 r3 r4⟩
theorem StR.node {K:FuncId} {F:MS→MS} {i:Nat} (hr:Hid (Bs K w0 B kb tv iv xv F i)) (hs:Hid (s'=F s)) (hm:s'.ms≤1000000):Calls Tryz.prog K #[.pointer (some ⟨kb,0,none⟩),.int .i64 i] w (NxR w0 wl0 B kb tv iv xv s0 b0 s b s'):=by
 have e:=hs.out
 subst e
 exact (hr.out s b w h.low h.k hm).mono fun e w' r=>h.of_rp r
theorem StR.jump (c:Int) (hs:Hid (s'=AI c [] s)) (hm:s.ms + 1≤1000000):Calls Tryz.prog 50 #[.pointer (some ⟨kb,0,none⟩),.int .u8 c] w fun e w'=>∃ (q:Nat) (b':List Int),e=.returned (.int .i64 q)∧StR w0 wl0 B kb tv iv xv s0 b0 s' b' w'∧JUp s b s' b'∧Hid (Jmp s' b' q s'.at_):=by
 have e:=hs.out
 subst e
 exact (J8 h.k c hm).mono fun e w' ⟨q,b',r1,r2,r3,r4,r5⟩=>⟨q,b',r1,h.step r2 r3 r4,r3,r5⟩
theorem StR.two0 (hs:Hid (s'=E5 [0,0] s)) (hm:s.ms≤1000000):Calls Tryz.prog 117 #[.pointer (some ⟨kb,0,none⟩),.int .i64 0] w fun e w'=>e=.returned (.tuple #[])∧∃ (q:Nat) (b':List Int),b'.length=q + 2∧StR w0 wl0 B kb tv iv xv s0 b0 s' b' w'∧JUp s b s' b'∧Hid (Jmp s' b' q s'.at_):=by
 have e:=hs.out
 subst e
 exact (Qg h.k hm).mono fun e w' ⟨r0,q,b',r1,r2,r3,r4,r5⟩=>⟨r0,q,b',r1,h.step r2 r3 r4,r3,r5⟩
theorem StR.here {q p:Nat} (j:Hid (Jmp s b q p)) (hs:Hid (s'=Bq p s)) (hm:s.ms≤1000000):Calls Tryz.prog 53 #[.pointer (some ⟨kb,0,none⟩),.int .i64 q] w (NxR w0 wl0 B kb tv iv xv s0 b0 s b s'):=
 (J9 h.k q p j.out hm).mono fun e w' r=>h.of_rp (by rw [hs.out];exact r)
theorem StR.back {m m':Nat} (hmm:Hid (s.bad=false→m=m')) (h1:m≤10000000) (hs:Hid (s'=Ec 30 m' s)) (hm:s.ms + 1≤1000000):Calls Tryz.prog 171 #[.pointer (some ⟨kb,0,none⟩),.int .i64 m] w (NxR w0 wl0 B kb tv iv xv s0 b0 s b s'):=
 (Pe h.k m m' hmm.out h1 hm).mono fun e w' r=>h.of_rp (by rw [hs.out];exact r)
theorem StR.part {K:FuncId} {ts:List Au} {F:MS→MS} {i:Nat} {x:Au} {base n c:Nat} {A:Option Addr} (hr:Hid (D6 K w0 B kb tv iv xv ts F i x)) (ho:Hid (wl0.ownsRow base 3 1 (.slice A n c) n (AQ ((Am ts i).map fun j:Nat=>(j:Int))))) (hs:Hid (s'=F s)) (hm:s'.ms≤1000000):Calls Tryz.prog K #[.pointer (some ⟨kb,0,none⟩),.agg #[.int .i8 x.op,.int .i8 x.kind,.int .i64 x.n,.int .i64 x.m,.string x.text,.int .i64 x.pos,.int .i64 x.kids],.slice A n c] w (NxR w0 wl0 B kb tv iv xv s0 b0 s b s'):=by
 have e:=hs.out
 subst e
 exact (hr.out s b w A n c base h.low h.k (h.f.own ho.out (by decide)) hm).mono fun e w' r=>h.of_rp r
theorem StR.fork {ts:List Au} {F:Nat→MS→MS} {i:Nat} {base n c q p:Nat} {A:Option Addr} (hr:Hid (Oe w0 B kb tv iv xv ts F i)) (j:Hid (Jmp s b q p)) (ho:Hid (wl0.ownsRow base 3 1 (.slice A n c) n (AQ ((Am ts i).map fun j:Nat=>(j:Int))))) (hs:Hid (s'=F p s)) (hm:s'.ms≤1000000):Calls Tryz.prog 118 #[.pointer (some ⟨kb,0,none⟩),.int .i64 q,.slice A n c] w (NxR w0 wl0 B kb tv iv xv s0 b0 s b s'):=by
 have e:=hs.out
 subst e
 exact (hr.out s b w A n c base q p j.out h.low h.k (h.f.own ho.out (by decide)) hm).mono fun e w' r=>h.of_rp r
theorem StR.top (hm:s.ms≤1000000):∃ (A:Option Addr) (c top:Nat),w.cell? ⟨kb,3,none⟩=some (.slice A top c)∧top≤10000000∧Hid (s.bad=false→top=s.b.length):=by
 obtain⟨A,c,_,k,_⟩:=h.k.mem.open_
 exact ⟨A,c,b.length,k.cell 3,by have:=Gb h.k hm;omega,fun q=>h.k.ref.same q⟩
theorem StR.len {q:Nat} (hq:b.length=q + 2) (hm:s.ms≤1000000):∃ (A:Option Addr) (c:Nat),w.cell? ⟨kb,3,none⟩=some (.slice A (q + 2) c)∧q≤10000000:=by
 obtain⟨A,c,_,k,_⟩:=h.k.mem.open_
 exact ⟨A,c,by rw [← hq];exact k.cell 3,by have:=Gb h.k hm;omega⟩
theorem StR.kid {base n c k j g:Nat} {l:List Nat} (ho:Hid (wl0.ownsRow base 3 1 (.slice (some ⟨g,0,none⟩) n c) n (AQ (l.map fun j:Nat=>(j:Int))))) (hj:l[k]? = some j):w.cell? ⟨g,k,none⟩=some (.int .i64 j):=Bo (h.f.own ho.out (by decide)) hj
theorem StR.cell {g:Nat} {cs:Array Value} (i:Nat) (k:Hid (Blk wl0 g 120 cs)):w.cell? ⟨g,i,none⟩=cs[i]?:=(h.f.blk k.out (by decide)).cell i
end
theorem Jmp.upH {s s':MS} {b b':List Int} {q p:Nat} (h:Hid (Jmp s b q p)) (k:JUp s b s' b'):Hid (Jmp s' b' q p):=h.out.up k
theorem JUp.topH {s s':MS} {b b':List Int} {m m':Nat} (h:Hid (s.bad=false→m=m')) (k:JUp s b s' b'):Hid (s'.bad=false→m=m'):=fun q=>h.out (k.bad q)
section
variable {R s:MS} {rec:Nat→MS→MS} {l:List Nat}
include R s rec l
theorem EM {k j:Nat} (h:Hid (R=Bw rec (l.drop k) s)) (hj:l[k]? = some j):Hid (R=Bw rec (l.drop (k + 1)) (rec j s)):=by
 obtain⟨hlt,e⟩:=List.getElem?_eq_some_iff.1 hj
 show R=_
 rw [h.out,List.drop_eq_getElem_cons hlt,e]
 rfl
theorem EP {k:Nat} (h:Hid (R=Bw rec (l.drop k) s)) (hk:l.length≤k):Hid (s=R):=by
 show s=R
 rw [h.out,List.drop_of_length_le hk]
 rfl
end
theorem Dj {w0 w:World} {B kb:Nat} {tv iv xv:Value} {pi:Int→Option Int} {pt:ByteArray→Option Int} {ts:List Au} {i:Nat} {x:Au} {s:MS} {b:List Int} (H0:G3 w0 B kb tv iv xv pi pt ts) (hx:ts[i]? = some x) (hbe:0≤Ap ts i) (hb0:Below B w0 w) (h0:RSm w B kb tv iv xv s b) :
  ∃ (tb toff cap:Nat) (w1:World),Hid (w1=w.alloc (.cells #[.int .i8 x.op,.int .i8 x.kind,.int .i64 x.n,.int .i64 x.m,.string x.text,.int .i64 x.pos,.int .i64 x.kids] 120))∧(i:Int) < ts.length∧kb < w.heap.size∧w.cell? ⟨kb,0,none⟩=some (.slice (some ⟨tb,toff,none⟩) ts.length cap) ∧
   (w.alloc (.cells #[.int .i8 x.op,.int .i8 x.kind,.int .i64 x.n,.int .i64 x.m,.string x.text,.int .i64 x.pos,.int .i64 x.kids] 120)).cell? ⟨kb,0,none⟩=some (.slice (some ⟨tb,toff,none⟩) ts.length cap) ∧
   (w.cell? ⟨tb,toff + i * 7,none⟩=some (.int .i8 x.op)∧w.cell? ⟨tb,toff + i * 7 + 1,none⟩=some (.int .i8 x.kind)∧w.cell? ⟨tb,toff + i * 7 + 2,none⟩=some (.int .i64 x.n)∧w.cell? ⟨tb,toff + i * 7 + 3,none⟩=some (.int .i64 x.m)∧w.cell? ⟨tb,toff + i * 7 + 4,none⟩=some (.string x.text)∧w.cell? ⟨tb,toff + i * 7 + 5,none⟩=some (.int .i64 x.pos)∧w.cell? ⟨tb,toff + i * 7 + 6,none⟩=some (.int .i64 x.kids)) ∧
   Hid (Calls Tryz.prog 112 #[.slice (some ⟨tb,toff,none⟩) ts.length cap,.int .i64 i] w1 fun e wl0=>∃ (A:Option Addr) (c:Nat),e=.returned (.slice A (Am ts i).length c)∧Hid (wl0.ownsRow w1.heap.size 3 1 (.slice A (Am ts i).length c) (Am ts i).length (AQ ((Am ts i).map fun j:Nat=>(j:Int)))) ∧
    Hid (Blk wl0 w.heap.size 120 #[.int .i8 x.op,.int .i8 x.kind,.int .i64 x.n,.int .i64 x.m,.string x.text,.int .i64 x.pos,.int .i64 x.kids])∧StR w0 wl0 B kb tv iv xv s b s b wl0∧Frm B TR w wl0):=by
 obtain⟨tb,toff,cap,htv,htb,hn0⟩:=H0.tree
 have hi:i < ts.length:=(List.getElem?_eq_some_iff.1 hx).1
 obtain⟨w1,hw1,hb1,h1,f1,kn⟩:=SQ x hb0 h0
 obtain⟨hB,hks⟩:=h0.size
 have hki:=P0 tb toff cap ts i w1 (by have:=H0.small;omega) (hn0.below hb1 htb) (by have:=hb1.size;have:=h1.size;omega) hi hbe
 have h1c:=h1.mem.cells.1
 rw [htv,hw1] at h1c
 have hc0:=h0.mem.cells.1
 rw [htv] at hc0
 refine ⟨tb,toff,cap,w1,hw1,by omega,hks,hc0,h1c,(hn0.below hb0 htb).all hx,hki.mono ?_⟩
 rintro e wl0 ⟨kv,rfl,hown,hbel⟩
 obtain⟨A,c,rfl⟩:=AJ hown
 have hz:=h1.size
 have f2:Frm B TR w1 wl0:=Frm.of_below hbel (by omega)
 exact ⟨A,c,rfl,hown,f2.blk kn (by decide),⟨hb1.trans f2.below,h1.below hbel,JUp.refl s b,Frm.refl _ _ _⟩,f1.trans f2⟩
theorem Eo {w0 w:World} {B kb:Nat} {tv iv xv:Value} {s:MS} {b:List Int} (x:Au) {base n c:Nat} {A:Option Addr} {l:List Value} (hb0:Below B w0 w) (h0:RSm w B kb tv iv xv s b) (ho0:w.ownsRow base 3 1 (.slice A n c) n l) :
  ∃ wl0,Hid (wl0=w.alloc (.cells #[.int .i8 x.op,.int .i8 x.kind,.int .i64 x.n,.int .i64 x.m,.string x.text,.int .i64 x.pos,.int .i64 x.kids] 120))∧StR w0 wl0 B kb tv iv xv s b s b wl0∧Hid (wl0.ownsRow base 3 1 (.slice A n c) n l)∧Frm B TR w wl0 ∧
   Hid (Blk wl0 w.heap.size 120 #[.int .i8 x.op,.int .i8 x.kind,.int .i64 x.n,.int .i64 x.m,.string x.text,.int .i64 x.pos,.int .i64 x.kids]):=by
 obtain⟨wl0,hw1,hb,h,ho,f0,kn⟩:=TC x hb0 h0 ho0
 exact ⟨wl0,hw1,⟨hb,h,JUp.refl s b,Frm.refl _ _ _⟩,ho,f0,kn⟩
theorem Mj (op c:Int) (w:World) (h:Cf op=some c) (h1:op≠31∧op≠32∧op≠17∧op≠18):Calls Tryz.prog 116 #[.int .i8 op] w fun e w2=>e=.returned (.int .u8 c)∧w=w2:=by
 have hop:(op=34∧c=23)∨(op=35∧c=15)∨(op=40∧c=19)∨(op=41∧c=20)∨(op=42∧c=21)∨(op=43∧c=22)∨(op=44∧c=10)∨(op=45∧c=11)∨(op=46∧c=12)∨(op=47∧c=13)∨(op=48∧c=14):=by
  by_cases hn:op=40∨op=41∨op=42∨op=43∨op=44∨op=45∨op=46∨op=47∨op=48∨op=34∨op=35
  ·rcases hn with rfl | rfl | rfl | rfl | rfl | rfl | rfl | rfl | rfl | rfl | rfl <;> (injection h with h;subst h;decide)
  ·exfalso
   unfold Cf at h
   rw [if_neg (by omega),if_neg (by omega),if_neg (by omega),if_neg (by omega),if_neg (by omega),if_neg (by omega),if_neg (by omega),if_neg (by omega),if_neg (by omega),if_neg (by omega),if_neg (by omega),if_neg (by omega),if_neg (by omega),if_neg (by omega),if_neg (by omega)] at h
   cases h
 rcases hop with ⟨rfl,rfl⟩ | ⟨rfl,rfl⟩ | ⟨rfl,rfl⟩ | ⟨rfl,rfl⟩ | ⟨rfl,rfl⟩ | ⟨rfl,rfl⟩ | ⟨rfl,rfl⟩ | ⟨rfl,rfl⟩ | ⟨rfl,rfl⟩ | ⟨rfl,rfl⟩ | ⟨rfl,rfl⟩ <;>
 ·go_in
  go_wp2
  go_ret
  exact ⟨rfl,rfl⟩
section
variable {w0:World} {B kb:Nat} {tv iv xv:Value} {pi:Int→Option Int} {pt:ByteArray→Option Int} {ts:List Au} {rec:Nat→MS→MS} {i:Nat} {x:Au} (H0:G3 w0 B kb tv iv xv pi pt ts)
include H0
variable (hx:ts[i]? = some x) (hbe:0≤Ap ts i)
include hx hbe
theorem TG (hgr:Do rec) (hkl:(Am ts i).length≤100000) (hr:∀ j∈Am ts i,Bs 49 w0 B kb tv iv xv (rec j) j) (hop:x.op=49):Bs 49 w0 B kb tv iv xv (fun s=>opE 46 [u8 x.n] (Bw rec (Am ts i) s)) i:=by
 intro s b w hb0 h0 hm
 obtain⟨tb,toff,cap,w1,HW,hiI,hks,hc0,h1c,⟨c0,c1,c2,c3,c4,c5,c6⟩,HKI⟩:=Dj H0 hx hbe hb0 h0
 obtain⟨s1,HS1⟩:=exH (Bw rec (Am ts i) s)
 have m1:s.ms≤s1.ms:=by rw [HS1.out];exact Cy hgr _ _
 obtain⟨s2,HS2⟩:=exH (opE 46 [u8 x.n] s1)
 have m2:s2.ms=s1.ms + 2:=by rw [HS2.out,AL];try rfl
 have hF:(fun s=>opE 46 [u8 x.n] (Bw rec (Am ts i) s)) s=s2:=by
  rw [HS2.out,HS1.out]
 rw [hF] at hm ⊢
 clear hF
 rw [hop] at HW c0 h1c
 obtain⟨HH,HR,HGR,HKL⟩:=Hd4 H0 hr hgr hkl
 clear hr hgr hkl hb0 h0
 go_in
 go_wp2_with fail
 rw [← HW.out]
 refine HKI.out.mono ?_
 rintro e wl0 ⟨A,c,rfl,HO,KN,S0,F0⟩
 rw [hop] at KN
 obtain⟨n,hn⟩:∃ n,(Am ts i).length=n:=⟨_,rfl⟩
 have hn9:n≤100000:=by have:=HKL.out;omega
 rw [hn] at HO ⊢
 have HN:=Lh hn
 clear hn c0 c1 c2 c3 c4 c5 c6 h1c hc0 hks
 have p0_0:=S0.cell 0 KN
 have p0_2:=S0.cell 2 KN
 go_wp2_with fail
 go_loopw [6] (fun iv2 wr=>∃ (k:Nat) (s2:MS) (b2:List Int),k≤n∧iv2=.int .i64 k∧Hid (s1=Bw rec ((Am ts i).drop k) s2)∧StR w0 wl0 B kb tv iv xv s b s2 b2 wr) (fun iv2 _=>n - (intOf iv2).toNat)
 case atStart=>exact ⟨0,s,b,by omega,rfl,HS1,S0⟩
 case round =>
  obtain⟨kk,s9,b9,hkn2,rfl,HRk,S9⟩:=hrel
  by_cases hlt:kk < n
  ·obtain⟨j,hj⟩:∃ j,(Am ts i)[kk]? = some j:=⟨_,List.getElem?_eq_getElem (by rw [HN.out];exact hlt)⟩
   obtain⟨_,_,gk,rfl,_⟩:=By HO.out hj
   have hcj:=S9.kid HO hj
   have HSS:Hid (s1=Bw rec ((Am ts i).drop (kk + 1)) (rec j s9)):=EM HRk hj
   have hmj:(rec j s9).ms≤1000000:=by have h1:=Cy HGR.out ((Am ts i).drop (kk + 1)) (rec j s9);rw [← HSS.out] at h1;omega
   have HC:=S9.node (HR.out j (List.mem_of_getElem? hj)) rfl hmj
   have hkI:(kk:Int) < n:=by omega
   have HC2:=Lh HC
   clear hj hmj HC
   go_wp2_with fail
   refine HC2.out.mono ?_
   rintro e w2 ⟨rfl,b3,S8,_⟩
   go_wp2_with fail
   go_roundw
   case rel=>exact ⟨kk + 1,rec j s9,b3,by omega,by go_num,HSS,S8⟩
   case measure=>(simp [intOf];try omega)
  ·have hfin:Hid (s9=s1):=EP HRk (by rw [HN.out];omega)
   have S1:StR w0 wl0 B kb tv iv xv s b s1 b9 wr:=hfin.out▸S9
   clear S9 hfin
   have p1_0:=S1.cell 0 KN
   have p1_2:=S1.cell 2 KN
   go_wp2_with fail
   refine (S1.op1 46 x.n HS2 (by omega)).mono ?_
   rintro e wl2 ⟨rfl,b2,S2,jj⟩
   go_wp2_with fail
   go_end0
   exact ⟨rfl,_,S2.k,S2.u,F0.trans S2.f⟩
theorem Vu (hgr:Do rec) (hkl:(Am ts i).length≤100000) (j0:Nat) (j1:Nat) (hkk:Am ts i=[j0,j1]) (hr:∀ j∈Am ts i,Bs 49 w0 B kb tv iv xv (rec j) j) (hop:x.op=38) (y:Au) (hy:ts[j0]? = some y):Bs 49 w0 B kb tv iv xv (fun s=>Dt ts rec x (Am ts i) s) i:=by
 intro s b w hb0 h0 hm
 obtain⟨tb,toff,cap,w1,HW,hiI,hks,hc0,h1c,⟨c0,c1,c2,c3,c4,c5,c6⟩,HKI⟩:=Dj H0 hx hbe hb0 h0
 obtain⟨s1,HS1⟩:=exH (Bw rec (Am ts i) s)
 have m1:s.ms≤s1.ms:=by rw [HS1.out];exact Cy hgr _ _
 obtain⟨s2,HS2⟩:=exH (opE 24 [u8 y.kind] s1)
 have m2:s2.ms=s1.ms + 2:=by rw [HS2.out,AL];try rfl
 have hF:(fun s=>Dt ts rec x (Am ts i) s) s=s2:=by
  rw [HS2.out,HS1.out]
  simp [Dt,hkk,hop,hy]
 rw [hF] at hm ⊢
 clear hF
 rw [hop] at HW c0 h1c
 have hq0:(Am ts i)[0]? = some j0:=by rw [hkk];rfl
 have hq1:(Am ts i)[1]? = some j1:=by rw [hkk];rfl
 have hjl:=(List.getElem?_eq_some_iff.1 hy).1
 have hji:(j0:Int) < ts.length:=by omega
 have HY:=Lh hy
 clear hy
 obtain⟨HH,HKK,HR,HGR,HKL⟩:=Hd5 H0 hkk hr hgr hkl
 clear hkk hr hgr hkl hb0 h0
 go_in
 go_wp2_with fail
 rw [← HW.out]
 refine HKI.out.mono ?_
 rintro e wl0 ⟨A,c,rfl,HO,KN,S0,F0⟩
 rw [hop] at KN
 have hn:(Am ts i).length=2:=by rw [HKK.out];rfl
 rw [hn] at HO ⊢
 obtain⟨_,_,g,rfl,_⟩:=By (k:=0) (j:=j0) HO.out hq0
 have HN:=Lh hn
 clear hn c0 c1 c2 c3 c4 c5 c6 h1c hc0 hks
 have p0_0:=S0.cell 0 KN
 have p0_2:=S0.cell 2 KN
 go_wp2_with fail
 go_loopw [6] (fun iv2 wr=>∃ (k:Nat) (s2:MS) (b2:List Int),k≤2∧iv2=.int .i64 k∧Hid (s1=Bw rec ((Am ts i).drop k) s2)∧StR w0 wl0 B kb tv iv xv s b s2 b2 wr) (fun iv2 _=>2 - (intOf iv2).toNat)
 case atStart=>exact ⟨0,s,b,by omega,rfl,HS1,S0⟩
 case round =>
  obtain⟨kk,s9,b9,hkn2,rfl,HRk,S9⟩:=hrel
  by_cases hlt:kk < 2
  ·obtain⟨j,hj⟩:∃ j,(Am ts i)[kk]? = some j:=⟨_,List.getElem?_eq_getElem (by rw [HN.out];exact hlt)⟩
   have hcj:=S9.kid HO hj
   have HSS:Hid (s1=Bw rec ((Am ts i).drop (kk + 1)) (rec j s9)):=EM HRk hj
   have hmj:(rec j s9).ms≤1000000:=by have h1:=Cy HGR.out ((Am ts i).drop (kk + 1)) (rec j s9);rw [← HSS.out] at h1;omega
   have HC:=S9.node (HR.out j (List.mem_of_getElem? hj)) rfl hmj
   have hkI:(kk:Int) < 2:=by omega
   have HC2:=Lh HC
   clear hj hmj HC
   go_wp2_with fail
   refine HC2.out.mono ?_
   rintro e w2 ⟨rfl,b3,S8,_⟩
   go_wp2_with fail
   go_roundw
   case rel=>exact ⟨kk + 1,rec j s9,b3,by omega,by go_num,HSS,S8⟩
   case measure=>(simp [intOf];try omega)
  ·have hfin:Hid (s9=s1):=EP HRk (by rw [HN.out];omega)
   have S1:StR w0 wl0 B kb tv iv xv s b s1 b9 wr:=hfin.out▸S9
   clear S9 hfin
   have p1_0:=S1.cell 0 KN
   go_wp2_with fail
   obtain⟨tb,toff,cap,htv,htb,hn0⟩:=HH.out.tree
   have hS:∀ (wx:World) (sx:MS) (bx:List Int),StR w0 wl0 B kb tv iv xv s b sx bx wx→(wx.cell? ⟨kb,0,none⟩=some (.slice (some ⟨tb,toff,none⟩) ts.length cap)∧wx.cell? ⟨g,0,none⟩=some (.int .i64 j0)∧wx.cell? ⟨tb,toff + j0 * 7 + 1,none⟩=some (.int .i8 y.kind)):=
    fun wx sx bx h=>⟨by have:=h.k.mem.cells.1;rw [htv] at this;exact this,h.kid HO hq0,((hn0.below h.low htb).all HY.out).2.1⟩
   have HSX:=Lh hS
   clear hS htv hn0
   have SD:StR w0 wl0 B kb tv iv xv s b s1 b9 wr.drew:=S1.step S1.k.drew (JUp.refl _ _) (Frm.refl _ _ _).drew
   have hsA:=HSX.out _ _ _ SD
   have hsB:=HSX.out _ _ _ (SD.step (SD.k.alloc (.cells #[.int .i64 (IntKind.i64.wrap y.kind)] 3)) (JUp.refl _ _) ((Frm.refl _ _ _).alloc (by have:=SD.k.size;omega) _))
   go_region_held3 (fun wx=>wx.cell? ⟨kb,0,none⟩=some (.slice (some ⟨tb,toff,none⟩) ts.length cap)∧wx.cell? ⟨g,0,none⟩=some (.int .i64 j0)∧wx.cell? ⟨tb,toff + j0 * 7 + 1,none⟩=some (.int .i8 y.kind)) (first | exact hsA | exact hsB | exact hsC) ((first | (go_at_call 54;refine (SD.op1 24 (IntKind.i64.wrap y.kind) (by rw [QI];exact HS2) (by omega)).mono ?_;rintro e wl2 ⟨rfl,b2,S2,jj⟩;have hsC:=HSX.out _ _ _ S2)))
   clear hsA hsC HSX SD hsB
   have pE:=S2.cell 0 KN
   go_wp2_with fail
   go_end0
   exact ⟨rfl,_,S2.k,S2.u,F0.trans S2.f⟩
theorem Vq (hgr:Do rec) (hkl:(Am ts i).length≤100000) (j0:Nat) (j1:Nat) (hkk:Am ts i=[j0,j1]) (hr:∀ j∈Am ts i,Bs 49 w0 B kb tv iv xv (rec j) j) (hop:x.op=39) (y:Au) (hy:ts[j0]? = some y):Bs 49 w0 B kb tv iv xv (fun s=>Dt ts rec x (Am ts i) s) i:=by
 intro s b w hb0 h0 hm
 obtain⟨tb,toff,cap,w1,HW,hiI,hks,hc0,h1c,⟨c0,c1,c2,c3,c4,c5,c6⟩,HKI⟩:=Dj H0 hx hbe hb0 h0
 obtain⟨s1,HS1⟩:=exH (Bw rec (Am ts i) s)
 have m1:s.ms≤s1.ms:=by rw [HS1.out];exact Cy hgr _ _
 obtain⟨s2,HS2⟩:=exH (opE 24 [u8 y.kind] s1)
 have m2:s2.ms=s1.ms + 2:=by rw [HS2.out,AL];try rfl
 obtain⟨s3,HS3⟩:=exH (opE 23 [] s2)
 have m3:s3.ms=s2.ms + 1:=by rw [HS3.out,AL];try rfl
 have hF:(fun s=>Dt ts rec x (Am ts i) s) s=s3:=by
  rw [HS3.out,HS2.out,HS1.out]
  simp [Dt,hkk,hop,hy]
 rw [hF] at hm ⊢
 clear hF
 rw [hop] at HW c0 h1c
 have hq0:(Am ts i)[0]? = some j0:=by rw [hkk];rfl
 have hq1:(Am ts i)[1]? = some j1:=by rw [hkk];rfl
 have hjl:=(List.getElem?_eq_some_iff.1 hy).1
 have hji:(j0:Int) < ts.length:=by omega
 have HY:=Lh hy
 clear hy
 obtain⟨HH,HKK,HR,HGR,HKL⟩:=Hd5 H0 hkk hr hgr hkl
 clear hkk hr hgr hkl hb0 h0
 go_in
 go_wp2_with fail
 rw [← HW.out]
 refine HKI.out.mono ?_
 rintro e wl0 ⟨A,c,rfl,HO,KN,S0,F0⟩
 rw [hop] at KN
 have hn:(Am ts i).length=2:=by rw [HKK.out];rfl
 rw [hn] at HO ⊢
 obtain⟨_,_,g,rfl,_⟩:=By (k:=0) (j:=j0) HO.out hq0
 have HN:=Lh hn
 clear hn c0 c1 c2 c3 c4 c5 c6 h1c hc0 hks
 have p0_0:=S0.cell 0 KN
 have p0_2:=S0.cell 2 KN
 go_wp2_with fail
 go_loopw [6] (fun iv2 wr=>∃ (k:Nat) (s2:MS) (b2:List Int),k≤2∧iv2=.int .i64 k∧Hid (s1=Bw rec ((Am ts i).drop k) s2)∧StR w0 wl0 B kb tv iv xv s b s2 b2 wr) (fun iv2 _=>2 - (intOf iv2).toNat)
 case atStart=>exact ⟨0,s,b,by omega,rfl,HS1,S0⟩
 case round =>
  obtain⟨kk,s9,b9,hkn2,rfl,HRk,S9⟩:=hrel
  by_cases hlt:kk < 2
  ·obtain⟨j,hj⟩:∃ j,(Am ts i)[kk]? = some j:=⟨_,List.getElem?_eq_getElem (by rw [HN.out];exact hlt)⟩
   have hcj:=S9.kid HO hj
   have HSS:Hid (s1=Bw rec ((Am ts i).drop (kk + 1)) (rec j s9)):=EM HRk hj
   have hmj:(rec j s9).ms≤1000000:=by have h1:=Cy HGR.out ((Am ts i).drop (kk + 1)) (rec j s9);rw [← HSS.out] at h1;omega
   have HC:=S9.node (HR.out j (List.mem_of_getElem? hj)) rfl hmj
   have hkI:(kk:Int) < 2:=by omega
   have HC2:=Lh HC
   clear hj hmj HC
   go_wp2_with fail
   refine HC2.out.mono ?_
   rintro e w2 ⟨rfl,b3,S8,_⟩
   go_wp2_with fail
   go_roundw
   case rel=>exact ⟨kk + 1,rec j s9,b3,by omega,by go_num,HSS,S8⟩
   case measure=>(simp [intOf];try omega)
  ·have hfin:Hid (s9=s1):=EP HRk (by rw [HN.out];omega)
   have S1:StR w0 wl0 B kb tv iv xv s b s1 b9 wr:=hfin.out▸S9
   clear S9 hfin
   have p1_0:=S1.cell 0 KN
   go_wp2_with fail
   obtain⟨tb,toff,cap,htv,htb,hn0⟩:=HH.out.tree
   have hS:∀ (wx:World) (sx:MS) (bx:List Int),StR w0 wl0 B kb tv iv xv s b sx bx wx→(wx.cell? ⟨kb,0,none⟩=some (.slice (some ⟨tb,toff,none⟩) ts.length cap)∧wx.cell? ⟨g,0,none⟩=some (.int .i64 j0)∧wx.cell? ⟨tb,toff + j0 * 7 + 1,none⟩=some (.int .i8 y.kind)):=
    fun wx sx bx h=>⟨by have:=h.k.mem.cells.1;rw [htv] at this;exact this,h.kid HO hq0,((hn0.below h.low htb).all HY.out).2.1⟩
   have HSX:=Lh hS
   clear hS htv hn0
   have SD:StR w0 wl0 B kb tv iv xv s b s1 b9 wr.drew:=S1.step S1.k.drew (JUp.refl _ _) (Frm.refl _ _ _).drew
   have hsA:=HSX.out _ _ _ SD
   have hsB:=HSX.out _ _ _ (SD.step (SD.k.alloc (.cells #[.int .i64 (IntKind.i64.wrap y.kind)] 3)) (JUp.refl _ _) ((Frm.refl _ _ _).alloc (by have:=SD.k.size;omega) _))
   go_region_held3 (fun wx=>wx.cell? ⟨kb,0,none⟩=some (.slice (some ⟨tb,toff,none⟩) ts.length cap)∧wx.cell? ⟨g,0,none⟩=some (.int .i64 j0)∧wx.cell? ⟨tb,toff + j0 * 7 + 1,none⟩=some (.int .i8 y.kind)) (first | exact hsA | exact hsB | exact hsC) ((first | (go_at_call 54;refine (SD.op1 24 (IntKind.i64.wrap y.kind) (by rw [QI];exact HS2) (by omega)).mono ?_;rintro e wl2 ⟨rfl,b2,S2,jj⟩;have hsC:=HSX.out _ _ _ S2)))
   clear hsA hsC HSX SD hsB
   have p2_0:=S2.cell 0 KN
   go_wp2_with fail
   refine (S2.op0 23 HS3 (by omega)).mono ?_
   rintro e wl3 ⟨rfl,b3,S3,jj⟩
   go_wp2_with fail
   go_end0
   exact ⟨rfl,_,S3.k,S3.u,F0.trans S3.f⟩
theorem Ug (hgr:Do rec) (hkl:(Am ts i).length≤100000) (hr:∀ j∈Am ts i,Bs 49 w0 B kb tv iv xv (rec j) j) (oc:Int) (hn:x.op≠30∧x.op≠31∧x.op≠32∧x.op≠33∧x.op≠50∧x.op≠36∧x.op≠37∧x.op≠49∧x.op≠38∧x.op≠39) (hopr:∀ w,Calls Tryz.prog 116 #[.int .i8 x.op] w fun e w2=>e=.returned (.int .u8 oc)∧w=w2):Bs 49 w0 B kb tv iv xv (fun s=>opE oc [] (Bw rec (Am ts i) s)) i:=by
 intro s b w hb0 h0 hm
 obtain⟨tb,toff,cap,w1,HW,hiI,hks,hc0,h1c,⟨c0,c1,c2,c3,c4,c5,c6⟩,HKI⟩:=Dj H0 hx hbe hb0 h0
 obtain⟨s1,HS1⟩:=exH (Bw rec (Am ts i) s)
 have m1:s.ms≤s1.ms:=by rw [HS1.out];exact Cy hgr _ _
 obtain⟨s2,HS2⟩:=exH (opE oc [] s1)
 have m2:s2.ms=s1.ms + 1:=by rw [HS2.out,AL];try rfl
 have hF:(fun s=>opE oc [] (Bw rec (Am ts i) s)) s=s2:=by
  rw [HS2.out,HS1.out]
 rw [hF] at hm ⊢
 clear hF
 have HOPR:=Lh hopr
 obtain⟨n30,n31,n32,n33,n50,n36,n37,n49,n38,n39⟩:=hn
 have d30:(x.op == 30)=false:=by simpa using n30
 have d31:(x.op == 31)=false:=by simpa using n31
 have d32:(x.op == 32)=false:=by simpa using n32
 have d33:(x.op == 33)=false:=by simpa using n33
 have d50:(x.op == 50)=false:=by simpa using n50
 have d36:(x.op == 36)=false:=by simpa using n36
 have d37:(x.op == 37)=false:=by simpa using n37
 have d49:(x.op == 49)=false:=by simpa using n49
 have d38:(x.op == 38)=false:=by simpa using n38
 have d39:(x.op == 39)=false:=by simpa using n39
 clear hopr n30 n31 n32 n33 n50 n36 n37 n49 n38 n39
 obtain⟨HH,HR,HGR,HKL⟩:=Hd4 H0 hr hgr hkl
 clear hr hgr hkl hb0 h0
 go_in
 go_wp2_with fail
 rw [← HW.out]
 refine HKI.out.mono ?_
 rintro e wl0 ⟨A,c,rfl,HO,KN,S0,F0⟩
 obtain⟨n,hn⟩:∃ n,(Am ts i).length=n:=⟨_,rfl⟩
 have hn9:n≤100000:=by have:=HKL.out;omega
 rw [hn] at HO ⊢
 have HN:=Lh hn
 clear hn c0 c1 c2 c3 c4 c5 c6 h1c hc0 hks
 have p0_0:=S0.cell 0 KN
 have p0_2:=S0.cell 2 KN
 go_wp2_with fail
 go_loopw [6] (fun iv2 wr=>∃ (k:Nat) (s2:MS) (b2:List Int),k≤n∧iv2=.int .i64 k∧Hid (s1=Bw rec ((Am ts i).drop k) s2)∧StR w0 wl0 B kb tv iv xv s b s2 b2 wr) (fun iv2 _=>n - (intOf iv2).toNat)
 case atStart=>exact ⟨0,s,b,by omega,rfl,HS1,S0⟩
 case round =>
  obtain⟨kk,s9,b9,hkn2,rfl,HRk,S9⟩:=hrel
  by_cases hlt:kk < n
  ·obtain⟨j,hj⟩:∃ j,(Am ts i)[kk]? = some j:=⟨_,List.getElem?_eq_getElem (by rw [HN.out];exact hlt)⟩
   obtain⟨_,_,gk,rfl,_⟩:=By HO.out hj
   have hcj:=S9.kid HO hj
   have HSS:Hid (s1=Bw rec ((Am ts i).drop (kk + 1)) (rec j s9)):=EM HRk hj
   have hmj:(rec j s9).ms≤1000000:=by have h1:=Cy HGR.out ((Am ts i).drop (kk + 1)) (rec j s9);rw [← HSS.out] at h1;omega
   have HC:=S9.node (HR.out j (List.mem_of_getElem? hj)) rfl hmj
   have hkI:(kk:Int) < n:=by omega
   have HC2:=Lh HC
   clear hj hmj HC
   go_wp2_with fail
   refine HC2.out.mono ?_
   rintro e w2 ⟨rfl,b3,S8,_⟩
   go_wp2_with fail
   go_roundw
   case rel=>exact ⟨kk + 1,rec j s9,b3,by omega,by go_num,HSS,S8⟩
   case measure=>(simp [intOf];try omega)
  ·have hfin:Hid (s9=s1):=EP HRk (by rw [HN.out];omega)
   have S1:StR w0 wl0 B kb tv iv xv s b s1 b9 wr:=hfin.out▸S9
   clear S9 hfin
   have p1_0:=S1.cell 0 KN
   go_wp2_with fail
   refine (HOPR.out wr).mono ?_
   rintro e w9 ⟨rfl,rfl⟩
   go_wp2_with fail
   refine (S1.op0 oc HS2 (by omega)).mono ?_
   rintro e wl2 ⟨rfl,b2,S2,jj⟩
   go_wp2_with fail
   go_end0
   exact ⟨rfl,_,S2.k,S2.u,F0.trans S2.f⟩
end
end Go.Proofs.YtmpcbaflcogmmaaGreatDoor
