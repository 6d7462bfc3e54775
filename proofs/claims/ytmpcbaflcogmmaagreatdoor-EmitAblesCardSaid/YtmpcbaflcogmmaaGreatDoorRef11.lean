/- AblAll13 Ref11 -/
import Derived.Test.YtmpcbaflcogmmaaGreatDoorAbl13i
import Derived.Test.YtmpcbaflcogmmaaGreatDoorEmitBy
import Derived.Test.YtmpcbaflcogmmaaGreatDoorEmitC
namespace Go.Proofs.YtmpcbaflcogmmaaGreatDoor
open Go.RowKit
set_option linter.all false
set_option maxHeartbeats 4000000
set_option maxRecDepth 100000
theorem BX {R:World→Prop} {b:Bool} (h:b=false) {e:Ending} {w:World} (hh:e=.returned (.bool false)∧R w):e=.returned (.bool b)∧R w:=by rw [h];exact hh
theorem PQ (on:Int) (SA TA:Option Addr) (slots:List Int) (sc tc:Nat) (when_:Bool) (ts:List Au) (w:World) (hT:Bv w TA ts) (hS:AV w SA slots) (htxt:∀ y∈ts,y.text.size≤1099511627776) (hrng:∀ y∈ts,I64 y.n∧I64 y.m) :
  Calls Tryz.prog 48 #[.agg #[.int .i64 on,.slice SA slots.length sc,.bool when_,.slice TA ts.length tc]] w fun e w'=>e=.returned (.bool (Bg on slots when_ ts))∧Below w.heap.size w w':=by
 by_cases h0:0≤on
 case neg =>
  refine (DF on SA TA slots.length sc ts.length tc when_ w (.inl (by omega))).mono fun e w' hh=>BX (R:=fun w'=>Below w.heap.size w w') ?_ hh
  unfold Bg;simp [h0]
 by_cases h1:on≤4
 case neg =>
  refine (DF on SA TA slots.length sc ts.length tc when_ w (.inr (.inl ⟨h0,by omega⟩))).mono fun e w' hh=>BX (R:=fun w'=>Below w.heap.size w w') ?_ hh
  unfold Bg;simp [h1]
 by_cases h2:slots.length≤32
 case neg =>
  refine (DF on SA TA slots.length sc ts.length tc when_ w (.inr (.inr (.inl ⟨h0,h1,by omega⟩)))).mono fun e w' hh=>BX (R:=fun w'=>Below w.heap.size w w') ?_ hh
  unfold Bg;simp [h2]
 by_cases h3:ts.length≤2000
 case neg =>
  refine (DF on SA TA slots.length sc ts.length tc when_ w (.inr (.inr (.inr (.inl ⟨h0,h1,h2,by omega⟩))))).mono fun e w' hh=>BX (R:=fun w'=>Below w.heap.size w w') ?_ hh
  unfold Bg;simp [h3]
 have hE:Bg on slots when_ ts=(CI when_ ts && !(DS when_ ts).bad && decide ((DS when_ ts).slots=slots)):=by
  unfold Bg;simp [h0,h1,h2,h3]
 rw [hE]
 rcases hT with hnil | ⟨tb,toff,rfl,htb,hn⟩
 ·subst hnil
  have hb:∀ k,Ap [] k = -1:=fun k=>by unfold Ap;simp
  have hw:CI when_ []=false:=by
   unfold CI
   rw [hb]
   simp
  rw [hw]
  exact (DF on SA TA slots.length sc 0 tc when_ w (.inr (.inr (.inr (.inr ⟨h0,h1,h2,rfl⟩))))).mono fun e w' hh=>BX (R:=fun w'=>Below w.heap.size w w') (by simp) hh
 by_cases hpos:0 < ts.length
 case neg =>
  have hnil:ts=[]:=List.length_eq_zero_iff.1 (by omega)
  subst hnil
  have hb:∀ k,Ap [] k = -1:=fun k=>by unfold Ap;simp
  have hw:CI when_ []=false:=by
   unfold CI
   rw [hb]
   simp
  rw [hw]
  exact (DF on SA (some ⟨tb,toff,none⟩) slots.length sc 0 tc when_ w (.inr (.inr (.inr (.inr ⟨h0,h1,h2,rfl⟩))))).mono fun e w' hh=>BX (R:=fun w'=>Below w.heap.size w w') (by simp) hh
 have hlen:∀ (k:Nat) (s:LSt),k < ts.length→0≤Ap ts k→s.slots=[3,4]→((sbM ts (ts.length + 1)).2 k s).slots.length≤100000:=fun k s hk hb hs=>by
  have h5:=Jf hb
  have hbk:k < (Ap ts k).toNat:=by
   rw [BV] at hb ⊢
   rcases hz:(Bc ts.length ts)[k]? with _ | _ | z <;> rw [hz] at hb <;> simp only at hb ⊢
   ·omega
   ·omega
   ·have:=Dv hz;omega
  have:=(DW ts (ts.length + 1)).2 k s hb hbk (by rw [hs];simp only [List.length_cons,List.length_nil];omega)
  omega
 cases when_ with
 | false =>
  have hwb:CI false ts=decide (Ap ts 0=ts.length):=by
   unfold CI CU
   simp
  rw [hwb]
  by_cases hb:Ap ts 0=ts.length
  case neg =>
   refine (Kj on SA slots slots.length sc tb toff tc ts w h0 h1 h2 rfl h3 htb hn hS htxt hrng hpos hb).mono fun e w' hh=>BX (R:=fun w'=>Below w.heap.size w w') ?_ hh
   simp [hb]
  have hl2:DS false ts=(sbM ts (ts.length + 1)).2 0 Bn:=by
   have e1:Eh false ts=Bn:=rfl
   unfold DS
   rw [e1]
   rfl
  rw [hl2]
  cases hbad:((sbM ts (ts.length + 1)).2 0 Bn).bad with
  | true =>
   refine (IP on SA slots slots.length sc tb toff tc ts w h0 h1 h2 rfl h3 htb hn hS htxt hrng hpos hb hbad).mono fun e w' hh=>BX (R:=fun w'=>Below w.heap.size w w') ?_ hh
   simp
  | false =>
   have e:(decide (Ap ts 0=ts.length) && !false && decide (((sbM ts (ts.length + 1)).2 0 Bn).slots=slots))=decide (((sbM ts (ts.length + 1)).2 0 Bn).slots=slots):=by simp [hb]
   rw [e]
   exact I6 on SA slots slots.length sc tb toff tc ts w h0 h1 h2 rfl h3 htb hn hS htxt hrng hpos hb hbad (hlen 0 Bn hpos (by rw [hb];omega) rfl)
 | true =>
  by_cases hneg:Ap ts 0 < 0
  ·refine (Kc on SA slots slots.length sc tb toff tc ts w h0 h1 h2 rfl h3 htb hn hS htxt hrng hpos hneg).mono fun e w' hh=>BX (R:=fun w'=>Below w.heap.size w w') ?_ hh
   have:CI true ts=false:=by
    unfold CI CU
    have:¬ 0≤Ap ts 0:=by omega
    simp [this]
   rw [this];rfl
  obtain⟨m,hm⟩:=Int.eq_ofNat_of_zero_le (Int.not_lt.1 hneg)
  have hbo:CU true ts=m:=by unfold CU;rw [if_pos rfl];exact hm
  have hwb:CI true ts=decide (Ap ts m=ts.length):=by
   unfold CI
   rw [hbo]
   simp
  rw [hwb]
  by_cases hb:Ap ts m=ts.length
  case neg =>
   by_cases hml:m < ts.length
   case neg =>
    refine (JV on SA slots slots.length sc tb toff tc ts w h0 h1 h2 rfl h3 htb hn hS htxt hrng hpos m hm (by omega)).mono fun e w' hh=>BX (R:=fun w'=>Below w.heap.size w w') ?_ hh
    simp [hb]
   refine (KJ on SA slots slots.length sc tb toff tc ts w h0 h1 h2 rfl h3 htb hn hS htxt hrng hpos m hm hml hb).mono fun e w' hh=>BX (R:=fun w'=>Below w.heap.size w w') ?_ hh
   simp [hb]
  have hml:m < ts.length:=by
   by_cases h:m < ts.length
   ·exact h
   ·have e:Ap ts m = -1:=by unfold Ap;rw [if_neg h]
    rw [e] at hb;omega
  have hl1:Eh true ts=AD ts 0 2 Bn:=by unfold Eh;rw [if_pos rfl]
  have hl2:DS true ts=if (AD ts 0 2 Bn).bad=true then AD ts 0 2 Bn else (sbM ts (ts.length + 1)).2 m (AD ts 0 2 Bn):=by
   unfold DS
   rw [hl1,hbo]
   rfl
  rw [hl2]
  cases hv1:(AD ts 0 2 Bn).bad with
  | true =>
   rw [if_pos rfl]
   refine (Jb on SA slots slots.length sc tb toff tc ts w h0 h1 h2 rfl h3 htb hn hS htxt hrng hpos m hm hml hb hv1).mono fun e w' hh=>BX (R:=fun w'=>Below w.heap.size w w') ?_ hh
   rw [hv1];simp
  | false =>
   rw [if_neg (by decide)]
   cases hbad:((sbM ts (ts.length + 1)).2 m (AD ts 0 2 Bn)).bad with
   | true =>
    refine (Kl on SA slots slots.length sc tb toff tc ts w h0 h1 h2 rfl h3 htb hn hS htxt hrng hpos m hm hml hb hv1 hbad).mono fun e w' hh=>BX (R:=fun w'=>Below w.heap.size w w') ?_ hh
    simp
   | false =>
    have e:(decide (Ap ts m=ts.length) && !false && decide (((sbM ts (ts.length + 1)).2 m (AD ts 0 2 Bn)).slots=slots))=decide (((sbM ts (ts.length + 1)).2 m (AD ts 0 2 Bn)).slots=slots):=by simp [hb]
    rw [e]
    exact Jd on SA slots slots.length sc tb toff tc ts w h0 h1 h2 rfl h3 htb hn hS htxt hrng hpos m hm hml hb hv1 hbad (hlen m _ hml (by rw [hb];omega) rfl)
theorem Ip (tb toff n c ni ic nx xc:Nat) (IA XA:Option Addr) (w:World):(Instr.build 104 #[(0,.slice (some ⟨tb,toff,none⟩) n c),(1,.slice IA ni ic),(2,.slice XA nx xc)]).run Tryz.prog w=.ok (.agg #[.slice (some ⟨tb,toff,none⟩) n c,.slice IA ni ic,.slice XA nx xc,.slice none 0 0,.bool false]) w:=
 run_build w _ _ _ (by kernel_rfl)
section
variable (on:Int) (SA TA:Option Addr) (slots:List Int) (sc tc:Nat) (wh:Bool) (ts:List Au) (IA XA:Option Addr) (ints:List Int) (texts:List ByteArray) (ic xc:Nat) (w:World)
theorem Lw (hT:Bv w TA ts) (hS:AV w SA slots) (htxt:∀ y∈ts,y.text.size≤1099511627776) (hrng:∀ y∈ts,I64 y.n∧I64 y.m) (bx:Array Value) (b:Bool) (hb:Bg on slots wh ts=b) :
  Calls Tryz.prog 48 #[.agg #[.int .i64 on,.slice SA slots.length sc,.bool wh,.slice TA ts.length tc]] (w.alloc (.cells bx 25)) fun e w'=>e=.returned (.bool b)∧Below w.heap.size w w'∧Blk w' w.heap.size 25 bx:=by
 have hbel:Below w.heap.size w (w.alloc (.cells bx 25)):=(Below.refl _ _).alloc (Nat.le_refl _) _
 refine (PQ on SA TA slots sc tc wh ts _ (hT.below hbel) (hS.below hbel) htxt hrng).mono ?_
 rintro e w' ⟨rfl,h⟩
 rw [hb]
 simp only [World.size_alloc] at h
 exact ⟨rfl,hbel.trans (h.mono (by omega)),(Blk.new w _ bx).below h (by omega)⟩
theorem T7 (hT:Bv w TA ts) (hS:AV w SA slots) (htxt:∀ y∈ts,y.text.size≤1099511627776) (hrng:∀ y∈ts,I64 y.n∧I64 y.m) (hb:Bg on slots wh ts=false) :
  Calls Tryz.prog 11 #[.agg #[.int .i64 on,.slice SA slots.length sc,.bool wh,.slice TA ts.length tc],.slice IA ints.length ic,.slice XA texts.length xc] w (Qi w ([],1)):=by
 have hc:=Lw on SA TA slots sc tc wh ts w hT hS htxt hrng #[.int .i64 on,.slice SA slots.length sc,.bool wh,.slice TA ts.length tc] false hb
 have HC:=Lh hc
 clear hc hT hS htxt hrng hb
 go_in
 go_wp2_with fail
 refine HC.out.mono ?_
 rintro e w1 ⟨rfl,h1,h2⟩
 go_wp2_with fail
 go_ret2
 exact ⟨_,rfl,World.ownsRow_nil _ _ _ _,h1⟩
end
theorem RSm.start (w:World) (tv iv xv:Value):RSm (w.alloc (.cells #[tv,iv,xv,.slice none 0 0,.bool false] 104)) w.heap.size w.heap.size tv iv xv ⟨[],false,[]⟩ []:=
 ⟨⟨.slice none 0 0,Nat.le_refl _,Blk.new _ _ _,World.ownsRow_nil _ _ _ _⟩,Ref.start⟩
theorem UQ (w0:World) (tb toff tc:Nat) (ts:List Au) (IA XA:Option Addr) (ints:List Int) (texts:List ByteArray) (ic xc kb:Nat) (hl:ts.length≤2000) (htb:tb < w0.heap.size) (hn:As w0 tb toff ts) (hI:Ch w0 IA ints) (hX:BE w0 XA texts) (hil:ints.length≤281474976710656) (hxl:texts.length≤281474976710656) :
  G3 w0 w0.heap.size kb (.slice (some ⟨tb,toff,none⟩) ts.length tc) (.slice IA ints.length ic) (.slice XA texts.length xc) (Dp ints) (DA texts) ts:=
 ⟨fun n s b w hb h hm=>Pf IA ints ic _ n h (fun w' h'=>hI.below (hb.trans h')) hil hm,
 fun n s b w hb h=>Hi IA ints ic _ n h (hI.below hb) hil,
 fun t s b w hb h hm=>Pv XA texts xc _ t h (hX.below hb) hxl hm,
 ⟨tb,toff,tc,rfl,htb,hn⟩,hl⟩
section
variable (on:Int) (SA:Option Addr) (sn sc tb toff tc:Nat) (ts:List Au) (IA XA:Option Addr) (ints:List Int) (texts:List ByteArray) (ic xc:Nat) (w:World) (hl:ts.length≤2000) (hl0:0 < ts.length) (hn:As w tb toff ts) (htb:tb < w.heap.size) (hI:Ch w IA ints) (hX:BE w XA texts) (hil:ints.length≤281474976710656) (hxl:texts.length≤281474976710656)
include hl hl0 hn htb hI hX hil hxl
theorem OP (hc:Calls Tryz.prog 48 #[.agg #[.int .i64 on,.slice SA sn sc,.bool false,.slice (some ⟨tb,toff,none⟩) ts.length tc]] (w.alloc (.cells #[.int .i64 on,.slice SA sn sc,.bool false,.slice (some ⟨tb,toff,none⟩) ts.length tc] 25)) fun e w'=>e=.returned (.bool true)∧Below w.heap.size w w'∧Blk w' w.heap.size 25 #[.int .i64 on,.slice SA sn sc,.bool false,.slice (some ⟨tb,toff,none⟩) ts.length tc])
  (hfit:EF ts ts.length false 0) (hbe:0≤Ap ts 0) (hm:(BY (Dp ints) (DA texts) false ts).ms≤1000000) :
  Calls Tryz.prog 11 #[.agg #[.int .i64 on,.slice SA sn sc,.bool false,.slice (some ⟨tb,toff,none⟩) ts.length tc],.slice IA ints.length ic,.slice XA texts.length xc] w (Qi w (if (BY (Dp ints) (DA texts) false ts).bad=true then ([],42) else (Du (BY (Dp ints) (DA texts) false ts).later (BY (Dp ints) (DA texts) false ts).b,0))):=by
 obtain⟨s1,hs1⟩:=Ex0 (CJ (Dp ints) (DA texts) ts ts.length 0 ⟨[],false,[]⟩)
 obtain⟨s2,hs2⟩:=Ex0 (opE 34 [] s1)
 have hM:BY (Dp ints) (DA texts) false ts=s2:=by rw [hs2,hs1];rfl
 rw [hM] at hm ⊢
 have m2:s2.ms=s1.ms + 1:=by rw [hs2,AL];rfl
 have bm1:s1.ms≤1000000:=by omega
 obtain⟨r,hr⟩:∃ r:List Int × Int,r=(if s2.bad=true then ([],42) else (Du s2.later s2.b,0)):=⟨_,rfl⟩
 rw [← hr]
 obtain⟨ni,hni⟩:∃ n,ints.length=n:=⟨_,rfl⟩
 obtain⟨nx,hnx⟩:∃ n,texts.length=n:=⟨_,rfl⟩
 have hbase:=fun (w2:World) (hb:Below w.heap.size w w2)=>UQ w2 tb toff tc ts IA XA ints texts ic xc w2.heap.size hl (Nat.lt_of_lt_of_le htb hb.size) (hn.below hb htb) (hI.below hb) (hX.below hb) hil hxl
 simp only [hni,hnx] at hbase ⊢
 have hnode:=fun (w2:World) (hb:Below w.heap.size w w2)=>(GO w2 w2.heap.size w2.heap.size _ _ _ _ _ ts (hbase w2 hb) ts.length 0 (by omega) hl0 hbe).2 hfit
 obtain⟨HNODE,HR,HC,HS1,HS2⟩:=Hd5 hnode hr hc hs1 hs2
 have hbm:=Ip tb toff ts.length tc ni ic nx xc IA XA
 clear hnode hr hc hs1 hs2 hM hbase hni hnx hil hxl hn hI hX hfit m2
 go_in
 go_wp2_with fail
 refine HC.out.mono ?_
 rintro e w2 ⟨rfl,hb2,k2⟩
 obtain⟨HB2,K2⟩:=Hd2 hb2 k2
 have c3:w2.cell? ⟨w.heap.size,3,none⟩=some (.slice (some ⟨tb,toff,none⟩) ts.length tc):=k2.cell 3
 have hlt2:=k2.lt
 obtain⟨w3,hw3⟩:=Ex0 (w2.alloc (.cells #[.slice (some ⟨tb,toff,none⟩) ts.length tc,.slice IA ni ic,.slice XA nx xc,.slice none 0 0,.bool false] 104))
 have rs3:=RSm.start w2 (.slice (some ⟨tb,toff,none⟩) ts.length tc) (.slice IA ni ic) (.slice XA nx xc)
 have k3:=k2.alloc (.cells #[.slice (some ⟨tb,toff,none⟩) ts.length tc,.slice IA ni ic,.slice XA nx xc,.slice none 0 0,.bool false] 104)
 have hb23:Below w2.heap.size w2 w3:=by rw [hw3];exact (Below.refl _ _).alloc (Nat.le_refl _) _
 have d2:(w2.alloc (.cells #[.slice (some ⟨tb,toff,none⟩) ts.length tc,.slice IA ni ic,.slice XA nx xc,.slice none 0 0,.bool false] 104)).cell? ⟨w.heap.size,2,none⟩=some (.bool false):=k3.cell 2
 have e2:w2.cell? ⟨w.heap.size,2,none⟩=some (.bool false):=k2.cell 2
 rw [← hw3] at rs3
 obtain⟨RS3,HB23,HW3⟩:=Hd3 rs3 hb23 hw3
 clear rs3 hb23 hw3 k3 k2 hb2
 go_wp2_with fail
 rw [← HW3.out]
 refine (HNODE.out w2 HB2.out ⟨[],false,[]⟩ [] w3 HB23.out RS3.out (HS1.out▸bm1)).mono ?_
 rintro e w4 ⟨rfl,b1,r1,j1,f1⟩
 rw [← HS1.out] at r1
 obtain⟨R1,F1⟩:=Hd2 r1 f1
 clear r1 j1 f1
 go_wp2_with fail
 refine (F8 34 R1.out bm1).mono ?_
 rintro e w5 ⟨rfl,b2,r2,j2,f2⟩
 rw [← HS2.out] at r2
 have F2:=Lh (F1.out.trans f2)
 have hz2:=HB2.out.size
 have hbe2:Below w.heap.size w w5:=(HB2.out.trans (HB23.out.mono hz2)).trans (F2.out.below.mono hz2)
 have HBE:=Lh hbe2
 obtain⟨q,hq⟩:∃ q,s2.bad=q:=⟨_,rfl⟩
 have hcode:=r2.ref.code
 obtain⟨Ab,cb,_,kk,ob⟩:=r2.mem.open_
 have z4:w5.cell? ⟨w2.heap.size,4,none⟩=some (.bool q):=by rw [← hq];exact kk.cell 4
 have z3:w5.cell? ⟨w2.heap.size,3,none⟩=some (.slice Ab b2.length cb):=kk.cell 3
 obtain⟨OB,HCODE,HQ⟩:=Hd3 (Fk ob hz2) hcode hq
 clear r2 j2 f2 hbe2 hcode kk ob hq
 cases q with
 | true =>
  have hr2:r=([],42):=by rw [HR.out,if_pos HQ.out]
  have HR2:=Lh hr2
  clear hr2
  go_wp2_with fail
  go_ret2
  rw [HR2.out]
  exact ⟨_,rfl,World.ownsRow_nil _ _ _ _,HBE.out⟩
 | false =>
  have hr2:r=(b2,0):=by rw [HR.out,if_neg (by rw [HQ.out];decide),← HCODE.out HQ.out]
  have HR2:=Lh hr2
  clear hr2
  go_wp2_with fail
  go_ret2
  rw [HR2.out]
  exact ⟨_,rfl,OB.out,HBE.out⟩
theorem Q4 (hc:Calls Tryz.prog 48 #[.agg #[.int .i64 on,.slice SA sn sc,.bool true,.slice (some ⟨tb,toff,none⟩) ts.length tc]] (w.alloc (.cells #[.int .i64 on,.slice SA sn sc,.bool true,.slice (some ⟨tb,toff,none⟩) ts.length tc] 25)) fun e w'=>e=.returned (.bool true)∧Below w.heap.size w w'∧Blk w' w.heap.size 25 #[.int .i64 on,.slice SA sn sc,.bool true,.slice (some ⟨tb,toff,none⟩) ts.length tc])
  (hfit:EF ts ts.length true 0) (J:Nat) (hbe:Ap ts 0=(J:Int)) (hJl:J < ts.length) (hJb:0≤Ap ts J) (hfit2:EF ts ts.length false J) (hm:(BY (Dp ints) (DA texts) true ts).ms≤1000000) :
  Calls Tryz.prog 11 #[.agg #[.int .i64 on,.slice SA sn sc,.bool true,.slice (some ⟨tb,toff,none⟩) ts.length tc],.slice IA ints.length ic,.slice XA texts.length xc] w (Qi w (if (BY (Dp ints) (DA texts) true ts).bad=true then ([],42) else (Du (BY (Dp ints) (DA texts) true ts).later (BY (Dp ints) (DA texts) true ts).b,0))):=by
 obtain⟨s1,hs1⟩:=Ex0 (CJ (Dp ints) (DA texts) ts ts.length 0 ⟨[],false,[]⟩)
 obtain⟨sa,hsa⟩:=Ex0 (AI 31 [] s1)
 obtain⟨sb,hsb⟩:=Ex0 (CJ (Dp ints) (DA texts) ts ts.length J sa)
 obtain⟨sd,hsd⟩:=Ex0 (Bq sa.at_ sb)
 obtain⟨s2,hs2⟩:=Ex0 (opE 34 [] sd)
 have hM:BY (Dp ints) (DA texts) true ts=s2:=by
  have e:(Ap ts 0).toNat=J:=by rw [hbe];rfl
  rw [hs2,hsd,hsb,hsa,hs1,← e]
  rfl
 rw [hM] at hm ⊢
 have m2:s2.ms=sd.ms + 1:=by rw [hs2,AL];rfl
 have md:sd.ms=sb.ms + 1:=by rw [hsd,Bj]
 have mb:sa.ms≤sb.ms:=by rw [hsb];exact Fd _ _ ts _ _ _
 have ma:sa.ms=s1.ms + 3:=by rw [hsa,Bk];rfl
 have bm1:s1.ms≤1000000:=by omega
 have bma:s1.ms + 1≤1000000:=by omega
 have bmb:sb.ms≤1000000:=by omega
 have bmd:sd.ms≤1000000:=by omega
 obtain⟨r,hr⟩:∃ r:List Int × Int,r=(if s2.bad=true then ([],42) else (Du s2.later s2.b,0)):=⟨_,rfl⟩
 rw [← hr]
 obtain⟨ni,hni⟩:∃ n,ints.length=n:=⟨_,rfl⟩
 obtain⟨nx,hnx⟩:∃ n,texts.length=n:=⟨_,rfl⟩
 have hbase:=fun (w2:World) (hb:Below w.heap.size w w2)=>UQ w2 tb toff tc ts IA XA ints texts ic xc w2.heap.size hl (Nat.lt_of_lt_of_le htb hb.size) (hn.below hb htb) (hI.below hb) (hX.below hb) hil hxl
 simp only [hni,hnx] at hbase ⊢
 have hnode:=fun (w2:World) (hb:Below w.heap.size w w2)=>(GO w2 w2.heap.size w2.heap.size _ _ _ _ _ ts (hbase w2 hb) ts.length 0 (by omega) hl0 (by omega)).1 hfit
 have hnode2:=fun (w2:World) (hb:Below w.heap.size w w2)=>(GO w2 w2.heap.size w2.heap.size _ _ _ _ _ ts (hbase w2 hb) ts.length J (by omega) hJl hJb).2 hfit2
 have hbeh:=fun (wx:World) (h:As wx tb toff ts)=>Ix tb toff tc ts 0 wx (by omega) h hl0 (by omega)
 rw [hbe] at hbeh
 obtain⟨HNODE,HNODE2,HBEH,HN,HR,HC,HS1,HSA,HSB,HSD,HS2⟩:=Hd11 hnode hnode2 hbeh hn hr hc hs1 hsa hsb hsd hs2
 have hbm:=Ip tb toff ts.length tc ni ic nx xc IA XA
 clear hnode hnode2 hbeh hr hc hs1 hsa hsb hsd hs2 hM hbase hni hnx hil hxl hn hI hX hfit hfit2 m2 md mb ma hbe hJb
 go_in
 go_wp2_with fail
 refine HC.out.mono ?_
 rintro e w2 ⟨rfl,hb2,k2⟩
 obtain⟨HB2,K2⟩:=Hd2 hb2 k2
 have c3:w2.cell? ⟨w.heap.size,3,none⟩=some (.slice (some ⟨tb,toff,none⟩) ts.length tc):=k2.cell 3
 have hlt2:=k2.lt
 obtain⟨w3,hw3⟩:=Ex0 (w2.alloc (.cells #[.slice (some ⟨tb,toff,none⟩) ts.length tc,.slice IA ni ic,.slice XA nx xc,.slice none 0 0,.bool false] 104))
 have rs3:=RSm.start w2 (.slice (some ⟨tb,toff,none⟩) ts.length tc) (.slice IA ni ic) (.slice XA nx xc)
 have k3:=k2.alloc (.cells #[.slice (some ⟨tb,toff,none⟩) ts.length tc,.slice IA ni ic,.slice XA nx xc,.slice none 0 0,.bool false] 104)
 have hb23:Below w2.heap.size w2 w3:=by rw [hw3];exact (Below.refl _ _).alloc (Nat.le_refl _) _
 have e2:w2.cell? ⟨w.heap.size,2,none⟩=some (.bool true):=k2.cell 2
 rw [← hw3] at rs3 k3
 obtain⟨RS3,HB23,HW3,K3⟩:=Hd4 rs3 hb23 hw3 k3
 clear rs3 hb23 hw3 k3 k2 hb2
 go_wp2_with fail
 rw [← HW3.out]
 refine (HNODE.out w2 HB2.out ⟨[],false,[]⟩ [] w3 HB23.out RS3.out (HS1.out▸bm1)).mono ?_
 rintro e w4 ⟨rfl,b1,r1,j1,f1⟩
 rw [← HS1.out] at r1
 obtain⟨R1,F1⟩:=Hd2 r1 f1
 clear r1 j1 f1
 go_wp2_with fail
 refine (J8 R1.out 31 bma).mono ?_
 rintro e wa ⟨qj,ba,rfl,ra,ja,fa,jm⟩
 rw [← HSA.out] at ra jm
 obtain⟨RA,FA,JM⟩:=Hd3 ra (F1.out.trans fa) jm
 clear ra ja fa jm
 have ca3:wa.cell? ⟨w.heap.size,3,none⟩=some (.slice (some ⟨tb,toff,none⟩) ts.length tc):=(FA.out.blk K3.out (by decide)).cell 3
 have hz2:=HB2.out.size
 have hbd:=HBEH.out wa (HN.out.below ((HB2.out.trans (HB23.out.mono hz2)).trans (FA.out.below.mono hz2)) htb)
 have HBD:=Lh hbd
 clear hbd
 go_wp2_with fail
 refine HBD.out.mono ?_
 rintro e w9 ⟨rfl,rfl⟩
 go_wp2_with fail
 refine (HNODE2.out w2 HB2.out sa ba wa (HB23.out.trans FA.out.below) RA.out (HSB.out▸bmb)).mono ?_
 rintro e wb ⟨rfl,bb,rb,jb,fb⟩
 rw [← HSB.out] at rb jb
 obtain⟨RB,FB,JM2⟩:=Hd3 rb (FA.out.trans fb) (JM.out.up jb)
 clear rb jb fb
 go_wp2_with fail
 refine (J9 RB.out qj sa.at_ JM2.out bmb).mono ?_
 rintro e wd ⟨rfl,bd,rd,jd,fd⟩
 rw [← HSD.out] at rd
 obtain⟨RD,FD⟩:=Hd2 rd (FB.out.trans fd)
 clear rd jd fd
 go_wp2_with fail
 refine (F8 34 RD.out bmd).mono ?_
 rintro e w5 ⟨rfl,b2,r2,j2,f2⟩
 rw [← HS2.out] at r2
 have F2:=Lh (FD.out.trans f2)
 have hbe2:Below w.heap.size w w5:=(HB2.out.trans (HB23.out.mono hz2)).trans (F2.out.below.mono hz2)
 have HBE:=Lh hbe2
 obtain⟨q,hq⟩:∃ q,s2.bad=q:=⟨_,rfl⟩
 have hcode:=r2.ref.code
 obtain⟨Ab,cb,_,kk,ob⟩:=r2.mem.open_
 have z4:w5.cell? ⟨w2.heap.size,4,none⟩=some (.bool q):=by rw [← hq];exact kk.cell 4
 have z3:w5.cell? ⟨w2.heap.size,3,none⟩=some (.slice Ab b2.length cb):=kk.cell 3
 obtain⟨OB,HCODE,HQ⟩:=Hd3 (Fk ob hz2) hcode hq
 clear r2 j2 f2 hbe2 hcode kk ob hq
 cases q with
 | true =>
  have hr2:r=([],42):=by rw [HR.out,if_pos HQ.out]
  have HR2:=Lh hr2
  clear hr2
  go_wp2_with fail
  go_ret2
  rw [HR2.out]
  exact ⟨_,rfl,World.ownsRow_nil _ _ _ _,HBE.out⟩
 | false =>
  have hr2:r=(b2,0):=by rw [HR.out,if_neg (by rw [HQ.out];decide),← HCODE.out HQ.out]
  have HR2:=Lh hr2
  clear hr2
  go_wp2_with fail
  go_ret2
  rw [HR2.out]
  exact ⟨_,rfl,OB.out,HBE.out⟩
end
section
variable (on:Int) (SA TA:Option Addr) (slots:List Int) (sc tc:Nat) (wh:Bool) (ts:List Au) (IA XA:Option Addr) (ints:List Int) (texts:List ByteArray) (ic xc:Nat) (w:World)
theorem Rf (hi:ints.length≤100000000) (hx:texts.length≤100000000) (hI:Ch w IA ints) (hX:BE w XA texts) (hT:Bv w TA ts) (hS:AV w SA slots) (htxt:∀ y∈ts,y.text.size≤1099511627776) (hrng:∀ y∈ts,I64 y.n∧I64 y.m) :
  Calls Tryz.prog 11 #[.agg #[.int .i64 on,.slice SA slots.length sc,.bool wh,.slice TA ts.length tc],.slice IA ints.length ic,.slice XA texts.length xc] w (Qi w (E8 on slots wh ts ints texts)):=by
 cases hb:Bg on slots wh ts with
 | false =>
  have e:E8 on slots wh ts ints texts=([],1):=by unfold E8;rw [if_neg (by rw [hb];decide)]
  rw [e]
  exact T7 on SA TA slots sc tc wh ts IA XA ints texts ic xc w hT hS htxt hrng hb
 | true =>
  have e:E8 on slots wh ts ints texts=(if (BY (Dp ints) (DA texts) wh ts).bad=true then ([],42) else (Du (BY (Dp ints) (DA texts) wh ts).later (BY (Dp ints) (DA texts) wh ts).b,0)):=by unfold E8;rw [if_pos hb]
  rw [e]
  have hm:=GA (Dp ints) (DA texts) hb
  obtain⟨f1,f2⟩:=OF hb
  obtain⟨hl,hp0,m,hmm,hml,he,_,hwt,hwf⟩:=Ij hb
  have hc:=Lw on SA TA slots sc tc wh ts w hT hS htxt hrng #[.int .i64 on,.slice SA slots.length sc,.bool wh,.slice TA ts.length tc] true hb
  rcases hT with rfl | ⟨tb,toff,rfl,htb,hn⟩
  ·simp at hp0
  rw [hmm,Int.toNat_natCast] at f1
  cases wh with
  | false =>
   have:=hwf rfl
   subst this
   exact OP on SA slots.length sc tb toff tc ts IA XA ints texts ic xc w hl hp0 hn htb hI hX (by omega) (by omega) hc f1 (by omega) hm
  | true =>
   obtain⟨hbm,_⟩:=hwt rfl
   exact Q4 on SA slots.length sc tb toff tc ts IA XA ints texts ic xc w hl hp0 hn htb hI hX (by omega) (by omega) hc (f2 rfl) m hbm hml (by omega) f1 hm
end
end Go.Proofs.YtmpcbaflcogmmaaGreatDoor
