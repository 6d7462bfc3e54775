/- EmitWk Ref4 Ref6 -/
import Derived.Test.YtmpcbaflcogmmaaGreatDoorCopyL
import Derived.Test.YtmpcbaflcogmmaaGreatDoorEmitC
import Derived.Test.YtmpcbaflcogmmaaGreatDoorEqB
import Derived.Test.YtmpcbaflcogmmaaGreatDoorRef8
namespace Go.Proofs.YtmpcbaflcogmmaaGreatDoor
open Go.RowKit
set_option linter.all false
set_option maxHeartbeats 3200000
set_option maxRecDepth 100000
theorem Oq {B:Nat} {w w':World} (h:Below B w w') (n:Nat):Below B w (w'.drewN n):=⟨h.os,h.tape,h.output,h.size,h.block⟩
def P8 (w:World) (A:Option Addr) (l:List Int):Prop:=∀ k x,l[k]? = some x→∃ b off,A=some ⟨b,off,none⟩∧b < w.heap.size∧w.cell? ⟨b,off + k,none⟩=some (.int .u8 x)
theorem P8.below {w w':World} {A:Option Addr} {l:List Int} (h:P8 w A l) (hb:Below w.heap.size w w'):P8 w' A l:=by
 intro k x hk
 obtain⟨b,off,h1,h2,h3⟩:=h k x hk
 exact ⟨b,off,h1,Nat.lt_of_lt_of_le h2 hb.size,(hb.cell (p:=⟨b,_,none⟩) h2).trans h3⟩
section
variable {w:World}
include w
theorem P8.weak {A:Option Addr} {l:List Int} (h:P8 w A l):∀ k x,l[k]? = some x→∃ b off,A=some ⟨b,off,none⟩∧w.cell? ⟨b,off + k,none⟩=some (.int .u8 x):=by
 intro k x hk
 obtain⟨b,off,h1,h2,h3⟩:=h k x hk
 exact ⟨b,off,h1,h3⟩
theorem PU {S n c:Nat} {A:Option Addr} {l:List Int} (h:w.ownsRow S 5 1 (.slice A n c) n (Ba l)):P8 w A l:=by
 intro k x hk
 obtain⟨b,e,h2,h3,h4⟩:=Jl h k (.int .u8 x) (by simp [Ba,hk])
 exact ⟨b,0,e,h3,by rw [Nat.zero_add];exact h4⟩
theorem M8 {b:Nat} {t:TypeId} {l:List Int} (h:Blk w b t (AQ l).toArray):Ch w (some ⟨b,0,none⟩) l:=by
 intro k x hk
 refine ⟨b,0,rfl,h.lt,?_⟩
 rw [Nat.zero_add,h.cell,List.getElem?_toArray,AQ,List.getElem?_map,hk]
 rfl
theorem UT {b:Nat} {t:TypeId} {l:List Int} (h:Blk w b t (Ba l).toArray):P8 w (some ⟨b,0,none⟩) l:=by
 intro k x hk
 refine ⟨b,0,rfl,h.lt,?_⟩
 rw [Nat.zero_add,h.cell,List.getElem?_toArray,Ba,List.getElem?_map,hk]
 rfl
end
theorem Ld (w:World) (A:Option Addr):BE w A []:=fun k x h=>by simp at h
theorem Qf (w:World) {o1 o2 o3:Obj} {b1:Array Value} (h1:o1=.cells b1 25) (h2:o2=.cells (([3,4]:List Int).map (Value.int .i8)).toArray 118) (h3:o3=.cells (Dr.flatMap Au.cells).toArray 120) :
  AV (((w.alloc o1).alloc o2).alloc o3) (some ⟨w.heap.size + 1,0,none⟩) [3,4]∧Bv (((w.alloc o1).alloc o2).alloc o3) (some ⟨w.heap.size + 1 + 1,0,none⟩) Dr∧Below w.heap.size w (((w.alloc o1).alloc o2).alloc o3):=by
 subst h1 h2 h3
 generalize hw1:w.alloc (.cells b1 25)=w1 at *
 have s1:w1.heap.size=w.heap.size + 1:=by rw [← hw1,World.size_alloc]
 have r2:=Blk.new w1 118 (([3,4]:List Int).map (Value.int .i8)).toArray
 generalize hw2:w1.alloc (.cells (([3,4]:List Int).map (Value.int .i8)).toArray 118)=w2 at *
 have s2:w2.heap.size=w.heap.size + 1 + 1:=by rw [← hw2,World.size_alloc,s1]
 have r3:=Blk.new w2 120 (Dr.flatMap Au.cells).toArray
 have q1:Below w.heap.size w w1:=by rw [← hw1];exact (Below.refl _ _).alloc (Nat.le_refl _) _
 have q2:Below w1.heap.size w1 w2:=by rw [← hw2];exact (Below.refl _ _).alloc (Nat.le_refl _) _
 have q3:Below w2.heap.size w2 (w2.alloc (.cells (Dr.flatMap Au.cells).toArray 120)):=(Below.refl _ _).alloc (Nat.le_refl _) _
 rw [s1] at r2
 rw [s2] at r3
 refine ⟨P1 (r2.below q3 (by omega)),.inr ⟨_,0,rfl,r3.lt,R7 r3⟩,q1.trans ((q2.mono (by omega)).trans (q3.mono (by omega)))⟩
theorem L0 (w:World):Calls Tryz.prog 80 #[] w fun e w'=>∃ SA TA,e=.returned (.agg #[.int .i64 0,.slice SA 2 2,.bool false,.slice TA 4 4])∧AV w' SA [3,4]∧Bv w' TA Dr∧Below w.heap.size w w':=by
 go_in
 go_wp2_with fail
 obtain⟨k1,k2,k3⟩:=Qf w (b1:=#[.int .i64 0,.slice (some ⟨w.heap.size + 1,0,none⟩) 2 2,.bool false,.slice (some ⟨w.heap.size + 1 + 1,0,none⟩) 4 4]) rfl rfl rfl
 obtain⟨K1,K2,K3⟩:=Hd3 k1 k2 k3
 clear k1 k2 k3
 refine bodyPost_ret (v:=.agg #[.int .i64 0,.slice (some ⟨w.heap.size + 1,0,none⟩) 2 2,.bool false,.slice (some ⟨w.heap.size + 1 + 1,0,none⟩) 4 4]) (by simp [results,Tryz.results80,go_sem]) rfl ⟨_,_,rfl,K1.out,K2.out,K3.out⟩
theorem NC:∀ y∈Dr,y.text.size≤1099511627776:=by
 have he:ByteArray.empty.size=0:=rfl
 intro y hy
 simp [Dr,nd] at hy
 rcases hy with rfl | rfl | rfl | rfl <;> (show ByteArray.empty.size≤_;omega)
theorem Ok (w:World):Calls Tryz.prog 23 #[] w fun e w'=>e=.returned (.bool true)∧Below w.heap.size w w':=by
 have HT:=Lh NC
 have hE:=fun (SA TA:Option Addr) (w1:World) (hS:AV w1 SA [3,4]) (hT:Bv w1 TA Dr)=>IU 0 SA TA [3,4] 2 4 false Dr (some ⟨w1.heap.size,0,none⟩) none [0,1,5] [] 3 0 (w1.alloc (.cells (AQ [0,1,5]).toArray 2)) (by decide) (by decide) (M8 (Blk.new w1 _ _)) (Ld _ _) (hT.below ((Below.refl _ _).alloc (Nat.le_refl _) _)) (hS.below ((Below.refl _ _).alloc (Nat.le_refl _) _)) HT.out
 have hF:=fun (SA TA:Option Addr) (w1:World) (hS:AV w1 SA [3,4]) (hT:Bv w1 TA Dr)=>IU 0 SA TA [3,4] 2 4 false Dr (some ⟨w1.heap.size,0,none⟩) none [0,1] [] 2 0 (w1.alloc (.cells (AQ [0,1]).toArray 2)) (by decide) (by decide) (M8 (Blk.new w1 _ _)) (Ld _ _) (hT.below ((Below.refl _ _).alloc (Nat.le_refl _) _)) (hS.below ((Below.refl _ _).alloc (Nat.le_refl _) _)) HT.out
 rw [Qn] at hE
 rw [RH] at hF
 obtain⟨HE,HF⟩:=Hd2 hE hF
 clear hE hF HT
 go_in
 go_wp2_with fail
 refine (L0 _).mono ?_
 rintro e w1 ⟨SA,TA,rfl,hS,hT,hb1⟩
 have hE:=HE.out SA TA w1 hS hT
 obtain⟨B1,HE2⟩:=Hd2 (hb1.alloc hb1.size (.cells (AQ [0,1,5]).toArray 2)) hE
 clear hS hT hb1 hE HE
 go_wp2_with fail
 refine HE2.out.mono ?_
 rintro e w2 ⟨bv,rfl,ho,hb2⟩
 obtain⟨A,c,rfl⟩:=AJ ho
 obtain⟨BA,B2⟩:=Hd2 (PU ho) (B1.out.trans (hb2.mono B1.out.size))
 clear ho hb2 HE2 B1
 go_wp2_with fail
 refine (L0 _).mono ?_
 rintro e w3 ⟨SA3,TA3,rfl,hS,hT,hb3⟩
 have hF:=HF.out SA3 TA3 w3 hS hT
 obtain⟨BA3,B3,HF2⟩:=Hd3 (BA.out.below (hb3.alloc hb3.size (.cells (AQ [0,1]).toArray 2))) (B2.out.trans ((hb3.alloc hb3.size (.cells (AQ [0,1]).toArray 2)).mono B2.out.size)) hF
 clear hS hT hb3 hF HF BA B2
 go_wp2_with fail
 refine HF2.out.mono ?_
 rintro e w4 ⟨bv4,rfl,ho4,hb4⟩
 obtain⟨BA4,B4⟩:=Hd2 (BA3.out.below hb4) (B3.out.trans (hb4.mono B3.out.size))
 clear ho4 hb4 HF2 BA3 B3
 have b5:Below w4.heap.size w4 (w4.alloc (.cells (Ba [4,0,1,0,2,60,6,34]).toArray 5)):=(Below.refl _ _).alloc (Nat.le_refl _) _
 have hq:=JK A (some ⟨w4.heap.size,0,none⟩) c 8 [4,0,1,0,2,60,6,34] [4,0,1,0,2,60,6,34] (w4.alloc (.cells (Ba [4,0,1,0,2,60,6,34]).toArray 5)) (by decide) (by decide) (BA4.out.below b5).weak (UT (Blk.new w4 _ _)).weak
 have hd:decide (([4,0,1,0,2,60,6,34]:List Int)=[4,0,1,0,2,60,6,34])=true:=by decide
 rw [hd] at hq
 obtain⟨HQ,B5⟩:=Hd2 hq (B4.out.trans (b5.mono B4.out.size))
 clear hq hd b5 BA4 B4
 go_wp2_with fail
 refine HQ.out.mono ?_
 rintro e w6 ⟨rfl,n,rfl⟩
 go_wp2_with fail
 go_ret
 exact ⟨rfl,Oq B5.out n⟩
section
variable {w0:World} {B kb:Nat} {tv iv xv:Value} {pi:Int→Option Int} {pt:ByteArray→Option Int} {ts:List Au} {rec:Nat→MS→MS} {i:Nat} {x:Au} (H0:G3 w0 B kb tv iv xv pi pt ts)
include H0
theorem Vi (hgr:Do rec) (j0:Nat) (j1:Nat) (hkk:Am ts i=[j0,j1]) (hr0:Bs 49 w0 B kb tv iv xv (rec j0) j0) (hr1:Bs 49 w0 B kb tv iv xv (rec j1) j1) (hop:x.op=36):D6 115 w0 B kb tv iv xv ts (fun s=>orE rec (Am ts i) s) i x:=by
 intro s b w A n c base hb0 h0 ho0 hm
 obtain⟨wl0,HW,S0,HO,F0,KN⟩:=Eo x hb0 h0 ho0
 obtain⟨s1,HS1⟩:=exH (rec j0 s)
 have m1:s.ms≤s1.ms:=by rw [HS1.out];exact hgr _ _
 obtain⟨s2,HS2⟩:=exH (AI 31 [] s1)
 have m2:s2.ms=s1.ms + 3:=by rw [HS2.out,Bk];try rfl
 obtain⟨s3,HS3⟩:=exH (opE 2 [] s2)
 have m3:s3.ms=s2.ms + 1:=by rw [HS3.out,AL];try rfl
 obtain⟨s4,HS4⟩:=exH (AI 30 [] s3)
 have m4:s4.ms=s3.ms + 3:=by rw [HS4.out,Bk];try rfl
 obtain⟨s5,HS5⟩:=exH (Bq s2.at_ s4)
 have m5:s5.ms=s4.ms + 1:=by rw [HS5.out,Bj];try rfl
 obtain⟨s6,HS6⟩:=exH (rec j1 s5)
 have m6:s5.ms≤s6.ms:=by rw [HS6.out];exact hgr _ _
 obtain⟨s7,HS7⟩:=exH (Bq s4.at_ s6)
 have m7:s7.ms=s6.ms + 1:=by rw [HS7.out,Bj];try rfl
 have hF:(fun s=>orE rec (Am ts i) s) s=s7:=by
  rw [HS7.out,HS6.out,HS5.out,HS4.out,HS3.out,HS2.out,HS1.out]
  simp only [orE,hkk,List.getD_cons_zero,List.getD_cons_succ,MS.at_]
 rw [hF] at hm ⊢
 clear hF
 rw [hop] at HW KN
 obtain rfl:2=n:=by have:=ho0.1;rw [hkk] at this;simpa [AQ] using this
 obtain⟨_,_,g,rfl,hgw⟩:=By (k:=0) (j:=j0) ho0 (by rw [hkk];rfl)
 have hq0:(Am ts i)[0]? = some j0:=by rw [hkk];rfl
 have hq1:(Am ts i)[1]? = some j1:=by rw [hkk];rfl
 obtain⟨HO0,HH,HKK,HR0,HR1⟩:=Hd5 ho0 H0 hkk hr0 hr1
 clear hkk hr0 hr1 hb0 h0 ho0
 go_in
 have p0_0:=S0.cell 0 KN
 have p0_2:=S0.cell 2 KN
 have kc0_0:=S0.kid HO hq0
 have kw:=Bo HO0.out hq0
 rw [HW.out] at kc0_0
 rw [HW.out] at p0_0
 rw [HW.out] at p0_2
 go_wp2_with fail
 try rw [← HW.out]
 refine (S0.node HR0 HS1 (by omega)).mono ?_
 rintro e wl1 ⟨rfl,b1,S1,jj⟩
 go_wp2_with fail
 refine (S1.jump 31 HS2 (by omega)).mono ?_
 rintro e wl2 ⟨q2,b2,rfl,S2,jj,JM2⟩
 have p2_0:=S2.cell 0 KN
 go_wp2_with fail
 refine (S2.op0 2 HS3 (by omega)).mono ?_
 rintro e wl3 ⟨rfl,b3,S3,jj⟩
 replace JM2:=Jmp.upH JM2 jj
 go_wp2_with fail
 refine (S3.jump 30 HS4 (by omega)).mono ?_
 rintro e wl4 ⟨q4,b4,rfl,S4,jj,JM4⟩
 replace JM2:=Jmp.upH JM2 jj
 go_wp2_with fail
 refine (S4.here JM2 HS5 (by omega)).mono ?_
 rintro e wl5 ⟨rfl,b5,S5,jj⟩
 replace JM4:=Jmp.upH JM4 jj
 have kc5_1:=S5.kid HO hq1
 go_wp2_with fail
 refine (S5.node HR1 HS6 (by omega)).mono ?_
 rintro e wl6 ⟨rfl,b6,S6,jj⟩
 replace JM4:=Jmp.upH JM4 jj
 go_wp2_with fail
 refine (S6.here JM4 HS7 (by omega)).mono ?_
 rintro e wl7 ⟨rfl,b7,S7,jj⟩
 go_wp2_with fail
 go_end0
 exact ⟨rfl,_,S7.k,S7.u,F0.trans S7.f⟩
theorem Vc (hgr:Do rec) (j0:Nat) (j1:Nat) (hkk:Am ts i=[j0,j1]) (hr0:Bs 49 w0 B kb tv iv xv (rec j0) j0) (hr1:Bs 49 w0 B kb tv iv xv (rec j1) j1) (hop:x.op=37):D6 115 w0 B kb tv iv xv ts (fun s=>II rec (Am ts i) s) i x:=by
 intro s b w A n c base hb0 h0 ho0 hm
 obtain⟨wl0,HW,S0,HO,F0,KN⟩:=Eo x hb0 h0 ho0
 obtain⟨s1,HS1⟩:=exH (rec j0 s)
 have m1:s.ms≤s1.ms:=by rw [HS1.out];exact hgr _ _
 obtain⟨s2,HS2⟩:=exH (AI 31 [] s1)
 have m2:s2.ms=s1.ms + 3:=by rw [HS2.out,Bk];try rfl
 obtain⟨s3,HS3⟩:=exH (rec j1 s2)
 have m3:s2.ms≤s3.ms:=by rw [HS3.out];exact hgr _ _
 obtain⟨s4,HS4⟩:=exH (AI 30 [] s3)
 have m4:s4.ms=s3.ms + 3:=by rw [HS4.out,Bk];try rfl
 obtain⟨s5,HS5⟩:=exH (Bq s2.at_ s4)
 have m5:s5.ms=s4.ms + 1:=by rw [HS5.out,Bj];try rfl
 obtain⟨s6,HS6⟩:=exH (opE 3 [] s5)
 have m6:s6.ms=s5.ms + 1:=by rw [HS6.out,AL];try rfl
 obtain⟨s7,HS7⟩:=exH (Bq s4.at_ s6)
 have m7:s7.ms=s6.ms + 1:=by rw [HS7.out,Bj];try rfl
 have hF:(fun s=>II rec (Am ts i) s) s=s7:=by
  rw [HS7.out,HS6.out,HS5.out,HS4.out,HS3.out,HS2.out,HS1.out]
  simp only [II,hkk,List.getD_cons_zero,List.getD_cons_succ,MS.at_]
 rw [hF] at hm ⊢
 clear hF
 rw [hop] at HW KN
 obtain rfl:2=n:=by have:=ho0.1;rw [hkk] at this;simpa [AQ] using this
 obtain⟨_,_,g,rfl,hgw⟩:=By (k:=0) (j:=j0) ho0 (by rw [hkk];rfl)
 have hq0:(Am ts i)[0]? = some j0:=by rw [hkk];rfl
 have hq1:(Am ts i)[1]? = some j1:=by rw [hkk];rfl
 obtain⟨HO0,HH,HKK,HR0,HR1⟩:=Hd5 ho0 H0 hkk hr0 hr1
 clear hkk hr0 hr1 hb0 h0 ho0
 go_in
 have p0_0:=S0.cell 0 KN
 have p0_2:=S0.cell 2 KN
 have kc0_0:=S0.kid HO hq0
 have kw:=Bo HO0.out hq0
 rw [HW.out] at kc0_0
 rw [HW.out] at p0_0
 rw [HW.out] at p0_2
 go_wp2_with fail
 try rw [← HW.out]
 refine (S0.node HR0 HS1 (by omega)).mono ?_
 rintro e wl1 ⟨rfl,b1,S1,jj⟩
 go_wp2_with fail
 refine (S1.jump 31 HS2 (by omega)).mono ?_
 rintro e wl2 ⟨q2,b2,rfl,S2,jj,JM2⟩
 have p2_0:=S2.cell 0 KN
 have kc2_1:=S2.kid HO hq1
 go_wp2_with fail
 refine (S2.node HR1 HS3 (by omega)).mono ?_
 rintro e wl3 ⟨rfl,b3,S3,jj⟩
 replace JM2:=Jmp.upH JM2 jj
 go_wp2_with fail
 refine (S3.jump 30 HS4 (by omega)).mono ?_
 rintro e wl4 ⟨q4,b4,rfl,S4,jj,JM4⟩
 replace JM2:=Jmp.upH JM2 jj
 go_wp2_with fail
 refine (S4.here JM2 HS5 (by omega)).mono ?_
 rintro e wl5 ⟨rfl,b5,S5,jj⟩
 replace JM4:=Jmp.upH JM4 jj
 go_wp2_with fail
 refine (S5.op0 3 HS6 (by omega)).mono ?_
 rintro e wl6 ⟨rfl,b6,S6,jj⟩
 replace JM4:=Jmp.upH JM4 jj
 go_wp2_with fail
 refine (S6.here JM4 HS7 (by omega)).mono ?_
 rintro e wl7 ⟨rfl,b7,S7,jj⟩
 go_wp2_with fail
 go_end0
 exact ⟨rfl,_,S7.k,S7.u,F0.trans S7.f⟩
end
section
variable {w0:World} {B kb:Nat} {tv iv xv:Value} {pi:Int→Option Int} {pt:ByteArray→Option Int} {ts:List Au} {rec:Nat→MS→MS} {i:Nat} {x:Au} (H0:G3 w0 B kb tv iv xv pi pt ts)
include H0
theorem Sx (hgr:Do rec) (j0:Nat) (j1:Nat) (hkk:Am ts i=[j0,j1]) (hr1:Bs 51 w0 B kb tv iv xv (rec j1) j1)  : Oe w0 B kb tv iv xv ts (fun p s=>Bq p (rec j1 s)) i:=by
 intro s b wl0 A n c base q0 p JM0 hb0 h0 ho0 hm
 have S0:StR w0 wl0 B kb tv iv xv s b s b wl0:=⟨hb0,h0,JUp.refl s b,Frm.refl _ _ _⟩
 have HO:=Lh ho0
 obtain⟨s1,HS1⟩:=exH (rec j1 s)
 have m1:s.ms≤s1.ms:=by rw [HS1.out];exact hgr _ _
 obtain⟨s2,HS2⟩:=exH (Bq p s1)
 have m2:s2.ms=s1.ms + 1:=by rw [HS2.out,Bj];try rfl
 have hF:(fun p s=>Bq p (rec j1 s)) p s=s2:=by
  rw [HS2.out,HS1.out]
 rw [hF] at hm ⊢
 clear hF
 obtain rfl:2=n:=by have:=ho0.1;rw [hkk] at this;simpa [AQ] using this
 obtain⟨_,_,g,rfl,hgw⟩:=By (k:=0) (j:=j0) ho0 (by rw [hkk];rfl)
 have hq0:(Am ts i)[0]? = some j0:=by rw [hkk];rfl
 have hq1:(Am ts i)[1]? = some j1:=by rw [hkk];rfl
 obtain⟨HH,HKK,HR1⟩:=Hd3 H0 hkk hr1
 clear hkk hr1 hb0 h0 ho0
 go_in
 have kc0_1:=S0.kid HO hq1
 go_wp2_with fail
 refine (S0.node HR1 HS1 (by omega)).mono ?_
 rintro e wl1 ⟨rfl,b1,S1,jj⟩
 replace JM0:=Jmp.upH JM0 jj
 go_wp2_with fail
 refine (S1.here JM0 HS2 (by omega)).mono ?_
 rintro e wl2 ⟨rfl,b2,S2,jj⟩
 go_wp2_with fail
 go_end0
 exact ⟨rfl,_,S2.k,S2.u,S2.f⟩
theorem Te (hgr:Do rec) (j0:Nat) (j1:Nat) (j2:Nat) (hkk:Am ts i=[j0,j1,j2]) (hr1:Bs 51 w0 B kb tv iv xv (rec j1) j1) (hr2:Bs 51 w0 B kb tv iv xv (rec j2) j2)  : Oe w0 B kb tv iv xv ts (fun p s=>Bq (AI 30 [] (rec j1 s)).at_ (rec j2 (Bq p (AI 30 [] (rec j1 s))))) i:=by
 intro s b wl0 A n c base q0 p JM0 hb0 h0 ho0 hm
 have S0:StR w0 wl0 B kb tv iv xv s b s b wl0:=⟨hb0,h0,JUp.refl s b,Frm.refl _ _ _⟩
 have HO:=Lh ho0
 obtain⟨s1,HS1⟩:=exH (rec j1 s)
 have m1:s.ms≤s1.ms:=by rw [HS1.out];exact hgr _ _
 obtain⟨s2,HS2⟩:=exH (AI 30 [] s1)
 have m2:s2.ms=s1.ms + 3:=by rw [HS2.out,Bk];try rfl
 obtain⟨s3,HS3⟩:=exH (Bq p s2)
 have m3:s3.ms=s2.ms + 1:=by rw [HS3.out,Bj];try rfl
 obtain⟨s4,HS4⟩:=exH (rec j2 s3)
 have m4:s3.ms≤s4.ms:=by rw [HS4.out];exact hgr _ _
 obtain⟨s5,HS5⟩:=exH (Bq s2.at_ s4)
 have m5:s5.ms=s4.ms + 1:=by rw [HS5.out,Bj];try rfl
 have hF:(fun p s=>Bq (AI 30 [] (rec j1 s)).at_ (rec j2 (Bq p (AI 30 [] (rec j1 s))))) p s=s5:=by
  rw [HS5.out,HS4.out,HS3.out,HS2.out,HS1.out]
 rw [hF] at hm ⊢
 clear hF
 obtain rfl:3=n:=by have:=ho0.1;rw [hkk] at this;simpa [AQ] using this
 obtain⟨_,_,g,rfl,hgw⟩:=By (k:=0) (j:=j0) ho0 (by rw [hkk];rfl)
 have hq0:(Am ts i)[0]? = some j0:=by rw [hkk];rfl
 have hq1:(Am ts i)[1]? = some j1:=by rw [hkk];rfl
 have hq2:(Am ts i)[2]? = some j2:=by rw [hkk];rfl
 obtain⟨HH,HKK,HR1,HR2⟩:=Hd4 H0 hkk hr1 hr2
 clear hkk hr1 hr2 hb0 h0 ho0
 go_in
 have kc0_1:=S0.kid HO hq1
 go_wp2_with fail
 refine (S0.node HR1 HS1 (by omega)).mono ?_
 rintro e wl1 ⟨rfl,b1,S1,jj⟩
 replace JM0:=Jmp.upH JM0 jj
 go_wp2_with fail
 refine (S1.jump 30 HS2 (by omega)).mono ?_
 rintro e wl2 ⟨q2,b2,rfl,S2,jj,JM2⟩
 replace JM0:=Jmp.upH JM0 jj
 go_wp2_with fail
 refine (S2.here JM0 HS3 (by omega)).mono ?_
 rintro e wl3 ⟨rfl,b3,S3,jj⟩
 replace JM2:=Jmp.upH JM2 jj
 have kc3_2:=S3.kid HO hq2
 go_wp2_with fail
 refine (S3.node HR2 HS4 (by omega)).mono ?_
 rintro e wl4 ⟨rfl,b4,S4,jj⟩
 replace JM2:=Jmp.upH JM2 jj
 go_wp2_with fail
 refine (S4.here JM2 HS5 (by omega)).mono ?_
 rintro e wl5 ⟨rfl,b5,S5,jj⟩
 go_wp2_with fail
 go_end0
 exact ⟨rfl,_,S5.k,S5.u,S5.f⟩
theorem QV (hgr:Do rec) (j0:Nat) (hkk:Am ts i=[j0]) (hr0:Bs 51 w0 B kb tv iv xv (rec j0) j0) (hop:x.op=14):D6 119 w0 B kb tv iv xv ts (fun s=>D9 pi rec x (Am ts i) s) i x:=by
 intro s b w A n c base hb0 h0 ho0 hm
 obtain⟨wl0,HW,S0,HO,F0,KN⟩:=Eo x hb0 h0 ho0
 obtain⟨s1,HS1⟩:=exH (Dn (pi 0) s)
 have m1:s1.ms=s.ms + 3:=by rw [HS1.out,CC];try rfl
 obtain⟨s2,HS2⟩:=exH (opE 5 [u8 x.m] s1)
 have m2:s2.ms=s1.ms + 2:=by rw [HS2.out,AL];try rfl
 obtain⟨s3,HS3⟩:=exH (opE 4 [u8 x.m] s2)
 have m3:s3.ms=s2.ms + 2:=by rw [HS3.out,AL];try rfl
 obtain⟨s4,HS4⟩:=exH (Dn (pi x.n) s3)
 have m4:s4.ms=s3.ms + 3:=by rw [HS4.out,CC];try rfl
 obtain⟨s5,HS5⟩:=exH (opE 19 [] s4)
 have m5:s5.ms=s4.ms + 1:=by rw [HS5.out,AL];try rfl
 obtain⟨s6,HS6⟩:=exH (AI 31 [] s5)
 have m6:s6.ms=s5.ms + 3:=by rw [HS6.out,Bk];try rfl
 obtain⟨s7,HS7⟩:=exH (rec j0 s6)
 have m7:s6.ms≤s7.ms:=by rw [HS7.out];exact hgr _ _
 obtain⟨s8,HS8⟩:=exH (opE 4 [u8 x.m] s7)
 have m8:s8.ms=s7.ms + 2:=by rw [HS8.out,AL];try rfl
 obtain⟨s9,HS9⟩:=exH (Dn (pi 1) s8)
 have m9:s9.ms=s8.ms + 3:=by rw [HS9.out,CC];try rfl
 obtain⟨s10,HS10⟩:=exH (opE 10 [] s9)
 have m10:s10.ms=s9.ms + 1:=by rw [HS10.out,AL];try rfl
 obtain⟨s11,HS11⟩:=exH (opE 5 [u8 x.m] s10)
 have m11:s11.ms=s10.ms + 2:=by rw [HS11.out,AL];try rfl
 obtain⟨s12,HS12⟩:=exH (Ec 30 s2.b.length s11)
 have m12:s12.ms=s11.ms + 3:=by rw [HS12.out,DE];try rfl
 obtain⟨s13,HS13⟩:=exH (Bq s6.at_ s12)
 have m13:s13.ms=s12.ms + 1:=by rw [HS13.out,Bj];try rfl
 have hF:(fun s=>D9 pi rec x (Am ts i) s) s=s13:=by
  rw [HS13.out,HS12.out,HS11.out,HS10.out,HS9.out,HS8.out,HS7.out,HS6.out,HS5.out,HS4.out,HS3.out,HS2.out,HS1.out]
  simp only [D9,D5,Ee,GR,hkk,Bw,List.foldl_cons,List.foldl_nil,MS.at_]
 rw [hF] at hm ⊢
 clear hF
 rw [hop] at HW KN
 obtain rfl:1=n:=by have:=ho0.1;rw [hkk] at this;simpa [AQ] using this
 obtain⟨_,_,g,rfl,hgw⟩:=By (k:=0) (j:=j0) ho0 (by rw [hkk];rfl)
 have hq0:(Am ts i)[0]? = some j0:=by rw [hkk];rfl
 obtain⟨HO0,HH,HKK,HR0⟩:=Hd4 ho0 H0 hkk hr0
 clear hkk hr0 hb0 h0 ho0
 go_in
 have p0_0:=S0.cell 0 KN
 have p0_2:=S0.cell 2 KN
 rw [HW.out] at p0_0
 rw [HW.out] at p0_2
 go_wp2_with fail
 try rw [← HW.out]
 refine (S0.push HH.out 0 HS1 (by omega)).mono ?_
 rintro e wl1 ⟨rfl,b1,S1,jj⟩
 have p1_3:=S1.cell 3 KN
 go_wp2_with fail
 refine (S1.op1 5 x.m HS2 (by omega)).mono ?_
 rintro e wl2 ⟨rfl,b2,S2,jj⟩
 have p2_3:=S2.cell 3 KN
 obtain⟨At,ct,top,dt,htop,HTOP⟩:=S2.top (by omega)
 go_wp2_with fail
 refine (S2.op1 4 x.m HS3 (by omega)).mono ?_
 rintro e wl3 ⟨rfl,b3,S3,jj⟩
 replace HTOP:=JUp.topH HTOP jj
 have p3_2:=S3.cell 2 KN
 go_wp2_with fail
 refine (S3.push HH.out x.n HS4 (by omega)).mono ?_
 rintro e wl4 ⟨rfl,b4,S4,jj⟩
 replace HTOP:=JUp.topH HTOP jj
 go_wp2_with fail
 refine (S4.op0 19 HS5 (by omega)).mono ?_
 rintro e wl5 ⟨rfl,b5,S5,jj⟩
 replace HTOP:=JUp.topH HTOP jj
 go_wp2_with fail
 refine (S5.jump 31 HS6 (by omega)).mono ?_
 rintro e wl6 ⟨q6,b6,rfl,S6,jj,JM6⟩
 replace HTOP:=JUp.topH HTOP jj
 have kc6_0:=S6.kid HO hq0
 go_wp2_with fail
 refine (S6.node HR0 HS7 (by omega)).mono ?_
 rintro e wl7 ⟨rfl,b7,S7,jj⟩
 replace JM6:=Jmp.upH JM6 jj
 replace HTOP:=JUp.topH HTOP jj
 have p7_3:=S7.cell 3 KN
 go_wp2_with fail
 refine (S7.op1 4 x.m HS8 (by omega)).mono ?_
 rintro e wl8 ⟨rfl,b8,S8,jj⟩
 replace JM6:=Jmp.upH JM6 jj
 replace HTOP:=JUp.topH HTOP jj
 go_wp2_with fail
 refine (S8.push HH.out 1 HS9 (by omega)).mono ?_
 rintro e wl9 ⟨rfl,b9,S9,jj⟩
 replace JM6:=Jmp.upH JM6 jj
 replace HTOP:=JUp.topH HTOP jj
 go_wp2_with fail
 refine (S9.op0 10 HS10 (by omega)).mono ?_
 rintro e wl10 ⟨rfl,b10,S10,jj⟩
 replace JM6:=Jmp.upH JM6 jj
 replace HTOP:=JUp.topH HTOP jj
 have p10_3:=S10.cell 3 KN
 go_wp2_with fail
 refine (S10.op1 5 x.m HS11 (by omega)).mono ?_
 rintro e wl11 ⟨rfl,b11,S11,jj⟩
 replace JM6:=Jmp.upH JM6 jj
 replace HTOP:=JUp.topH HTOP jj
 go_wp2_with fail
 refine (S11.back HTOP htop HS12 (by omega)).mono ?_
 rintro e wl12 ⟨rfl,b12,S12,jj⟩
 replace JM6:=Jmp.upH JM6 jj
 go_wp2_with fail
 refine (S12.here JM6 HS13 (by omega)).mono ?_
 rintro e wl13 ⟨rfl,b13,S13,jj⟩
 go_wp2_with fail
 go_end0
 exact ⟨rfl,_,S13.k,S13.u,F0.trans S13.f⟩
theorem Uu (hgr:Do rec) (j0:Nat) (j1:Nat) (hkk:Am ts i=[j0,j1]) (hr0:Bs 49 w0 B kb tv iv xv (rec j0) j0) (hr1:Bs 51 w0 B kb tv iv xv (rec j1) j1) (hop:x.op=15):D6 119 w0 B kb tv iv xv ts (fun s=>Fq pi rec x (Am ts i) s) i x:=by
 intro s b w A n c base hb0 h0 ho0 hm
 obtain⟨wl0,HW,S0,HO,F0,KN⟩:=Eo x hb0 h0 ho0
 obtain⟨s1,HS1⟩:=exH (C9 (pi 1) s)
 have m1:s1.ms=s.ms + 0:=by rw [HS1.out,EC];try rfl
 obtain⟨s2,HS2⟩:=exH (rec j0 s1)
 have m2:s1.ms≤s2.ms:=by rw [HS2.out];exact hgr _ _
 obtain⟨s3,HS3⟩:=exH (opE 5 [u8 x.m] s2)
 have m3:s3.ms=s2.ms + 2:=by rw [HS3.out,AL];try rfl
 obtain⟨s4,HS4⟩:=exH (Dn (pi 0) s3)
 have m4:s4.ms=s3.ms + 3:=by rw [HS4.out,CC];try rfl
 obtain⟨s5,HS5⟩:=exH (opE 5 [u8 (u8 x.m + 1)] s4)
 have m5:s5.ms=s4.ms + 2:=by rw [HS5.out,AL];try rfl
 obtain⟨s6,HS6⟩:=exH (opE 32 [u8 x.m,u8 (u8 x.m + 1)] s5)
 have m6:s6.ms=s5.ms + 3:=by rw [HS6.out,AL];try rfl
 obtain⟨s7,HS7⟩:=exH (E5 [0,0] s6)
 have m7:s7.ms=s6.ms + 2:=by rw [HS7.out,QA];try rfl
 obtain⟨s8,HS8⟩:=exH (opE 5 [u8 x.n] s7)
 have m8:s8.ms=s7.ms + 2:=by rw [HS8.out,AL];try rfl
 obtain⟨s9,HS9⟩:=exH (rec j1 s8)
 have m9:s8.ms≤s9.ms:=by rw [HS9.out];exact hgr _ _
 obtain⟨s10,HS10⟩:=exH (Ec 30 s5.b.length s9)
 have m10:s10.ms=s9.ms + 3:=by rw [HS10.out,DE];try rfl
 obtain⟨s11,HS11⟩:=exH (Bq s7.at_ s10)
 have m11:s11.ms=s10.ms + 1:=by rw [HS11.out,Bj];try rfl
 have hF:(fun s=>Fq pi rec x (Am ts i) s) s=s11:=by
  rw [HS11.out,HS10.out,HS9.out,HS8.out,HS7.out,HS6.out,HS5.out,HS4.out,HS3.out,HS2.out,HS1.out]
  simp only [Fq,Gx,hkk,List.getD_cons_zero,List.getD_cons_succ,MS.at_,AI,opE,E5,List.append_assoc,List.cons_append,List.nil_append]
 rw [hF] at hm ⊢
 clear hF
 rw [hop] at HW KN
 obtain rfl:2=n:=by have:=ho0.1;rw [hkk] at this;simpa [AQ] using this
 obtain⟨_,_,g,rfl,hgw⟩:=By (k:=0) (j:=j0) ho0 (by rw [hkk];rfl)
 have hq0:(Am ts i)[0]? = some j0:=by rw [hkk];rfl
 have hq1:(Am ts i)[1]? = some j1:=by rw [hkk];rfl
 obtain⟨HO0,HH,HKK,HR0,HR1⟩:=Hd5 ho0 H0 hkk hr0 hr1
 clear hkk hr0 hr1 hb0 h0 ho0
 go_in
 have p0_0:=S0.cell 0 KN
 have p0_2:=S0.cell 2 KN
 rw [HW.out] at p0_0
 rw [HW.out] at p0_2
 go_wp2_with fail
 try rw [← HW.out]
 refine (S0.num HH.out 1 HS1).mono ?_
 rintro e wl1 ⟨rfl,S1⟩
 have kc1_0:=S1.kid HO hq0
 go_wp2_with fail
 refine (S1.node HR0 HS2 (by omega)).mono ?_
 rintro e wl2 ⟨rfl,b2,S2,jj⟩
 have p2_3:=S2.cell 3 KN
 go_wp2_with fail
 refine (S2.op1 5 x.m HS3 (by omega)).mono ?_
 rintro e wl3 ⟨rfl,b3,S3,jj⟩
 go_wp2_with fail
 refine (S3.push HH.out 0 HS4 (by omega)).mono ?_
 rintro e wl4 ⟨rfl,b4,S4,jj⟩
 have p4_3:=S4.cell 3 KN
 go_wp2_with fail
 refine (S4.op1n 5 x.m HS5 (by omega)).mono ?_
 rintro e wl5 ⟨rfl,b5,S5,jj⟩
 have p5_3:=S5.cell 3 KN
 obtain⟨At,ct,top,dt,htop,HTOP⟩:=S5.top (by omega)
 go_wp2_with fail
 refine (S5.op2n 32 x.m HS6 (by omega)).mono ?_
 rintro e wl6 ⟨rfl,b6,S6,jj⟩
 replace HTOP:=JUp.topH HTOP jj
 go_wp2_with fail
 refine (S6.two0 HS7 (by omega)).mono ?_
 rintro e wl7 ⟨rfl,q7,b7,hbl,S7,jj,JM7⟩
 replace HTOP:=JUp.topH HTOP jj
 have p7_2:=S7.cell 2 KN
 obtain⟨Aq,cq,dq,hql⟩:=S7.len hbl (by omega)
 clear hbl
 go_wp2_with fail
 refine (S7.op1 5 x.n HS8 (by omega)).mono ?_
 rintro e wl8 ⟨rfl,b8,S8,jj⟩
 replace JM7:=Jmp.upH JM7 jj
 replace HTOP:=JUp.topH HTOP jj
 have kc8_1:=S8.kid HO hq1
 go_wp2_with fail
 refine (S8.node HR1 HS9 (by omega)).mono ?_
 rintro e wl9 ⟨rfl,b9,S9,jj⟩
 replace JM7:=Jmp.upH JM7 jj
 replace HTOP:=JUp.topH HTOP jj
 go_wp2_with fail
 refine (S9.back HTOP htop HS10 (by omega)).mono ?_
 rintro e wl10 ⟨rfl,b10,S10,jj⟩
 replace JM7:=Jmp.upH JM7 jj
 go_wp2_with fail
 refine (S10.here JM7 HS11 (by omega)).mono ?_
 rintro e wl11 ⟨rfl,b11,S11,jj⟩
 go_wp2_with fail
 go_end0
 exact ⟨rfl,_,S11.k,S11.u,F0.trans S11.f⟩
end
end Go.Proofs.YtmpcbaflcogmmaaGreatDoor
