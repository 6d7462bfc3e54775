/- Stmt9 Stmt11 -/
import Derived.Test.YtmpcbaflcogmmaaGreatDoorStmt12
namespace Go.Proofs.YtmpcbaflcogmmaaGreatDoor
open Go.RowKit
set_option linter.all false
set_option maxHeartbeats 1000000
set_option maxRecDepth 100000
section
variable (B kb tb toff cap:Nat) (ts:List Au) (slots:List Int) (seen:Int→Option Value) (htb:tb < B) (hl:ts.length≤100000) (htxt:∀ y∈ts,y.text.size≤1099511627776) (i:Nat) (x:Au) (hi:i < ts.length) (hbe:0≤Ap ts i) (hx:ts[i]? = some x) (w:World) (hg:Ci ⟨slots,seen,false⟩) (hs:slots.length≤2 + 3 * i) (h:LK w B kb (.slice (some ⟨tb,toff,none⟩) ts.length cap) ⟨slots,seen,false⟩) (hn:As w tb toff ts) (hm:AP [2,3] (Am ts i).length=true) (hop:x.op=16) (hli:AO x 0 x.n 0=true) (j:Nat) (r:List Nat) (hj:Am ts i=j :: r) (hn2:2≤(Am ts i).length) (recS recB:Nat→LSt→LSt) (R:Sk B kb tb toff cap ts recS recB i) (b:Nat) (hb:(Am ts i)[1]? = some b)
include B kb tb toff cap ts slots seen htb hl htxt i x hi hbe hx w hg hs h hn hm hop hli j r hj hn2 recS recB R b hb
theorem Nr (h3:(((Am ts i).length:Int) == 3)=false) :
  Calls Tryz.prog 143 #[.pointer (some ⟨kb,0,none⟩),.int .i64 i] w fun e w'=>e=.returned (.tuple #[])∧LK w' B kb (.slice (some ⟨tb,toff,none⟩) ts.length cap) (forget x.n (AS ts recS recB 0 [b] (AE x.n false [3] (AD ts j 6 ⟨slots,seen,false⟩))))∧Frm B [144,118] w w':=by
 obtain⟨n,hnk⟩:∃ n,(Am ts i).length=n:=⟨_,rfl⟩
 have hnl:n≤100000:=by rw [← hnk];exact AM hbe hl
 obtain⟨c0,c1,c2,c3,c4,c5,c6⟩:=hn.all hx
 obtain⟨k0,k3⟩:=h.cells
 simp only at k3
 obtain⟨hBk,hks⟩:=h.size
 have htw:tb < w.heap.size:=by omega
 obtain⟨HC0,HG,HX,HK,HS,HBE,HT⟩:=Hd7 (AY B kb tb toff cap ts ⟨slots,seen,false⟩ i n x w hl h hn htb hi hnk) hg hx hnk hs hbe htxt
 clear h hn hg hx hnk hs hbe htxt
 have hop2:=hop
 have q11:(x.op == 11)=false:=Ao (by omega)
 have q12:(x.op == 12)=false:=Ao (by omega)
 have q13:(x.op == 13)=false:=Ao (by omega)
 have q14:(x.op == 14)=false:=Ao (by omega)
 have q15:(x.op == 15)=false:=Ao (by omega)
 have q16:(x.op == 16)=true:=AB hop
 have HOP:=Lh hop2
 clear hop hop2
 rw [HK.out] at hm
 have HM:=Lh hm
 clear hm
 have HLI:=Lh hli
 clear hli
 rw [HK.out] at hn2
 have hjj:=AU (ts:=ts) (i:=i) (j:=j) (by rw [hj];simp)
 have HJ0:Hid ((Am ts i)[0]? = some j):=by rw [hj];rfl
 have HJL:=Lh hjj.2.1
 have HN0:Hid (0 < n):=Lh (by rw [← HK.out,hj];simp)
 have HJ:=Lh hj
 clear hj hjj
 have HR:=Lh R
 have HJR:Hid (r.length + 1=n):=Lh (by rw [← HK.out,HJ.out];simp)
 clear R
 have HB:=Lh hb
 clear hb
 rw [HK.out] at h3
 go_in
 go_wp2_with fail
 refine HC0.out.mono ?_
 rintro e w1 ⟨A,c,rfl,C0⟩
 obtain⟨e1,d0,d2,d3,e3⟩:=C0.cells
 have CC0:=Lh C0
 have hz0:=C0.size
 clear C0
 go_wp2_with fail
 obtain⟨gk,rfl⟩:=CC0.out.kid0 HN0.out
 have g0:=CC0.out.kidCell HK.out 0 j HJ0.out
 have gl0:=CC0.out.kidLt
 have gcap:=CC0.out.kidCap
 refine (B9 ((CC0.out).alloc (.cells #[.int .i64 2,.int .i64 3] 3)) [2,3] (w1.heap.size + 1) 2 2 rfl (by omega) (Bf w1 (.cells #[.slice (some ⟨gk,0,none⟩) n c] 128) 3 #[.int .i64 2,.int .i64 3]) HM.out).mono ?_
 rintro e w2 ⟨rfl,h2,f2⟩
 have C2:=(((CC0.out).alloc _)).step (by simp) h2 f2
 clear e1 d0 d2 d3 e3
 obtain⟨e1,d0,d2,d3,e3⟩:=C2.cells
 have CC2:=Lh C2
 clear h2 f2 C2
 clear g0
 have g0:=CC2.out.kidCell HK.out 0 j HJ0.out
 go_wp2_with fail
 refine (Cl B kb tb toff cap ts slots seen i x 0 x.n 0 _ HLI.out (CC2.out).lk HX.out (CC2.out).nodes hl).mono ?_
 rintro e w3 ⟨rfl,h3,f3⟩
 have C3:=(CC2.out).step (by simp) h3 f3
 clear e1 d0 d2 d3 e3
 obtain⟨e1,d0,d2,d3,e3⟩:=C3.cells
 have CC3:=Lh C3
 clear h3 f3 C3
 clear g0
 have g0:=CC3.out.kidCell HK.out 0 j HJ0.out
 go_wp2_with fail
 refine A8 (by kernel_rfl) (by kernel_rfl) ?_
 go_wp2_with fail
 refine (DH B kb tb toff cap ts hl htb HT.out j (6) ⟨slots,seen,false⟩ _ HJL.out HG.out (CC3.out.drew).lk (CC3.out.drew).nodes).mono ?_
 rintro e w4 ⟨rfl,h4,f4⟩
 have C4:=(CC3.out.drew).step (by simp) h4 f4
 clear e1 d0 d2 d3 e3
 obtain⟨e1,d0,d2,d3,e3⟩:=C4.cells
 have CC4:=Lh C4
 clear h4 f4 C4
 clear g0
 have g0:=CC4.out.kidCell HK.out 0 j HJ0.out
 go_wp2_with fail
 refine AX.normal ?_
 go_wp2_with fail
 refine (DT B kb x.n false [3] w4.heap.size 1 (AD ts j 6 ⟨slots,seen,false⟩) _ _ (by have:=HS.out;show slots.length≤_;omega) (by simp) ((CC4.out).alloc _).lk (Blk.new w4 118 #[.int .i8 3]) (by have:=(CC4.out).size;simp;omega)).mono ?_
 rintro e w5 ⟨rfl,h5,f5⟩
 have C5:=(CC4.out.alloc _).step (by simp) h5 f5
 clear e1 d0 d2 d3 e3
 obtain⟨e1,d0,d2,d3,e3⟩:=C5.cells
 have CC5:=Lh C5
 clear h5 f5 C5
 clear g0
 have g0:=CC5.out.kidCell HK.out 0 j HJ0.out
 go_wp2_with fail
 refine A8 (by kernel_rfl) (by kernel_rfl) ?_
 go_wp2_with fail
 refine (EO (CC5.out.drew) HR.out HBE.out HK.out hnl 1 1 _ ([b]) (K9 HB.out) rfl (by omega) ((HG.out.value ts j 6).declare x.n false [3] (by simp)) (by have:=HS.out;have:=B7 x.n false [3] (AD ts j 6 ⟨slots,seen,false⟩);have:(AD ts j 6 ⟨slots,seen,false⟩).slots.length=slots.length:=rfl;simp only [List.length_cons,List.length_nil] at *;omega)).mono ?_
 rintro e w6 ⟨rfl,h6,f6⟩
 have C6:=(CC5.out.drew).step (by simp) h6 f6
 clear e1 d0 d2 d3 e3
 obtain⟨e1,d0,d2,d3,e3⟩:=C6.cells
 have CC6:=Lh C6
 clear h6 f6 C6
 clear g0
 have g0:=CC6.out.kidCell HK.out 0 j HJ0.out
 go_wp2_with fail
 refine AX.normal ?_
 go_wp2_with fail
 obtain⟨sv6,mb6,hmb6,_,kq6,hm6,_,_⟩:=CC6.out.lk.parts
 obtain⟨w7,hrun6,hn6,hg6⟩:=(hm6.drew CB).delete CB Tryz.underlying142 (x.n) 0
 have hr6:(Builtin.delete_ #[142,3] 0 #[.map (some mb6),.int .i64 (x.n)]).run Tryz.prog w6.drew=.ok (.tuple #[]) w7:=hrun6
 obtain⟨hl6,hf6⟩:=CC6.out.drew.lk.forgot (hm6.drew CB) hmb6 kq6 hn6 hg6 [144,118]
 have CC7:=Lh (CC6.out.drew.step (by simp) hl6 hf6)
 clear hrun6 hn6 hg6 hl6 hf6 hm6
 refine A8 (by kernel_rfl) (by kernel_rfl) ?_
 go_wp2_with fail
 refine AX.normal ?_
 clear e1 d0 d2 d3 e3 hr6 kq6
 obtain⟨e1,d0,d2,d3,e3⟩:=CC7.out.cells
 clear g0
 have g0:=CC7.out.kidCell HK.out 0 j HJ0.out
 go_wp2_with fail
 go_end0
 exact ⟨rfl,CC7.out.lk,CC7.out.fr⟩
theorem Kg (h3:(((Am ts i).length:Int) == 3)=true) (hbad:(forget x.n (AS ts recS recB 0 [b] (AE x.n false [3] (AD ts j 6 ⟨slots,seen,false⟩)))).bad=true) :
  Calls Tryz.prog 143 #[.pointer (some ⟨kb,0,none⟩),.int .i64 i] w fun e w'=>e=.returned (.tuple #[])∧LK w' B kb (.slice (some ⟨tb,toff,none⟩) ts.length cap) (forget x.n (AS ts recS recB 0 [b] (AE x.n false [3] (AD ts j 6 ⟨slots,seen,false⟩))))∧Frm B [144,118] w w':=by
 obtain⟨n,hnk⟩:∃ n,(Am ts i).length=n:=⟨_,rfl⟩
 have hnl:n≤100000:=by rw [← hnk];exact AM hbe hl
 obtain⟨c0,c1,c2,c3,c4,c5,c6⟩:=hn.all hx
 obtain⟨k0,k3⟩:=h.cells
 simp only at k3
 obtain⟨hBk,hks⟩:=h.size
 have htw:tb < w.heap.size:=by omega
 obtain⟨HC0,HG,HX,HK,HS,HBE,HT⟩:=Hd7 (AY B kb tb toff cap ts ⟨slots,seen,false⟩ i n x w hl h hn htb hi hnk) hg hx hnk hs hbe htxt
 clear h hn hg hx hnk hs hbe htxt
 have hop2:=hop
 have q11:(x.op == 11)=false:=Ao (by omega)
 have q12:(x.op == 12)=false:=Ao (by omega)
 have q13:(x.op == 13)=false:=Ao (by omega)
 have q14:(x.op == 14)=false:=Ao (by omega)
 have q15:(x.op == 15)=false:=Ao (by omega)
 have q16:(x.op == 16)=true:=AB hop
 have HOP:=Lh hop2
 clear hop hop2
 rw [HK.out] at hm
 have HM:=Lh hm
 clear hm
 have HLI:=Lh hli
 clear hli
 rw [HK.out] at hn2
 have hjj:=AU (ts:=ts) (i:=i) (j:=j) (by rw [hj];simp)
 have HJ0:Hid ((Am ts i)[0]? = some j):=by rw [hj];rfl
 have HJL:=Lh hjj.2.1
 have HN0:Hid (0 < n):=Lh (by rw [← HK.out,hj];simp)
 have HJ:=Lh hj
 clear hj hjj
 have HR:=Lh R
 have HJR:Hid (r.length + 1=n):=Lh (by rw [← HK.out,HJ.out];simp)
 clear R
 have HB:=Lh hb
 clear hb
 rw [HK.out] at h3
 have HBAD:=Lh hbad
 clear hbad
 go_in
 go_wp2_with fail
 refine HC0.out.mono ?_
 rintro e w1 ⟨A,c,rfl,C0⟩
 obtain⟨e1,d0,d2,d3,e3⟩:=C0.cells
 have CC0:=Lh C0
 have hz0:=C0.size
 clear C0
 go_wp2_with fail
 obtain⟨gk,rfl⟩:=CC0.out.kid0 HN0.out
 have g0:=CC0.out.kidCell HK.out 0 j HJ0.out
 have gl0:=CC0.out.kidLt
 have gcap:=CC0.out.kidCap
 refine (B9 ((CC0.out).alloc (.cells #[.int .i64 2,.int .i64 3] 3)) [2,3] (w1.heap.size + 1) 2 2 rfl (by omega) (Bf w1 (.cells #[.slice (some ⟨gk,0,none⟩) n c] 128) 3 #[.int .i64 2,.int .i64 3]) HM.out).mono ?_
 rintro e w2 ⟨rfl,h2,f2⟩
 have C2:=(((CC0.out).alloc _)).step (by simp) h2 f2
 clear e1 d0 d2 d3 e3
 obtain⟨e1,d0,d2,d3,e3⟩:=C2.cells
 have CC2:=Lh C2
 clear h2 f2 C2
 clear g0
 have g0:=CC2.out.kidCell HK.out 0 j HJ0.out
 go_wp2_with fail
 refine (Cl B kb tb toff cap ts slots seen i x 0 x.n 0 _ HLI.out (CC2.out).lk HX.out (CC2.out).nodes hl).mono ?_
 rintro e w3 ⟨rfl,h3,f3⟩
 have C3:=(CC2.out).step (by simp) h3 f3
 clear e1 d0 d2 d3 e3
 obtain⟨e1,d0,d2,d3,e3⟩:=C3.cells
 have CC3:=Lh C3
 clear h3 f3 C3
 clear g0
 have g0:=CC3.out.kidCell HK.out 0 j HJ0.out
 go_wp2_with fail
 refine A8 (by kernel_rfl) (by kernel_rfl) ?_
 go_wp2_with fail
 refine (DH B kb tb toff cap ts hl htb HT.out j (6) ⟨slots,seen,false⟩ _ HJL.out HG.out (CC3.out.drew).lk (CC3.out.drew).nodes).mono ?_
 rintro e w4 ⟨rfl,h4,f4⟩
 have C4:=(CC3.out.drew).step (by simp) h4 f4
 clear e1 d0 d2 d3 e3
 obtain⟨e1,d0,d2,d3,e3⟩:=C4.cells
 have CC4:=Lh C4
 clear h4 f4 C4
 clear g0
 have g0:=CC4.out.kidCell HK.out 0 j HJ0.out
 go_wp2_with fail
 refine AX.normal ?_
 go_wp2_with fail
 refine (DT B kb x.n false [3] w4.heap.size 1 (AD ts j 6 ⟨slots,seen,false⟩) _ _ (by have:=HS.out;show slots.length≤_;omega) (by simp) ((CC4.out).alloc _).lk (Blk.new w4 118 #[.int .i8 3]) (by have:=(CC4.out).size;simp;omega)).mono ?_
 rintro e w5 ⟨rfl,h5,f5⟩
 have C5:=(CC4.out.alloc _).step (by simp) h5 f5
 clear e1 d0 d2 d3 e3
 obtain⟨e1,d0,d2,d3,e3⟩:=C5.cells
 have CC5:=Lh C5
 clear h5 f5 C5
 clear g0
 have g0:=CC5.out.kidCell HK.out 0 j HJ0.out
 go_wp2_with fail
 refine A8 (by kernel_rfl) (by kernel_rfl) ?_
 go_wp2_with fail
 refine (EO (CC5.out.drew) HR.out HBE.out HK.out hnl 1 1 _ ([b]) (K9 HB.out) rfl (by omega) ((HG.out.value ts j 6).declare x.n false [3] (by simp)) (by have:=HS.out;have:=B7 x.n false [3] (AD ts j 6 ⟨slots,seen,false⟩);have:(AD ts j 6 ⟨slots,seen,false⟩).slots.length=slots.length:=rfl;simp only [List.length_cons,List.length_nil] at *;omega)).mono ?_
 rintro e w6 ⟨rfl,h6,f6⟩
 have C6:=(CC5.out.drew).step (by simp) h6 f6
 clear e1 d0 d2 d3 e3
 obtain⟨e1,d0,d2,d3,e3⟩:=C6.cells
 have CC6:=Lh C6
 clear h6 f6 C6
 clear g0
 have g0:=CC6.out.kidCell HK.out 0 j HJ0.out
 go_wp2_with fail
 refine AX.normal ?_
 go_wp2_with fail
 obtain⟨sv6,mb6,hmb6,_,kq6,hm6,_,_⟩:=CC6.out.lk.parts
 obtain⟨w7,hrun6,hn6,hg6⟩:=(hm6.drew CB).delete CB Tryz.underlying142 (x.n) 0
 have hr6:(Builtin.delete_ #[142,3] 0 #[.map (some mb6),.int .i64 (x.n)]).run Tryz.prog w6.drew=.ok (.tuple #[]) w7:=hrun6
 obtain⟨hl6,hf6⟩:=CC6.out.drew.lk.forgot (hm6.drew CB) hmb6 kq6 hn6 hg6 [144,118]
 have CC7:=Lh (CC6.out.drew.step (by simp) hl6 hf6)
 clear hrun6 hn6 hg6 hl6 hf6 hm6
 refine A8 (by kernel_rfl) (by kernel_rfl) ?_
 go_wp2_with fail
 refine AX.normal ?_
 clear e1 d0 d2 d3 e3 hr6 kq6
 obtain⟨e1,d0,d2,d3,e3⟩:=CC7.out.cells
 obtain⟨kb0,kb3⟩:=CC7.out.lk.cells
 rw [HBAD.out] at kb3
 go_wp2_with fail
 go_end0
 exact ⟨rfl,CC7.out.lk,CC7.out.fr⟩
theorem Nw (d:Nat) (hd:(Am ts i)[2]? = some d) (h3:(((Am ts i).length:Int) == 3)=true) (hbad:(forget x.n (AS ts recS recB 0 [b] (AE x.n false [3] (AD ts j 6 ⟨slots,seen,false⟩)))).bad=false) (hsd:(forget x.n (AS ts recS recB 0 [b] (AE x.n false [3] (AD ts j 6 ⟨slots,seen,false⟩)))).slots.length≤2 + 3 * d) :
  Calls Tryz.prog 143 #[.pointer (some ⟨kb,0,none⟩),.int .i64 i] w fun e w'=>e=.returned (.tuple #[])∧LK w' B kb (.slice (some ⟨tb,toff,none⟩) ts.length cap) (recB d (forget x.n (AS ts recS recB 0 [b] (AE x.n false [3] (AD ts j 6 ⟨slots,seen,false⟩)))))∧Frm B [144,118] w w':=by
 obtain⟨n,hnk⟩:∃ n,(Am ts i).length=n:=⟨_,rfl⟩
 have hnl:n≤100000:=by rw [← hnk];exact AM hbe hl
 obtain⟨c0,c1,c2,c3,c4,c5,c6⟩:=hn.all hx
 obtain⟨k0,k3⟩:=h.cells
 simp only at k3
 obtain⟨hBk,hks⟩:=h.size
 have htw:tb < w.heap.size:=by omega
 obtain⟨HC0,HG,HX,HK,HS,HBE,HT⟩:=Hd7 (AY B kb tb toff cap ts ⟨slots,seen,false⟩ i n x w hl h hn htb hi hnk) hg hx hnk hs hbe htxt
 clear h hn hg hx hnk hs hbe htxt
 have hop2:=hop
 have q11:(x.op == 11)=false:=Ao (by omega)
 have q12:(x.op == 12)=false:=Ao (by omega)
 have q13:(x.op == 13)=false:=Ao (by omega)
 have q14:(x.op == 14)=false:=Ao (by omega)
 have q15:(x.op == 15)=false:=Ao (by omega)
 have q16:(x.op == 16)=true:=AB hop
 have HOP:=Lh hop2
 clear hop hop2
 rw [HK.out] at hm
 have HM:=Lh hm
 clear hm
 have HLI:=Lh hli
 clear hli
 rw [HK.out] at hn2
 have hjj:=AU (ts:=ts) (i:=i) (j:=j) (by rw [hj];simp)
 have HJ0:Hid ((Am ts i)[0]? = some j):=by rw [hj];rfl
 have HJL:=Lh hjj.2.1
 have HN0:Hid (0 < n):=Lh (by rw [← HK.out,hj];simp)
 have HJ:=Lh hj
 clear hj hjj
 have HR:=Lh R
 have HJR:Hid (r.length + 1=n):=Lh (by rw [← HK.out,HJ.out];simp)
 clear R
 have HB:=Lh hb
 clear hb
 rw [HK.out] at h3
 obtain⟨HBAD,HJ2,HSD⟩:=Hd3 hbad hd hsd
 clear hbad hd hsd
 go_in
 go_wp2_with fail
 refine HC0.out.mono ?_
 rintro e w1 ⟨A,c,rfl,C0⟩
 obtain⟨e1,d0,d2,d3,e3⟩:=C0.cells
 have CC0:=Lh C0
 have hz0:=C0.size
 clear C0
 go_wp2_with fail
 obtain⟨gk,rfl⟩:=CC0.out.kid0 HN0.out
 have g0:=CC0.out.kidCell HK.out 0 j HJ0.out
 have gl0:=CC0.out.kidLt
 have gcap:=CC0.out.kidCap
 refine (B9 ((CC0.out).alloc (.cells #[.int .i64 2,.int .i64 3] 3)) [2,3] (w1.heap.size + 1) 2 2 rfl (by omega) (Bf w1 (.cells #[.slice (some ⟨gk,0,none⟩) n c] 128) 3 #[.int .i64 2,.int .i64 3]) HM.out).mono ?_
 rintro e w2 ⟨rfl,h2,f2⟩
 have C2:=(((CC0.out).alloc _)).step (by simp) h2 f2
 clear e1 d0 d2 d3 e3
 obtain⟨e1,d0,d2,d3,e3⟩:=C2.cells
 have CC2:=Lh C2
 clear h2 f2 C2
 clear g0
 have g0:=CC2.out.kidCell HK.out 0 j HJ0.out
 go_wp2_with fail
 refine (Cl B kb tb toff cap ts slots seen i x 0 x.n 0 _ HLI.out (CC2.out).lk HX.out (CC2.out).nodes hl).mono ?_
 rintro e w3 ⟨rfl,h3,f3⟩
 have C3:=(CC2.out).step (by simp) h3 f3
 clear e1 d0 d2 d3 e3
 obtain⟨e1,d0,d2,d3,e3⟩:=C3.cells
 have CC3:=Lh C3
 clear h3 f3 C3
 clear g0
 have g0:=CC3.out.kidCell HK.out 0 j HJ0.out
 go_wp2_with fail
 refine A8 (by kernel_rfl) (by kernel_rfl) ?_
 go_wp2_with fail
 refine (DH B kb tb toff cap ts hl htb HT.out j (6) ⟨slots,seen,false⟩ _ HJL.out HG.out (CC3.out.drew).lk (CC3.out.drew).nodes).mono ?_
 rintro e w4 ⟨rfl,h4,f4⟩
 have C4:=(CC3.out.drew).step (by simp) h4 f4
 clear e1 d0 d2 d3 e3
 obtain⟨e1,d0,d2,d3,e3⟩:=C4.cells
 have CC4:=Lh C4
 clear h4 f4 C4
 clear g0
 have g0:=CC4.out.kidCell HK.out 0 j HJ0.out
 go_wp2_with fail
 refine AX.normal ?_
 go_wp2_with fail
 refine (DT B kb x.n false [3] w4.heap.size 1 (AD ts j 6 ⟨slots,seen,false⟩) _ _ (by have:=HS.out;show slots.length≤_;omega) (by simp) ((CC4.out).alloc _).lk (Blk.new w4 118 #[.int .i8 3]) (by have:=(CC4.out).size;simp;omega)).mono ?_
 rintro e w5 ⟨rfl,h5,f5⟩
 have C5:=(CC4.out.alloc _).step (by simp) h5 f5
 clear e1 d0 d2 d3 e3
 obtain⟨e1,d0,d2,d3,e3⟩:=C5.cells
 have CC5:=Lh C5
 clear h5 f5 C5
 clear g0
 have g0:=CC5.out.kidCell HK.out 0 j HJ0.out
 go_wp2_with fail
 refine A8 (by kernel_rfl) (by kernel_rfl) ?_
 go_wp2_with fail
 refine (EO (CC5.out.drew) HR.out HBE.out HK.out hnl 1 1 _ ([b]) (K9 HB.out) rfl (by omega) ((HG.out.value ts j 6).declare x.n false [3] (by simp)) (by have:=HS.out;have:=B7 x.n false [3] (AD ts j 6 ⟨slots,seen,false⟩);have:(AD ts j 6 ⟨slots,seen,false⟩).slots.length=slots.length:=rfl;simp only [List.length_cons,List.length_nil] at *;omega)).mono ?_
 rintro e w6 ⟨rfl,h6,f6⟩
 have C6:=(CC5.out.drew).step (by simp) h6 f6
 clear e1 d0 d2 d3 e3
 obtain⟨e1,d0,d2,d3,e3⟩:=C6.cells
 have CC6:=Lh C6
 clear h6 f6 C6
 clear g0
 have g0:=CC6.out.kidCell HK.out 0 j HJ0.out
 go_wp2_with fail
 refine AX.normal ?_
 go_wp2_with fail
 obtain⟨sv6,mb6,hmb6,_,kq6,hm6,_,_⟩:=CC6.out.lk.parts
 obtain⟨w7,hrun6,hn6,hg6⟩:=(hm6.drew CB).delete CB Tryz.underlying142 (x.n) 0
 have hr6:(Builtin.delete_ #[142,3] 0 #[.map (some mb6),.int .i64 (x.n)]).run Tryz.prog w6.drew=.ok (.tuple #[]) w7:=hrun6
 obtain⟨hl6,hf6⟩:=CC6.out.drew.lk.forgot (hm6.drew CB) hmb6 kq6 hn6 hg6 [144,118]
 have CC7:=Lh (CC6.out.drew.step (by simp) hl6 hf6)
 clear hrun6 hn6 hg6 hl6 hf6 hm6
 refine A8 (by kernel_rfl) (by kernel_rfl) ?_
 go_wp2_with fail
 refine AX.normal ?_
 clear e1 d0 d2 d3 e3 hr6 kq6
 obtain⟨e1,d0,d2,d3,e3⟩:=CC7.out.cells
 obtain⟨kb0,kb3⟩:=CC7.out.lk.cells
 rw [HBAD.out] at kb3
 clear g0
 have g0:=CC7.out.kidCell HK.out 2 d HJ2.out
 have h3n:n=3:=by have h3:=eq_of_beq h3;omega
 go_wp2_with fail
 refine A8 (by kernel_rfl) (by kernel_rfl) ?_
 go_wp2_with fail
 refine ((HR.out.at_ d (List.mem_of_getElem? HJ2.out)).2.2 _ _ HBAD.out (((Gg ts recS recB HR.out.gS HR.out.gB _ _ _ ((HG.out.value ts j 6).declare x.n false [3] (by simp)))).forget x.n) HSD.out CC7.out.drew.lk CC7.out.drew.nodes).mono ?_
 rintro e w8 ⟨rfl,h8,f8⟩
 have C8:=(CC7.out.drew).step (by simp) h8 f8
 clear e1 d0 d2 d3 e3
 obtain⟨e1,d0,d2,d3,e3⟩:=C8.cells
 have CC8:=Lh C8
 clear h8 f8 C8
 clear g0
 have g0:=CC8.out.kidCell HK.out 0 j HJ0.out
 go_wp2_with fail
 refine AX.normal ?_
 go_wp2_with fail
 go_end0
 exact ⟨rfl,CC8.out.lk,CC8.out.fr⟩
end
section
variable (B kb tb toff cap:Nat) (ts:List Au) (slots:List Int) (seen:Int→Option Value) (htb:tb < B) (hl:ts.length≤100000) (htxt:∀ y∈ts,y.text.size≤1099511627776) (i:Nat) (x:Au) (hi:i < ts.length) (hbe:0≤Ap ts i) (hx:ts[i]? = some x) (w:World) (hg:Ci ⟨slots,seen,false⟩) (hs:slots.length≤2 + 3 * i) (h:LK w B kb (.slice (some ⟨tb,toff,none⟩) ts.length cap) ⟨slots,seen,false⟩) (hn:As w tb toff ts)
include B kb tb toff cap ts slots seen htb hl htxt i x hi hbe hx w hg hs h hn
theorem Mt (hop:x.op=12) (hm:AP [1] (Am ts i).length=true) (hr:0≤x.n) (hr2:x.n < 1048576) (hl2:(seen x.n).getD (.bool false)=.bool true) (hli:AO x 0 x.n 0=false) :
  Calls Tryz.prog 143 #[.pointer (some ⟨kb,0,none⟩),.int .i64 i] w fun e w'=>e=.returned (.tuple #[])∧LK w' B kb (.slice (some ⟨tb,toff,none⟩) ts.length cap) (⟨slots,seen,true⟩)∧Frm B [144,118] w w':=by
 obtain⟨n,hnk⟩:∃ n,(Am ts i).length=n:=⟨_,rfl⟩
 have hnl:n≤100000:=by rw [← hnk];exact AM hbe hl
 obtain⟨c0,c1,c2,c3,c4,c5,c6⟩:=hn.all hx
 obtain⟨k0,k3⟩:=h.cells
 simp only at k3
 obtain⟨hBk,hks⟩:=h.size
 have htw:tb < w.heap.size:=by omega
 obtain⟨HC0,HG,HX,HK,HS,HBE,HT⟩:=Hd7 (AY B kb tb toff cap ts ⟨slots,seen,false⟩ i n x w hl h hn htb hi hnk) hg hx hnk hs hbe htxt
 clear h hn hg hx hnk hs hbe htxt
 have hop2:=hop
 have q11:(x.op == 11)=false:=Ao (by omega)
 have q12:(x.op == 12)=true:=AB hop
 have HOP:=Lh hop2
 clear hop hop2
 rw [HK.out] at hm
 have HM:=Lh hm
 clear hm
 have HLI:=Lh hli
 clear hli
 have HL2:=Lh hl2
 clear hl2
 go_in
 go_wp2_with fail
 refine HC0.out.mono ?_
 rintro e w1 ⟨A,c,rfl,C0⟩
 obtain⟨e1,d0,d2,d3,e3⟩:=C0.cells
 have CC0:=Lh C0
 have hz0:=C0.size
 clear C0
 go_wp2_with fail
 obtain⟨sv,mb,_,_,m2,m3,_,_⟩:=CC0.out.lk.parts
 have hlk:=Ei (m3.drew CB) x.n false
 simp only [Bool.false_eq_true,if_false,HL2.out] at hlk
 refine A8 (by kernel_rfl) (by kernel_rfl) ?_
 go_wp2_with fail
 refine AX.normal ?_
 go_wp2_with fail
 refine (B9 ((CC0.out).alloc (.cells #[.int .i64 1] 3)).drew [1] (w1.heap.size + 1) 1 1 rfl (by omega) (Bf w1 (.cells #[.slice A n c] 128) 3 #[.int .i64 1]).drew HM.out).mono ?_
 rintro e w2 ⟨rfl,h2,f2⟩
 have C2:=(((CC0.out).alloc _).drew).step (by simp) h2 f2
 clear e1 d0 d2 d3 e3
 obtain⟨e1,d0,d2,d3,e3⟩:=C2.cells
 have CC2:=Lh C2
 clear h2 f2 C2
 go_wp2_with fail
 refine (BQ B kb _ slots seen _ CC2.out.lk).mono ?_
 rintro e w3 ⟨rfl,h3,f3⟩
 have C3:=(CC2.out).step (by simp) h3 f3
 clear e1 d0 d2 d3 e3
 obtain⟨e1,d0,d2,d3,e3⟩:=C3.cells
 have CC3:=Lh C3
 clear h3 f3 C3
 go_wp2_with fail
 refine (DI B kb tb toff cap ts slots seen i x 0 x.n 0 _ false HLI.out (CC3.out).lk HX.out (CC3.out).nodes hl).mono ?_
 rintro e w4 ⟨rfl,h4,f4⟩
 have C4:=(CC3.out).step (by simp) h4 f4
 clear e1 d0 d2 d3 e3
 obtain⟨e1,d0,d2,d3,e3⟩:=C4.cells
 have CC4:=Lh C4
 clear h4 f4 C4
 go_wp2_with fail
 go_end0
 exact ⟨rfl,CC4.out.lk,CC4.out.fr⟩
theorem St (hop:x.op=12) (hm:AP [1] (Am ts i).length=true) (hr:0≤x.n) (hr2:x.n < 1048576) (hl2:(seen x.n).getD (.bool false)=.bool true) (hli:AO x 0 x.n 0=true) (j:Nat) (r:List Nat) (hj:Am ts i=j :: r) (hin:x.n < slots.length) :
  Calls Tryz.prog 143 #[.pointer (some ⟨kb,0,none⟩),.int .i64 i] w fun e w'=>e=.returned (.tuple #[])∧LK w' B kb (.slice (some ⟨tb,toff,none⟩) ts.length cap) (AD ts j (slots.getD x.n.toNat 0) ⟨slots,seen,false⟩)∧Frm B [144,118] w w':=by
 obtain⟨n,hnk⟩:∃ n,(Am ts i).length=n:=⟨_,rfl⟩
 have hnl:n≤100000:=by rw [← hnk];exact AM hbe hl
 obtain⟨c0,c1,c2,c3,c4,c5,c6⟩:=hn.all hx
 obtain⟨k0,k3⟩:=h.cells
 simp only at k3
 obtain⟨hBk,hks⟩:=h.size
 have htw:tb < w.heap.size:=by omega
 obtain⟨HC0,HG,HX,HK,HS,HBE,HT⟩:=Hd7 (AY B kb tb toff cap ts ⟨slots,seen,false⟩ i n x w hl h hn htb hi hnk) hg hx hnk hs hbe htxt
 clear h hn hg hx hnk hs hbe htxt
 obtain⟨K,hK⟩:∃ K,slots.getD x.n.toNat 0=K:=⟨_,rfl⟩
 rw [hK]
 obtain⟨len,hlen⟩:∃ len,slots.length=len:=⟨_,rfl⟩
 rw [hlen] at hin
 obtain⟨HLn,HKK⟩:=Hd2 hlen hK
 clear hlen hK
 have hop2:=hop
 have q11:(x.op == 11)=false:=Ao (by omega)
 have q12:(x.op == 12)=true:=AB hop
 have HOP:=Lh hop2
 clear hop hop2
 rw [HK.out] at hm
 have HM:=Lh hm
 clear hm
 have HLI:=Lh hli
 clear hli
 have HL2:=Lh hl2
 clear hl2
 have hjj:=AU (ts:=ts) (i:=i) (j:=j) (by rw [hj];simp)
 have HJ0:Hid ((Am ts i)[0]? = some j):=by rw [hj];rfl
 have HJL:=Lh hjj.2.1
 have HN0:Hid (0 < n):=Lh (by rw [← HK.out,hj];simp)
 have HJ:=Lh hj
 clear hj hjj
 go_in
 go_wp2_with fail
 refine HC0.out.mono ?_
 rintro e w1 ⟨A,c,rfl,C0⟩
 obtain⟨e1,d0,d2,d3,e3⟩:=C0.cells
 have CC0:=Lh C0
 have hz0:=C0.size
 clear C0
 go_wp2_with fail
 obtain⟨gk,rfl⟩:=CC0.out.kid0 HN0.out
 have g0:=CC0.out.kidCell HK.out 0 j HJ0.out
 have gl0:=CC0.out.kidLt
 have gcap:=CC0.out.kidCap
 obtain⟨sv,mb,_,_,m2,m3,_,_⟩:=CC0.out.lk.parts
 have hlk:=Ei (m3.drew CB) x.n false
 simp only [Bool.false_eq_true,if_false,HL2.out] at hlk
 refine A8 (by kernel_rfl) (by kernel_rfl) ?_
 go_wp2_with fail
 refine AX.normal ?_
 go_wp2_with fail
 refine (B9 ((CC0.out).alloc (.cells #[.int .i64 1] 3)).drew [1] (w1.heap.size + 1) 1 1 rfl (by omega) (Bf w1 (.cells #[.slice (some ⟨gk,0,none⟩) n c] 128) 3 #[.int .i64 1]).drew HM.out).mono ?_
 rintro e w2 ⟨rfl,h2,f2⟩
 have C2:=(((CC0.out).alloc _).drew).step (by simp) h2 f2
 clear e1 d0 d2 d3 e3
 obtain⟨e1,d0,d2,d3,e3⟩:=C2.cells
 have CC2:=Lh C2
 clear h2 f2 C2
 clear g0
 have g0:=CC2.out.kidCell HK.out 0 j HJ0.out
 go_wp2_with fail
 refine (BQ B kb _ slots seen _ CC2.out.lk).mono ?_
 rintro e w3 ⟨rfl,h3,f3⟩
 have C3:=(CC2.out).step (by simp) h3 f3
 clear e1 d0 d2 d3 e3
 obtain⟨e1,d0,d2,d3,e3⟩:=C3.cells
 have CC3:=Lh C3
 clear h3 f3 C3
 clear g0
 have g0:=CC3.out.kidCell HK.out 0 j HJ0.out
 go_wp2_with fail
 refine (Cl B kb tb toff cap ts slots seen i x 0 x.n 0 _ HLI.out (CC3.out).lk HX.out (CC3.out).nodes hl).mono ?_
 rintro e w4 ⟨rfl,h4,f4⟩
 have C4:=(CC3.out).step (by simp) h4 f4
 clear e1 d0 d2 d3 e3
 obtain⟨e1,d0,d2,d3,e3⟩:=C4.cells
 have CC4:=Lh C4
 clear h4 f4 C4
 clear g0
 have g0:=CC4.out.kidCell HK.out 0 j HJ0.out
 obtain⟨sv2,mb2,_,m1,_,_,m4,_⟩:=CC4.out.lk.parts
 simp only [HLn.out] at m4
 obtain⟨g,cg,rfl,hcg⟩:=Ku m4 (by omega)
 have hck:=hcg x.n.toNat (by omega)
 rw [HKK.out] at hck
 clear m4 hcg hlk m2
 go_wp2_with fail
 refine A8 (by kernel_rfl) (by kernel_rfl) ?_
 go_wp2_with fail
 refine (DH B kb tb toff cap ts hl htb HT.out j (K) ⟨slots,seen,false⟩ _ HJL.out HG.out (CC4.out.drew).lk (CC4.out.drew).nodes).mono ?_
 rintro e w5 ⟨rfl,h5,f5⟩
 have C5:=(CC4.out.drew).step (by simp) h5 f5
 clear e1 d0 d2 d3 e3
 obtain⟨e1,d0,d2,d3,e3⟩:=C5.cells
 have CC5:=Lh C5
 clear h5 f5 C5
 clear g0
 have g0:=CC5.out.kidCell HK.out 0 j HJ0.out
 go_wp2_with fail
 refine AX.normal ?_
 go_wp2_with fail
 go_end0
 exact ⟨rfl,CC5.out.lk,CC5.out.fr⟩
theorem RI (hop:x.op≠11∧x.op≠12∧x.op≠13∧x.op≠14∧x.op≠15∧x.op≠16∧x.op≠17∧x.op≠18∧x.op≠19) :
  Calls Tryz.prog 143 #[.pointer (some ⟨kb,0,none⟩),.int .i64 i] w fun e w'=>e=.returned (.tuple #[])∧LK w' B kb (.slice (some ⟨tb,toff,none⟩) ts.length cap) (⟨slots,seen,true⟩)∧Frm B [144,118] w w':=by
 obtain⟨n,hnk⟩:∃ n,(Am ts i).length=n:=⟨_,rfl⟩
 have hnl:n≤100000:=by rw [← hnk];exact AM hbe hl
 obtain⟨c0,c1,c2,c3,c4,c5,c6⟩:=hn.all hx
 obtain⟨k0,k3⟩:=h.cells
 simp only at k3
 obtain⟨hBk,hks⟩:=h.size
 have htw:tb < w.heap.size:=by omega
 obtain⟨HC0,HG,HX,HK,HS,HBE,HT⟩:=Hd7 (AY B kb tb toff cap ts ⟨slots,seen,false⟩ i n x w hl h hn htb hi hnk) hg hx hnk hs hbe htxt
 clear h hn hg hx hnk hs hbe htxt
 have q11:(x.op == 11)=false:=Ao (by omega)
 have q12:(x.op == 12)=false:=Ao (by omega)
 have q13:(x.op == 13)=false:=Ao (by omega)
 have q14:(x.op == 14)=false:=Ao (by omega)
 have q15:(x.op == 15)=false:=Ao (by omega)
 have q16:(x.op == 16)=false:=Ao (by omega)
 have q17:(x.op == 17)=false:=Ao (by omega)
 have q18:(x.op == 18)=false:=Ao (by omega)
 have q19:(x.op == 19)=false:=Ao (by omega)
 clear hop
 go_in
 go_wp2_with fail
 refine HC0.out.mono ?_
 rintro e w1 ⟨A,c,rfl,C0⟩
 obtain⟨e1,d0,d2,d3,e3⟩:=C0.cells
 have CC0:=Lh C0
 have hz0:=C0.size
 clear C0
 obtain⟨sv,mb,hmb,m1,m2,m3,m4,m5⟩:=CC0.out.lk.parts
 have z3:=m5.frozen 3
 have y3:=m5.cell 3
 have M5:=Lh m5
 clear m3 m4 m5 m1 m2
 go_wp2_with fail
 go_end0
 exact ⟨rfl,CC0.out.lk.setBad true,CC0.out.fr.set_ M5.out hBk (by simp) _⟩
end
end Go.Proofs.YtmpcbaflcogmmaaGreatDoor
