/- Stmt7 Stmt8 Stmt13 -/
import Derived.Test.YtmpcbaflcogmmaaGreatDoorStmt12
namespace Go.Proofs.YtmpcbaflcogmmaaGreatDoor
open Go.RowKit
set_option linter.all false
set_option maxHeartbeats 1000000
set_option maxRecDepth 100000
section
variable (B kb tb toff cap:Nat) (ts:List Au) (slots:List Int) (seen:Int→Option Value) (htb:tb < B) (hl:ts.length≤100000) (htxt:∀ y∈ts,y.text.size≤1099511627776) (i:Nat) (x:Au) (hi:i < ts.length) (hbe:0≤Ap ts i) (hx:ts[i]? = some x) (w:World) (hg:Ci ⟨slots,seen,false⟩) (hs:slots.length≤2 + 3 * i) (h:LK w B kb (.slice (some ⟨tb,toff,none⟩) ts.length cap) ⟨slots,seen,false⟩) (hn:As w tb toff ts)
include B kb tb toff cap ts slots seen htb hl htxt i x hi hbe hx w hg hs h hn
theorem U9 (hm:AP [2,3] (Am ts i).length=true) (hop:x.op=13) (hli:AO x 0 0 0=true) (j:Nat) (r:List Nat) (hj:Am ts i=j :: r) (hn2:2≤(Am ts i).length) (recS recB:Nat→LSt→LSt) (R:Sk B kb tb toff cap ts recS recB i) :
  Calls Tryz.prog 143 #[.pointer (some ⟨kb,0,none⟩),.int .i64 i] w fun e w'=>e=.returned (.tuple #[])∧LK w' B kb (.slice (some ⟨tb,toff,none⟩) ts.length cap) (AS ts recS recB 0 r (AD ts j 2 ⟨slots,seen,false⟩))∧Frm B [144,118] w w':=by
 obtain⟨n,hnk⟩:∃ n,(Am ts i).length=n:=⟨_,rfl⟩
 have hnl:n≤100000:=by rw [← hnk];exact AM hbe hl
 obtain⟨c0,c1,c2,c3,c4,c5,c6⟩:=hn.all hx
 obtain⟨k0,k3⟩:=h.cells
 simp only at k3
 obtain⟨hBk,hks⟩:=h.size
 have htw:tb < w.heap.size:=by omega
 obtain⟨HC0,HG,HX,HK,HS,HBE,HT⟩:=Hd7 (AY B kb tb toff cap ts ⟨slots,seen,false⟩ i n x w hl h hn htb hi hnk) hg hx hnk hs hbe htxt
 clear h hn hg hx hnk hs hbe htxt
 have hop2:=hop
 have q11:(x.op == 11)=false:=Ao (by omega)
 have q12:(x.op == 12)=false:=Ao (by omega)
 have q13:(x.op == 13)=true:=AB hop
 have HOP:=Lh hop2
 clear hop hop2
 rw [HK.out] at hm
 have HM:=Lh hm
 clear hm
 have HLI:=Lh hli
 clear hli
 rw [HK.out] at hn2
 have hjj:=AU (ts:=ts) (i:=i) (j:=j) (by rw [hj];simp)
 have HJ0:Hid ((Am ts i)[0]? = some j):=by rw [hj];rfl
 have HJL:=Lh hjj.2.1
 have HN0:Hid (0 < n):=Lh (by rw [← HK.out,hj];simp)
 have HJ:=Lh hj
 clear hj hjj
 have HR:=Lh R
 have HJR:Hid (r.length + 1=n):=Lh (by rw [← HK.out,HJ.out];simp)
 clear R
 go_in
 go_wp2_with fail
 refine HC0.out.mono ?_
 rintro e w1 ⟨A,c,rfl,C0⟩
 obtain⟨e1,d0,d2,d3,e3⟩:=C0.cells
 have CC0:=Lh C0
 have hz0:=C0.size
 clear C0
 go_wp2_with fail
 obtain⟨gk,rfl⟩:=CC0.out.kid0 HN0.out
 have g0:=CC0.out.kidCell HK.out 0 j HJ0.out
 have gl0:=CC0.out.kidLt
 have gcap:=CC0.out.kidCap
 refine (B9 ((CC0.out).alloc (.cells #[.int .i64 2,.int .i64 3] 3)) [2,3] (w1.heap.size + 1) 2 2 rfl (by omega) (Bf w1 (.cells #[.slice (some ⟨gk,0,none⟩) n c] 128) 3 #[.int .i64 2,.int .i64 3]) HM.out).mono ?_
 rintro e w2 ⟨rfl,h2,f2⟩
 have C2:=(((CC0.out).alloc _)).step (by simp) h2 f2
 clear e1 d0 d2 d3 e3
 obtain⟨e1,d0,d2,d3,e3⟩:=C2.cells
 have CC2:=Lh C2
 clear h2 f2 C2
 clear g0
 have g0:=CC2.out.kidCell HK.out 0 j HJ0.out
 go_wp2_with fail
 refine (Cl B kb tb toff cap ts slots seen i x 0 0 0 _ HLI.out (CC2.out).lk HX.out (CC2.out).nodes hl).mono ?_
 rintro e w3 ⟨rfl,h3,f3⟩
 have C3:=(CC2.out).step (by simp) h3 f3
 clear e1 d0 d2 d3 e3
 obtain⟨e1,d0,d2,d3,e3⟩:=C3.cells
 have CC3:=Lh C3
 clear h3 f3 C3
 clear g0
 have g0:=CC3.out.kidCell HK.out 0 j HJ0.out
 go_wp2_with fail
 refine A8 (by kernel_rfl) (by kernel_rfl) ?_
 go_wp2_with fail
 refine (DH B kb tb toff cap ts hl htb HT.out j (2) ⟨slots,seen,false⟩ _ HJL.out HG.out (CC3.out.drew).lk (CC3.out.drew).nodes).mono ?_
 rintro e w4 ⟨rfl,h4,f4⟩
 have C4:=(CC3.out.drew).step (by simp) h4 f4
 clear e1 d0 d2 d3 e3
 obtain⟨e1,d0,d2,d3,e3⟩:=C4.cells
 have CC4:=Lh C4
 clear h4 f4 C4
 clear g0
 have g0:=CC4.out.kidCell HK.out 0 j HJ0.out
 go_wp2_with fail
 refine AX.normal ?_
 go_wp2_with fail
 refine A8 (by kernel_rfl) (by kernel_rfl) ?_
 go_wp2_with fail
 refine (EO (CC4.out.drew) HR.out HBE.out HK.out hnl 1 (n - 1) _ (r) (by rw [HJ.out];have:=HJR.out;rw [List.drop_succ_cons,List.drop_zero,List.take_of_length_le (by omega)]) (by have:=HJR.out;omega) (by omega) (HG.out.value ts j 2) (by have:=HS.out;show slots.length≤_;omega)).mono ?_
 rintro e w5 ⟨rfl,h5,f5⟩
 have C5:=(CC4.out.drew).step (by simp) h5 f5
 clear e1 d0 d2 d3 e3
 obtain⟨e1,d0,d2,d3,e3⟩:=C5.cells
 have CC5:=Lh C5
 clear h5 f5 C5
 clear g0
 have g0:=CC5.out.kidCell HK.out 0 j HJ0.out
 go_wp2_with fail
 refine AX.normal ?_
 go_wp2_with fail
 go_end0
 exact ⟨rfl,CC5.out.lk,CC5.out.fr⟩
theorem Kd (hm:AP [1] (Am ts i).length=true) (hop:x.op=14) (hr:x.n < 0) :
  Calls Tryz.prog 143 #[.pointer (some ⟨kb,0,none⟩),.int .i64 i] w fun e w'=>e=.returned (.tuple #[])∧LK w' B kb (.slice (some ⟨tb,toff,none⟩) ts.length cap) (⟨slots,seen,true⟩)∧Frm B [144,118] w w':=by
 obtain⟨n,hnk⟩:∃ n,(Am ts i).length=n:=⟨_,rfl⟩
 have hnl:n≤100000:=by rw [← hnk];exact AM hbe hl
 obtain⟨c0,c1,c2,c3,c4,c5,c6⟩:=hn.all hx
 obtain⟨k0,k3⟩:=h.cells
 simp only at k3
 obtain⟨hBk,hks⟩:=h.size
 have htw:tb < w.heap.size:=by omega
 obtain⟨HC0,HG,HX,HK,HS,HBE,HT⟩:=Hd7 (AY B kb tb toff cap ts ⟨slots,seen,false⟩ i n x w hl h hn htb hi hnk) hg hx hnk hs hbe htxt
 clear h hn hg hx hnk hs hbe htxt
 have hop2:=hop
 have q11:(x.op == 11)=false:=Ao (by omega)
 have q12:(x.op == 12)=false:=Ao (by omega)
 have q13:(x.op == 13)=false:=Ao (by omega)
 have q14:(x.op == 14)=true:=AB hop
 have HOP:=Lh hop2
 clear hop hop2
 rw [HK.out] at hm
 have HM:=Lh hm
 clear hm
 go_in
 go_wp2_with fail
 refine HC0.out.mono ?_
 rintro e w1 ⟨A,c,rfl,C0⟩
 obtain⟨e1,d0,d2,d3,e3⟩:=C0.cells
 have CC0:=Lh C0
 have hz0:=C0.size
 clear C0
 go_wp2_with fail
 refine (B9 ((CC0.out).alloc (.cells #[.int .i64 1] 3)) [1] (w1.heap.size + 1) 1 1 rfl (by omega) (Bf w1 (.cells #[.slice A n c] 128) 3 #[.int .i64 1]) HM.out).mono ?_
 rintro e w2 ⟨rfl,h2,f2⟩
 have C2:=(((CC0.out).alloc _)).step (by simp) h2 f2
 clear e1 d0 d2 d3 e3
 obtain⟨e1,d0,d2,d3,e3⟩:=C2.cells
 have CC2:=Lh C2
 clear h2 f2 C2
 go_wp2_with fail
 refine (Dq B kb _ slots seen _ false CC2.out.lk).mono ?_
 rintro e w3 ⟨rfl,h3,f3⟩
 have C3:=(CC2.out).step (by simp) h3 f3
 clear e1 d0 d2 d3 e3
 obtain⟨e1,d0,d2,d3,e3⟩:=C3.cells
 have CC3:=Lh C3
 clear h3 f3 C3
 go_wp2_with fail
 go_end0
 exact ⟨rfl,CC3.out.lk,CC3.out.fr⟩
theorem Ke (hm:AP [1] (Am ts i).length=true) (hop:x.op=14) (hr:0≤x.n) (hr2:¬ x.n≤255) :
  Calls Tryz.prog 143 #[.pointer (some ⟨kb,0,none⟩),.int .i64 i] w fun e w'=>e=.returned (.tuple #[])∧LK w' B kb (.slice (some ⟨tb,toff,none⟩) ts.length cap) (⟨slots,seen,true⟩)∧Frm B [144,118] w w':=by
 obtain⟨n,hnk⟩:∃ n,(Am ts i).length=n:=⟨_,rfl⟩
 have hnl:n≤100000:=by rw [← hnk];exact AM hbe hl
 obtain⟨c0,c1,c2,c3,c4,c5,c6⟩:=hn.all hx
 obtain⟨k0,k3⟩:=h.cells
 simp only at k3
 obtain⟨hBk,hks⟩:=h.size
 have htw:tb < w.heap.size:=by omega
 obtain⟨HC0,HG,HX,HK,HS,HBE,HT⟩:=Hd7 (AY B kb tb toff cap ts ⟨slots,seen,false⟩ i n x w hl h hn htb hi hnk) hg hx hnk hs hbe htxt
 clear h hn hg hx hnk hs hbe htxt
 have hop2:=hop
 have q11:(x.op == 11)=false:=Ao (by omega)
 have q12:(x.op == 12)=false:=Ao (by omega)
 have q13:(x.op == 13)=false:=Ao (by omega)
 have q14:(x.op == 14)=true:=AB hop
 have HOP:=Lh hop2
 clear hop hop2
 rw [HK.out] at hm
 have HM:=Lh hm
 clear hm
 have hr3:decide (x.n≤255)=false:=decide_eq_false hr2
 clear hr2
 go_in
 go_wp2_with fail
 refine HC0.out.mono ?_
 rintro e w1 ⟨A,c,rfl,C0⟩
 obtain⟨e1,d0,d2,d3,e3⟩:=C0.cells
 have CC0:=Lh C0
 have hz0:=C0.size
 clear C0
 go_wp2_with fail
 refine (B9 ((CC0.out).alloc (.cells #[.int .i64 1] 3)) [1] (w1.heap.size + 1) 1 1 rfl (by omega) (Bf w1 (.cells #[.slice A n c] 128) 3 #[.int .i64 1]) HM.out).mono ?_
 rintro e w2 ⟨rfl,h2,f2⟩
 have C2:=(((CC0.out).alloc _)).step (by simp) h2 f2
 clear e1 d0 d2 d3 e3
 obtain⟨e1,d0,d2,d3,e3⟩:=C2.cells
 have CC2:=Lh C2
 clear h2 f2 C2
 go_wp2_with fail
 refine (Dq B kb _ slots seen _ false CC2.out.lk).mono ?_
 rintro e w3 ⟨rfl,h3,f3⟩
 have C3:=(CC2.out).step (by simp) h3 f3
 clear e1 d0 d2 d3 e3
 obtain⟨e1,d0,d2,d3,e3⟩:=C3.cells
 have CC3:=Lh C3
 clear h3 f3 C3
 go_wp2_with fail
 go_end0
 exact ⟨rfl,CC3.out.lk,CC3.out.fr⟩
theorem IT (hm:AP [1] (Am ts i).length=true) (hop:x.op=14) (hr:0≤x.n) (hr2:x.n≤255) (hli:AO x 0 x.n x.m=false) :
  Calls Tryz.prog 143 #[.pointer (some ⟨kb,0,none⟩),.int .i64 i] w fun e w'=>e=.returned (.tuple #[])∧LK w' B kb (.slice (some ⟨tb,toff,none⟩) ts.length cap) (⟨slots,seen,true⟩)∧Frm B [144,118] w w':=by
 obtain⟨n,hnk⟩:∃ n,(Am ts i).length=n:=⟨_,rfl⟩
 have hnl:n≤100000:=by rw [← hnk];exact AM hbe hl
 obtain⟨c0,c1,c2,c3,c4,c5,c6⟩:=hn.all hx
 obtain⟨k0,k3⟩:=h.cells
 simp only at k3
 obtain⟨hBk,hks⟩:=h.size
 have htw:tb < w.heap.size:=by omega
 obtain⟨HC0,HG,HX,HK,HS,HBE,HT⟩:=Hd7 (AY B kb tb toff cap ts ⟨slots,seen,false⟩ i n x w hl h hn htb hi hnk) hg hx hnk hs hbe htxt
 clear h hn hg hx hnk hs hbe htxt
 have hop2:=hop
 have q11:(x.op == 11)=false:=Ao (by omega)
 have q12:(x.op == 12)=false:=Ao (by omega)
 have q13:(x.op == 13)=false:=Ao (by omega)
 have q14:(x.op == 14)=true:=AB hop
 have HOP:=Lh hop2
 clear hop hop2
 rw [HK.out] at hm
 have HM:=Lh hm
 clear hm
 have HLI:=Lh hli
 clear hli
 go_in
 go_wp2_with fail
 refine HC0.out.mono ?_
 rintro e w1 ⟨A,c,rfl,C0⟩
 obtain⟨e1,d0,d2,d3,e3⟩:=C0.cells
 have CC0:=Lh C0
 have hz0:=C0.size
 clear C0
 go_wp2_with fail
 refine (B9 ((CC0.out).alloc (.cells #[.int .i64 1] 3)) [1] (w1.heap.size + 1) 1 1 rfl (by omega) (Bf w1 (.cells #[.slice A n c] 128) 3 #[.int .i64 1]) HM.out).mono ?_
 rintro e w2 ⟨rfl,h2,f2⟩
 have C2:=(((CC0.out).alloc _)).step (by simp) h2 f2
 clear e1 d0 d2 d3 e3
 obtain⟨e1,d0,d2,d3,e3⟩:=C2.cells
 have CC2:=Lh C2
 clear h2 f2 C2
 go_wp2_with fail
 refine (BQ B kb _ slots seen _ CC2.out.lk).mono ?_
 rintro e w3 ⟨rfl,h3,f3⟩
 have C3:=(CC2.out).step (by simp) h3 f3
 clear e1 d0 d2 d3 e3
 obtain⟨e1,d0,d2,d3,e3⟩:=C3.cells
 have CC3:=Lh C3
 clear h3 f3 C3
 go_wp2_with fail
 refine (DI B kb tb toff cap ts slots seen i x 0 x.n x.m _ false HLI.out (CC3.out).lk HX.out (CC3.out).nodes hl).mono ?_
 rintro e w4 ⟨rfl,h4,f4⟩
 have C4:=(CC3.out).step (by simp) h4 f4
 clear e1 d0 d2 d3 e3
 obtain⟨e1,d0,d2,d3,e3⟩:=C4.cells
 have CC4:=Lh C4
 clear h4 f4 C4
 go_wp2_with fail
 go_end0
 exact ⟨rfl,CC4.out.lk,CC4.out.fr⟩
theorem Pi (hm:AP [1] (Am ts i).length=true) (hop:x.op=14) (hr:0≤x.n) (hr2:x.n≤255) (hli:AO x 0 x.n x.m=true) (j:Nat) (r:List Nat) (hj:Am ts i=j :: r) (recS recB:Nat→LSt→LSt) (R:Sk B kb tb toff cap ts recS recB i) :
  Calls Tryz.prog 143 #[.pointer (some ⟨kb,0,none⟩),.int .i64 i] w fun e w'=>e=.returned (.tuple #[])∧LK w' B kb (.slice (some ⟨tb,toff,none⟩) ts.length cap) (forget x.m (AS ts recS recB 0 (j :: r) (AE x.m false [1] ⟨slots,seen,false⟩)))∧Frm B [144,118] w w':=by
 obtain⟨n,hnk⟩:∃ n,(Am ts i).length=n:=⟨_,rfl⟩
 have hnl:n≤100000:=by rw [← hnk];exact AM hbe hl
 obtain⟨c0,c1,c2,c3,c4,c5,c6⟩:=hn.all hx
 obtain⟨k0,k3⟩:=h.cells
 simp only at k3
 obtain⟨hBk,hks⟩:=h.size
 have htw:tb < w.heap.size:=by omega
 obtain⟨HC0,HG,HX,HK,HS,HBE,HT⟩:=Hd7 (AY B kb tb toff cap ts ⟨slots,seen,false⟩ i n x w hl h hn htb hi hnk) hg hx hnk hs hbe htxt
 clear h hn hg hx hnk hs hbe htxt
 have hop2:=hop
 have q11:(x.op == 11)=false:=Ao (by omega)
 have q12:(x.op == 12)=false:=Ao (by omega)
 have q13:(x.op == 13)=false:=Ao (by omega)
 have q14:(x.op == 14)=true:=AB hop
 have HOP:=Lh hop2
 clear hop hop2
 rw [HK.out] at hm
 have HM:=Lh hm
 clear hm
 have HLI:=Lh hli
 clear hli
 have hjj:=AU (ts:=ts) (i:=i) (j:=j) (by rw [hj];simp)
 have HJ0:Hid ((Am ts i)[0]? = some j):=by rw [hj];rfl
 have HJL:=Lh hjj.2.1
 have HN0:Hid (0 < n):=Lh (by rw [← HK.out,hj];simp)
 have HJ:=Lh hj
 clear hj hjj
 have HR:=Lh R
 have HJR:Hid (r.length + 1=n):=Lh (by rw [← HK.out,HJ.out];simp)
 clear R
 go_in
 go_wp2_with fail
 refine HC0.out.mono ?_
 rintro e w1 ⟨A,c,rfl,C0⟩
 obtain⟨e1,d0,d2,d3,e3⟩:=C0.cells
 have CC0:=Lh C0
 have hz0:=C0.size
 clear C0
 go_wp2_with fail
 obtain⟨gk,rfl⟩:=CC0.out.kid0 HN0.out
 have g0:=CC0.out.kidCell HK.out 0 j HJ0.out
 have gl0:=CC0.out.kidLt
 have gcap:=CC0.out.kidCap
 refine (B9 ((CC0.out).alloc (.cells #[.int .i64 1] 3)) [1] (w1.heap.size + 1) 1 1 rfl (by omega) (Bf w1 (.cells #[.slice (some ⟨gk,0,none⟩) n c] 128) 3 #[.int .i64 1]) HM.out).mono ?_
 rintro e w2 ⟨rfl,h2,f2⟩
 have C2:=(((CC0.out).alloc _)).step (by simp) h2 f2
 clear e1 d0 d2 d3 e3
 obtain⟨e1,d0,d2,d3,e3⟩:=C2.cells
 have CC2:=Lh C2
 clear h2 f2 C2
 clear g0
 have g0:=CC2.out.kidCell HK.out 0 j HJ0.out
 go_wp2_with fail
 refine (BQ B kb _ slots seen _ CC2.out.lk).mono ?_
 rintro e w3 ⟨rfl,h3,f3⟩
 have C3:=(CC2.out).step (by simp) h3 f3
 clear e1 d0 d2 d3 e3
 obtain⟨e1,d0,d2,d3,e3⟩:=C3.cells
 have CC3:=Lh C3
 clear h3 f3 C3
 clear g0
 have g0:=CC3.out.kidCell HK.out 0 j HJ0.out
 go_wp2_with fail
 refine (Cl B kb tb toff cap ts slots seen i x 0 x.n x.m _ HLI.out (CC3.out).lk HX.out (CC3.out).nodes hl).mono ?_
 rintro e w4 ⟨rfl,h4,f4⟩
 have C4:=(CC3.out).step (by simp) h4 f4
 clear e1 d0 d2 d3 e3
 obtain⟨e1,d0,d2,d3,e3⟩:=C4.cells
 have CC4:=Lh C4
 clear h4 f4 C4
 clear g0
 have g0:=CC4.out.kidCell HK.out 0 j HJ0.out
 go_wp2_with fail
 refine (DT B kb x.m false [1] w4.heap.size 1 ⟨slots,seen,false⟩ _ _ (by have:=HS.out;simp only;omega) (by simp) ((CC4.out).alloc _).lk (Blk.new w4 118 #[.int .i8 1]) (by have:=(CC4.out).size;simp;omega)).mono ?_
 rintro e w5 ⟨rfl,h5,f5⟩
 have C5:=(CC4.out.alloc _).step (by simp) h5 f5
 clear e1 d0 d2 d3 e3
 obtain⟨e1,d0,d2,d3,e3⟩:=C5.cells
 have CC5:=Lh C5
 clear h5 f5 C5
 clear g0
 have g0:=CC5.out.kidCell HK.out 0 j HJ0.out
 go_wp2_with fail
 refine (EO (CC5.out) HR.out HBE.out HK.out hnl 0 n _ (j :: r) (by rw [HJ.out];have:=HJR.out;rw [List.drop_zero,List.take_of_length_le (by simp;omega)]) (by have:=HJR.out;simp;omega) (by omega) (HG.out.declare x.m false [1] (by simp)) (by have:=HS.out;have:=B7 x.m false [1] ⟨slots,seen,false⟩;simp only [List.length_cons,List.length_nil] at this;omega)).mono ?_
 rintro e w6 ⟨rfl,h6,f6⟩
 have C6:=(CC5.out).step (by simp) h6 f6
 clear e1 d0 d2 d3 e3
 obtain⟨e1,d0,d2,d3,e3⟩:=C6.cells
 have CC6:=Lh C6
 clear h6 f6 C6
 clear g0
 have g0:=CC6.out.kidCell HK.out 0 j HJ0.out
 go_wp2_with fail
 obtain⟨sv6,mb6,hmb6,_,kq6,hm6,_,_⟩:=CC6.out.lk.parts
 obtain⟨w7,hrun6,hn6,hg6⟩:=(hm6.drew CB).delete CB Tryz.underlying142 (x.m) 0
 have hr6:(Builtin.delete_ #[142,3] 0 #[.map (some mb6),.int .i64 (x.m)]).run Tryz.prog w6.drew=.ok (.tuple #[]) w7:=hrun6
 obtain⟨hl6,hf6⟩:=CC6.out.drew.lk.forgot (hm6.drew CB) hmb6 kq6 hn6 hg6 [144,118]
 have CC7:=Lh (CC6.out.drew.step (by simp) hl6 hf6)
 clear hrun6 hn6 hg6 hl6 hf6 hm6
 refine A8 (by kernel_rfl) (by kernel_rfl) ?_
 go_wp2_with fail
 refine AX.normal ?_
 clear e1 d0 d2 d3 e3 hr6 kq6
 obtain⟨e1,d0,d2,d3,e3⟩:=CC7.out.cells
 clear g0
 have g0:=CC7.out.kidCell HK.out 0 j HJ0.out
 go_wp2_with fail
 go_end0
 exact ⟨rfl,CC7.out.lk,CC7.out.fr⟩
end
section
variable (B kb tb toff cap:Nat) (ts:List Au) (slots:List Int) (seen:Int→Option Value) (htb:tb < B) (hl:ts.length≤100000) (htxt:∀ y∈ts,y.text.size≤1099511627776) (i:Nat) (x:Au) (hi:i < ts.length) (hbe:0≤Ap ts i) (hx:ts[i]? = some x) (w:World) (hg:Ci ⟨slots,seen,false⟩) (hs:slots.length≤2 + 3 * i) (h:LK w B kb (.slice (some ⟨tb,toff,none⟩) ts.length cap) ⟨slots,seen,false⟩) (hn:As w tb toff ts) (hm:AP [2] (Am ts i).length=true) (hop:x.op=15)
include B kb tb toff cap ts slots seen htb hl htxt i x hi hbe hx w hg hs h hn hm hop
theorem Ma (hr:x.n < 0) :
  Calls Tryz.prog 143 #[.pointer (some ⟨kb,0,none⟩),.int .i64 i] w fun e w'=>e=.returned (.tuple #[])∧LK w' B kb (.slice (some ⟨tb,toff,none⟩) ts.length cap) (⟨slots,seen,true⟩)∧Frm B [144,118] w w':=by
 obtain⟨n,hnk⟩:∃ n,(Am ts i).length=n:=⟨_,rfl⟩
 have hnl:n≤100000:=by rw [← hnk];exact AM hbe hl
 obtain⟨c0,c1,c2,c3,c4,c5,c6⟩:=hn.all hx
 obtain⟨k0,k3⟩:=h.cells
 simp only at k3
 obtain⟨hBk,hks⟩:=h.size
 have htw:tb < w.heap.size:=by omega
 obtain⟨HC0,HG,HX,HK,HS,HBE,HT⟩:=Hd7 (AY B kb tb toff cap ts ⟨slots,seen,false⟩ i n x w hl h hn htb hi hnk) hg hx hnk hs hbe htxt
 clear h hn hg hx hnk hs hbe htxt
 have hop2:=hop
 have q11:(x.op == 11)=false:=Ao (by omega)
 have q12:(x.op == 12)=false:=Ao (by omega)
 have q13:(x.op == 13)=false:=Ao (by omega)
 have q14:(x.op == 14)=false:=Ao (by omega)
 have q15:(x.op == 15)=true:=AB hop
 have HOP:=Lh hop2
 clear hop hop2
 rw [HK.out] at hm
 have HM:=Lh hm
 clear hm
 go_in
 go_wp2_with fail
 refine HC0.out.mono ?_
 rintro e w1 ⟨A,c,rfl,C0⟩
 obtain⟨e1,d0,d2,d3,e3⟩:=C0.cells
 have CC0:=Lh C0
 have hz0:=C0.size
 clear C0
 go_wp2_with fail
 refine (B9 ((CC0.out).alloc (.cells #[.int .i64 2] 3)) [2] (w1.heap.size + 1) 1 1 rfl (by omega) (Bf w1 (.cells #[.slice A n c] 128) 3 #[.int .i64 2]) HM.out).mono ?_
 rintro e w2 ⟨rfl,h2,f2⟩
 have C2:=(((CC0.out).alloc _)).step (by simp) h2 f2
 clear e1 d0 d2 d3 e3
 obtain⟨e1,d0,d2,d3,e3⟩:=C2.cells
 have CC2:=Lh C2
 clear h2 f2 C2
 go_wp2_with fail
 refine (Dq B kb _ slots seen _ false CC2.out.lk).mono ?_
 rintro e w3 ⟨rfl,h3,f3⟩
 have C3:=(CC2.out).step (by simp) h3 f3
 clear e1 d0 d2 d3 e3
 obtain⟨e1,d0,d2,d3,e3⟩:=C3.cells
 have CC3:=Lh C3
 clear h3 f3 C3
 go_wp2_with fail
 go_end0
 exact ⟨rfl,CC3.out.lk,CC3.out.fr⟩
theorem Mr (hr:0≤x.n) (hr2:(wrap64 (x.m - 1) == x.n)=false) :
  Calls Tryz.prog 143 #[.pointer (some ⟨kb,0,none⟩),.int .i64 i] w fun e w'=>e=.returned (.tuple #[])∧LK w' B kb (.slice (some ⟨tb,toff,none⟩) ts.length cap) (⟨slots,seen,true⟩)∧Frm B [144,118] w w':=by
 obtain⟨n,hnk⟩:∃ n,(Am ts i).length=n:=⟨_,rfl⟩
 have hnl:n≤100000:=by rw [← hnk];exact AM hbe hl
 obtain⟨c0,c1,c2,c3,c4,c5,c6⟩:=hn.all hx
 obtain⟨k0,k3⟩:=h.cells
 simp only at k3
 obtain⟨hBk,hks⟩:=h.size
 have htw:tb < w.heap.size:=by omega
 obtain⟨HC0,HG,HX,HK,HS,HBE,HT⟩:=Hd7 (AY B kb tb toff cap ts ⟨slots,seen,false⟩ i n x w hl h hn htb hi hnk) hg hx hnk hs hbe htxt
 clear h hn hg hx hnk hs hbe htxt
 have hop2:=hop
 have q11:(x.op == 11)=false:=Ao (by omega)
 have q12:(x.op == 12)=false:=Ao (by omega)
 have q13:(x.op == 13)=false:=Ao (by omega)
 have q14:(x.op == 14)=false:=Ao (by omega)
 have q15:(x.op == 15)=true:=AB hop
 have HOP:=Lh hop2
 clear hop hop2
 rw [HK.out] at hm
 have HM:=Lh hm
 clear hm
 go_in
 go_wp2_with fail
 refine HC0.out.mono ?_
 rintro e w1 ⟨A,c,rfl,C0⟩
 obtain⟨e1,d0,d2,d3,e3⟩:=C0.cells
 have CC0:=Lh C0
 have hz0:=C0.size
 clear C0
 go_wp2_with fail
 refine (B9 ((CC0.out).alloc (.cells #[.int .i64 2] 3)) [2] (w1.heap.size + 1) 1 1 rfl (by omega) (Bf w1 (.cells #[.slice A n c] 128) 3 #[.int .i64 2]) HM.out).mono ?_
 rintro e w2 ⟨rfl,h2,f2⟩
 have C2:=(((CC0.out).alloc _)).step (by simp) h2 f2
 clear e1 d0 d2 d3 e3
 obtain⟨e1,d0,d2,d3,e3⟩:=C2.cells
 have CC2:=Lh C2
 clear h2 f2 C2
 go_wp2_with fail
 refine (Dq B kb _ slots seen _ false CC2.out.lk).mono ?_
 rintro e w3 ⟨rfl,h3,f3⟩
 have C3:=(CC2.out).step (by simp) h3 f3
 clear e1 d0 d2 d3 e3
 obtain⟨e1,d0,d2,d3,e3⟩:=C3.cells
 have CC3:=Lh C3
 clear h3 f3 C3
 go_wp2_with fail
 go_end0
 exact ⟨rfl,CC3.out.lk,CC3.out.fr⟩
theorem L8 (hr:0≤x.n) (hr2:(wrap64 (x.m - 1) == x.n)=true) (hli:AO x 0 x.n x.m=false) :
  Calls Tryz.prog 143 #[.pointer (some ⟨kb,0,none⟩),.int .i64 i] w fun e w'=>e=.returned (.tuple #[])∧LK w' B kb (.slice (some ⟨tb,toff,none⟩) ts.length cap) (⟨slots,seen,true⟩)∧Frm B [144,118] w w':=by
 obtain⟨n,hnk⟩:∃ n,(Am ts i).length=n:=⟨_,rfl⟩
 have hnl:n≤100000:=by rw [← hnk];exact AM hbe hl
 obtain⟨c0,c1,c2,c3,c4,c5,c6⟩:=hn.all hx
 obtain⟨k0,k3⟩:=h.cells
 simp only at k3
 obtain⟨hBk,hks⟩:=h.size
 have htw:tb < w.heap.size:=by omega
 obtain⟨HC0,HG,HX,HK,HS,HBE,HT⟩:=Hd7 (AY B kb tb toff cap ts ⟨slots,seen,false⟩ i n x w hl h hn htb hi hnk) hg hx hnk hs hbe htxt
 clear h hn hg hx hnk hs hbe htxt
 have hop2:=hop
 have q11:(x.op == 11)=false:=Ao (by omega)
 have q12:(x.op == 12)=false:=Ao (by omega)
 have q13:(x.op == 13)=false:=Ao (by omega)
 have q14:(x.op == 14)=false:=Ao (by omega)
 have q15:(x.op == 15)=true:=AB hop
 have HOP:=Lh hop2
 clear hop hop2
 rw [HK.out] at hm
 have HM:=Lh hm
 clear hm
 have HLI:=Lh hli
 clear hli
 go_in
 go_wp2_with fail
 refine HC0.out.mono ?_
 rintro e w1 ⟨A,c,rfl,C0⟩
 obtain⟨e1,d0,d2,d3,e3⟩:=C0.cells
 have CC0:=Lh C0
 have hz0:=C0.size
 clear C0
 go_wp2_with fail
 refine (B9 ((CC0.out).alloc (.cells #[.int .i64 2] 3)) [2] (w1.heap.size + 1) 1 1 rfl (by omega) (Bf w1 (.cells #[.slice A n c] 128) 3 #[.int .i64 2]) HM.out).mono ?_
 rintro e w2 ⟨rfl,h2,f2⟩
 have C2:=(((CC0.out).alloc _)).step (by simp) h2 f2
 clear e1 d0 d2 d3 e3
 obtain⟨e1,d0,d2,d3,e3⟩:=C2.cells
 have CC2:=Lh C2
 clear h2 f2 C2
 go_wp2_with fail
 refine (BQ B kb _ slots seen _ CC2.out.lk).mono ?_
 rintro e w3 ⟨rfl,h3,f3⟩
 have C3:=(CC2.out).step (by simp) h3 f3
 clear e1 d0 d2 d3 e3
 obtain⟨e1,d0,d2,d3,e3⟩:=C3.cells
 have CC3:=Lh C3
 clear h3 f3 C3
 go_wp2_with fail
 refine (DI B kb tb toff cap ts slots seen i x 0 x.n x.m _ false HLI.out (CC3.out).lk HX.out (CC3.out).nodes hl).mono ?_
 rintro e w4 ⟨rfl,h4,f4⟩
 have C4:=(CC3.out).step (by simp) h4 f4
 clear e1 d0 d2 d3 e3
 obtain⟨e1,d0,d2,d3,e3⟩:=C4.cells
 have CC4:=Lh C4
 clear h4 f4 C4
 go_wp2_with fail
 go_end0
 exact ⟨rfl,CC4.out.lk,CC4.out.fr⟩
theorem Sp (hr:0≤x.n) (hr2:(wrap64 (x.m - 1) == x.n)=true) (hli:AO x 0 x.n x.m=true) (j:Nat) (r:List Nat) (hj:Am ts i=j :: r) (hn2:2≤(Am ts i).length) (recS recB:Nat→LSt→LSt) (R:Sk B kb tb toff cap ts recS recB i) :
  Calls Tryz.prog 143 #[.pointer (some ⟨kb,0,none⟩),.int .i64 i] w fun e w'=>e=.returned (.tuple #[])∧LK w' B kb (.slice (some ⟨tb,toff,none⟩) ts.length cap) (forget x.n (AS ts recS recB 0 r (AE x.n false [3,6,1] (AD ts j 6 ⟨slots,seen,false⟩))))∧Frm B [144,118] w w':=by
 obtain⟨n,hnk⟩:∃ n,(Am ts i).length=n:=⟨_,rfl⟩
 have hnl:n≤100000:=by rw [← hnk];exact AM hbe hl
 obtain⟨c0,c1,c2,c3,c4,c5,c6⟩:=hn.all hx
 obtain⟨k0,k3⟩:=h.cells
 simp only at k3
 obtain⟨hBk,hks⟩:=h.size
 have htw:tb < w.heap.size:=by omega
 obtain⟨HC0,HG,HX,HK,HS,HBE,HT⟩:=Hd7 (AY B kb tb toff cap ts ⟨slots,seen,false⟩ i n x w hl h hn htb hi hnk) hg hx hnk hs hbe htxt
 clear h hn hg hx hnk hs hbe htxt
 have hop2:=hop
 have q11:(x.op == 11)=false:=Ao (by omega)
 have q12:(x.op == 12)=false:=Ao (by omega)
 have q13:(x.op == 13)=false:=Ao (by omega)
 have q14:(x.op == 14)=false:=Ao (by omega)
 have q15:(x.op == 15)=true:=AB hop
 have HOP:=Lh hop2
 clear hop hop2
 rw [HK.out] at hm
 have HM:=Lh hm
 clear hm
 have HLI:=Lh hli
 clear hli
 rw [HK.out] at hn2
 have hjj:=AU (ts:=ts) (i:=i) (j:=j) (by rw [hj];simp)
 have HJ0:Hid ((Am ts i)[0]? = some j):=by rw [hj];rfl
 have HJL:=Lh hjj.2.1
 have HN0:Hid (0 < n):=Lh (by rw [← HK.out,hj];simp)
 have HJ:=Lh hj
 clear hj hjj
 have HR:=Lh R
 have HJR:Hid (r.length + 1=n):=Lh (by rw [← HK.out,HJ.out];simp)
 clear R
 go_in
 go_wp2_with fail
 refine HC0.out.mono ?_
 rintro e w1 ⟨A,c,rfl,C0⟩
 obtain⟨e1,d0,d2,d3,e3⟩:=C0.cells
 have CC0:=Lh C0
 have hz0:=C0.size
 clear C0
 go_wp2_with fail
 obtain⟨gk,rfl⟩:=CC0.out.kid0 HN0.out
 have g0:=CC0.out.kidCell HK.out 0 j HJ0.out
 have gl0:=CC0.out.kidLt
 have gcap:=CC0.out.kidCap
 refine (B9 ((CC0.out).alloc (.cells #[.int .i64 2] 3)) [2] (w1.heap.size + 1) 1 1 rfl (by omega) (Bf w1 (.cells #[.slice (some ⟨gk,0,none⟩) n c] 128) 3 #[.int .i64 2]) HM.out).mono ?_
 rintro e w2 ⟨rfl,h2,f2⟩
 have C2:=(((CC0.out).alloc _)).step (by simp) h2 f2
 clear e1 d0 d2 d3 e3
 obtain⟨e1,d0,d2,d3,e3⟩:=C2.cells
 have CC2:=Lh C2
 clear h2 f2 C2
 clear g0
 have g0:=CC2.out.kidCell HK.out 0 j HJ0.out
 go_wp2_with fail
 refine (BQ B kb _ slots seen _ CC2.out.lk).mono ?_
 rintro e w3 ⟨rfl,h3,f3⟩
 have C3:=(CC2.out).step (by simp) h3 f3
 clear e1 d0 d2 d3 e3
 obtain⟨e1,d0,d2,d3,e3⟩:=C3.cells
 have CC3:=Lh C3
 clear h3 f3 C3
 clear g0
 have g0:=CC3.out.kidCell HK.out 0 j HJ0.out
 go_wp2_with fail
 refine (Cl B kb tb toff cap ts slots seen i x 0 x.n x.m _ HLI.out (CC3.out).lk HX.out (CC3.out).nodes hl).mono ?_
 rintro e w4 ⟨rfl,h4,f4⟩
 have C4:=(CC3.out).step (by simp) h4 f4
 clear e1 d0 d2 d3 e3
 obtain⟨e1,d0,d2,d3,e3⟩:=C4.cells
 have CC4:=Lh C4
 clear h4 f4 C4
 clear g0
 have g0:=CC4.out.kidCell HK.out 0 j HJ0.out
 go_wp2_with fail
 refine A8 (by kernel_rfl) (by kernel_rfl) ?_
 go_wp2_with fail
 refine (DH B kb tb toff cap ts hl htb HT.out j (6) ⟨slots,seen,false⟩ _ HJL.out HG.out (CC4.out.drew).lk (CC4.out.drew).nodes).mono ?_
 rintro e w5 ⟨rfl,h5,f5⟩
 have C5:=(CC4.out.drew).step (by simp) h5 f5
 clear e1 d0 d2 d3 e3
 obtain⟨e1,d0,d2,d3,e3⟩:=C5.cells
 have CC5:=Lh C5
 clear h5 f5 C5
 clear g0
 have g0:=CC5.out.kidCell HK.out 0 j HJ0.out
 go_wp2_with fail
 refine AX.normal ?_
 go_wp2_with fail
 refine (DT B kb x.n false [3,6,1] w5.heap.size 3 (AD ts j 6 ⟨slots,seen,false⟩) _ _ (by have:=HS.out;show slots.length≤_;omega) (by simp) ((CC5.out).alloc _).lk (Blk.new w5 118 #[.int .i8 3,.int .i8 6,.int .i8 1]) (by have:=(CC5.out).size;simp;omega)).mono ?_
 rintro e w6 ⟨rfl,h6,f6⟩
 have C6:=(CC5.out.alloc _).step (by simp) h6 f6
 clear e1 d0 d2 d3 e3
 obtain⟨e1,d0,d2,d3,e3⟩:=C6.cells
 have CC6:=Lh C6
 clear h6 f6 C6
 clear g0
 have g0:=CC6.out.kidCell HK.out 0 j HJ0.out
 go_wp2_with fail
 refine A8 (by kernel_rfl) (by kernel_rfl) ?_
 go_wp2_with fail
 refine (EO (CC6.out.drew) HR.out HBE.out HK.out hnl 1 (n - 1) _ (r) (by rw [HJ.out];have:=HJR.out;rw [List.drop_succ_cons,List.drop_zero,List.take_of_length_le (by omega)]) (by have:=HJR.out;omega) (by omega) ((HG.out.value ts j 6).declare x.n false [3,6,1] (by simp)) (by have:=HS.out;have:=B7 x.n false [3,6,1] (AD ts j 6 ⟨slots,seen,false⟩);have:(AD ts j 6 ⟨slots,seen,false⟩).slots.length=slots.length:=rfl;simp only [List.length_cons,List.length_nil] at *;omega)).mono ?_
 rintro e w7 ⟨rfl,h7,f7⟩
 have C7:=(CC6.out.drew).step (by simp) h7 f7
 clear e1 d0 d2 d3 e3
 obtain⟨e1,d0,d2,d3,e3⟩:=C7.cells
 have CC7:=Lh C7
 clear h7 f7 C7
 clear g0
 have g0:=CC7.out.kidCell HK.out 0 j HJ0.out
 go_wp2_with fail
 refine AX.normal ?_
 go_wp2_with fail
 obtain⟨sv7,mb7,hmb7,_,kq7,hm7,_,_⟩:=CC7.out.lk.parts
 obtain⟨w8,hrun7,hn7,hg7⟩:=(hm7.drew CB).delete CB Tryz.underlying142 (x.n) 0
 have hr7:(Builtin.delete_ #[142,3] 0 #[.map (some mb7),.int .i64 (x.n)]).run Tryz.prog w7.drew=.ok (.tuple #[]) w8:=hrun7
 obtain⟨hl7,hf7⟩:=CC7.out.drew.lk.forgot (hm7.drew CB) hmb7 kq7 hn7 hg7 [144,118]
 have CC8:=Lh (CC7.out.drew.step (by simp) hl7 hf7)
 clear hrun7 hn7 hg7 hl7 hf7 hm7
 refine A8 (by kernel_rfl) (by kernel_rfl) ?_
 go_wp2_with fail
 refine AX.normal ?_
 clear e1 d0 d2 d3 e3 hr7 kq7
 obtain⟨e1,d0,d2,d3,e3⟩:=CC8.out.cells
 clear g0
 have g0:=CC8.out.kidCell HK.out 0 j HJ0.out
 go_wp2_with fail
 go_end0
 exact ⟨rfl,CC8.out.lk,CC8.out.fr⟩
end
section
variable (B kb tb toff cap:Nat) (ts:List Au) (slots:List Int) (seen:Int→Option Value) (htb:tb < B) (hl:ts.length≤100000) (htxt:∀ y∈ts,y.text.size≤1099511627776) (i:Nat) (x:Au) (hi:i < ts.length) (hbe:0≤Ap ts i) (hx:ts[i]? = some x) (w:World) (hg:Ci ⟨slots,seen,false⟩) (hs:slots.length≤2 + 3 * i) (h:LK w B kb (.slice (some ⟨tb,toff,none⟩) ts.length cap) ⟨slots,seen,false⟩) (hn:As w tb toff ts) (hop:x.op=12) (hm:AP [1] (Am ts i).length=true)
include B kb tb toff cap ts slots seen htb hl htxt i x hi hbe hx w hg hs h hn hop hm
theorem JW (hr:x.n < 0) :
  Calls Tryz.prog 143 #[.pointer (some ⟨kb,0,none⟩),.int .i64 i] w fun e w'=>e=.returned (.tuple #[])∧LK w' B kb (.slice (some ⟨tb,toff,none⟩) ts.length cap) (⟨slots,seen,true⟩)∧Frm B [144,118] w w':=by
 obtain⟨n,hnk⟩:∃ n,(Am ts i).length=n:=⟨_,rfl⟩
 have hnl:n≤100000:=by rw [← hnk];exact AM hbe hl
 obtain⟨c0,c1,c2,c3,c4,c5,c6⟩:=hn.all hx
 obtain⟨k0,k3⟩:=h.cells
 simp only at k3
 obtain⟨hBk,hks⟩:=h.size
 have htw:tb < w.heap.size:=by omega
 obtain⟨HC0,HG,HX,HK,HS,HBE,HT⟩:=Hd7 (AY B kb tb toff cap ts ⟨slots,seen,false⟩ i n x w hl h hn htb hi hnk) hg hx hnk hs hbe htxt
 clear h hn hg hx hnk hs hbe htxt
 have hop2:=hop
 have q11:(x.op == 11)=false:=Ao (by omega)
 have q12:(x.op == 12)=true:=AB hop
 have HOP:=Lh hop2
 clear hop hop2
 rw [HK.out] at hm
 have HM:=Lh hm
 clear hm
 go_in
 go_wp2_with fail
 refine HC0.out.mono ?_
 rintro e w1 ⟨A,c,rfl,C0⟩
 obtain⟨e1,d0,d2,d3,e3⟩:=C0.cells
 have CC0:=Lh C0
 have hz0:=C0.size
 clear C0
 go_wp2_with fail
 refine A8 (by kernel_rfl) (by kernel_rfl) ?_
 go_wp2_with fail
 refine AX.normal ?_
 go_wp2_with fail
 refine (B9 ((CC0.out).alloc (.cells #[.int .i64 1] 3)).drew [1] (w1.heap.size + 1) 1 1 rfl (by omega) (Bf w1 (.cells #[.slice A n c] 128) 3 #[.int .i64 1]).drew HM.out).mono ?_
 rintro e w2 ⟨rfl,h2,f2⟩
 have C2:=(((CC0.out).alloc _).drew).step (by simp) h2 f2
 clear e1 d0 d2 d3 e3
 obtain⟨e1,d0,d2,d3,e3⟩:=C2.cells
 have CC2:=Lh C2
 clear h2 f2 C2
 go_wp2_with fail
 refine (Dq B kb _ slots seen _ false CC2.out.lk).mono ?_
 rintro e w3 ⟨rfl,h3,f3⟩
 have C3:=(CC2.out).step (by simp) h3 f3
 clear e1 d0 d2 d3 e3
 obtain⟨e1,d0,d2,d3,e3⟩:=C3.cells
 have CC3:=Lh C3
 clear h3 f3 C3
 go_wp2_with fail
 go_end0
 exact ⟨rfl,CC3.out.lk,CC3.out.fr⟩
theorem JX (hr:0≤x.n) (hr2:1048576≤x.n) :
  Calls Tryz.prog 143 #[.pointer (some ⟨kb,0,none⟩),.int .i64 i] w fun e w'=>e=.returned (.tuple #[])∧LK w' B kb (.slice (some ⟨tb,toff,none⟩) ts.length cap) (⟨slots,seen,true⟩)∧Frm B [144,118] w w':=by
 obtain⟨n,hnk⟩:∃ n,(Am ts i).length=n:=⟨_,rfl⟩
 have hnl:n≤100000:=by rw [← hnk];exact AM hbe hl
 obtain⟨c0,c1,c2,c3,c4,c5,c6⟩:=hn.all hx
 obtain⟨k0,k3⟩:=h.cells
 simp only at k3
 obtain⟨hBk,hks⟩:=h.size
 have htw:tb < w.heap.size:=by omega
 obtain⟨HC0,HG,HX,HK,HS,HBE,HT⟩:=Hd7 (AY B kb tb toff cap ts ⟨slots,seen,false⟩ i n x w hl h hn htb hi hnk) hg hx hnk hs hbe htxt
 clear h hn hg hx hnk hs hbe htxt
 have hop2:=hop
 have q11:(x.op == 11)=false:=Ao (by omega)
 have q12:(x.op == 12)=true:=AB hop
 have HOP:=Lh hop2
 clear hop hop2
 rw [HK.out] at hm
 have HM:=Lh hm
 clear hm
 go_in
 go_wp2_with fail
 refine HC0.out.mono ?_
 rintro e w1 ⟨A,c,rfl,C0⟩
 obtain⟨e1,d0,d2,d3,e3⟩:=C0.cells
 have CC0:=Lh C0
 have hz0:=C0.size
 clear C0
 go_wp2_with fail
 refine A8 (by kernel_rfl) (by kernel_rfl) ?_
 go_wp2_with fail
 refine AX.normal ?_
 go_wp2_with fail
 refine (B9 ((CC0.out).alloc (.cells #[.int .i64 1] 3)).drew [1] (w1.heap.size + 1) 1 1 rfl (by omega) (Bf w1 (.cells #[.slice A n c] 128) 3 #[.int .i64 1]).drew HM.out).mono ?_
 rintro e w2 ⟨rfl,h2,f2⟩
 have C2:=(((CC0.out).alloc _).drew).step (by simp) h2 f2
 clear e1 d0 d2 d3 e3
 obtain⟨e1,d0,d2,d3,e3⟩:=C2.cells
 have CC2:=Lh C2
 clear h2 f2 C2
 go_wp2_with fail
 refine (Dq B kb _ slots seen _ false CC2.out.lk).mono ?_
 rintro e w3 ⟨rfl,h3,f3⟩
 have C3:=(CC2.out).step (by simp) h3 f3
 clear e1 d0 d2 d3 e3
 obtain⟨e1,d0,d2,d3,e3⟩:=C3.cells
 have CC3:=Lh C3
 clear h3 f3 C3
 go_wp2_with fail
 go_end0
 exact ⟨rfl,CC3.out.lk,CC3.out.fr⟩
theorem Jr (hr:0≤x.n) (hr2:x.n < 1048576) (hl2:(seen x.n).getD (.bool false)=.bool false) :
  Calls Tryz.prog 143 #[.pointer (some ⟨kb,0,none⟩),.int .i64 i] w fun e w'=>e=.returned (.tuple #[])∧LK w' B kb (.slice (some ⟨tb,toff,none⟩) ts.length cap) (⟨slots,seen,true⟩)∧Frm B [144,118] w w':=by
 obtain⟨n,hnk⟩:∃ n,(Am ts i).length=n:=⟨_,rfl⟩
 have hnl:n≤100000:=by rw [← hnk];exact AM hbe hl
 obtain⟨c0,c1,c2,c3,c4,c5,c6⟩:=hn.all hx
 obtain⟨k0,k3⟩:=h.cells
 simp only at k3
 obtain⟨hBk,hks⟩:=h.size
 have htw:tb < w.heap.size:=by omega
 obtain⟨HC0,HG,HX,HK,HS,HBE,HT⟩:=Hd7 (AY B kb tb toff cap ts ⟨slots,seen,false⟩ i n x w hl h hn htb hi hnk) hg hx hnk hs hbe htxt
 clear h hn hg hx hnk hs hbe htxt
 have hop2:=hop
 have q11:(x.op == 11)=false:=Ao (by omega)
 have q12:(x.op == 12)=true:=AB hop
 have HOP:=Lh hop2
 clear hop hop2
 rw [HK.out] at hm
 have HM:=Lh hm
 clear hm
 have HL2:=Lh hl2
 clear hl2
 go_in
 go_wp2_with fail
 refine HC0.out.mono ?_
 rintro e w1 ⟨A,c,rfl,C0⟩
 obtain⟨e1,d0,d2,d3,e3⟩:=C0.cells
 have CC0:=Lh C0
 have hz0:=C0.size
 clear C0
 go_wp2_with fail
 obtain⟨sv,mb,_,_,m2,m3,_,_⟩:=CC0.out.lk.parts
 have hlk:=Ei (m3.drew CB) x.n false
 simp only [Bool.false_eq_true,if_false,HL2.out] at hlk
 refine A8 (by kernel_rfl) (by kernel_rfl) ?_
 go_wp2_with fail
 refine AX.normal ?_
 go_wp2_with fail
 refine (B9 ((CC0.out).alloc (.cells #[.int .i64 1] 3)).drew [1] (w1.heap.size + 1) 1 1 rfl (by omega) (Bf w1 (.cells #[.slice A n c] 128) 3 #[.int .i64 1]).drew HM.out).mono ?_
 rintro e w2 ⟨rfl,h2,f2⟩
 have C2:=(((CC0.out).alloc _).drew).step (by simp) h2 f2
 clear e1 d0 d2 d3 e3
 obtain⟨e1,d0,d2,d3,e3⟩:=C2.cells
 have CC2:=Lh C2
 clear h2 f2 C2
 go_wp2_with fail
 refine (Dq B kb _ slots seen _ false CC2.out.lk).mono ?_
 rintro e w3 ⟨rfl,h3,f3⟩
 have C3:=(CC2.out).step (by simp) h3 f3
 clear e1 d0 d2 d3 e3
 obtain⟨e1,d0,d2,d3,e3⟩:=C3.cells
 have CC3:=Lh C3
 clear h3 f3 C3
 go_wp2_with fail
 go_end0
 exact ⟨rfl,CC3.out.lk,CC3.out.fr⟩
end
end Go.Proofs.YtmpcbaflcogmmaaGreatDoor
