/- Loop13c Loop13d -/
import Derived.Test.YtmpcbaflcogmmaaGreatDoorLoop13e
namespace Go.Proofs.YtmpcbaflcogmmaaGreatDoor
open Go.RowKit
set_option linter.all false
set_option maxHeartbeats 2000000
set_option maxRecDepth 100000
section
variable (B kb tb toff cap:Nat) (ts:List Au) (htb:tb < B) (hl:ts.length≤2000) (htxt:∀ y∈ts,y.text.size≤1099511627776) (i:Nat) (x:Au) (hi:i < ts.length) (hbe:0≤Ap ts i) (hx:ts[i]? = some x) (vars:List Vr) (slots:List Int) (seen:Int→Option Value) (w:World) (hs:slots.length≤2 + 3 * i) (h:RL w B kb (.slice (some ⟨tb,toff,none⟩) ts.length cap) vars ⟨slots,seen,false⟩) (hn:As w tb toff ts)
include B kb tb toff cap ts htb hl htxt i x hi hbe hx vars slots seen w hs h hn
theorem Oh (hop:x.op=15) (e1:(((Am ts i).length:Int) == 2)=false) :
  Calls Tryz.prog 207 #[.pointer (some ⟨kb,0,none⟩),.int .i64 i] w fun e w'=>e=.returned (.tuple #[])∧(RL w' B kb (.slice (some ⟨tb,toff,none⟩) ts.length cap) vars ⟨slots,seen,true⟩)∧Frm B [158,118,160] w w':=by
 obtain⟨c0,c1,c2,c3,c4,c5,c6⟩:=hn.all hx
 obtain⟨k0,k3,kf⟩:=h.cells
 simp only at k3
 obtain⟨hB,hks⟩:=h.size
 have hki:=AH B kb tb toff cap ts i x vars ⟨slots,seen,false⟩ w h hn htb hi hl
 obtain⟨n,hnk⟩:∃ n,(Am ts i).length=n:=⟨_,rfl⟩
 rw [hnk] at hki
 obtain⟨HKI,HNK,HX,HS,HBE,HT,H⟩:=Hd7 hki hnk hx hs hbe htxt h
 have hop2:=hop
 have q14:(x.op == 14)=false:=Ao (by omega)
 have q15:(x.op == 15)=true:=AB hop
 clear hop hop2
 rw [hnk] at e1
 clear h hn hki hx hs hbe htxt
 go_in
 go_wp2_with fail
 refine HKI.out.mono ?_
 rintro e w1 ⟨A,c,base,rfl,C1⟩
 obtain⟨e0,e3,ef,d0,d2,d3⟩:=C1.cells
 obtain⟨Av1,cv1,kv1,kw1,hcv1,hcm1⟩:=C1.rl.varsCell
 have CC1:=Lh C1
 have hz1:=C1.rl.size
 clear C1
 go_wp2_with fail
 refine (Cd B kb _ vars ⟨slots,seen,false⟩ _ _ (CC1.out).rl (.inl rfl)).mono ?_
 rintro e w2 ⟨rfl,h2,f2⟩
 have CC2:=Lh ((CC1.out).step (by simp) h2 f2)
 clear h2 f2 e0 e3 ef d0 d2 d3
 obtain⟨e0,e3,ef,d0,d2,d3⟩:=CC2.out.cells
 go_wp2_with fail
 refine (Bh B kb tb toff cap ts ⟨slots,seen,true⟩ vars i x 0 x.n x.m _ (.inr rfl) (CC2.out).rl HX.out (CC2.out).nodes hl).mono ?_
 rintro e w3 ⟨rfl,h3,f3⟩
 have CC3:=Lh ((CC2.out).step (by simp) h3 f3)
 clear h3 f3 e0 e3 ef d0 d2 d3
 obtain⟨e0,e3,ef,d0,d2,d3⟩:=CC3.out.cells
 have e3:w3.cell? ⟨kb,3,none⟩=some (.bool true):=e3
 go_wp2_with fail
 refine bodyPost_ret (results_none rfl _ _ _) rfl ?_
 exact ⟨rfl,CC3.out.rl,CC3.out.fr⟩
theorem Ps (hop:x.op=15) (e1:(((Am ts i).length:Int) == 2)=true) (dd1:decide (0≤x.n)=false) :
  Calls Tryz.prog 207 #[.pointer (some ⟨kb,0,none⟩),.int .i64 i] w fun e w'=>e=.returned (.tuple #[])∧(RL w' B kb (.slice (some ⟨tb,toff,none⟩) ts.length cap) vars ⟨slots,seen,true⟩)∧Frm B [158,118,160] w w':=by
 obtain⟨c0,c1,c2,c3,c4,c5,c6⟩:=hn.all hx
 obtain⟨k0,k3,kf⟩:=h.cells
 simp only at k3
 obtain⟨hB,hks⟩:=h.size
 have hki:=AH B kb tb toff cap ts i x vars ⟨slots,seen,false⟩ w h hn htb hi hl
 obtain⟨n,hnk⟩:∃ n,(Am ts i).length=n:=⟨_,rfl⟩
 rw [hnk] at hki
 obtain⟨HKI,HNK,HX,HS,HBE,HT,H⟩:=Hd7 hki hnk hx hs hbe htxt h
 have hop2:=hop
 have q14:(x.op == 14)=false:=Ao (by omega)
 have q15:(x.op == 15)=true:=AB hop
 clear hop hop2
 rw [hnk] at e1
 clear h hn hki hx hs hbe htxt
 go_in
 go_wp2_with fail
 refine HKI.out.mono ?_
 rintro e w1 ⟨A,c,base,rfl,C1⟩
 obtain⟨e0,e3,ef,d0,d2,d3⟩:=C1.cells
 obtain⟨Av1,cv1,kv1,kw1,hcv1,hcm1⟩:=C1.rl.varsCell
 have CC1:=Lh C1
 have hz1:=C1.rl.size
 clear C1
 go_wp2_with fail
 refine (Cd B kb _ vars ⟨slots,seen,false⟩ _ _ (CC1.out).rl (.inl rfl)).mono ?_
 rintro e w2 ⟨rfl,h2,f2⟩
 have CC2:=Lh ((CC1.out).step (by simp) h2 f2)
 clear h2 f2 e0 e3 ef d0 d2 d3
 obtain⟨e0,e3,ef,d0,d2,d3⟩:=CC2.out.cells
 go_wp2_with fail
 refine (Bh B kb tb toff cap ts ⟨slots,seen,true⟩ vars i x 0 x.n x.m _ (.inr rfl) (CC2.out).rl HX.out (CC2.out).nodes hl).mono ?_
 rintro e w3 ⟨rfl,h3,f3⟩
 have CC3:=Lh ((CC2.out).step (by simp) h3 f3)
 clear h3 f3 e0 e3 ef d0 d2 d3
 obtain⟨e0,e3,ef,d0,d2,d3⟩:=CC3.out.cells
 have e3:w3.cell? ⟨kb,3,none⟩=some (.bool true):=e3
 go_wp2_with fail
 refine bodyPost_ret (results_none rfl _ _ _) rfl ?_
 exact ⟨rfl,CC3.out.rl,CC3.out.fr⟩
theorem O9 (hop:x.op=15) (e1:(((Am ts i).length:Int) == 2)=true) (dd1:decide (0≤x.n)=true) (dd3:(x.m == wrap64 (x.n + 1))=false) :
  Calls Tryz.prog 207 #[.pointer (some ⟨kb,0,none⟩),.int .i64 i] w fun e w'=>e=.returned (.tuple #[])∧(RL w' B kb (.slice (some ⟨tb,toff,none⟩) ts.length cap) vars ⟨slots,seen,true⟩)∧Frm B [158,118,160] w w':=by
 obtain⟨c0,c1,c2,c3,c4,c5,c6⟩:=hn.all hx
 obtain⟨k0,k3,kf⟩:=h.cells
 simp only at k3
 obtain⟨hB,hks⟩:=h.size
 have hki:=AH B kb tb toff cap ts i x vars ⟨slots,seen,false⟩ w h hn htb hi hl
 obtain⟨n,hnk⟩:∃ n,(Am ts i).length=n:=⟨_,rfl⟩
 rw [hnk] at hki
 obtain⟨HKI,HNK,HX,HS,HBE,HT,H⟩:=Hd7 hki hnk hx hs hbe htxt h
 have hop2:=hop
 have q14:(x.op == 14)=false:=Ao (by omega)
 have q15:(x.op == 15)=true:=AB hop
 clear hop hop2
 rw [hnk] at e1
 clear h hn hki hx hs hbe htxt
 go_in
 go_wp2_with fail
 refine HKI.out.mono ?_
 rintro e w1 ⟨A,c,base,rfl,C1⟩
 obtain⟨e0,e3,ef,d0,d2,d3⟩:=C1.cells
 obtain⟨Av1,cv1,kv1,kw1,hcv1,hcm1⟩:=C1.rl.varsCell
 have CC1:=Lh C1
 have hz1:=C1.rl.size
 clear C1
 go_wp2_with fail
 refine (Cd B kb _ vars ⟨slots,seen,false⟩ _ _ (CC1.out).rl (.inl rfl)).mono ?_
 rintro e w2 ⟨rfl,h2,f2⟩
 have CC2:=Lh ((CC1.out).step (by simp) h2 f2)
 clear h2 f2 e0 e3 ef d0 d2 d3
 obtain⟨e0,e3,ef,d0,d2,d3⟩:=CC2.out.cells
 go_wp2_with fail
 refine (Bh B kb tb toff cap ts ⟨slots,seen,true⟩ vars i x 0 x.n x.m _ (.inr rfl) (CC2.out).rl HX.out (CC2.out).nodes hl).mono ?_
 rintro e w3 ⟨rfl,h3,f3⟩
 have CC3:=Lh ((CC2.out).step (by simp) h3 f3)
 clear h3 f3 e0 e3 ef d0 d2 d3
 obtain⟨e0,e3,ef,d0,d2,d3⟩:=CC3.out.cells
 have e3:w3.cell? ⟨kb,3,none⟩=some (.bool true):=e3
 go_wp2_with fail
 refine bodyPost_ret (results_none rfl _ _ _) rfl ?_
 exact ⟨rfl,CC3.out.rl,CC3.out.fr⟩
theorem Nc (hop:x.op=15) (e1:(((Am ts i).length:Int) == 2)=true) (dd1:decide (0≤x.n)=true) (dd3:(x.m == wrap64 (x.n + 1))=true) (hli:AO x 0 x.n x.m=false) :
  Calls Tryz.prog 207 #[.pointer (some ⟨kb,0,none⟩),.int .i64 i] w fun e w'=>e=.returned (.tuple #[])∧(RL w' B kb (.slice (some ⟨tb,toff,none⟩) ts.length cap) vars ⟨slots,seen,true⟩)∧Frm B [158,118,160] w w':=by
 obtain⟨c0,c1,c2,c3,c4,c5,c6⟩:=hn.all hx
 obtain⟨k0,k3,kf⟩:=h.cells
 simp only at k3
 obtain⟨hB,hks⟩:=h.size
 have hki:=AH B kb tb toff cap ts i x vars ⟨slots,seen,false⟩ w h hn htb hi hl
 obtain⟨n,hnk⟩:∃ n,(Am ts i).length=n:=⟨_,rfl⟩
 rw [hnk] at hki
 obtain⟨HKI,HNK,HX,HS,HBE,HT,H⟩:=Hd7 hki hnk hx hs hbe htxt h
 have hop2:=hop
 have q14:(x.op == 14)=false:=Ao (by omega)
 have q15:(x.op == 15)=true:=AB hop
 clear hop hop2
 rw [hnk] at e1
 have HLI:=Lh hli
 clear hli
 clear h hn hki hx hs hbe htxt
 go_in
 go_wp2_with fail
 refine HKI.out.mono ?_
 rintro e w1 ⟨A,c,base,rfl,C1⟩
 obtain⟨e0,e3,ef,d0,d2,d3⟩:=C1.cells
 obtain⟨Av1,cv1,kv1,kw1,hcv1,hcm1⟩:=C1.rl.varsCell
 have CC1:=Lh C1
 have hz1:=C1.rl.size
 clear C1
 go_wp2_with fail
 refine (Bx B kb _ vars ⟨slots,seen,false⟩ _ (CC1.out).rl).mono ?_
 rintro e w2 ⟨rfl,h2,f2⟩
 have CC2:=Lh ((CC1.out).step (by simp) h2 f2)
 clear h2 f2 e0 e3 ef d0 d2 d3
 obtain⟨e0,e3,ef,d0,d2,d3⟩:=CC2.out.cells
 go_wp2_with fail
 refine (Bh B kb tb toff cap ts ⟨slots,seen,false⟩ vars i x 0 x.n x.m _ (.inl HLI.out) (CC2.out).rl HX.out (CC2.out).nodes hl).mono ?_
 rintro e w3 ⟨rfl,h3,f3⟩
 have CC3:=Lh ((CC2.out).step (by simp) h3 f3)
 clear h3 f3 e0 e3 ef d0 d2 d3
 obtain⟨e0,e3,ef,d0,d2,d3⟩:=CC3.out.cells
 have e3:w3.cell? ⟨kb,3,none⟩=some (.bool true):=e3
 go_wp2_with fail
 refine bodyPost_ret (results_none rfl _ _ _) rfl ?_
 exact ⟨rfl,CC3.out.rl,CC3.out.fr⟩
theorem OK (hop:x.op=16) (e1:(((Am ts i).length:Int) == 2)=false) (e2:(((Am ts i).length:Int) == 3)=false) :
  Calls Tryz.prog 207 #[.pointer (some ⟨kb,0,none⟩),.int .i64 i] w fun e w'=>e=.returned (.tuple #[])∧(RL w' B kb (.slice (some ⟨tb,toff,none⟩) ts.length cap) vars ⟨slots,seen,true⟩)∧Frm B [158,118,160] w w':=by
 obtain⟨c0,c1,c2,c3,c4,c5,c6⟩:=hn.all hx
 obtain⟨k0,k3,kf⟩:=h.cells
 simp only at k3
 obtain⟨hB,hks⟩:=h.size
 have hki:=AH B kb tb toff cap ts i x vars ⟨slots,seen,false⟩ w h hn htb hi hl
 obtain⟨n,hnk⟩:∃ n,(Am ts i).length=n:=⟨_,rfl⟩
 rw [hnk] at hki
 obtain⟨HKI,HNK,HX,HS,HBE,HT,H⟩:=Hd7 hki hnk hx hs hbe htxt h
 have hop2:=hop
 have q14:(x.op == 14)=false:=Ao (by omega)
 have q15:(x.op == 15)=false:=Ao (by omega)
 have q16:(x.op == 16)=true:=AB hop
 clear hop hop2
 rw [hnk] at e1
 rw [hnk] at e2
 clear h hn hki hx hs hbe htxt
 go_in
 go_wp2_with fail
 refine HKI.out.mono ?_
 rintro e w1 ⟨A,c,base,rfl,C1⟩
 obtain⟨e0,e3,ef,d0,d2,d3⟩:=C1.cells
 obtain⟨Av1,cv1,kv1,kw1,hcv1,hcm1⟩:=C1.rl.varsCell
 have CC1:=Lh C1
 have hz1:=C1.rl.size
 clear C1
 go_wp2_with fail
 refine (Cd B kb _ vars ⟨slots,seen,false⟩ _ _ (CC1.out).rl (.inl rfl)).mono ?_
 rintro e w2 ⟨rfl,h2,f2⟩
 have CC2:=Lh ((CC1.out).step (by simp) h2 f2)
 clear h2 f2 e0 e3 ef d0 d2 d3
 obtain⟨e0,e3,ef,d0,d2,d3⟩:=CC2.out.cells
 go_wp2_with fail
 refine (Bh B kb tb toff cap ts ⟨slots,seen,true⟩ vars i x 0 x.n 0 _ (.inr rfl) (CC2.out).rl HX.out (CC2.out).nodes hl).mono ?_
 rintro e w3 ⟨rfl,h3,f3⟩
 have CC3:=Lh ((CC2.out).step (by simp) h3 f3)
 clear h3 f3 e0 e3 ef d0 d2 d3
 obtain⟨e0,e3,ef,d0,d2,d3⟩:=CC3.out.cells
 have e3:w3.cell? ⟨kb,3,none⟩=some (.bool true):=e3
 go_wp2_with fail
 refine bodyPost_ret (results_none rfl _ _ _) rfl ?_
 exact ⟨rfl,CC3.out.rl,CC3.out.fr⟩
theorem N8 (hop:x.op=16) (e1:(((Am ts i).length:Int) == 2)=true) (hli:AO x 0 x.n 0=false) :
  Calls Tryz.prog 207 #[.pointer (some ⟨kb,0,none⟩),.int .i64 i] w fun e w'=>e=.returned (.tuple #[])∧(RL w' B kb (.slice (some ⟨tb,toff,none⟩) ts.length cap) vars ⟨slots,seen,true⟩)∧Frm B [158,118,160] w w':=by
 obtain⟨c0,c1,c2,c3,c4,c5,c6⟩:=hn.all hx
 obtain⟨k0,k3,kf⟩:=h.cells
 simp only at k3
 obtain⟨hB,hks⟩:=h.size
 have hki:=AH B kb tb toff cap ts i x vars ⟨slots,seen,false⟩ w h hn htb hi hl
 obtain⟨n,hnk⟩:∃ n,(Am ts i).length=n:=⟨_,rfl⟩
 rw [hnk] at hki
 obtain⟨HKI,HNK,HX,HS,HBE,HT,H⟩:=Hd7 hki hnk hx hs hbe htxt h
 have hop2:=hop
 have q14:(x.op == 14)=false:=Ao (by omega)
 have q15:(x.op == 15)=false:=Ao (by omega)
 have q16:(x.op == 16)=true:=AB hop
 clear hop hop2
 rw [hnk] at e1
 have HLI:=Lh hli
 clear hli
 clear h hn hki hx hs hbe htxt
 go_in
 go_wp2_with fail
 refine HKI.out.mono ?_
 rintro e w1 ⟨A,c,base,rfl,C1⟩
 obtain⟨e0,e3,ef,d0,d2,d3⟩:=C1.cells
 obtain⟨Av1,cv1,kv1,kw1,hcv1,hcm1⟩:=C1.rl.varsCell
 have CC1:=Lh C1
 have hz1:=C1.rl.size
 clear C1
 go_wp2_with fail
 refine (Bx B kb _ vars ⟨slots,seen,false⟩ _ (CC1.out).rl).mono ?_
 rintro e w2 ⟨rfl,h2,f2⟩
 have CC2:=Lh ((CC1.out).step (by simp) h2 f2)
 clear h2 f2 e0 e3 ef d0 d2 d3
 obtain⟨e0,e3,ef,d0,d2,d3⟩:=CC2.out.cells
 go_wp2_with fail
 refine (Bh B kb tb toff cap ts ⟨slots,seen,false⟩ vars i x 0 x.n 0 _ (.inl HLI.out) (CC2.out).rl HX.out (CC2.out).nodes hl).mono ?_
 rintro e w3 ⟨rfl,h3,f3⟩
 have CC3:=Lh ((CC2.out).step (by simp) h3 f3)
 clear h3 f3 e0 e3 ef d0 d2 d3
 obtain⟨e0,e3,ef,d0,d2,d3⟩:=CC3.out.cells
 have e3:w3.cell? ⟨kb,3,none⟩=some (.bool true):=e3
 go_wp2_with fail
 refine bodyPost_ret (results_none rfl _ _ _) rfl ?_
 exact ⟨rfl,CC3.out.rl,CC3.out.fr⟩
theorem Ml (hop:x.op=16) (e1:(((Am ts i).length:Int) == 2)=false) (e2:(((Am ts i).length:Int) == 3)=true) (hli:AO x 0 x.n 0=false) :
  Calls Tryz.prog 207 #[.pointer (some ⟨kb,0,none⟩),.int .i64 i] w fun e w'=>e=.returned (.tuple #[])∧(RL w' B kb (.slice (some ⟨tb,toff,none⟩) ts.length cap) vars ⟨slots,seen,true⟩)∧Frm B [158,118,160] w w':=by
 obtain⟨c0,c1,c2,c3,c4,c5,c6⟩:=hn.all hx
 obtain⟨k0,k3,kf⟩:=h.cells
 simp only at k3
 obtain⟨hB,hks⟩:=h.size
 have hki:=AH B kb tb toff cap ts i x vars ⟨slots,seen,false⟩ w h hn htb hi hl
 obtain⟨n,hnk⟩:∃ n,(Am ts i).length=n:=⟨_,rfl⟩
 rw [hnk] at hki
 obtain⟨HKI,HNK,HX,HS,HBE,HT,H⟩:=Hd7 hki hnk hx hs hbe htxt h
 have hop2:=hop
 have q14:(x.op == 14)=false:=Ao (by omega)
 have q15:(x.op == 15)=false:=Ao (by omega)
 have q16:(x.op == 16)=true:=AB hop
 clear hop hop2
 rw [hnk] at e1
 rw [hnk] at e2
 have HLI:=Lh hli
 clear hli
 clear h hn hki hx hs hbe htxt
 go_in
 go_wp2_with fail
 refine HKI.out.mono ?_
 rintro e w1 ⟨A,c,base,rfl,C1⟩
 obtain⟨e0,e3,ef,d0,d2,d3⟩:=C1.cells
 obtain⟨Av1,cv1,kv1,kw1,hcv1,hcm1⟩:=C1.rl.varsCell
 have CC1:=Lh C1
 have hz1:=C1.rl.size
 clear C1
 go_wp2_with fail
 refine (Bx B kb _ vars ⟨slots,seen,false⟩ _ (CC1.out).rl).mono ?_
 rintro e w2 ⟨rfl,h2,f2⟩
 have CC2:=Lh ((CC1.out).step (by simp) h2 f2)
 clear h2 f2 e0 e3 ef d0 d2 d3
 obtain⟨e0,e3,ef,d0,d2,d3⟩:=CC2.out.cells
 go_wp2_with fail
 refine (Bh B kb tb toff cap ts ⟨slots,seen,false⟩ vars i x 0 x.n 0 _ (.inl HLI.out) (CC2.out).rl HX.out (CC2.out).nodes hl).mono ?_
 rintro e w3 ⟨rfl,h3,f3⟩
 have CC3:=Lh ((CC2.out).step (by simp) h3 f3)
 clear h3 f3 e0 e3 ef d0 d2 d3
 obtain⟨e0,e3,ef,d0,d2,d3⟩:=CC3.out.cells
 have e3:w3.cell? ⟨kb,3,none⟩=some (.bool true):=e3
 go_wp2_with fail
 refine bodyPost_ret (results_none rfl _ _ _) rfl ?_
 exact ⟨rfl,CC3.out.rl,CC3.out.fr⟩
end
section
variable (B kb tb toff cap:Nat) (ts:List Au) (htb:tb < B) (hl:ts.length≤2000) (htxt:∀ y∈ts,y.text.size≤1099511627776) (i:Nat) (x:Au) (hi:i < ts.length) (hbe:0≤Ap ts i) (hx:ts[i]? = some x) (vars:List Vr) (slots:List Int) (seen:Int→Option Value) (w:World) (hs:slots.length≤2 + 3 * i) (h:RL w B kb (.slice (some ⟨tb,toff,none⟩) ts.length cap) vars ⟨slots,seen,false⟩) (hn:As w tb toff ts)
include B kb tb toff cap ts htb hl htxt i x hi hbe hx vars slots seen w hs h hn
theorem Rp (hop:x.op=15) (hr1:decide (0≤x.n)=true) (hw:(x.m == wrap64 (x.n + 1))=true) (hli:AO x 0 x.n x.m=true) (j b:Nat) (hj:Am ts i=[j,b]) (recS recB:Nat→LSt→LSt) (hB13:∀ j∈Am ts i,B13 B kb tb toff cap ts recB j) :
  Calls Tryz.prog 207 #[.pointer (some ⟨kb,0,none⟩),.int .i64 i] w fun e w'=>e=.returned (.tuple #[])∧(RL w' B kb (.slice (some ⟨tb,toff,none⟩) ts.length cap) vars (forget x.n (AS ts recS recB 0 [b] (AE x.n false [3,6,1] (AD ts j 6 ⟨slots,seen,false⟩)))))∧Frm B [158,118,160] w w':=by
 have hj0:=hj
 have h0:=h
 obtain⟨c0,c1,c2,c3,c4,c5,c6⟩:=hn.all hx
 obtain⟨k0,k3,kf⟩:=h.cells
 simp only at k3
 obtain⟨hB,hks⟩:=h.size
 have hki:=AH B kb tb toff cap ts i x vars ⟨slots,seen,false⟩ w h hn htb hi hl
 have hnk:(Am ts i).length=2:=by rw [hj];rfl
 rw [hnk] at hki
 have HJ0:Hid ((Am ts i)[0]? = some j):=by rw [hj];rfl
 have hko0:=AU (ts:=ts) (i:=i) (j:=j) (by rw [hj];simp)
 have HKO0:=Lh hko0
 clear hko0
 have HJ1:Hid ((Am ts i)[1]? = some b):=by rw [hj];rfl
 have hko1:=AU (ts:=ts) (i:=i) (j:=b) (by rw [hj];simp)
 have HKO1:=Lh hko1
 clear hko1
 obtain⟨HKI,HNK,HX,HS,HBE,HT,H,HJ⟩:=Hd8 hki hnk hx hs hbe htxt h hj
 clear hj
 have hop2:=hop
 have q14:(x.op == 14)=false:=Ao (by omega)
 have q15:(x.op == 15)=true:=AB hop
 clear hop hop2
 have HLI:=Lh hli
 clear hli
 obtain⟨HEB,HI⟩:=Hd2 (hB13 b (by rw [hj0];simp)) h0.good.2
 have HDL:Hid ((AE x.n false [3,6,1] (AD ts j 6 ⟨slots,seen,false⟩)).slots.length≤slots.length + 3):=Lh (B7 x.n false [3,6,1] (AD ts j 6 ⟨slots,seen,false⟩))
 obtain⟨R,hR⟩:=Ex0 (forget x.n (AS ts recS recB 0 [b] (AE x.n false [3,6,1] (AD ts j 6 ⟨slots,seen,false⟩))))
 rw [← hR]
 have hR2:R=forget x.n (if (AE x.n false [3,6,1] (AD ts j 6 ⟨slots,seen,false⟩)).bad=true then AE x.n false [3,6,1] (AD ts j 6 ⟨slots,seen,false⟩) else recB b (AE x.n false [3,6,1] (AD ts j 6 ⟨slots,seen,false⟩))):=by
  rw [hR,AS,AS]
  split
  ·rfl
  ·rw [if_neg (by rintro ⟨h,_⟩;cases h)]
 have HR:=Lh hR2
 have HRB:Hid ((AE x.n false [3,6,1] (AD ts j 6 ⟨slots,seen,false⟩)).bad=true→(forget x.n (if (AE x.n false [3,6,1] (AD ts j 6 ⟨slots,seen,false⟩)).bad=true then AE x.n false [3,6,1] (AD ts j 6 ⟨slots,seen,false⟩) else recB b (AE x.n false [3,6,1] (AD ts j 6 ⟨slots,seen,false⟩)))).bad=true):=fun hb=>by rw [if_pos hb];exact hb
 clear hR hR2 hB13 hj0 h0
 clear h hn hki hx hs hbe htxt hnk
 go_in
 go_wp2_with fail
 refine HKI.out.mono ?_
 rintro e w1 ⟨A,c,base,rfl,C1⟩
 obtain⟨gk,rfl⟩:=C1.form (by decide)
 obtain⟨e0,e3,ef,d0,d2,d3⟩:=C1.cells
 obtain⟨Av1,cv1,kv1,kw1,hcv1,hcm1⟩:=C1.rl.varsCell
 have g0:=C1.kid 0 j HJ0.out
 have g1:=C1.kid 1 b HJ1.out
 have CC1:=Lh C1
 have hz1:=C1.rl.size
 clear C1
 go_wp2_with fail
 refine (Bx B kb _ vars ⟨slots,seen,false⟩ _ (CC1.out).rl).mono ?_
 rintro e w2 ⟨rfl,h2,f2⟩
 have CC2:=Lh ((CC1.out).step (by simp) h2 f2)
 clear h2 f2 e0 e3 ef d0 d2 d3
 obtain⟨e0,e3,ef,d0,d2,d3⟩:=CC2.out.cells
 clear g0
 have g0:=CC2.out.kid 0 j HJ0.out
 clear g1
 have g1:=CC2.out.kid 1 b HJ1.out
 go_wp2_with fail
 refine (CK B kb tb toff cap ts ⟨slots,seen,false⟩ vars i x 0 x.n x.m _ HLI.out (CC2.out).rl HX.out (CC2.out).nodes hl).mono ?_
 rintro e w3 ⟨rfl,h3,f3⟩
 have CC3:=Lh ((CC2.out).step (by simp) h3 f3)
 clear h3 f3 e0 e3 ef d0 d2 d3
 obtain⟨e0,e3,ef,d0,d2,d3⟩:=CC3.out.cells
 clear g0
 have g0:=CC3.out.kid 0 j HJ0.out
 clear g1
 have g1:=CC3.out.kid 1 b HJ1.out
 go_wp2_with fail
 refine (Db B kb tb toff cap ts (by omega) htb HT.out j 6 slots vars seen _ HKO0.out.2.1 HKO0.out.2.2.1 (Nat.le_trans HS.out (by omega)) (CC3.out).rl (CC3.out).nodes).mono ?_
 rintro e w4 ⟨rfl,h4,f4⟩
 have CC4:=Lh ((CC3.out).step (by simp) h4 f4)
 clear h4 f4 e0 e3 ef d0 d2 d3
 obtain⟨e0,e3,ef,d0,d2,d3⟩:=CC4.out.cells
 clear g0
 have g0:=CC4.out.kid 0 j HJ0.out
 clear g1
 have g1:=CC4.out.kid 1 b HJ1.out
 go_wp2_with fail
 refine (Cp B kb x.n false [3,6,1] w4.heap.size 3 (AD ts j 6 ⟨slots,seen,false⟩) vars _ _ (Nat.le_trans HS.out (by omega)) (by simp) (by simp) ((CC4.out).alloc _).rl (Blk.new w4 118 #[.int .i8 3,.int .i8 6,.int .i8 1]) (by simp)).mono ?_
 rintro e w5 ⟨rfl,h5,f5⟩
 have CC5:=Lh (((CC4.out).alloc _).step (by simp) h5 f5)
 clear h5 f5 e0 e3 ef d0 d2 d3
 obtain⟨e0,e3,ef,d0,d2,d3⟩:=CC5.out.cells
 clear g0
 have g0:=CC5.out.kid 0 j HJ0.out
 clear g1
 have g1:=CC5.out.kid 1 b HJ1.out
 cases hdb:(AE x.n false [3,6,1] (AD ts j 6 ⟨slots,seen,false⟩)).bad with
 | true =>
  rw [hdb] at e3
  have HDB:=Lh hdb
  clear hdb
  go_wp2_with fail
  refine bodyPost_ret (results_none rfl _ _ _) rfl ?_
  refine ⟨rfl,?_,CC5.out.fr⟩
  have hr:=CC5.out.rl
  rw [Ez HDB.out,List.append_nil] at hr
  refine hr.toBad HDB.out ?_
  rw [HR.out]
  exact HRB.out HDB.out
 | false =>
  rw [hdb] at e3
  have HDB:=Lh hdb
  clear hdb
  go_wp2_with fail
  refine (HEB.out (vars ++ (Fi x.n false [3,6,1] (AD ts j 6 ⟨slots,seen,false⟩))) (AE x.n false [3,6,1] (AD ts j 6 ⟨slots,seen,false⟩)) _ (fun _=>by have:=HDL.out;have:=HS.out;have:=HKO1.out.1;omega) CC5.out.rl CC5.out.nodes).mono ?_
  rintro e w6 ⟨rfl,h6,f6⟩
  have CC6:=Lh ((CC5.out).step (by simp) h6 f6)
  clear h6 f6 e0 e3 ef d0 d2 d3
  obtain⟨e0,e3,ef,d0,d2,d3⟩:=CC6.out.cells
  obtain⟨Av2,cv2,kv2,kw2,hcv2,hcm2⟩:=CC6.out.rl.varsCell
  have hclo:=CC6.out.rl.closed (R:=R) kv2 (k:=slots.length) (fun _ v hv=>((HI.out.lt v hv)).2) (fun v hv=>Iv hv) (fun hb=>by rw [HR.out];exact hb) (fun hb=>by rw [HR.out,GQ,GK HDB.out])
  have HCLO:=Lh hclo
  obtain⟨ne,hne⟩:∃ ne,(vars ++ (Fi x.n false [3,6,1] (AD ts j 6 ⟨slots,seen,false⟩))).length=ne:=⟨_,rfl⟩
  have hnve:vars.length≤ne:=by rw [← hne,List.length_append];omega
  rw [hne] at kv2 hcv2
  have HNE:=Lh hne
  clear hclo hne
  clear g0
  have g0:=CC6.out.kid 0 j HJ0.out
  clear g1
  have g1:=CC6.out.kid 1 b HJ1.out
  go_wp2_with fail
  go_end0
  obtain⟨g1,g2⟩:=HCLO.out
  exact ⟨rfl,g1,CC6.out.fr.trans (g2.more (by simp))⟩
theorem Na (hop:x.op=16) (hli:AO x 0 x.n 0=true) (j b:Nat) (hj:Am ts i=[j,b]) (recS recB:Nat→LSt→LSt) (hB13:∀ j∈Am ts i,B13 B kb tb toff cap ts recB j) :
  Calls Tryz.prog 207 #[.pointer (some ⟨kb,0,none⟩),.int .i64 i] w fun e w'=>e=.returned (.tuple #[])∧(RL w' B kb (.slice (some ⟨tb,toff,none⟩) ts.length cap) vars (forget x.n (AS ts recS recB 0 [b] (AE x.n false [3] (AD ts j 6 ⟨slots,seen,false⟩)))))∧Frm B [158,118,160] w w':=by
 have hj0:=hj
 have h0:=h
 obtain⟨c0,c1,c2,c3,c4,c5,c6⟩:=hn.all hx
 obtain⟨k0,k3,kf⟩:=h.cells
 simp only at k3
 obtain⟨hB,hks⟩:=h.size
 have hki:=AH B kb tb toff cap ts i x vars ⟨slots,seen,false⟩ w h hn htb hi hl
 have hnk:(Am ts i).length=2:=by rw [hj];rfl
 rw [hnk] at hki
 have HJ0:Hid ((Am ts i)[0]? = some j):=by rw [hj];rfl
 have hko0:=AU (ts:=ts) (i:=i) (j:=j) (by rw [hj];simp)
 have HKO0:=Lh hko0
 clear hko0
 have HJ1:Hid ((Am ts i)[1]? = some b):=by rw [hj];rfl
 have hko1:=AU (ts:=ts) (i:=i) (j:=b) (by rw [hj];simp)
 have HKO1:=Lh hko1
 clear hko1
 obtain⟨HKI,HNK,HX,HS,HBE,HT,H,HJ⟩:=Hd8 hki hnk hx hs hbe htxt h hj
 clear hj
 have hop2:=hop
 have q14:(x.op == 14)=false:=Ao (by omega)
 have q15:(x.op == 15)=false:=Ao (by omega)
 have q16:(x.op == 16)=true:=AB hop
 clear hop hop2
 have HLI:=Lh hli
 clear hli
 obtain⟨HEB,HI⟩:=Hd2 (hB13 b (by rw [hj0];simp)) h0.good.2
 have HDL:Hid ((AE x.n false [3] (AD ts j 6 ⟨slots,seen,false⟩)).slots.length≤slots.length + 1):=Lh (B7 x.n false [3] (AD ts j 6 ⟨slots,seen,false⟩))
 obtain⟨R,hR⟩:=Ex0 (forget x.n (AS ts recS recB 0 [b] (AE x.n false [3] (AD ts j 6 ⟨slots,seen,false⟩))))
 rw [← hR]
 have hR2:R=forget x.n (if (AE x.n false [3] (AD ts j 6 ⟨slots,seen,false⟩)).bad=true then AE x.n false [3] (AD ts j 6 ⟨slots,seen,false⟩) else recB b (AE x.n false [3] (AD ts j 6 ⟨slots,seen,false⟩))):=by
  rw [hR,AS,AS]
  split
  ·rfl
  ·rw [if_neg (by rintro ⟨h,_⟩;cases h)]
 have HR:=Lh hR2
 have HRB:Hid ((AE x.n false [3] (AD ts j 6 ⟨slots,seen,false⟩)).bad=true→(forget x.n (if (AE x.n false [3] (AD ts j 6 ⟨slots,seen,false⟩)).bad=true then AE x.n false [3] (AD ts j 6 ⟨slots,seen,false⟩) else recB b (AE x.n false [3] (AD ts j 6 ⟨slots,seen,false⟩)))).bad=true):=fun hb=>by rw [if_pos hb];exact hb
 clear hR hR2 hB13 hj0 h0
 clear h hn hki hx hs hbe htxt hnk
 go_in
 go_wp2_with fail
 refine HKI.out.mono ?_
 rintro e w1 ⟨A,c,base,rfl,C1⟩
 obtain⟨gk,rfl⟩:=C1.form (by decide)
 obtain⟨e0,e3,ef,d0,d2,d3⟩:=C1.cells
 obtain⟨Av1,cv1,kv1,kw1,hcv1,hcm1⟩:=C1.rl.varsCell
 have g0:=C1.kid 0 j HJ0.out
 have g1:=C1.kid 1 b HJ1.out
 have CC1:=Lh C1
 have hz1:=C1.rl.size
 clear C1
 go_wp2_with fail
 refine (Bx B kb _ vars ⟨slots,seen,false⟩ _ (CC1.out).rl).mono ?_
 rintro e w2 ⟨rfl,h2,f2⟩
 have CC2:=Lh ((CC1.out).step (by simp) h2 f2)
 clear h2 f2 e0 e3 ef d0 d2 d3
 obtain⟨e0,e3,ef,d0,d2,d3⟩:=CC2.out.cells
 clear g0
 have g0:=CC2.out.kid 0 j HJ0.out
 clear g1
 have g1:=CC2.out.kid 1 b HJ1.out
 go_wp2_with fail
 refine (CK B kb tb toff cap ts ⟨slots,seen,false⟩ vars i x 0 x.n 0 _ HLI.out (CC2.out).rl HX.out (CC2.out).nodes hl).mono ?_
 rintro e w3 ⟨rfl,h3,f3⟩
 have CC3:=Lh ((CC2.out).step (by simp) h3 f3)
 clear h3 f3 e0 e3 ef d0 d2 d3
 obtain⟨e0,e3,ef,d0,d2,d3⟩:=CC3.out.cells
 clear g0
 have g0:=CC3.out.kid 0 j HJ0.out
 clear g1
 have g1:=CC3.out.kid 1 b HJ1.out
 go_wp2_with fail
 refine (Db B kb tb toff cap ts (by omega) htb HT.out j 6 slots vars seen _ HKO0.out.2.1 HKO0.out.2.2.1 (Nat.le_trans HS.out (by omega)) (CC3.out).rl (CC3.out).nodes).mono ?_
 rintro e w4 ⟨rfl,h4,f4⟩
 have CC4:=Lh ((CC3.out).step (by simp) h4 f4)
 clear h4 f4 e0 e3 ef d0 d2 d3
 obtain⟨e0,e3,ef,d0,d2,d3⟩:=CC4.out.cells
 clear g0
 have g0:=CC4.out.kid 0 j HJ0.out
 clear g1
 have g1:=CC4.out.kid 1 b HJ1.out
 go_wp2_with fail
 refine (Cp B kb x.n false [3] w4.heap.size 1 (AD ts j 6 ⟨slots,seen,false⟩) vars _ _ (Nat.le_trans HS.out (by omega)) (by simp) (by simp) ((CC4.out).alloc _).rl (Blk.new w4 118 #[.int .i8 3]) (by simp)).mono ?_
 rintro e w5 ⟨rfl,h5,f5⟩
 have CC5:=Lh (((CC4.out).alloc _).step (by simp) h5 f5)
 clear h5 f5 e0 e3 ef d0 d2 d3
 obtain⟨e0,e3,ef,d0,d2,d3⟩:=CC5.out.cells
 clear g0
 have g0:=CC5.out.kid 0 j HJ0.out
 clear g1
 have g1:=CC5.out.kid 1 b HJ1.out
 cases hdb:(AE x.n false [3] (AD ts j 6 ⟨slots,seen,false⟩)).bad with
 | true =>
  rw [hdb] at e3
  have HDB:=Lh hdb
  clear hdb
  go_wp2_with fail
  refine bodyPost_ret (results_none rfl _ _ _) rfl ?_
  refine ⟨rfl,?_,CC5.out.fr⟩
  have hr:=CC5.out.rl
  rw [Ez HDB.out,List.append_nil] at hr
  refine hr.toBad HDB.out ?_
  rw [HR.out]
  exact HRB.out HDB.out
 | false =>
  rw [hdb] at e3
  have HDB:=Lh hdb
  clear hdb
  go_wp2_with fail
  refine (HEB.out (vars ++ (Fi x.n false [3] (AD ts j 6 ⟨slots,seen,false⟩))) (AE x.n false [3] (AD ts j 6 ⟨slots,seen,false⟩)) _ (fun _=>by have:=HDL.out;have:=HS.out;have:=HKO1.out.1;omega) CC5.out.rl CC5.out.nodes).mono ?_
  rintro e w6 ⟨rfl,h6,f6⟩
  have CC6:=Lh ((CC5.out).step (by simp) h6 f6)
  clear h6 f6 e0 e3 ef d0 d2 d3
  obtain⟨e0,e3,ef,d0,d2,d3⟩:=CC6.out.cells
  obtain⟨Av2,cv2,kv2,kw2,hcv2,hcm2⟩:=CC6.out.rl.varsCell
  have hclo:=CC6.out.rl.closed (R:=R) kv2 (k:=slots.length) (fun _ v hv=>((HI.out.lt v hv)).2) (fun v hv=>Iv hv) (fun hb=>by rw [HR.out];exact hb) (fun hb=>by rw [HR.out,GQ,GK HDB.out])
  have HCLO:=Lh hclo
  obtain⟨ne,hne⟩:∃ ne,(vars ++ (Fi x.n false [3] (AD ts j 6 ⟨slots,seen,false⟩))).length=ne:=⟨_,rfl⟩
  have hnve:vars.length≤ne:=by rw [← hne,List.length_append];omega
  rw [hne] at kv2 hcv2
  have HNE:=Lh hne
  clear hclo hne
  clear g0
  have g0:=CC6.out.kid 0 j HJ0.out
  clear g1
  have g1:=CC6.out.kid 1 b HJ1.out
  go_wp2_with fail
  go_end0
  obtain⟨g1,g2⟩:=HCLO.out
  exact ⟨rfl,g1,CC6.out.fr.trans (g2.more (by simp))⟩
end
end Go.Proofs.YtmpcbaflcogmmaaGreatDoor
