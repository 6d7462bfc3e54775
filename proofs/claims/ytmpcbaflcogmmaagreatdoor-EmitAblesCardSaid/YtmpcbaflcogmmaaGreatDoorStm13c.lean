/- Stm13a Stm13b Stm13c -/
import Derived.Test.YtmpcbaflcogmmaaGreatDoorLoop13e
namespace Go.Proofs.YtmpcbaflcogmmaaGreatDoor
open Go.RowKit
set_option linter.all false
set_option maxHeartbeats 2000000
set_option maxRecDepth 100000
section
variable (B kb tb toff cap:Nat) (ts:List Au) (htb:tb < B) (hl:ts.length≤2000) (htxt:∀ y∈ts,y.text.size≤1099511627776) (i:Nat) (x:Au) (hi:i < ts.length) (hbe:0≤Ap ts i) (hx:ts[i]? = some x) (vars:List Vr) (slots:List Int) (seen:Int→Option Value) (w:World) (hs:slots.length≤2 + 3 * i) (h:RL w B kb (.slice (some ⟨tb,toff,none⟩) ts.length cap) vars ⟨slots,seen,false⟩) (hn:As w tb toff ts)
include B kb tb toff cap ts htb hl htxt i x hi hbe hx vars slots seen w hs h hn
theorem OC (hop:x.op=11) (e1:(((Am ts i).length:Int) == 1)=false) :
  Calls Tryz.prog 168 #[.pointer (some ⟨kb,0,none⟩),.int .i64 i] w fun e w'=>e=.returned (.tuple #[])∧(RL w' B kb (.slice (some ⟨tb,toff,none⟩) ts.length cap) vars ⟨slots,seen,true⟩)∧Frm B [158,118,160] w w':=by
 obtain⟨c0,c1,c2,c3,c4,c5,c6⟩:=hn.all hx
 obtain⟨k0,k3,kf⟩:=h.cells
 simp only at k3
 obtain⟨hB,hks⟩:=h.size
 have hki:=AH B kb tb toff cap ts i x vars ⟨slots,seen,false⟩ w h hn htb hi hl
 obtain⟨n,hnk⟩:∃ n,(Am ts i).length=n:=⟨_,rfl⟩
 rw [hnk] at hki
 obtain⟨HKI,HNK,HX,HS,HBE,HT,H⟩:=Hd7 hki hnk hx hs hbe htxt h
 have hop2:=hop
 have q11:(x.op == 11)=true:=AB hop
 clear hop hop2
 rw [hnk] at e1
 clear h hn hki hx hs hbe htxt
 go_in
 go_wp2_with fail
 refine HKI.out.mono ?_
 rintro e w1 ⟨A,c,base,rfl,C1⟩
 obtain⟨e0,e3,ef,d0,d2,d3⟩:=C1.cells
 have CC1:=Lh C1
 have hz1:=C1.rl.size
 clear C1
 go_wp2_with fail
 refine (Cd B kb _ vars ⟨slots,seen,false⟩ _ _ (CC1.out).rl (.inl rfl)).mono ?_
 rintro e w2 ⟨rfl,h2,f2⟩
 have CC2:=Lh ((CC1.out).step (by simp) h2 f2)
 clear h2 f2 e0 e3 ef d0 d2 d3
 obtain⟨e0,e3,ef,d0,d2,d3⟩:=CC2.out.cells
 go_wp2_with fail
 refine (Bh B kb tb toff cap ts ⟨slots,seen,true⟩ vars i x 0 x.n 0 _ (.inr rfl) (CC2.out).rl HX.out (CC2.out).nodes hl).mono ?_
 rintro e w3 ⟨rfl,h3,f3⟩
 have CC3:=Lh ((CC2.out).step (by simp) h3 f3)
 clear h3 f3 e0 e3 ef d0 d2 d3
 obtain⟨e0,e3,ef,d0,d2,d3⟩:=CC3.out.cells
 have e3:w3.cell? ⟨kb,3,none⟩=some (.bool true):=e3
 go_wp2_with fail
 refine bodyPost_ret (results_none rfl _ _ _) rfl ?_
 exact ⟨rfl,CC3.out.rl,CC3.out.fr⟩
theorem Nn (hop:x.op=11) (e1:(((Am ts i).length:Int) == 1)=true) (hli:AO x 0 x.n 0=false) :
  Calls Tryz.prog 168 #[.pointer (some ⟨kb,0,none⟩),.int .i64 i] w fun e w'=>e=.returned (.tuple #[])∧(RL w' B kb (.slice (some ⟨tb,toff,none⟩) ts.length cap) vars ⟨slots,seen,true⟩)∧Frm B [158,118,160] w w':=by
 obtain⟨c0,c1,c2,c3,c4,c5,c6⟩:=hn.all hx
 obtain⟨k0,k3,kf⟩:=h.cells
 simp only at k3
 obtain⟨hB,hks⟩:=h.size
 have hki:=AH B kb tb toff cap ts i x vars ⟨slots,seen,false⟩ w h hn htb hi hl
 obtain⟨n,hnk⟩:∃ n,(Am ts i).length=n:=⟨_,rfl⟩
 rw [hnk] at hki
 obtain⟨HKI,HNK,HX,HS,HBE,HT,H⟩:=Hd7 hki hnk hx hs hbe htxt h
 have hop2:=hop
 have q11:(x.op == 11)=true:=AB hop
 clear hop hop2
 rw [hnk] at e1
 have HLI:=Lh hli
 clear hli
 clear h hn hki hx hs hbe htxt
 go_in
 go_wp2_with fail
 refine HKI.out.mono ?_
 rintro e w1 ⟨A,c,base,rfl,C1⟩
 obtain⟨e0,e3,ef,d0,d2,d3⟩:=C1.cells
 have CC1:=Lh C1
 have hz1:=C1.rl.size
 clear C1
 go_wp2_with fail
 refine (Bx B kb _ vars ⟨slots,seen,false⟩ _ (CC1.out).rl).mono ?_
 rintro e w2 ⟨rfl,h2,f2⟩
 have CC2:=Lh ((CC1.out).step (by simp) h2 f2)
 clear h2 f2 e0 e3 ef d0 d2 d3
 obtain⟨e0,e3,ef,d0,d2,d3⟩:=CC2.out.cells
 go_wp2_with fail
 refine (Bh B kb tb toff cap ts ⟨slots,seen,false⟩ vars i x 0 x.n 0 _ (.inl HLI.out) (CC2.out).rl HX.out (CC2.out).nodes hl).mono ?_
 rintro e w3 ⟨rfl,h3,f3⟩
 have CC3:=Lh ((CC2.out).step (by simp) h3 f3)
 clear h3 f3 e0 e3 ef d0 d2 d3
 obtain⟨e0,e3,ef,d0,d2,d3⟩:=CC3.out.cells
 have e3:w3.cell? ⟨kb,3,none⟩=some (.bool true):=e3
 go_wp2_with fail
 refine bodyPost_ret (results_none rfl _ _ _) rfl ?_
 exact ⟨rfl,CC3.out.rl,CC3.out.fr⟩
theorem Of (hop:x.op=13) (e1:(((Am ts i).length:Int) == 2)=false) (e2:(((Am ts i).length:Int) == 3)=false) :
  Calls Tryz.prog 168 #[.pointer (some ⟨kb,0,none⟩),.int .i64 i] w fun e w'=>e=.returned (.tuple #[])∧(RL w' B kb (.slice (some ⟨tb,toff,none⟩) ts.length cap) vars ⟨slots,seen,true⟩)∧Frm B [158,118,160] w w':=by
 obtain⟨c0,c1,c2,c3,c4,c5,c6⟩:=hn.all hx
 obtain⟨k0,k3,kf⟩:=h.cells
 simp only at k3
 obtain⟨hB,hks⟩:=h.size
 have hki:=AH B kb tb toff cap ts i x vars ⟨slots,seen,false⟩ w h hn htb hi hl
 obtain⟨n,hnk⟩:∃ n,(Am ts i).length=n:=⟨_,rfl⟩
 rw [hnk] at hki
 obtain⟨HKI,HNK,HX,HS,HBE,HT,H⟩:=Hd7 hki hnk hx hs hbe htxt h
 have hop2:=hop
 have q11:(x.op == 11)=false:=Ao (by omega)
 have q12:(x.op == 12)=false:=Ao (by omega)
 have q13:(x.op == 13)=true:=AB hop
 clear hop hop2
 rw [hnk] at e1
 rw [hnk] at e2
 clear h hn hki hx hs hbe htxt
 go_in
 go_wp2_with fail
 refine HKI.out.mono ?_
 rintro e w1 ⟨A,c,base,rfl,C1⟩
 obtain⟨e0,e3,ef,d0,d2,d3⟩:=C1.cells
 have CC1:=Lh C1
 have hz1:=C1.rl.size
 clear C1
 go_wp2_with fail
 refine (Cd B kb _ vars ⟨slots,seen,false⟩ _ _ (CC1.out).rl (.inl rfl)).mono ?_
 rintro e w2 ⟨rfl,h2,f2⟩
 have CC2:=Lh ((CC1.out).step (by simp) h2 f2)
 clear h2 f2 e0 e3 ef d0 d2 d3
 obtain⟨e0,e3,ef,d0,d2,d3⟩:=CC2.out.cells
 go_wp2_with fail
 refine (Bh B kb tb toff cap ts ⟨slots,seen,true⟩ vars i x 0 0 0 _ (.inr rfl) (CC2.out).rl HX.out (CC2.out).nodes hl).mono ?_
 rintro e w3 ⟨rfl,h3,f3⟩
 have CC3:=Lh ((CC2.out).step (by simp) h3 f3)
 clear h3 f3 e0 e3 ef d0 d2 d3
 obtain⟨e0,e3,ef,d0,d2,d3⟩:=CC3.out.cells
 have e3:w3.cell? ⟨kb,3,none⟩=some (.bool true):=e3
 go_wp2_with fail
 refine bodyPost_ret (results_none rfl _ _ _) rfl ?_
 exact ⟨rfl,CC3.out.rl,CC3.out.fr⟩
theorem Ni (hop:x.op=13) (e1:(((Am ts i).length:Int) == 2)=true) (hli:AO x 0 0 0=false) :
  Calls Tryz.prog 168 #[.pointer (some ⟨kb,0,none⟩),.int .i64 i] w fun e w'=>e=.returned (.tuple #[])∧(RL w' B kb (.slice (some ⟨tb,toff,none⟩) ts.length cap) vars ⟨slots,seen,true⟩)∧Frm B [158,118,160] w w':=by
 obtain⟨c0,c1,c2,c3,c4,c5,c6⟩:=hn.all hx
 obtain⟨k0,k3,kf⟩:=h.cells
 simp only at k3
 obtain⟨hB,hks⟩:=h.size
 have hki:=AH B kb tb toff cap ts i x vars ⟨slots,seen,false⟩ w h hn htb hi hl
 obtain⟨n,hnk⟩:∃ n,(Am ts i).length=n:=⟨_,rfl⟩
 rw [hnk] at hki
 obtain⟨HKI,HNK,HX,HS,HBE,HT,H⟩:=Hd7 hki hnk hx hs hbe htxt h
 have hop2:=hop
 have q11:(x.op == 11)=false:=Ao (by omega)
 have q12:(x.op == 12)=false:=Ao (by omega)
 have q13:(x.op == 13)=true:=AB hop
 clear hop hop2
 rw [hnk] at e1
 have HLI:=Lh hli
 clear hli
 clear h hn hki hx hs hbe htxt
 go_in
 go_wp2_with fail
 refine HKI.out.mono ?_
 rintro e w1 ⟨A,c,base,rfl,C1⟩
 obtain⟨e0,e3,ef,d0,d2,d3⟩:=C1.cells
 have CC1:=Lh C1
 have hz1:=C1.rl.size
 clear C1
 go_wp2_with fail
 refine (Bx B kb _ vars ⟨slots,seen,false⟩ _ (CC1.out).rl).mono ?_
 rintro e w2 ⟨rfl,h2,f2⟩
 have CC2:=Lh ((CC1.out).step (by simp) h2 f2)
 clear h2 f2 e0 e3 ef d0 d2 d3
 obtain⟨e0,e3,ef,d0,d2,d3⟩:=CC2.out.cells
 go_wp2_with fail
 refine (Bh B kb tb toff cap ts ⟨slots,seen,false⟩ vars i x 0 0 0 _ (.inl HLI.out) (CC2.out).rl HX.out (CC2.out).nodes hl).mono ?_
 rintro e w3 ⟨rfl,h3,f3⟩
 have CC3:=Lh ((CC2.out).step (by simp) h3 f3)
 clear h3 f3 e0 e3 ef d0 d2 d3
 obtain⟨e0,e3,ef,d0,d2,d3⟩:=CC3.out.cells
 have e3:w3.cell? ⟨kb,3,none⟩=some (.bool true):=e3
 go_wp2_with fail
 refine bodyPost_ret (results_none rfl _ _ _) rfl ?_
 exact ⟨rfl,CC3.out.rl,CC3.out.fr⟩
theorem Me (hop:x.op=13) (e1:(((Am ts i).length:Int) == 2)=false) (e2:(((Am ts i).length:Int) == 3)=true) (hli:AO x 0 0 0=false) :
  Calls Tryz.prog 168 #[.pointer (some ⟨kb,0,none⟩),.int .i64 i] w fun e w'=>e=.returned (.tuple #[])∧(RL w' B kb (.slice (some ⟨tb,toff,none⟩) ts.length cap) vars ⟨slots,seen,true⟩)∧Frm B [158,118,160] w w':=by
 obtain⟨c0,c1,c2,c3,c4,c5,c6⟩:=hn.all hx
 obtain⟨k0,k3,kf⟩:=h.cells
 simp only at k3
 obtain⟨hB,hks⟩:=h.size
 have hki:=AH B kb tb toff cap ts i x vars ⟨slots,seen,false⟩ w h hn htb hi hl
 obtain⟨n,hnk⟩:∃ n,(Am ts i).length=n:=⟨_,rfl⟩
 rw [hnk] at hki
 obtain⟨HKI,HNK,HX,HS,HBE,HT,H⟩:=Hd7 hki hnk hx hs hbe htxt h
 have hop2:=hop
 have q11:(x.op == 11)=false:=Ao (by omega)
 have q12:(x.op == 12)=false:=Ao (by omega)
 have q13:(x.op == 13)=true:=AB hop
 clear hop hop2
 rw [hnk] at e1
 rw [hnk] at e2
 have HLI:=Lh hli
 clear hli
 clear h hn hki hx hs hbe htxt
 go_in
 go_wp2_with fail
 refine HKI.out.mono ?_
 rintro e w1 ⟨A,c,base,rfl,C1⟩
 obtain⟨e0,e3,ef,d0,d2,d3⟩:=C1.cells
 have CC1:=Lh C1
 have hz1:=C1.rl.size
 clear C1
 go_wp2_with fail
 refine (Bx B kb _ vars ⟨slots,seen,false⟩ _ (CC1.out).rl).mono ?_
 rintro e w2 ⟨rfl,h2,f2⟩
 have CC2:=Lh ((CC1.out).step (by simp) h2 f2)
 clear h2 f2 e0 e3 ef d0 d2 d3
 obtain⟨e0,e3,ef,d0,d2,d3⟩:=CC2.out.cells
 go_wp2_with fail
 refine (Bh B kb tb toff cap ts ⟨slots,seen,false⟩ vars i x 0 0 0 _ (.inl HLI.out) (CC2.out).rl HX.out (CC2.out).nodes hl).mono ?_
 rintro e w3 ⟨rfl,h3,f3⟩
 have CC3:=Lh ((CC2.out).step (by simp) h3 f3)
 clear h3 f3 e0 e3 ef d0 d2 d3
 obtain⟨e0,e3,ef,d0,d2,d3⟩:=CC3.out.cells
 have e3:w3.cell? ⟨kb,3,none⟩=some (.bool true):=e3
 go_wp2_with fail
 refine bodyPost_ret (results_none rfl _ _ _) rfl ?_
 exact ⟨rfl,CC3.out.rl,CC3.out.fr⟩
end
section
variable (B kb tb toff cap:Nat) (ts:List Au) (htb:tb < B) (hl:ts.length≤2000) (htxt:∀ y∈ts,y.text.size≤1099511627776) (i:Nat) (x:Au) (hi:i < ts.length) (hbe:0≤Ap ts i) (hx:ts[i]? = some x) (vars:List Vr) (slots:List Int) (seen:Int→Option Value) (w:World) (hs:slots.length≤2 + 3 * i) (h:RL w B kb (.slice (some ⟨tb,toff,none⟩) ts.length cap) vars ⟨slots,seen,false⟩) (hn:As w tb toff ts)
include B kb tb toff cap ts htb hl htxt i x hi hbe hx vars slots seen w hs h hn
theorem Pq (hop:x.op=17) (e1:(((Am ts i).length:Int) == 0)=false) :
  Calls Tryz.prog 168 #[.pointer (some ⟨kb,0,none⟩),.int .i64 i] w fun e w'=>e=.returned (.tuple #[])∧(RL w' B kb (.slice (some ⟨tb,toff,none⟩) ts.length cap) vars ⟨slots,seen,true⟩)∧Frm B [158,118,160] w w':=by
 obtain⟨c0,c1,c2,c3,c4,c5,c6⟩:=hn.all hx
 obtain⟨k0,k3,kf⟩:=h.cells
 simp only at k3
 obtain⟨hB,hks⟩:=h.size
 have hki:=AH B kb tb toff cap ts i x vars ⟨slots,seen,false⟩ w h hn htb hi hl
 obtain⟨n,hnk⟩:∃ n,(Am ts i).length=n:=⟨_,rfl⟩
 rw [hnk] at hki
 obtain⟨HKI,HNK,HX,HS,HBE,HT,H⟩:=Hd7 hki hnk hx hs hbe htxt h
 have hop2:=hop
 have q11:(x.op == 11)=false:=Ao (by omega)
 have q12:(x.op == 12)=false:=Ao (by omega)
 have q13:(x.op == 13)=false:=Ao (by omega)
 have q14:(x.op == 14)=false:=Ao (by omega)
 have q15:(x.op == 15)=false:=Ao (by omega)
 have q16:(x.op == 16)=false:=Ao (by omega)
 have q17:(x.op == 17)=true:=AB hop
 clear hop hop2
 rw [hnk] at e1
 clear h hn hki hx hs hbe htxt
 go_in
 go_wp2_with fail
 refine HKI.out.mono ?_
 rintro e w1 ⟨A,c,base,rfl,C1⟩
 obtain⟨e0,e3,ef,d0,d2,d3⟩:=C1.cells
 have CC1:=Lh C1
 have hz1:=C1.rl.size
 clear C1
 go_wp2_with fail
 refine (Cd B kb _ vars ⟨slots,seen,false⟩ _ _ (CC1.out).rl (.inl rfl)).mono ?_
 rintro e w2 ⟨rfl,h2,f2⟩
 have CC2:=Lh ((CC1.out).step (by simp) h2 f2)
 clear h2 f2 e0 e3 ef d0 d2 d3
 obtain⟨e0,e3,ef,d0,d2,d3⟩:=CC2.out.cells
 go_wp2_with fail
 refine (Bh B kb tb toff cap ts ⟨slots,seen,true⟩ vars i x 0 0 0 _ (.inr rfl) (CC2.out).rl HX.out (CC2.out).nodes hl).mono ?_
 rintro e w3 ⟨rfl,h3,f3⟩
 have CC3:=Lh ((CC2.out).step (by simp) h3 f3)
 clear h3 f3 e0 e3 ef d0 d2 d3
 obtain⟨e0,e3,ef,d0,d2,d3⟩:=CC3.out.cells
 have e3:w3.cell? ⟨kb,3,none⟩=some (.bool true):=e3
 go_wp2_with fail
 go_end0
 exact ⟨rfl,CC3.out.rl,CC3.out.fr⟩
theorem Nx (hop:x.op=17) (e1:(((Am ts i).length:Int) == 0)=true) (hli:AO x 0 0 0=false) :
  Calls Tryz.prog 168 #[.pointer (some ⟨kb,0,none⟩),.int .i64 i] w fun e w'=>e=.returned (.tuple #[])∧(RL w' B kb (.slice (some ⟨tb,toff,none⟩) ts.length cap) vars ⟨slots,seen,true⟩)∧Frm B [158,118,160] w w':=by
 obtain⟨c0,c1,c2,c3,c4,c5,c6⟩:=hn.all hx
 obtain⟨k0,k3,kf⟩:=h.cells
 simp only at k3
 obtain⟨hB,hks⟩:=h.size
 have hki:=AH B kb tb toff cap ts i x vars ⟨slots,seen,false⟩ w h hn htb hi hl
 obtain⟨n,hnk⟩:∃ n,(Am ts i).length=n:=⟨_,rfl⟩
 rw [hnk] at hki
 obtain⟨HKI,HNK,HX,HS,HBE,HT,H⟩:=Hd7 hki hnk hx hs hbe htxt h
 have hop2:=hop
 have q11:(x.op == 11)=false:=Ao (by omega)
 have q12:(x.op == 12)=false:=Ao (by omega)
 have q13:(x.op == 13)=false:=Ao (by omega)
 have q14:(x.op == 14)=false:=Ao (by omega)
 have q15:(x.op == 15)=false:=Ao (by omega)
 have q16:(x.op == 16)=false:=Ao (by omega)
 have q17:(x.op == 17)=true:=AB hop
 clear hop hop2
 rw [hnk] at e1
 have HLI:=Lh hli
 clear hli
 clear h hn hki hx hs hbe htxt
 go_in
 go_wp2_with fail
 refine HKI.out.mono ?_
 rintro e w1 ⟨A,c,base,rfl,C1⟩
 obtain⟨e0,e3,ef,d0,d2,d3⟩:=C1.cells
 have CC1:=Lh C1
 have hz1:=C1.rl.size
 clear C1
 go_wp2_with fail
 refine (Bx B kb _ vars ⟨slots,seen,false⟩ _ (CC1.out).rl).mono ?_
 rintro e w2 ⟨rfl,h2,f2⟩
 have CC2:=Lh ((CC1.out).step (by simp) h2 f2)
 clear h2 f2 e0 e3 ef d0 d2 d3
 obtain⟨e0,e3,ef,d0,d2,d3⟩:=CC2.out.cells
 go_wp2_with fail
 refine (Bh B kb tb toff cap ts ⟨slots,seen,false⟩ vars i x 0 0 0 _ (.inl HLI.out) (CC2.out).rl HX.out (CC2.out).nodes hl).mono ?_
 rintro e w3 ⟨rfl,h3,f3⟩
 have CC3:=Lh ((CC2.out).step (by simp) h3 f3)
 clear h3 f3 e0 e3 ef d0 d2 d3
 obtain⟨e0,e3,ef,d0,d2,d3⟩:=CC3.out.cells
 have e3:w3.cell? ⟨kb,3,none⟩=some (.bool true):=e3
 go_wp2_with fail
 go_end0
 exact ⟨rfl,CC3.out.rl,CC3.out.fr⟩
theorem NU (hop:x.op=18) (e1:(((Am ts i).length:Int) == 0)=false) :
  Calls Tryz.prog 168 #[.pointer (some ⟨kb,0,none⟩),.int .i64 i] w fun e w'=>e=.returned (.tuple #[])∧(RL w' B kb (.slice (some ⟨tb,toff,none⟩) ts.length cap) vars ⟨slots,seen,true⟩)∧Frm B [158,118,160] w w':=by
 obtain⟨c0,c1,c2,c3,c4,c5,c6⟩:=hn.all hx
 obtain⟨k0,k3,kf⟩:=h.cells
 simp only at k3
 obtain⟨hB,hks⟩:=h.size
 have hki:=AH B kb tb toff cap ts i x vars ⟨slots,seen,false⟩ w h hn htb hi hl
 obtain⟨n,hnk⟩:∃ n,(Am ts i).length=n:=⟨_,rfl⟩
 rw [hnk] at hki
 obtain⟨HKI,HNK,HX,HS,HBE,HT,H⟩:=Hd7 hki hnk hx hs hbe htxt h
 have hop2:=hop
 have q11:(x.op == 11)=false:=Ao (by omega)
 have q12:(x.op == 12)=false:=Ao (by omega)
 have q13:(x.op == 13)=false:=Ao (by omega)
 have q14:(x.op == 14)=false:=Ao (by omega)
 have q15:(x.op == 15)=false:=Ao (by omega)
 have q16:(x.op == 16)=false:=Ao (by omega)
 have q17:(x.op == 17)=false:=Ao (by omega)
 have q18:(x.op == 18)=true:=AB hop
 clear hop hop2
 rw [hnk] at e1
 clear h hn hki hx hs hbe htxt
 go_in
 go_wp2_with fail
 refine HKI.out.mono ?_
 rintro e w1 ⟨A,c,base,rfl,C1⟩
 obtain⟨e0,e3,ef,d0,d2,d3⟩:=C1.cells
 have CC1:=Lh C1
 have hz1:=C1.rl.size
 clear C1
 go_wp2_with fail
 refine (Cd B kb _ vars ⟨slots,seen,false⟩ _ _ (CC1.out).rl (.inl rfl)).mono ?_
 rintro e w2 ⟨rfl,h2,f2⟩
 have CC2:=Lh ((CC1.out).step (by simp) h2 f2)
 clear h2 f2 e0 e3 ef d0 d2 d3
 obtain⟨e0,e3,ef,d0,d2,d3⟩:=CC2.out.cells
 go_wp2_with fail
 refine (Bh B kb tb toff cap ts ⟨slots,seen,true⟩ vars i x 0 0 0 _ (.inr rfl) (CC2.out).rl HX.out (CC2.out).nodes hl).mono ?_
 rintro e w3 ⟨rfl,h3,f3⟩
 have CC3:=Lh ((CC2.out).step (by simp) h3 f3)
 clear h3 f3 e0 e3 ef d0 d2 d3
 obtain⟨e0,e3,ef,d0,d2,d3⟩:=CC3.out.cells
 have e3:w3.cell? ⟨kb,3,none⟩=some (.bool true):=e3
 go_wp2_with fail
 go_end0
 exact ⟨rfl,CC3.out.rl,CC3.out.fr⟩
theorem NA (hop:x.op=18) (e1:(((Am ts i).length:Int) == 0)=true) (hli:AO x 0 0 0=false) :
  Calls Tryz.prog 168 #[.pointer (some ⟨kb,0,none⟩),.int .i64 i] w fun e w'=>e=.returned (.tuple #[])∧(RL w' B kb (.slice (some ⟨tb,toff,none⟩) ts.length cap) vars ⟨slots,seen,true⟩)∧Frm B [158,118,160] w w':=by
 obtain⟨c0,c1,c2,c3,c4,c5,c6⟩:=hn.all hx
 obtain⟨k0,k3,kf⟩:=h.cells
 simp only at k3
 obtain⟨hB,hks⟩:=h.size
 have hki:=AH B kb tb toff cap ts i x vars ⟨slots,seen,false⟩ w h hn htb hi hl
 obtain⟨n,hnk⟩:∃ n,(Am ts i).length=n:=⟨_,rfl⟩
 rw [hnk] at hki
 obtain⟨HKI,HNK,HX,HS,HBE,HT,H⟩:=Hd7 hki hnk hx hs hbe htxt h
 have hop2:=hop
 have q11:(x.op == 11)=false:=Ao (by omega)
 have q12:(x.op == 12)=false:=Ao (by omega)
 have q13:(x.op == 13)=false:=Ao (by omega)
 have q14:(x.op == 14)=false:=Ao (by omega)
 have q15:(x.op == 15)=false:=Ao (by omega)
 have q16:(x.op == 16)=false:=Ao (by omega)
 have q17:(x.op == 17)=false:=Ao (by omega)
 have q18:(x.op == 18)=true:=AB hop
 clear hop hop2
 rw [hnk] at e1
 have HLI:=Lh hli
 clear hli
 clear h hn hki hx hs hbe htxt
 go_in
 go_wp2_with fail
 refine HKI.out.mono ?_
 rintro e w1 ⟨A,c,base,rfl,C1⟩
 obtain⟨e0,e3,ef,d0,d2,d3⟩:=C1.cells
 have CC1:=Lh C1
 have hz1:=C1.rl.size
 clear C1
 go_wp2_with fail
 refine (Bx B kb _ vars ⟨slots,seen,false⟩ _ (CC1.out).rl).mono ?_
 rintro e w2 ⟨rfl,h2,f2⟩
 have CC2:=Lh ((CC1.out).step (by simp) h2 f2)
 clear h2 f2 e0 e3 ef d0 d2 d3
 obtain⟨e0,e3,ef,d0,d2,d3⟩:=CC2.out.cells
 go_wp2_with fail
 refine (Bh B kb tb toff cap ts ⟨slots,seen,false⟩ vars i x 0 0 0 _ (.inl HLI.out) (CC2.out).rl HX.out (CC2.out).nodes hl).mono ?_
 rintro e w3 ⟨rfl,h3,f3⟩
 have CC3:=Lh ((CC2.out).step (by simp) h3 f3)
 clear h3 f3 e0 e3 ef d0 d2 d3
 obtain⟨e0,e3,ef,d0,d2,d3⟩:=CC3.out.cells
 have e3:w3.cell? ⟨kb,3,none⟩=some (.bool true):=e3
 go_wp2_with fail
 go_end0
 exact ⟨rfl,CC3.out.rl,CC3.out.fr⟩
theorem Qq (hop:x.op=17) (e1:(((Am ts i).length:Int) == 0)=true) (hli:AO x 0 0 0=true) :
  Calls Tryz.prog 168 #[.pointer (some ⟨kb,0,none⟩),.int .i64 i] w fun e w'=>e=.returned (.tuple #[])∧(RL w' B kb (.slice (some ⟨tb,toff,none⟩) ts.length cap) vars ⟨slots,seen,false⟩)∧Frm B [158,118,160] w w':=by
 obtain⟨c0,c1,c2,c3,c4,c5,c6⟩:=hn.all hx
 obtain⟨k0,k3,kf⟩:=h.cells
 simp only at k3
 obtain⟨hB,hks⟩:=h.size
 have hki:=AH B kb tb toff cap ts i x vars ⟨slots,seen,false⟩ w h hn htb hi hl
 obtain⟨n,hnk⟩:∃ n,(Am ts i).length=n:=⟨_,rfl⟩
 rw [hnk] at hki
 obtain⟨HKI,HNK,HX,HS,HBE,HT,H⟩:=Hd7 hki hnk hx hs hbe htxt h
 have hop2:=hop
 have q11:(x.op == 11)=false:=Ao (by omega)
 have q12:(x.op == 12)=false:=Ao (by omega)
 have q13:(x.op == 13)=false:=Ao (by omega)
 have q14:(x.op == 14)=false:=Ao (by omega)
 have q15:(x.op == 15)=false:=Ao (by omega)
 have q16:(x.op == 16)=false:=Ao (by omega)
 have q17:(x.op == 17)=true:=AB hop
 clear hop hop2
 rw [hnk] at e1
 have HLI:=Lh hli
 clear hli
 clear h hn hki hx hs hbe htxt
 go_in
 go_wp2_with fail
 refine HKI.out.mono ?_
 rintro e w1 ⟨A,c,base,rfl,C1⟩
 obtain⟨e0,e3,ef,d0,d2,d3⟩:=C1.cells
 have CC1:=Lh C1
 have hz1:=C1.rl.size
 clear C1
 go_wp2_with fail
 refine (Bx B kb _ vars ⟨slots,seen,false⟩ _ (CC1.out).rl).mono ?_
 rintro e w2 ⟨rfl,h2,f2⟩
 have CC2:=Lh ((CC1.out).step (by simp) h2 f2)
 clear h2 f2 e0 e3 ef d0 d2 d3
 obtain⟨e0,e3,ef,d0,d2,d3⟩:=CC2.out.cells
 go_wp2_with fail
 refine (CK B kb tb toff cap ts ⟨slots,seen,false⟩ vars i x 0 0 0 _ HLI.out (CC2.out).rl HX.out (CC2.out).nodes hl).mono ?_
 rintro e w3 ⟨rfl,h3,f3⟩
 have CC3:=Lh ((CC2.out).step (by simp) h3 f3)
 clear h3 f3 e0 e3 ef d0 d2 d3
 obtain⟨e0,e3,ef,d0,d2,d3⟩:=CC3.out.cells
 go_wp2_with fail
 go_end0
 exact ⟨rfl,CC3.out.rl,CC3.out.fr⟩
theorem Q6 (hop:x.op=18) (e1:(((Am ts i).length:Int) == 0)=true) (hli:AO x 0 0 0=true) :
  Calls Tryz.prog 168 #[.pointer (some ⟨kb,0,none⟩),.int .i64 i] w fun e w'=>e=.returned (.tuple #[])∧(RL w' B kb (.slice (some ⟨tb,toff,none⟩) ts.length cap) vars ⟨slots,seen,false⟩)∧Frm B [158,118,160] w w':=by
 obtain⟨c0,c1,c2,c3,c4,c5,c6⟩:=hn.all hx
 obtain⟨k0,k3,kf⟩:=h.cells
 simp only at k3
 obtain⟨hB,hks⟩:=h.size
 have hki:=AH B kb tb toff cap ts i x vars ⟨slots,seen,false⟩ w h hn htb hi hl
 obtain⟨n,hnk⟩:∃ n,(Am ts i).length=n:=⟨_,rfl⟩
 rw [hnk] at hki
 obtain⟨HKI,HNK,HX,HS,HBE,HT,H⟩:=Hd7 hki hnk hx hs hbe htxt h
 have hop2:=hop
 have q11:(x.op == 11)=false:=Ao (by omega)
 have q12:(x.op == 12)=false:=Ao (by omega)
 have q13:(x.op == 13)=false:=Ao (by omega)
 have q14:(x.op == 14)=false:=Ao (by omega)
 have q15:(x.op == 15)=false:=Ao (by omega)
 have q16:(x.op == 16)=false:=Ao (by omega)
 have q17:(x.op == 17)=false:=Ao (by omega)
 have q18:(x.op == 18)=true:=AB hop
 clear hop hop2
 rw [hnk] at e1
 have HLI:=Lh hli
 clear hli
 clear h hn hki hx hs hbe htxt
 go_in
 go_wp2_with fail
 refine HKI.out.mono ?_
 rintro e w1 ⟨A,c,base,rfl,C1⟩
 obtain⟨e0,e3,ef,d0,d2,d3⟩:=C1.cells
 have CC1:=Lh C1
 have hz1:=C1.rl.size
 clear C1
 go_wp2_with fail
 refine (Bx B kb _ vars ⟨slots,seen,false⟩ _ (CC1.out).rl).mono ?_
 rintro e w2 ⟨rfl,h2,f2⟩
 have CC2:=Lh ((CC1.out).step (by simp) h2 f2)
 clear h2 f2 e0 e3 ef d0 d2 d3
 obtain⟨e0,e3,ef,d0,d2,d3⟩:=CC2.out.cells
 go_wp2_with fail
 refine (CK B kb tb toff cap ts ⟨slots,seen,false⟩ vars i x 0 0 0 _ HLI.out (CC2.out).rl HX.out (CC2.out).nodes hl).mono ?_
 rintro e w3 ⟨rfl,h3,f3⟩
 have CC3:=Lh ((CC2.out).step (by simp) h3 f3)
 clear h3 f3 e0 e3 ef d0 d2 d3
 obtain⟨e0,e3,ef,d0,d2,d3⟩:=CC3.out.cells
 go_wp2_with fail
 go_end0
 exact ⟨rfl,CC3.out.rl,CC3.out.fr⟩
end
theorem Qz (B kb tb toff cap:Nat) (ts:List Au) (htb:tb < B) (hl:ts.length≤2000) (htxt:∀ y∈ts,y.text.size≤1099511627776) (i:Nat) (x:Au) (hi:i < ts.length) (hbe:0≤Ap ts i) (hx:ts[i]? = some x)
  (vars:List Vr) (slots:List Int) (seen:Int→Option Value) (w:World) (hs:slots.length≤2 + 3 * i) (h:RL w B kb (.slice (some ⟨tb,toff,none⟩) ts.length cap) vars ⟨slots,seen,false⟩) (hn:As w tb toff ts)
  (hop:x.op=11) (hli:AO x 0 x.n 0=true) (j:Nat) (hj:Am ts i=[j]) :
  Calls Tryz.prog 168 #[.pointer (some ⟨kb,0,none⟩),.int .i64 i] w fun e w'=>e=.returned (.tuple #[])∧(∃ ext,RL w' B kb (.slice (some ⟨tb,toff,none⟩) ts.length cap) (vars ++ ext) (AE x.n true [(Dl ts ⟨slots,seen,false⟩ j false).1] (Cr ((Dl ts ⟨slots,seen,false⟩ j false).2.1,(Dl ts ⟨slots,seen,false⟩ j false).2.2) ⟨slots,seen,false⟩))∧(∀ v∈ext,(slots.length:Int)≤v.slot)∧((AE x.n true [(Dl ts ⟨slots,seen,false⟩ j false).1] (Cr ((Dl ts ⟨slots,seen,false⟩ j false).2.1,(Dl ts ⟨slots,seen,false⟩ j false).2.2) ⟨slots,seen,false⟩)).bad=false→ext.map Vr.slot=[x.n]))∧Frm B [158,118,160] w w':=by
 have h0:=h
 obtain⟨c0,c1,c2,c3,c4,c5,c6⟩:=hn.all hx
 obtain⟨k0,k3,kf⟩:=h.cells
 simp only at k3
 obtain⟨hB,hks⟩:=h.size
 have hki:=AH B kb tb toff cap ts i x vars ⟨slots,seen,false⟩ w h hn htb hi hl
 have hnk:(Am ts i).length=1:=by rw [hj];rfl
 rw [hnk] at hki
 have HJ0:Hid ((Am ts i)[0]? = some j):=by rw [hj];rfl
 have hko0:=AU (ts:=ts) (i:=i) (j:=j) (by rw [hj];simp)
 have HKO0:=Lh hko0
 clear hko0
 obtain⟨HKI,HNK,HX,HS,HBE,HT,H,HJ⟩:=Hd8 hki hnk hx hs hbe htxt h hj
 clear hj
 have hop2:=hop
 have q11:(x.op == 11)=true:=AB hop
 clear hop hop2
 have HLI:=Lh hli
 clear hli
 have HI:=Lh h0.good.2
 obtain⟨E,hE⟩:=Ex0 (Dl ts ⟨slots,seen,false⟩ j false)
 rw [← hE]
 have hex:=fun (wx:World) h1 h2=>Rk B kb tb toff cap ts (by omega) htb HT.out j slots vars seen wx HKO0.out.2.1 HKO0.out.2.2.1 (Nat.le_trans HS.out (by omega)) h1 h2
 rw [← hE] at hex
 have HEX:=Lh hex
 clear hex h0 hE
 clear h hn hki hx hs hbe htxt hnk
 go_in
 go_wp2_with fail
 refine HKI.out.mono ?_
 rintro e w1 ⟨A,c,base,rfl,C1⟩
 obtain⟨gk,rfl⟩:=C1.form (by decide)
 obtain⟨e0,e3,ef,d0,d2,d3⟩:=C1.cells
 have g0:=C1.kid 0 j HJ0.out
 have CC1:=Lh C1
 have hz1:=C1.rl.size
 clear C1
 go_wp2_with fail
 refine (Bx B kb _ vars ⟨slots,seen,false⟩ _ (CC1.out).rl).mono ?_
 rintro e w2 ⟨rfl,h2,f2⟩
 have CC2:=Lh ((CC1.out).step (by simp) h2 f2)
 clear h2 f2 e0 e3 ef d0 d2 d3
 obtain⟨e0,e3,ef,d0,d2,d3⟩:=CC2.out.cells
 clear g0
 have g0:=CC2.out.kid 0 j HJ0.out
 go_wp2_with fail
 refine (CK B kb tb toff cap ts ⟨slots,seen,false⟩ vars i x 0 x.n 0 _ HLI.out (CC2.out).rl HX.out (CC2.out).nodes hl).mono ?_
 rintro e w3 ⟨rfl,h3,f3⟩
 have CC3:=Lh ((CC2.out).step (by simp) h3 f3)
 clear h3 f3 e0 e3 ef d0 d2 d3
 obtain⟨e0,e3,ef,d0,d2,d3⟩:=CC3.out.cells
 clear g0
 have g0:=CC3.out.kid 0 j HJ0.out
 go_wp2_with fail
 refine (HEX.out _ CC3.out.rl CC3.out.nodes).mono ?_
 rintro e w4 ⟨kd,hh,rfl,hh0,hh1,hrk,f4,hgood⟩
 obtain⟨HGO,CC4⟩:=Hd2 hgood (CC3.out.step (by simp) (RL.of hrk HI.out) f4)
 clear hrk f4 hgood e0 e3 ef d0 d2 d3 g0
 obtain⟨e0,e3,ef,d0,d2,d3⟩:=CC4.out.cells
 have g0:=CC4.out.kid 0 j HJ0.out
 go_wp2_with fail
 refine (OS B kb _ vars _ hh _ CC4.out.rl).mono ?_
 rintro e w5 ⟨rfl,h5,f5⟩
 have CC5:=Lh ((CC4.out).step (by simp) h5 f5)
 clear h5 f5 e0 e3 ef d0 d2 d3
 obtain⟨e0,e3,ef,d0,d2,d3⟩:=CC5.out.cells
 clear g0
 have g0:=CC5.out.kid 0 j HJ0.out
 go_wp2_with fail
 have hse:({ (⟨slots,seen,E.2.2⟩:LSt) with bad:=E.2.2 || !(decide (hh≤256)) }:LSt)=Cr (E.2.1,E.2.2) ⟨slots,seen,false⟩:=by
  unfold Cr
  simp only
  cases hb:E.2.2 with
  | true=>simp
  | false=>rw [(HGO.out hb).2]
 have C5:=CC5.out
 change Fh B kb tb toff cap ts i x _ _ _ _ _ _ vars { (⟨slots,seen,E.2.2⟩:LSt) with bad:=E.2.2 || !(decide (hh≤256)) } w5 at C5
 rw [hse] at C5
 have CC5b:=Lh C5
 clear C5 hse
 refine (Cp B kb x.n true [kd] w5.heap.size 1 (Cr (E.2.1,E.2.2) ⟨slots,seen,false⟩) vars _ _ (Nat.le_trans HS.out (by omega)) (by simp) (by simp) (CC5b.out.alloc _).rl (Blk.new w5 118 #[.int .i8 kd]) (by simp)).mono ?_
 rintro e w6 ⟨rfl,h6,f6⟩
 have CC6:=Lh ((CC5b.out.alloc _).step (by simp) h6 f6)
 clear h6 f6 e0 e3 ef d0 d2 d3
 obtain⟨e0,e3,ef,d0,d2,d3⟩:=CC6.out.cells
 clear g0
 have g0:=CC6.out.kid 0 j HJ0.out
 go_wp2_with fail
 go_end0
 have hde:AE x.n true [kd] (Cr (E.2.1,E.2.2) ⟨slots,seen,false⟩)=AE x.n true [E.1] (Cr (E.2.1,E.2.2) ⟨slots,seen,false⟩):=by
  cases hb:E.2.2 with
  | true=>simp [AE,Cr]
  | false=>rw [(HGO.out hb).1]
 have hrl:=CC6.out.rl
 refine ⟨rfl,⟨Fi x.n true [kd] (Cr (E.2.1,E.2.2) ⟨slots,seen,false⟩),by rw [← hde];exact hrl,fun v hv=>Iv hv,fun hb=>GK (by rw [hde];exact hb)⟩,CC6.out.fr⟩
end Go.Proofs.YtmpcbaflcogmmaaGreatDoor
