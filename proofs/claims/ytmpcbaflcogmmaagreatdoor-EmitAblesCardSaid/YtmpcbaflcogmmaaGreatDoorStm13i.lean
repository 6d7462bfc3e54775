/- Stm13g Stm13h Stm13i -/
import Derived.Test.YtmpcbaflcogmmaaGreatDoorLoop13e
namespace Go.Proofs.YtmpcbaflcogmmaaGreatDoor
open Go.RowKit
set_option linter.all false
set_option maxHeartbeats 2000000
set_option maxRecDepth 100000
section
variable (B kb tb toff cap:Nat) (ts:List Au) (htb:tb < B) (hl:ts.length≤2000) (htxt:∀ y∈ts,y.text.size≤1099511627776) (i:Nat) (x:Au) (hi:i < ts.length) (hbe:0≤Ap ts i) (hx:ts[i]? = some x) (vars:List Vr) (slots:List Int) (seen:Int→Option Value) (w:World) (hs:slots.length≤2 + 3 * i) (h:RL w B kb (.slice (some ⟨tb,toff,none⟩) ts.length cap) vars ⟨slots,seen,false⟩) (hn:As w tb toff ts) (hop:x.op=12)
include B kb tb toff cap ts htb hl htxt i x hi hbe hx vars slots seen w hs h hn hop
theorem Jp (e1:(((Am ts i).length:Int) == 1)=true) (vs vk:Int) (hf:Da vars x.n=some ⟨vs,vk,false⟩) :
  Calls Tryz.prog 168 #[.pointer (some ⟨kb,0,none⟩),.int .i64 i] w fun e w'=>e=.returned (.tuple #[])∧(RL w' B kb (.slice (some ⟨tb,toff,none⟩) ts.length cap) vars ⟨slots,seen,true⟩)∧Frm B [158,118,160] w w':=by
 obtain⟨c0,c1,c2,c3,c4,c5,c6⟩:=hn.all hx
 obtain⟨k0,k3,kf⟩:=h.cells
 simp only at k3
 obtain⟨hB,hks⟩:=h.size
 have hki:=AH B kb tb toff cap ts i x vars ⟨slots,seen,false⟩ w h hn htb hi hl
 obtain⟨n,hnk⟩:∃ n,(Am ts i).length=n:=⟨_,rfl⟩
 rw [hnk] at hki
 obtain⟨HKI,HF⟩:=Hd2 hki hf
 clear hf
 obtain⟨HNK,HX,HS,HBE,HT,H⟩:=Hd6 hnk hx hs hbe htxt h
 have hop2:=hop
 have q11:(x.op == 11)=false:=Ao (by omega)
 have q12:(x.op == 12)=true:=AB hop
 clear hop hop2
 rw [hnk] at e1
 clear h hn hki hx hs hbe htxt
 go_in
 go_wp2_with fail
 refine HKI.out.mono ?_
 rintro e w1 ⟨A,c,base,rfl,C1⟩
 obtain⟨e0,e3,ef,d0,d2,d3⟩:=C1.cells
 have CC1:=Lh C1
 have hz1:=C1.rl.size
 clear C1
 obtain⟨sl0,hrk0,hgd0⟩:=CC1.out.rl
 obtain⟨e00,hI0⟩:=hgd0 rfl
 simp only at e00
 rw [e00] at hrk0
 have hse:=Dy B kb _ ⟨slots,vars,false⟩ x.n w1 hrk0 (by have h1:vars.length≤slots.length:=hI0.len;have:=HS.out;show vars.length≤_;omega)
 simp only at hse
 rw [HF.out] at hse
 simp only [Mb,Option.isSome,Vr.cells] at hse
 obtain⟨HSE,HI⟩:=Hd2 hse hI0
 clear hse hrk0 hgd0 hI0 e00
 go_wp2_with fail
 refine HSE.out.mono ?_
 rintro e w2 ⟨rfl,h2,b2⟩
 have hzz:=b2.size
 have f2:Frm B [158] w1 w2:=Frm.of_below b2 (by omega)
 have CC2a:=Lh (CC1.out.step (by simp) (RL.of h2 HI.out) f2)
 obtain⟨CC2,HVB2⟩:=Hd2 (CC2a.out.alloc (.cells #[.string ByteArray.empty,.int .i64 (vs),.int .i8 (vk),.bool false] 160)) (Blk.new w2 160 #[.string ByteArray.empty,.int .i64 (vs),.int .i8 (vk),.bool false])
 have v2:=HVB2.out.cell 2
 have v3:=HVB2.out.cell 3
 clear h2 f2 b2 e0 e3 ef d0 d2 d3
 obtain⟨e0,e3,ef,d0,d2,d3⟩:=CC2.out.cells
 go_wp2_with fail
 refine (Cd B kb _ vars ⟨slots,seen,false⟩ _ _ (CC2.out).rl (.inl rfl)).mono ?_
 rintro e w3 ⟨rfl,h3,f3⟩
 obtain⟨CC3,HVB3⟩:=Hd2 ((CC2.out).step (by simp) h3 f3) (f3.blk HVB2.out (by decide))
 clear v2 v3
 have v2:=HVB3.out.cell 2
 have v3:=HVB3.out.cell 3
 clear h3 f3 e0 e3 ef d0 d2 d3
 obtain⟨e0,e3,ef,d0,d2,d3⟩:=CC3.out.cells
 go_wp2_with fail
 refine (Bh B kb tb toff cap ts ⟨slots,seen,true⟩ vars i x 0 x.n 0 _ (.inr rfl) (CC3.out).rl HX.out (CC3.out).nodes hl).mono ?_
 rintro e w4 ⟨rfl,h4,f4⟩
 obtain⟨CC4,HVB4⟩:=Hd2 ((CC3.out).step (by simp) h4 f4) (f4.blk HVB3.out (by decide))
 clear v2 v3
 have v2:=HVB4.out.cell 2
 have v3:=HVB4.out.cell 3
 clear h4 f4 e0 e3 ef d0 d2 d3
 obtain⟨e0,e3,ef,d0,d2,d3⟩:=CC4.out.cells
 have e3:w4.cell? ⟨kb,3,none⟩=some (.bool true):=e3
 go_wp2_with fail
 go_end0
 exact ⟨rfl,CC4.out.rl,CC4.out.fr⟩
theorem Kf (e1:(((Am ts i).length:Int) == 1)=true) (vs vk:Int) (hf:Da vars x.n=some ⟨vs,vk,true⟩) (hli:AO x 0 x.n 0=false) :
  Calls Tryz.prog 168 #[.pointer (some ⟨kb,0,none⟩),.int .i64 i] w fun e w'=>e=.returned (.tuple #[])∧(RL w' B kb (.slice (some ⟨tb,toff,none⟩) ts.length cap) vars ⟨slots,seen,true⟩)∧Frm B [158,118,160] w w':=by
 obtain⟨c0,c1,c2,c3,c4,c5,c6⟩:=hn.all hx
 obtain⟨k0,k3,kf⟩:=h.cells
 simp only at k3
 obtain⟨hB,hks⟩:=h.size
 have hki:=AH B kb tb toff cap ts i x vars ⟨slots,seen,false⟩ w h hn htb hi hl
 obtain⟨n,hnk⟩:∃ n,(Am ts i).length=n:=⟨_,rfl⟩
 rw [hnk] at hki
 obtain⟨HKI,HF⟩:=Hd2 hki hf
 clear hf
 obtain⟨HNK,HX,HS,HBE,HT,H⟩:=Hd6 hnk hx hs hbe htxt h
 have hop2:=hop
 have q11:(x.op == 11)=false:=Ao (by omega)
 have q12:(x.op == 12)=true:=AB hop
 clear hop hop2
 rw [hnk] at e1
 have HLI:=Lh hli
 clear hli
 clear h hn hki hx hs hbe htxt
 go_in
 go_wp2_with fail
 refine HKI.out.mono ?_
 rintro e w1 ⟨A,c,base,rfl,C1⟩
 obtain⟨e0,e3,ef,d0,d2,d3⟩:=C1.cells
 have CC1:=Lh C1
 have hz1:=C1.rl.size
 clear C1
 obtain⟨sl0,hrk0,hgd0⟩:=CC1.out.rl
 obtain⟨e00,hI0⟩:=hgd0 rfl
 simp only at e00
 rw [e00] at hrk0
 have hse:=Dy B kb _ ⟨slots,vars,false⟩ x.n w1 hrk0 (by have h1:vars.length≤slots.length:=hI0.len;have:=HS.out;show vars.length≤_;omega)
 simp only at hse
 rw [HF.out] at hse
 simp only [Mb,Option.isSome,Vr.cells] at hse
 obtain⟨HSE,HI⟩:=Hd2 hse hI0
 clear hse hrk0 hgd0 hI0 e00
 go_wp2_with fail
 refine HSE.out.mono ?_
 rintro e w2 ⟨rfl,h2,b2⟩
 have hzz:=b2.size
 have f2:Frm B [158] w1 w2:=Frm.of_below b2 (by omega)
 have CC2a:=Lh (CC1.out.step (by simp) (RL.of h2 HI.out) f2)
 obtain⟨CC2,HVB2⟩:=Hd2 (CC2a.out.alloc (.cells #[.string ByteArray.empty,.int .i64 (vs),.int .i8 (vk),.bool true] 160)) (Blk.new w2 160 #[.string ByteArray.empty,.int .i64 (vs),.int .i8 (vk),.bool true])
 have v2:=HVB2.out.cell 2
 have v3:=HVB2.out.cell 3
 clear h2 f2 b2 e0 e3 ef d0 d2 d3
 obtain⟨e0,e3,ef,d0,d2,d3⟩:=CC2.out.cells
 go_wp2_with fail
 refine (Bx B kb _ vars ⟨slots,seen,false⟩ _ (CC2.out).rl).mono ?_
 rintro e w3 ⟨rfl,h3,f3⟩
 obtain⟨CC3,HVB3⟩:=Hd2 ((CC2.out).step (by simp) h3 f3) (f3.blk HVB2.out (by decide))
 clear v2 v3
 have v2:=HVB3.out.cell 2
 have v3:=HVB3.out.cell 3
 clear h3 f3 e0 e3 ef d0 d2 d3
 obtain⟨e0,e3,ef,d0,d2,d3⟩:=CC3.out.cells
 go_wp2_with fail
 refine (Bh B kb tb toff cap ts ⟨slots,seen,false⟩ vars i x 0 x.n 0 _ (.inl HLI.out) (CC3.out).rl HX.out (CC3.out).nodes hl).mono ?_
 rintro e w4 ⟨rfl,h4,f4⟩
 obtain⟨CC4,HVB4⟩:=Hd2 ((CC3.out).step (by simp) h4 f4) (f4.blk HVB3.out (by decide))
 clear v2 v3
 have v2:=HVB4.out.cell 2
 have v3:=HVB4.out.cell 3
 clear h4 f4 e0 e3 ef d0 d2 d3
 obtain⟨e0,e3,ef,d0,d2,d3⟩:=CC4.out.cells
 have e3:w4.cell? ⟨kb,3,none⟩=some (.bool true):=e3
 go_wp2_with fail
 go_end0
 exact ⟨rfl,CC4.out.rl,CC4.out.fr⟩
theorem Mm (hli:AO x 0 x.n 0=true) (j:Nat) (hj:Am ts i=[j]) (vs vk:Int) (hf:Da vars x.n=some ⟨vs,vk,true⟩) :
  Calls Tryz.prog 168 #[.pointer (some ⟨kb,0,none⟩),.int .i64 i] w fun e w'=>e=.returned (.tuple #[])∧(RL w' B kb (.slice (some ⟨tb,toff,none⟩) ts.length cap) vars (AD ts j vk ⟨slots,seen,false⟩))∧Frm B [158,118,160] w w':=by
 obtain⟨c0,c1,c2,c3,c4,c5,c6⟩:=hn.all hx
 obtain⟨k0,k3,kf⟩:=h.cells
 simp only at k3
 obtain⟨hB,hks⟩:=h.size
 have hki:=AH B kb tb toff cap ts i x vars ⟨slots,seen,false⟩ w h hn htb hi hl
 have hnk:(Am ts i).length=1:=by rw [hj];rfl
 rw [hnk] at hki
 have HJ0:Hid ((Am ts i)[0]? = some j):=by rw [hj];rfl
 have hko0:=AU (ts:=ts) (i:=i) (j:=j) (by rw [hj];simp)
 have HKO0:=Lh hko0
 clear hko0
 obtain⟨HKI,HF⟩:=Hd2 hki hf
 clear hf
 obtain⟨HNK,HX,HS,HBE,HT,H,HJ⟩:=Hd7 hnk hx hs hbe htxt h hj
 clear hj
 have hop2:=hop
 have q11:(x.op == 11)=false:=Ao (by omega)
 have q12:(x.op == 12)=true:=AB hop
 clear hop hop2
 have HLI:=Lh hli
 clear hli
 clear h hn hki hx hs hbe htxt hnk
 go_in
 go_wp2_with fail
 refine HKI.out.mono ?_
 rintro e w1 ⟨A,c,base,rfl,C1⟩
 obtain⟨gk,rfl⟩:=C1.form (by decide)
 obtain⟨e0,e3,ef,d0,d2,d3⟩:=C1.cells
 have g0:=C1.kid 0 j HJ0.out
 have CC1:=Lh C1
 have hz1:=C1.rl.size
 clear C1
 obtain⟨sl0,hrk0,hgd0⟩:=CC1.out.rl
 obtain⟨e00,hI0⟩:=hgd0 rfl
 simp only at e00
 rw [e00] at hrk0
 have hse:=Dy B kb _ ⟨slots,vars,false⟩ x.n w1 hrk0 (by have h1:vars.length≤slots.length:=hI0.len;have:=HS.out;show vars.length≤_;omega)
 simp only at hse
 rw [HF.out] at hse
 simp only [Mb,Option.isSome,Vr.cells] at hse
 obtain⟨HSE,HI⟩:=Hd2 hse hI0
 clear hse hrk0 hgd0 hI0 e00
 go_wp2_with fail
 refine HSE.out.mono ?_
 rintro e w2 ⟨rfl,h2,b2⟩
 have hzz:=b2.size
 have f2:Frm B [158] w1 w2:=Frm.of_below b2 (by omega)
 have CC2a:=Lh (CC1.out.step (by simp) (RL.of h2 HI.out) f2)
 obtain⟨CC2,HVB2⟩:=Hd2 (CC2a.out.alloc (.cells #[.string ByteArray.empty,.int .i64 (vs),.int .i8 (vk),.bool true] 160)) (Blk.new w2 160 #[.string ByteArray.empty,.int .i64 (vs),.int .i8 (vk),.bool true])
 have v2:=HVB2.out.cell 2
 have v3:=HVB2.out.cell 3
 clear h2 f2 b2 e0 e3 ef d0 d2 d3
 obtain⟨e0,e3,ef,d0,d2,d3⟩:=CC2.out.cells
 clear g0
 have g0:=CC2.out.kid 0 j HJ0.out
 go_wp2_with fail
 refine (Bx B kb _ vars ⟨slots,seen,false⟩ _ (CC2.out).rl).mono ?_
 rintro e w3 ⟨rfl,h3,f3⟩
 obtain⟨CC3,HVB3⟩:=Hd2 ((CC2.out).step (by simp) h3 f3) (f3.blk HVB2.out (by decide))
 clear v2 v3
 have v2:=HVB3.out.cell 2
 have v3:=HVB3.out.cell 3
 clear h3 f3 e0 e3 ef d0 d2 d3
 obtain⟨e0,e3,ef,d0,d2,d3⟩:=CC3.out.cells
 clear g0
 have g0:=CC3.out.kid 0 j HJ0.out
 go_wp2_with fail
 refine (CK B kb tb toff cap ts ⟨slots,seen,false⟩ vars i x 0 x.n 0 _ HLI.out (CC3.out).rl HX.out (CC3.out).nodes hl).mono ?_
 rintro e w4 ⟨rfl,h4,f4⟩
 obtain⟨CC4,HVB4⟩:=Hd2 ((CC3.out).step (by simp) h4 f4) (f4.blk HVB3.out (by decide))
 clear v2 v3
 have v2:=HVB4.out.cell 2
 have v3:=HVB4.out.cell 3
 clear h4 f4 e0 e3 ef d0 d2 d3
 obtain⟨e0,e3,ef,d0,d2,d3⟩:=CC4.out.cells
 clear g0
 have g0:=CC4.out.kid 0 j HJ0.out
 go_wp2_with fail
 refine A8 (by kernel_rfl) (by kernel_rfl) ?_
 have CC5:=Lh CC4.out.drew
 clear e0 e3 ef d0 d2 d3 g0 v2 v3
 obtain⟨e0,e3,ef,d0,d2,d3⟩:=CC5.out.cells
 have g0:=CC5.out.kid 0 j HJ0.out
 have v2:=HVB4.out.drew.cell 2
 go_wp2_with fail
 refine (Db B kb tb toff cap ts (by omega) htb HT.out j vk slots vars seen _ HKO0.out.2.1 HKO0.out.2.2.1 (Nat.le_trans HS.out (by omega)) CC5.out.rl CC5.out.nodes).mono ?_
 rintro e w6 ⟨rfl,h6,f6⟩
 have CC6:=Lh ((CC5.out).step (by simp) h6 f6)
 clear h6 f6 e0 e3 ef d0 d2 d3
 obtain⟨e0,e3,ef,d0,d2,d3⟩:=CC6.out.cells
 clear g0
 have g0:=CC6.out.kid 0 j HJ0.out
 go_wp2_with fail
 refine AX.normal ?_
 go_wp2_with fail
 go_end0
 exact ⟨rfl,CC6.out.rl,CC6.out.fr⟩
end
theorem TH (B kb tb toff cap:Nat) (ts:List Au) (htb:tb < B) (hl:ts.length≤2000) (htxt:∀ y∈ts,y.text.size≤1099511627776) (i:Nat) (x:Au) (hi:i < ts.length) (hbe:0≤Ap ts i) (hx:ts[i]? = some x)
  (vars:List Vr) (slots:List Int) (seen:Int→Option Value) (w:World) (hs:slots.length≤2 + 3 * i) (h:RL w B kb (.slice (some ⟨tb,toff,none⟩) ts.length cap) vars ⟨slots,seen,false⟩) (hn:As w tb toff ts)
  (hop:x.op=13) (hli:AO x 0 0 0=true) (j b:Nat) (hj:Am ts i=[j,b]) (recS recB:Nat→LSt→LSt) (hB13:∀ j∈Am ts i,B13 B kb tb toff cap ts recB j) :
  Calls Tryz.prog 168 #[.pointer (some ⟨kb,0,none⟩),.int .i64 i] w fun e w'=>e=.returned (.tuple #[])∧(RL w' B kb (.slice (some ⟨tb,toff,none⟩) ts.length cap) vars (if ((AD ts j 2 ⟨slots,seen,false⟩)).bad=true then (AD ts j 2 ⟨slots,seen,false⟩) else recB b (AD ts j 2 ⟨slots,seen,false⟩)))∧Frm B [158,118,160] w w':=by
 have hj0:=hj
 obtain⟨c0,c1,c2,c3,c4,c5,c6⟩:=hn.all hx
 obtain⟨k0,k3,kf⟩:=h.cells
 simp only at k3
 obtain⟨hB,hks⟩:=h.size
 have hki:=AH B kb tb toff cap ts i x vars ⟨slots,seen,false⟩ w h hn htb hi hl
 have hnk:(Am ts i).length=2:=by rw [hj];rfl
 rw [hnk] at hki
 have HJ0:Hid ((Am ts i)[0]? = some j):=by rw [hj];rfl
 have hko0:=AU (ts:=ts) (i:=i) (j:=j) (by rw [hj];simp)
 have HKO0:=Lh hko0
 clear hko0
 have HJ1:Hid ((Am ts i)[1]? = some b):=by rw [hj];rfl
 have hko1:=AU (ts:=ts) (i:=i) (j:=b) (by rw [hj];simp)
 have HKO1:=Lh hko1
 clear hko1
 obtain⟨HKI,HNK,HX,HS,HBE,HT,H,HJ⟩:=Hd8 hki hnk hx hs hbe htxt h hj
 clear hj
 have hop2:=hop
 have q11:(x.op == 11)=false:=Ao (by omega)
 have q12:(x.op == 12)=false:=Ao (by omega)
 have q13:(x.op == 13)=true:=AB hop
 clear hop hop2
 have HLI:=Lh hli
 clear hli
 have HEB:=Lh (hB13 b (by rw [hj0];simp))
 clear hB13 hj0
 obtain⟨R,hR⟩:=Ex0 ((if ((AD ts j 2 ⟨slots,seen,false⟩)).bad=true then (AD ts j 2 ⟨slots,seen,false⟩) else recB b (AD ts j 2 ⟨slots,seen,false⟩)))
 rw [← hR]
 have HR:=Lh hR
 clear hR
 clear h hn hki hx hs hbe htxt hnk
 go_in
 go_wp2_with fail
 refine HKI.out.mono ?_
 rintro e w1 ⟨A,c,base,rfl,C1⟩
 obtain⟨gk,rfl⟩:=C1.form (by decide)
 obtain⟨e0,e3,ef,d0,d2,d3⟩:=C1.cells
 have g0:=C1.kid 0 j HJ0.out
 have g1:=C1.kid 1 b HJ1.out
 have CC1:=Lh C1
 have hz1:=C1.rl.size
 clear C1
 go_wp2_with fail
 refine (Bx B kb _ vars ⟨slots,seen,false⟩ _ (CC1.out).rl).mono ?_
 rintro e w2 ⟨rfl,h2,f2⟩
 have CC2:=Lh ((CC1.out).step (by simp) h2 f2)
 clear h2 f2 e0 e3 ef d0 d2 d3
 obtain⟨e0,e3,ef,d0,d2,d3⟩:=CC2.out.cells
 clear g0
 have g0:=CC2.out.kid 0 j HJ0.out
 clear g1
 have g1:=CC2.out.kid 1 b HJ1.out
 go_wp2_with fail
 refine (CK B kb tb toff cap ts ⟨slots,seen,false⟩ vars i x 0 0 0 _ HLI.out (CC2.out).rl HX.out (CC2.out).nodes hl).mono ?_
 rintro e w3 ⟨rfl,h3,f3⟩
 have CC3:=Lh ((CC2.out).step (by simp) h3 f3)
 clear h3 f3 e0 e3 ef d0 d2 d3
 obtain⟨e0,e3,ef,d0,d2,d3⟩:=CC3.out.cells
 clear g0
 have g0:=CC3.out.kid 0 j HJ0.out
 clear g1
 have g1:=CC3.out.kid 1 b HJ1.out
 go_wp2_with fail
 refine (Db B kb tb toff cap ts (by omega) htb HT.out j 2 slots vars seen _ HKO0.out.2.1 HKO0.out.2.2.1 (Nat.le_trans HS.out (by omega)) (CC3.out).rl (CC3.out).nodes).mono ?_
 rintro e w4 ⟨rfl,h4,f4⟩
 have CC4:=Lh ((CC3.out).step (by simp) h4 f4)
 clear h4 f4 e0 e3 ef d0 d2 d3
 obtain⟨e0,e3,ef,d0,d2,d3⟩:=CC4.out.cells
 clear g0
 have g0:=CC4.out.kid 0 j HJ0.out
 clear g1
 have g1:=CC4.out.kid 1 b HJ1.out
 go_wp2_with fail
 refine (HEB.out vars (AD ts j 2 ⟨slots,seen,false⟩) _ (fun _=>by have:=HS.out;have:=HKO1.out.1;show slots.length≤_;omega) CC4.out.rl CC4.out.nodes).mono ?_
 rintro e w5 ⟨rfl,h5,f5⟩
 have CC5:=Lh ((CC4.out).step (by simp) h5 f5)
 clear h5 f5 e0 e3 ef d0 d2 d3
 obtain⟨e0,e3,ef,d0,d2,d3⟩:=CC5.out.cells
 clear g0
 have g0:=CC5.out.kid 0 j HJ0.out
 clear g1
 have g1:=CC5.out.kid 1 b HJ1.out
 go_wp2_with fail
 refine A8 (by kernel_rfl) (by kernel_rfl) ?_
 have CC6:=Lh CC5.out.drew
 clear e0 e3 ef d0 d2 d3 g0 g1
 obtain⟨e0,e3,ef,d0,d2,d3⟩:=CC6.out.cells
 have g0:=CC6.out.kid 0 j HJ0.out
 have g1:=CC6.out.kid 1 b HJ1.out
 go_wp2_with fail
 refine AX.normal ?_
 go_wp2_with fail
 go_end0
 exact ⟨rfl,by rw [HR.out];exact CC6.out.rl,CC6.out.fr⟩
theorem Tv (B kb tb toff cap:Nat) (ts:List Au) (htb:tb < B) (hl:ts.length≤2000) (htxt:∀ y∈ts,y.text.size≤1099511627776) (i:Nat) (x:Au) (hi:i < ts.length) (hbe:0≤Ap ts i) (hx:ts[i]? = some x)
  (vars:List Vr) (slots:List Int) (seen:Int→Option Value) (w:World) (hs:slots.length≤2 + 3 * i) (h:RL w B kb (.slice (some ⟨tb,toff,none⟩) ts.length cap) vars ⟨slots,seen,false⟩) (hn:As w tb toff ts)
  (hop:x.op=13) (hli:AO x 0 0 0=true) (j b d:Nat) (hj:Am ts i=[j,b,d]) (recS recB:Nat→LSt→LSt) (hB13:∀ j∈Am ts i,B13 B kb tb toff cap ts recB j) (hS13:∀ j∈Am ts i,S13 B kb tb toff cap ts recS j)
  (hln:((if ((AD ts j 2 ⟨slots,seen,false⟩)).bad=true then (AD ts j 2 ⟨slots,seen,false⟩) else recB b (AD ts j 2 ⟨slots,seen,false⟩))).slots.length≤2 + 3 * d) (hrs:((AD ts j 2 ⟨slots,seen,false⟩)).slots.length≤((if ((AD ts j 2 ⟨slots,seen,false⟩)).bad=true then (AD ts j 2 ⟨slots,seen,false⟩) else recB b (AD ts j 2 ⟨slots,seen,false⟩))).slots.length) :
  Calls Tryz.prog 168 #[.pointer (some ⟨kb,0,none⟩),.int .i64 i] w fun e w'=>e=.returned (.tuple #[])∧(∃ ext,RL w' B kb (.slice (some ⟨tb,toff,none⟩) ts.length cap) (vars ++ ext) ((if ((if ((AD ts j 2 ⟨slots,seen,false⟩)).bad=true then (AD ts j 2 ⟨slots,seen,false⟩) else recB b (AD ts j 2 ⟨slots,seen,false⟩))).bad=true then (if ((AD ts j 2 ⟨slots,seen,false⟩)).bad=true then (AD ts j 2 ⟨slots,seen,false⟩) else recB b (AD ts j 2 ⟨slots,seen,false⟩)) else if (ts.getD d AF).op=13 then recS d (if ((AD ts j 2 ⟨slots,seen,false⟩)).bad=true then (AD ts j 2 ⟨slots,seen,false⟩) else recB b (AD ts j 2 ⟨slots,seen,false⟩)) else recB d (if ((AD ts j 2 ⟨slots,seen,false⟩)).bad=true then (AD ts j 2 ⟨slots,seen,false⟩) else recB b (AD ts j 2 ⟨slots,seen,false⟩))))∧(∀ v∈ext,(slots.length:Int)≤v.slot)∧(((if ((if ((AD ts j 2 ⟨slots,seen,false⟩)).bad=true then (AD ts j 2 ⟨slots,seen,false⟩) else recB b (AD ts j 2 ⟨slots,seen,false⟩))).bad=true then (if ((AD ts j 2 ⟨slots,seen,false⟩)).bad=true then (AD ts j 2 ⟨slots,seen,false⟩) else recB b (AD ts j 2 ⟨slots,seen,false⟩)) else if (ts.getD d AF).op=13 then recS d (if ((AD ts j 2 ⟨slots,seen,false⟩)).bad=true then (AD ts j 2 ⟨slots,seen,false⟩) else recB b (AD ts j 2 ⟨slots,seen,false⟩)) else recB d (if ((AD ts j 2 ⟨slots,seen,false⟩)).bad=true then (AD ts j 2 ⟨slots,seen,false⟩) else recB b (AD ts j 2 ⟨slots,seen,false⟩)))).bad=false→ext.map Vr.slot=[]))∧Frm B [158,118,160] w w':=by
 have hj0:=hj
 obtain⟨c0,c1,c2,c3,c4,c5,c6⟩:=hn.all hx
 obtain⟨k0,k3,kf⟩:=h.cells
 simp only at k3
 obtain⟨hB,hks⟩:=h.size
 have hki:=AH B kb tb toff cap ts i x vars ⟨slots,seen,false⟩ w h hn htb hi hl
 have hnk:(Am ts i).length=3:=by rw [hj];rfl
 rw [hnk] at hki
 have HJ0:Hid ((Am ts i)[0]? = some j):=by rw [hj];rfl
 have hko0:=AU (ts:=ts) (i:=i) (j:=j) (by rw [hj];simp)
 have HKO0:=Lh hko0
 clear hko0
 have HJ1:Hid ((Am ts i)[1]? = some b):=by rw [hj];rfl
 have hko1:=AU (ts:=ts) (i:=i) (j:=b) (by rw [hj];simp)
 have HKO1:=Lh hko1
 clear hko1
 have HJ2:Hid ((Am ts i)[2]? = some d):=by rw [hj];rfl
 have hko2:=AU (ts:=ts) (i:=i) (j:=d) (by rw [hj];simp)
 have HKO2:=Lh hko2
 clear hko2
 obtain⟨HKI,HNK,HX,HS,HBE,HT,H,HJ⟩:=Hd8 hki hnk hx hs hbe htxt h hj
 clear hj
 have hop2:=hop
 have q11:(x.op == 11)=false:=Ao (by omega)
 have q12:(x.op == 12)=false:=Ao (by omega)
 have q13:(x.op == 13)=true:=AB hop
 clear hop hop2
 have HLI:=Lh hli
 clear hli
 obtain⟨HEB,HEB3,HES3⟩:=Hd3 (hB13 b (by rw [hj0];simp)) (hB13 d (by rw [hj0];simp)) (hS13 d (by rw [hj0];simp))
 clear hB13 hS13 hj0
 have hv0:slots.length≤((AD ts j 2 ⟨slots,seen,false⟩)).slots.length:=Nat.le_refl _
 obtain⟨V,hV⟩:=Ex0 ((AD ts j 2 ⟨slots,seen,false⟩))
 rw [← hV] at hln hrs hv0 ⊢
 obtain⟨R,hR⟩:=Ex0 ((if V.bad=true then V else recB b V))
 rw [← hR] at hln hrs ⊢
 obtain⟨y,hy,hyg⟩:∃ y,ts[d]? = some y∧ts.getD d AF=y:=by
  have hd:=HKO2.out.2.1
  exact ⟨_,List.getElem?_eq_getElem hd,by rw [List.getD_eq_getElem?_getD,List.getElem?_eq_getElem hd];rfl⟩
 rw [hyg]
 obtain⟨R3,hR3⟩:=Ex0 ((if R.bad=true then R else if y.op=13 then recS d R else recB d R))
 rw [← hR3]
 obtain⟨HYG,HY,HR3,HR,HV,HLN,HRS⟩:=Hd7 hyg hy hR3 hR hV hln (Nat.le_trans hv0 hrs)
 have hdlt:(d:Int) < ts.length:=by have:=HKO2.out.2.1;omega
 clear hR3 hR hln hy hyg hrs hv0 hV
 clear h hn hki hx hs hbe htxt hnk
 go_in
 go_wp2_with fail
 refine HKI.out.mono ?_
 rintro e w1 ⟨A,c,base,rfl,C1⟩
 obtain⟨gk,rfl⟩:=C1.form (by decide)
 obtain⟨e0,e3,ef,d0,d2,d3⟩:=C1.cells
 have g0:=C1.kid 0 j HJ0.out
 have g1:=C1.kid 1 b HJ1.out
 have g2:=C1.kid 2 d HJ2.out
 have CC1:=Lh C1
 have hz1:=C1.rl.size
 clear C1
 go_wp2_with fail
 refine (Bx B kb _ vars ⟨slots,seen,false⟩ _ (CC1.out).rl).mono ?_
 rintro e w2 ⟨rfl,h2,f2⟩
 have CC2:=Lh ((CC1.out).step (by simp) h2 f2)
 clear h2 f2 e0 e3 ef d0 d2 d3
 obtain⟨e0,e3,ef,d0,d2,d3⟩:=CC2.out.cells
 clear g0
 have g0:=CC2.out.kid 0 j HJ0.out
 clear g1
 have g1:=CC2.out.kid 1 b HJ1.out
 clear g2
 have g2:=CC2.out.kid 2 d HJ2.out
 go_wp2_with fail
 refine (CK B kb tb toff cap ts ⟨slots,seen,false⟩ vars i x 0 0 0 _ HLI.out (CC2.out).rl HX.out (CC2.out).nodes hl).mono ?_
 rintro e w3 ⟨rfl,h3,f3⟩
 have CC3:=Lh ((CC2.out).step (by simp) h3 f3)
 clear h3 f3 e0 e3 ef d0 d2 d3
 obtain⟨e0,e3,ef,d0,d2,d3⟩:=CC3.out.cells
 clear g0
 have g0:=CC3.out.kid 0 j HJ0.out
 clear g1
 have g1:=CC3.out.kid 1 b HJ1.out
 clear g2
 have g2:=CC3.out.kid 2 d HJ2.out
 go_wp2_with fail
 refine (Db B kb tb toff cap ts (by omega) htb HT.out j 2 slots vars seen _ HKO0.out.2.1 HKO0.out.2.2.1 (Nat.le_trans HS.out (by omega)) (CC3.out).rl (CC3.out).nodes).mono ?_
 rintro e w4 ⟨rfl,h4,f4⟩
 have CC4:=Lh ((CC3.out).step (by simp) h4 f4)
 clear h4 f4 e0 e3 ef d0 d2 d3
 obtain⟨e0,e3,ef,d0,d2,d3⟩:=CC4.out.cells
 clear g0
 have g0:=CC4.out.kid 0 j HJ0.out
 clear g1
 have g1:=CC4.out.kid 1 b HJ1.out
 clear g2
 have g2:=CC4.out.kid 2 d HJ2.out
 have HC4V:Hid (RL w4 B kb (.slice (some ⟨tb,toff,none⟩) ts.length cap) vars V):=by rw [HV.out];exact CC4.out.rl
 go_wp2_with fail
 refine (HEB.out vars V _ (fun _=>by have:=HS.out;have:=HKO1.out.1;rw [HV.out];show slots.length≤_;omega) HC4V.out CC4.out.nodes).mono ?_
 rintro e w5 ⟨rfl,h5,f5⟩
 have CC5:=Lh ((CC4.out).step (by simp) h5 f5)
 have C5:=CC5.out
 rw [← HR.out] at C5
 clear CC5
 have CC5:=Lh C5
 clear C5
 clear h5 f5 e0 e3 ef d0 d2 d3
 obtain⟨e0,e3,ef,d0,d2,d3⟩:=CC5.out.cells
 clear g0
 have g0:=CC5.out.kid 0 j HJ0.out
 clear g1
 have g1:=CC5.out.kid 1 b HJ1.out
 clear g2
 have g2:=CC5.out.kid 2 d HJ2.out
 have y0:=CC5.out.nodes.op HY.out
 cases hsb:R.bad with
 | true =>
  rw [hsb] at e3
  have HSB:=Lh hsb
  clear hsb
  by_cases hy13:y.op=13
  ·have qy:(y.op == 13)=true:=AB hy13
   clear hy13
   go_wp2_with fail
   refine A8 (by kernel_rfl) (by kernel_rfl) ?_
   have CC6:=Lh CC5.out.drew
   clear e0 e3 ef d0 d2 d3 g0 g1 g2 y0
   obtain⟨e0,e3,ef,d0,d2,d3⟩:=CC6.out.cells
   rw [HSB.out] at e3
   have g0:=CC6.out.kid 0 j HJ0.out
   have g1:=CC6.out.kid 1 b HJ1.out
   have g2:=CC6.out.kid 2 d HJ2.out
   have y0:=CC6.out.nodes.op HY.out
   go_wp2_with fail
   refine AX.normal ?_
   go_wp2_with fail
   go_end0
   refine ⟨rfl,⟨[],?_,fun v hv=>by simp at hv,fun _=>rfl⟩,CC6.out.fr⟩
   rw [List.append_nil,HR3.out,if_pos HSB.out]
   exact CC6.out.rl
  ·have qy:(y.op == 13)=false:=Ao hy13
   clear hy13
   go_wp2_with fail
   refine A8 (by kernel_rfl) (by kernel_rfl) ?_
   have CC6:=Lh CC5.out.drew
   clear e0 e3 ef d0 d2 d3 g0 g1 g2 y0
   obtain⟨e0,e3,ef,d0,d2,d3⟩:=CC6.out.cells
   rw [HSB.out] at e3
   have g0:=CC6.out.kid 0 j HJ0.out
   have g1:=CC6.out.kid 1 b HJ1.out
   have g2:=CC6.out.kid 2 d HJ2.out
   have y0:=CC6.out.nodes.op HY.out
   go_wp2_with fail
   refine AX.normal ?_
   go_wp2_with fail
   go_end0
   refine ⟨rfl,⟨[],?_,fun v hv=>by simp at hv,fun _=>rfl⟩,CC6.out.fr⟩
   rw [List.append_nil,HR3.out,if_pos HSB.out]
   exact CC6.out.rl
 | false =>
  rw [hsb] at e3
  have HSB:=Lh hsb
  clear hsb
  by_cases hy13:y.op=13
  ·have qy:(y.op == 13)=true:=AB hy13
   have HY13:=Lh hy13
   clear hy13
   go_wp2_with fail
   refine A8 (by kernel_rfl) (by kernel_rfl) ?_
   have CC6:=Lh CC5.out.drew
   clear e0 e3 ef d0 d2 d3 g0 g1 g2 y0
   obtain⟨e0,e3,ef,d0,d2,d3⟩:=CC6.out.cells
   rw [HSB.out] at e3
   have g0:=CC6.out.kid 0 j HJ0.out
   have g1:=CC6.out.kid 1 b HJ1.out
   have g2:=CC6.out.kid 2 d HJ2.out
   have y0:=CC6.out.nodes.op HY.out
   go_wp2_with fail
   refine AX.normal ?_
   go_wp2_with fail
   refine (HES3.out vars R _ HSB.out HLN.out CC6.out.rl CC6.out.nodes).mono ?_
   rintro e w7 ⟨rfl,⟨ext,h7,h8,h9⟩,f7⟩
   obtain⟨H7,H8,H9,F7⟩:=Hd4 h7 h8 h9 (CC6.out.fr.trans f7)
   clear h7 h8 h9 f7
   go_wp2_with fail
   go_end0
   have hres:R3=recS d R:=by rw [HR3.out,if_neg (by rw [HSB.out];decide),if_pos HY13.out]
   rw [hres]
   refine ⟨rfl,⟨ext,H7.out,fun v hv=>by have:=H8.out v hv;have:=HRS.out;omega,fun hb=>?_⟩,F7.out⟩
   rw [H9.out hb,HYG.out,if_neg (by rw [HY13.out];decide)]
  ·have qy:(y.op == 13)=false:=Ao hy13
   have HY13:=Lh hy13
   clear hy13
   go_wp2_with fail
   refine A8 (by kernel_rfl) (by kernel_rfl) ?_
   have CC6:=Lh CC5.out.drew
   clear e0 e3 ef d0 d2 d3 g0 g1 g2 y0
   obtain⟨e0,e3,ef,d0,d2,d3⟩:=CC6.out.cells
   rw [HSB.out] at e3
   have g0:=CC6.out.kid 0 j HJ0.out
   have g1:=CC6.out.kid 1 b HJ1.out
   have g2:=CC6.out.kid 2 d HJ2.out
   have y0:=CC6.out.nodes.op HY.out
   go_wp2_with fail
   refine AX.normal ?_
   go_wp2_with fail
   refine (HEB3.out vars R _ (fun _=>HLN.out) CC6.out.rl CC6.out.nodes).mono ?_
   rintro e w7 ⟨rfl,h7,f7⟩
   rw [HSB.out,if_neg (by decide)] at h7
   obtain⟨H7,F7⟩:=Hd2 h7 (CC6.out.fr.trans f7)
   clear h7 f7
   go_wp2_with fail
   go_end0
   have hres:R3=recB d R:=by rw [HR3.out,if_neg (by rw [HSB.out];decide),if_neg HY13.out]
   rw [hres]
   refine ⟨rfl,⟨[],by rw [List.append_nil];exact H7.out,fun v hv=>by simp at hv,fun _=>rfl⟩,F7.out⟩
end Go.Proofs.YtmpcbaflcogmmaaGreatDoor
