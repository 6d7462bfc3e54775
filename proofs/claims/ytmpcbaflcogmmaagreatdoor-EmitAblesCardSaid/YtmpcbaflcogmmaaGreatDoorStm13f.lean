/- Stm13d Stm13e Stm13f -/
import Derived.Test.YtmpcbaflcogmmaaGreatDoorCall13a
import Derived.Test.YtmpcbaflcogmmaaGreatDoorLoop13e
namespace Go.Proofs.YtmpcbaflcogmmaaGreatDoor
open Go.RowKit
set_option linter.all false
set_option maxHeartbeats 2000000
set_option maxRecDepth 100000
section
variable (B kb tb toff cap:Nat) (ts:List Au) (htb:tb < B) (hl:ts.length≤2000) (htxt:∀ y∈ts,y.text.size≤1099511627776) (i:Nat) (x:Au) (hi:i < ts.length) (hbe:0≤Ap ts i) (hx:ts[i]? = some x) (vars:List Vr) (slots:List Int) (seen:Int→Option Value) (w:World) (hs:slots.length≤2 + 3 * i) (h:RL w B kb (.slice (some ⟨tb,toff,none⟩) ts.length cap) vars ⟨slots,seen,false⟩) (hn:As w tb toff ts)
include B kb tb toff cap ts htb hl htxt i x hi hbe hx vars slots seen w hs h hn
theorem Nh (hop:x.op=14) (R:LSt) (hlp:∀ wx,RL wx B kb (.slice (some ⟨tb,toff,none⟩) ts.length cap) vars ⟨slots,seen,false⟩→As wx tb toff ts→Calls Tryz.prog 207 #[.pointer (some ⟨kb,0,none⟩),.int .i64 i] wx fun e w'=>e=.returned (.tuple #[])∧RL w' B kb (.slice (some ⟨tb,toff,none⟩) ts.length cap) vars R∧Frm B [158,118,160] wx w') :
  Calls Tryz.prog 168 #[.pointer (some ⟨kb,0,none⟩),.int .i64 i] w fun e w'=>e=.returned (.tuple #[])∧(RL w' B kb (.slice (some ⟨tb,toff,none⟩) ts.length cap) vars R)∧Frm B [158,118,160] w w':=by
 obtain⟨c0,c1,c2,c3,c4,c5,c6⟩:=hn.all hx
 obtain⟨k0,k3,kf⟩:=h.cells
 simp only at k3
 obtain⟨hB,hks⟩:=h.size
 have hki:=AH B kb tb toff cap ts i x vars ⟨slots,seen,false⟩ w h hn htb hi hl
 obtain⟨n,hnk⟩:∃ n,(Am ts i).length=n:=⟨_,rfl⟩
 rw [hnk] at hki
 obtain⟨HKI,HNK,HX,HS,HBE,HT,H⟩:=Hd7 hki hnk hx hs hbe htxt h
 have hop2:=hop
 have q11:(x.op == 11)=false:=Ao (by omega)
 have q12:(x.op == 12)=false:=Ao (by omega)
 have q13:(x.op == 13)=false:=Ao (by omega)
 have q14:(x.op == 14)=true:=AB hop
 clear hop hop2
 have HLP:=Lh hlp
 clear hlp
 clear h hn hki hx hs hbe htxt
 go_in
 go_wp2_with fail
 refine HKI.out.mono ?_
 rintro e w1 ⟨A,c,base,rfl,C1⟩
 obtain⟨e0,e3,ef,d0,d2,d3⟩:=C1.cells
 have CC1:=Lh C1
 have hz1:=C1.rl.size
 clear C1
 go_wp2_with fail
 refine (HLP.out _ CC1.out.rl CC1.out.nodes).mono ?_
 rintro e w2 ⟨rfl,h2,f2⟩
 have CC2:=Lh ((CC1.out).step (by simp) h2 f2)
 clear h2 f2 e0 e3 ef d0 d2 d3
 obtain⟨e0,e3,ef,d0,d2,d3⟩:=CC2.out.cells
 go_wp2_with fail
 go_end0
 exact ⟨rfl,CC2.out.rl,CC2.out.fr⟩
theorem Nj (hop:x.op=15) (R:LSt) (hlp:∀ wx,RL wx B kb (.slice (some ⟨tb,toff,none⟩) ts.length cap) vars ⟨slots,seen,false⟩→As wx tb toff ts→Calls Tryz.prog 207 #[.pointer (some ⟨kb,0,none⟩),.int .i64 i] wx fun e w'=>e=.returned (.tuple #[])∧RL w' B kb (.slice (some ⟨tb,toff,none⟩) ts.length cap) vars R∧Frm B [158,118,160] wx w') :
  Calls Tryz.prog 168 #[.pointer (some ⟨kb,0,none⟩),.int .i64 i] w fun e w'=>e=.returned (.tuple #[])∧(RL w' B kb (.slice (some ⟨tb,toff,none⟩) ts.length cap) vars R)∧Frm B [158,118,160] w w':=by
 obtain⟨c0,c1,c2,c3,c4,c5,c6⟩:=hn.all hx
 obtain⟨k0,k3,kf⟩:=h.cells
 simp only at k3
 obtain⟨hB,hks⟩:=h.size
 have hki:=AH B kb tb toff cap ts i x vars ⟨slots,seen,false⟩ w h hn htb hi hl
 obtain⟨n,hnk⟩:∃ n,(Am ts i).length=n:=⟨_,rfl⟩
 rw [hnk] at hki
 obtain⟨HKI,HNK,HX,HS,HBE,HT,H⟩:=Hd7 hki hnk hx hs hbe htxt h
 have hop2:=hop
 have q11:(x.op == 11)=false:=Ao (by omega)
 have q12:(x.op == 12)=false:=Ao (by omega)
 have q13:(x.op == 13)=false:=Ao (by omega)
 have q14:(x.op == 14)=false:=Ao (by omega)
 have q15:(x.op == 15)=true:=AB hop
 clear hop hop2
 have HLP:=Lh hlp
 clear hlp
 clear h hn hki hx hs hbe htxt
 go_in
 go_wp2_with fail
 refine HKI.out.mono ?_
 rintro e w1 ⟨A,c,base,rfl,C1⟩
 obtain⟨e0,e3,ef,d0,d2,d3⟩:=C1.cells
 have CC1:=Lh C1
 have hz1:=C1.rl.size
 clear C1
 go_wp2_with fail
 refine (HLP.out _ CC1.out.rl CC1.out.nodes).mono ?_
 rintro e w2 ⟨rfl,h2,f2⟩
 have CC2:=Lh ((CC1.out).step (by simp) h2 f2)
 clear h2 f2 e0 e3 ef d0 d2 d3
 obtain⟨e0,e3,ef,d0,d2,d3⟩:=CC2.out.cells
 go_wp2_with fail
 go_end0
 exact ⟨rfl,CC2.out.rl,CC2.out.fr⟩
theorem MY (hop:x.op=16) (R:LSt) (hlp:∀ wx,RL wx B kb (.slice (some ⟨tb,toff,none⟩) ts.length cap) vars ⟨slots,seen,false⟩→As wx tb toff ts→Calls Tryz.prog 207 #[.pointer (some ⟨kb,0,none⟩),.int .i64 i] wx fun e w'=>e=.returned (.tuple #[])∧RL w' B kb (.slice (some ⟨tb,toff,none⟩) ts.length cap) vars R∧Frm B [158,118,160] wx w') :
  Calls Tryz.prog 168 #[.pointer (some ⟨kb,0,none⟩),.int .i64 i] w fun e w'=>e=.returned (.tuple #[])∧(RL w' B kb (.slice (some ⟨tb,toff,none⟩) ts.length cap) vars R)∧Frm B [158,118,160] w w':=by
 obtain⟨c0,c1,c2,c3,c4,c5,c6⟩:=hn.all hx
 obtain⟨k0,k3,kf⟩:=h.cells
 simp only at k3
 obtain⟨hB,hks⟩:=h.size
 have hki:=AH B kb tb toff cap ts i x vars ⟨slots,seen,false⟩ w h hn htb hi hl
 obtain⟨n,hnk⟩:∃ n,(Am ts i).length=n:=⟨_,rfl⟩
 rw [hnk] at hki
 obtain⟨HKI,HNK,HX,HS,HBE,HT,H⟩:=Hd7 hki hnk hx hs hbe htxt h
 have hop2:=hop
 have q11:(x.op == 11)=false:=Ao (by omega)
 have q12:(x.op == 12)=false:=Ao (by omega)
 have q13:(x.op == 13)=false:=Ao (by omega)
 have q14:(x.op == 14)=false:=Ao (by omega)
 have q15:(x.op == 15)=false:=Ao (by omega)
 have q16:(x.op == 16)=true:=AB hop
 clear hop hop2
 have HLP:=Lh hlp
 clear hlp
 clear h hn hki hx hs hbe htxt
 go_in
 go_wp2_with fail
 refine HKI.out.mono ?_
 rintro e w1 ⟨A,c,base,rfl,C1⟩
 obtain⟨e0,e3,ef,d0,d2,d3⟩:=C1.cells
 have CC1:=Lh C1
 have hz1:=C1.rl.size
 clear C1
 go_wp2_with fail
 refine (HLP.out _ CC1.out.rl CC1.out.nodes).mono ?_
 rintro e w2 ⟨rfl,h2,f2⟩
 have CC2:=Lh ((CC1.out).step (by simp) h2 f2)
 clear h2 f2 e0 e3 ef d0 d2 d3
 obtain⟨e0,e3,ef,d0,d2,d3⟩:=CC2.out.cells
 go_wp2_with fail
 go_end0
 exact ⟨rfl,CC2.out.rl,CC2.out.fr⟩
end
theorem Vg (rec:Nat→Bool→ER) (ts:List Au) (hrb:∀ j,(rec j true).2.2=true) (i:Nat) (x:Au) (hx:ts.getD i AF=x) (s:LSt) :
  (match Bp Bu x.n with | none=>FI s | some sg=>Cr (Cu rec ts i (Am ts i) sg) s)={ s with bad:=(GB rec ts 2 x (Am ts i)).2.2 || !(decide ((GB rec ts 2 x (Am ts i)).2.1≤256)) }:=by
 have hL:F9 2=Bu:=rfl
 unfold GB
 rw [hL]
 cases hs:Bp Bu x.n with
 | none=>simp [FI]
 | some sg =>
  simp only
  unfold Cu Cr
  simp only [hx]
  by_cases hk:(Am ts i).length=sg.args.length
  ·by_cases hli:AO x sg.tell x.n 0=true
   ·simp [hk,hli]
   ·have hli:=Bool.eq_false_iff.2 hli
    simp [hk,hli,Ed rec ts hrb]
  ·simp [hk]
section
variable (B kb tb toff cap:Nat) (ts:List Au) (htb:tb < B) (hl:ts.length≤2000) (htxt:∀ y∈ts,y.text.size≤1099511627776) (i:Nat) (x:Au) (hi:i < ts.length) (hbe:0≤Ap ts i) (hx:ts[i]? = some x) (vars:List Vr) (slots:List Int) (seen:Int→Option Value) (w:World) (hs:slots.length≤2 + 3 * i) (h:RL w B kb (.slice (some ⟨tb,toff,none⟩) ts.length cap) vars ⟨slots,seen,false⟩) (hn:As w tb toff ts)
include B kb tb toff cap ts htb hl htxt i x hi hbe hx vars slots seen w hs h hn
theorem RN (hop:x.op=19) :
  Calls Tryz.prog 168 #[.pointer (some ⟨kb,0,none⟩),.int .i64 i] w fun e w'=>e=.returned (.tuple #[])∧(RL w' B kb (.slice (some ⟨tb,toff,none⟩) ts.length cap) vars { (⟨slots,seen,false⟩:LSt) with bad:=(GB (fun j b=>BR ts slots seen ts.length j b) ts 2 x (Am ts i)).2.2 || !(decide ((GB (fun j b=>BR ts slots seen ts.length j b) ts 2 x (Am ts i)).2.1≤256)) })∧Frm B [158,118,160] w w':=by
 have h0:=h
 obtain⟨c0,c1,c2,c3,c4,c5,c6⟩:=hn.all hx
 obtain⟨k0,k3,kf⟩:=h.cells
 simp only at k3
 obtain⟨hB,hks⟩:=h.size
 have hki:=AH B kb tb toff cap ts i x vars ⟨slots,seen,false⟩ w h hn htb hi hl
 obtain⟨n,hnk⟩:∃ n,(Am ts i).length=n:=⟨_,rfl⟩
 rw [hnk] at hki
 obtain⟨HKI,HNK,HX,HS,HBE,HT,H⟩:=Hd7 hki hnk hx hs hbe htxt h
 have hop2:=hop
 have q11:(x.op == 11)=false:=Ao (by omega)
 have q12:(x.op == 12)=false:=Ao (by omega)
 have q13:(x.op == 13)=false:=Ao (by omega)
 have q14:(x.op == 14)=false:=Ao (by omega)
 have q15:(x.op == 15)=false:=Ao (by omega)
 have q16:(x.op == 16)=false:=Ao (by omega)
 have q17:(x.op == 17)=false:=Ao (by omega)
 have q18:(x.op == 18)=false:=Ao (by omega)
 have q19:(x.op == 19)=true:=AB hop
 clear hop hop2
 have HI:=Lh h0.good.2
 have hca:=fun (wx:World) (h1:RL wx B kb (.slice (some ⟨tb,toff,none⟩) ts.length cap) vars ⟨slots,seen,false⟩) h2=>Oo B kb tb toff cap ts slots vars (by omega) htb HT.out 2 (.inr rfl) (fun j b=>BR ts slots seen ts.length j b) (3 * ts.length) (by omega) (by omega) (fun j=>by rw [GX]) i x wx h1.good.1 HX.out h2 (fun j hj=>by
  obtain⟨g1,g2,g3,_⟩:=AU hj
  have hlen:=HI.out.len
  have:=HS.out
  exact Gf B kb tb toff cap ts slots vars seen (by omega) htb HT.out (by omega) HI.out.rel ts.length j (by omega) (by omega) g2 g3)
 obtain⟨E,hE⟩:=Ex0 (GB (fun j b=>BR ts slots seen ts.length j b) ts 2 x (Am ts i))
 rw [← hE] at hca
 rw [← hE]
 have HCA:=Lh hca
 clear hca h0 hE
 clear h hn hki hx hs hbe htxt
 go_in
 go_wp2_with fail
 refine HKI.out.mono ?_
 rintro e w1 ⟨A,c,base,rfl,C1⟩
 obtain⟨e0,e3,ef,d0,d2,d3⟩:=C1.cells
 have CC1:=Lh C1
 have hz1:=C1.rl.size
 clear C1
 go_wp2_with fail
 refine (HCA.out _ CC1.out.rl CC1.out.nodes).mono ?_
 rintro e w2 ⟨kd,hh,rfl,hh0,hh1,hrk,f2,hgood⟩
 obtain⟨HGO,CC2⟩:=Hd2 hgood (CC1.out.step (by simp) (RL.of hrk HI.out) f2)
 clear hrk f2 hgood e0 e3 ef d0 d2 d3
 obtain⟨e0,e3,ef,d0,d2,d3⟩:=CC2.out.cells
 go_wp2_with fail
 refine (OS B kb _ vars _ hh _ CC2.out.rl).mono ?_
 rintro e w3 ⟨rfl,h3,f3⟩
 have CC3:=Lh ((CC2.out).step (by simp) h3 f3)
 clear h3 f3 e0 e3 ef d0 d2 d3
 obtain⟨e0,e3,ef,d0,d2,d3⟩:=CC3.out.cells
 go_wp2_with fail
 go_end0
 have hrl:=CC3.out.rl
 refine ⟨rfl,?_,CC3.out.fr⟩
 cases hb:E.2.2 with
 | true =>
  rw [hb] at hrl
  simpa using hrl
 | false =>
  rw [hb,(HGO.out hb).2] at hrl
  exact hrl
theorem OL (hop:x.op≠11∧x.op≠12∧x.op≠13∧x.op≠14∧x.op≠15∧x.op≠16∧x.op≠17∧x.op≠18∧x.op≠19) :
  Calls Tryz.prog 168 #[.pointer (some ⟨kb,0,none⟩),.int .i64 i] w fun e w'=>e=.returned (.tuple #[])∧(RL w' B kb (.slice (some ⟨tb,toff,none⟩) ts.length cap) vars ⟨slots,seen,true⟩)∧Frm B [158,118,160] w w':=by
 obtain⟨c0,c1,c2,c3,c4,c5,c6⟩:=hn.all hx
 obtain⟨k0,k3,kf⟩:=h.cells
 simp only at k3
 obtain⟨hB,hks⟩:=h.size
 have hki:=AH B kb tb toff cap ts i x vars ⟨slots,seen,false⟩ w h hn htb hi hl
 obtain⟨n,hnk⟩:∃ n,(Am ts i).length=n:=⟨_,rfl⟩
 rw [hnk] at hki
 obtain⟨HKI,HNK,HX,HS,HBE,HT,H⟩:=Hd7 hki hnk hx hs hbe htxt h
 obtain⟨h11,h12,h13,h14,h15,h16,h17,h18,h19⟩:=hop
 have q11:(x.op == 11)=false:=Ao h11
 have q12:(x.op == 12)=false:=Ao h12
 have q13:(x.op == 13)=false:=Ao h13
 have q14:(x.op == 14)=false:=Ao h14
 have q15:(x.op == 15)=false:=Ao h15
 have q16:(x.op == 16)=false:=Ao h16
 have q17:(x.op == 17)=false:=Ao h17
 have q18:(x.op == 18)=false:=Ao h18
 have q19:(x.op == 19)=false:=Ao h19
 clear h11 h12 h13 h14 h15 h16 h17 h18 h19
 clear h hn hki hx hs hbe htxt
 go_in
 go_wp2_with fail
 refine HKI.out.mono ?_
 rintro e w1 ⟨A,c,base,rfl,C1⟩
 obtain⟨e0,e3,ef,d0,d2,d3⟩:=C1.cells
 have CC1:=Lh C1
 have hz1:=C1.rl.size
 clear C1
 go_wp2_with fail
 go_end0
 obtain⟨sl,hrk,_⟩:=CC1.out.rl
 exact ⟨rfl,RL.isBad (hrk.setBad true) rfl,CC1.out.fr.trans ((hrk.frm 3 (.bool true)).more (by simp))⟩
end
section
variable (B kb tb toff cap:Nat) (ts:List Au) (htb:tb < B) (hl:ts.length≤2000) (htxt:∀ y∈ts,y.text.size≤1099511627776) (i:Nat) (x:Au) (hi:i < ts.length) (hbe:0≤Ap ts i) (hx:ts[i]? = some x) (vars:List Vr) (slots:List Int) (seen:Int→Option Value) (w:World) (hs:slots.length≤2 + 3 * i) (h:RL w B kb (.slice (some ⟨tb,toff,none⟩) ts.length cap) vars ⟨slots,seen,false⟩) (hn:As w tb toff ts) (hop:x.op=12)
include B kb tb toff cap ts htb hl htxt i x hi hbe hx vars slots seen w hs h hn hop
theorem IR (e1:(((Am ts i).length:Int) == 1)=true) (hf:Da vars x.n=none) :
  Calls Tryz.prog 168 #[.pointer (some ⟨kb,0,none⟩),.int .i64 i] w fun e w'=>e=.returned (.tuple #[])∧(RL w' B kb (.slice (some ⟨tb,toff,none⟩) ts.length cap) vars ⟨slots,seen,true⟩)∧Frm B [158,118,160] w w':=by
 obtain⟨c0,c1,c2,c3,c4,c5,c6⟩:=hn.all hx
 obtain⟨k0,k3,kf⟩:=h.cells
 simp only at k3
 obtain⟨hB,hks⟩:=h.size
 have hki:=AH B kb tb toff cap ts i x vars ⟨slots,seen,false⟩ w h hn htb hi hl
 obtain⟨n,hnk⟩:∃ n,(Am ts i).length=n:=⟨_,rfl⟩
 rw [hnk] at hki
 obtain⟨HKI,HF⟩:=Hd2 hki hf
 clear hf
 obtain⟨HNK,HX,HS,HBE,HT,H⟩:=Hd6 hnk hx hs hbe htxt h
 have hop2:=hop
 have q11:(x.op == 11)=false:=Ao (by omega)
 have q12:(x.op == 12)=true:=AB hop
 clear hop hop2
 rw [hnk] at e1
 clear h hn hki hx hs hbe htxt
 go_in
 go_wp2_with fail
 refine HKI.out.mono ?_
 rintro e w1 ⟨A,c,base,rfl,C1⟩
 obtain⟨e0,e3,ef,d0,d2,d3⟩:=C1.cells
 have CC1:=Lh C1
 have hz1:=C1.rl.size
 clear C1
 obtain⟨sl0,hrk0,hgd0⟩:=CC1.out.rl
 obtain⟨e00,hI0⟩:=hgd0 rfl
 simp only at e00
 rw [e00] at hrk0
 have hse:=Dy B kb _ ⟨slots,vars,false⟩ x.n w1 hrk0 (by have h1:vars.length≤slots.length:=hI0.len;have:=HS.out;show vars.length≤_;omega)
 simp only at hse
 rw [HF.out] at hse
 simp only [Mb,Option.isSome] at hse
 obtain⟨HSE,HI⟩:=Hd2 hse hI0
 clear hse hrk0 hgd0 hI0 e00
 go_wp2_with fail
 refine HSE.out.mono ?_
 rintro e w2 ⟨rfl,h2,b2⟩
 have hzz:=b2.size
 have f2:Frm B [158] w1 w2:=Frm.of_below b2 (by omega)
 have CC2a:=Lh (CC1.out.step (by simp) (RL.of h2 HI.out) f2)
 obtain⟨CC2,HVB2⟩:=Hd2 (CC2a.out.alloc (.cells #[.string ByteArray.empty,.int .i64 (0),.int .i8 (0),.bool false] 160)) (Blk.new w2 160 #[.string ByteArray.empty,.int .i64 (0),.int .i8 (0),.bool false])
 have v2:=HVB2.out.cell 2
 have v3:=HVB2.out.cell 3
 clear h2 f2 b2 e0 e3 ef d0 d2 d3
 obtain⟨e0,e3,ef,d0,d2,d3⟩:=CC2.out.cells
 go_wp2_with fail
 refine (Cd B kb _ vars ⟨slots,seen,false⟩ _ _ (CC2.out).rl (.inl rfl)).mono ?_
 rintro e w3 ⟨rfl,h3,f3⟩
 obtain⟨CC3,HVB3⟩:=Hd2 ((CC2.out).step (by simp) h3 f3) (f3.blk HVB2.out (by decide))
 clear v2 v3
 have v2:=HVB3.out.cell 2
 have v3:=HVB3.out.cell 3
 clear h3 f3 e0 e3 ef d0 d2 d3
 obtain⟨e0,e3,ef,d0,d2,d3⟩:=CC3.out.cells
 go_wp2_with fail
 refine (Bh B kb tb toff cap ts ⟨slots,seen,true⟩ vars i x 0 x.n 0 _ (.inr rfl) (CC3.out).rl HX.out (CC3.out).nodes hl).mono ?_
 rintro e w4 ⟨rfl,h4,f4⟩
 obtain⟨CC4,HVB4⟩:=Hd2 ((CC3.out).step (by simp) h4 f4) (f4.blk HVB3.out (by decide))
 clear v2 v3
 have v2:=HVB4.out.cell 2
 have v3:=HVB4.out.cell 3
 clear h4 f4 e0 e3 ef d0 d2 d3
 obtain⟨e0,e3,ef,d0,d2,d3⟩:=CC4.out.cells
 have e3:w4.cell? ⟨kb,3,none⟩=some (.bool true):=e3
 go_wp2_with fail
 go_end0
 exact ⟨rfl,CC4.out.rl,CC4.out.fr⟩
theorem IY (e1:(((Am ts i).length:Int) == 1)=false) (hf:Da vars x.n=none) :
  Calls Tryz.prog 168 #[.pointer (some ⟨kb,0,none⟩),.int .i64 i] w fun e w'=>e=.returned (.tuple #[])∧(RL w' B kb (.slice (some ⟨tb,toff,none⟩) ts.length cap) vars ⟨slots,seen,true⟩)∧Frm B [158,118,160] w w':=by
 obtain⟨c0,c1,c2,c3,c4,c5,c6⟩:=hn.all hx
 obtain⟨k0,k3,kf⟩:=h.cells
 simp only at k3
 obtain⟨hB,hks⟩:=h.size
 have hki:=AH B kb tb toff cap ts i x vars ⟨slots,seen,false⟩ w h hn htb hi hl
 obtain⟨n,hnk⟩:∃ n,(Am ts i).length=n:=⟨_,rfl⟩
 rw [hnk] at hki
 obtain⟨HKI,HF⟩:=Hd2 hki hf
 clear hf
 obtain⟨HNK,HX,HS,HBE,HT,H⟩:=Hd6 hnk hx hs hbe htxt h
 have hop2:=hop
 have q11:(x.op == 11)=false:=Ao (by omega)
 have q12:(x.op == 12)=true:=AB hop
 clear hop hop2
 rw [hnk] at e1
 clear h hn hki hx hs hbe htxt
 go_in
 go_wp2_with fail
 refine HKI.out.mono ?_
 rintro e w1 ⟨A,c,base,rfl,C1⟩
 obtain⟨e0,e3,ef,d0,d2,d3⟩:=C1.cells
 have CC1:=Lh C1
 have hz1:=C1.rl.size
 clear C1
 obtain⟨sl0,hrk0,hgd0⟩:=CC1.out.rl
 obtain⟨e00,hI0⟩:=hgd0 rfl
 simp only at e00
 rw [e00] at hrk0
 have hse:=Dy B kb _ ⟨slots,vars,false⟩ x.n w1 hrk0 (by have h1:vars.length≤slots.length:=hI0.len;have:=HS.out;show vars.length≤_;omega)
 simp only at hse
 rw [HF.out] at hse
 simp only [Mb,Option.isSome] at hse
 obtain⟨HSE,HI⟩:=Hd2 hse hI0
 clear hse hrk0 hgd0 hI0 e00
 go_wp2_with fail
 refine HSE.out.mono ?_
 rintro e w2 ⟨rfl,h2,b2⟩
 have hzz:=b2.size
 have f2:Frm B [158] w1 w2:=Frm.of_below b2 (by omega)
 have CC2a:=Lh (CC1.out.step (by simp) (RL.of h2 HI.out) f2)
 obtain⟨CC2,HVB2⟩:=Hd2 (CC2a.out.alloc (.cells #[.string ByteArray.empty,.int .i64 (0),.int .i8 (0),.bool false] 160)) (Blk.new w2 160 #[.string ByteArray.empty,.int .i64 (0),.int .i8 (0),.bool false])
 have v2:=HVB2.out.cell 2
 have v3:=HVB2.out.cell 3
 clear h2 f2 b2 e0 e3 ef d0 d2 d3
 obtain⟨e0,e3,ef,d0,d2,d3⟩:=CC2.out.cells
 go_wp2_with fail
 refine (Cd B kb _ vars ⟨slots,seen,false⟩ _ _ (CC2.out).rl (.inl rfl)).mono ?_
 rintro e w3 ⟨rfl,h3,f3⟩
 obtain⟨CC3,HVB3⟩:=Hd2 ((CC2.out).step (by simp) h3 f3) (f3.blk HVB2.out (by decide))
 clear v2 v3
 have v2:=HVB3.out.cell 2
 have v3:=HVB3.out.cell 3
 clear h3 f3 e0 e3 ef d0 d2 d3
 obtain⟨e0,e3,ef,d0,d2,d3⟩:=CC3.out.cells
 go_wp2_with fail
 refine (Bh B kb tb toff cap ts ⟨slots,seen,true⟩ vars i x 0 x.n 0 _ (.inr rfl) (CC3.out).rl HX.out (CC3.out).nodes hl).mono ?_
 rintro e w4 ⟨rfl,h4,f4⟩
 obtain⟨CC4,HVB4⟩:=Hd2 ((CC3.out).step (by simp) h4 f4) (f4.blk HVB3.out (by decide))
 clear v2 v3
 have v2:=HVB4.out.cell 2
 have v3:=HVB4.out.cell 3
 clear h4 f4 e0 e3 ef d0 d2 d3
 obtain⟨e0,e3,ef,d0,d2,d3⟩:=CC4.out.cells
 have e3:w4.cell? ⟨kb,3,none⟩=some (.bool true):=e3
 go_wp2_with fail
 go_end0
 exact ⟨rfl,CC4.out.rl,CC4.out.fr⟩
theorem Jo (e1:(((Am ts i).length:Int) == 1)=false) (vs vk:Int) (hf:Da vars x.n=some ⟨vs,vk,true⟩) :
  Calls Tryz.prog 168 #[.pointer (some ⟨kb,0,none⟩),.int .i64 i] w fun e w'=>e=.returned (.tuple #[])∧(RL w' B kb (.slice (some ⟨tb,toff,none⟩) ts.length cap) vars ⟨slots,seen,true⟩)∧Frm B [158,118,160] w w':=by
 obtain⟨c0,c1,c2,c3,c4,c5,c6⟩:=hn.all hx
 obtain⟨k0,k3,kf⟩:=h.cells
 simp only at k3
 obtain⟨hB,hks⟩:=h.size
 have hki:=AH B kb tb toff cap ts i x vars ⟨slots,seen,false⟩ w h hn htb hi hl
 obtain⟨n,hnk⟩:∃ n,(Am ts i).length=n:=⟨_,rfl⟩
 rw [hnk] at hki
 obtain⟨HKI,HF⟩:=Hd2 hki hf
 clear hf
 obtain⟨HNK,HX,HS,HBE,HT,H⟩:=Hd6 hnk hx hs hbe htxt h
 have hop2:=hop
 have q11:(x.op == 11)=false:=Ao (by omega)
 have q12:(x.op == 12)=true:=AB hop
 clear hop hop2
 rw [hnk] at e1
 clear h hn hki hx hs hbe htxt
 go_in
 go_wp2_with fail
 refine HKI.out.mono ?_
 rintro e w1 ⟨A,c,base,rfl,C1⟩
 obtain⟨e0,e3,ef,d0,d2,d3⟩:=C1.cells
 have CC1:=Lh C1
 have hz1:=C1.rl.size
 clear C1
 obtain⟨sl0,hrk0,hgd0⟩:=CC1.out.rl
 obtain⟨e00,hI0⟩:=hgd0 rfl
 simp only at e00
 rw [e00] at hrk0
 have hse:=Dy B kb _ ⟨slots,vars,false⟩ x.n w1 hrk0 (by have h1:vars.length≤slots.length:=hI0.len;have:=HS.out;show vars.length≤_;omega)
 simp only at hse
 rw [HF.out] at hse
 simp only [Mb,Option.isSome,Vr.cells] at hse
 obtain⟨HSE,HI⟩:=Hd2 hse hI0
 clear hse hrk0 hgd0 hI0 e00
 go_wp2_with fail
 refine HSE.out.mono ?_
 rintro e w2 ⟨rfl,h2,b2⟩
 have hzz:=b2.size
 have f2:Frm B [158] w1 w2:=Frm.of_below b2 (by omega)
 have CC2a:=Lh (CC1.out.step (by simp) (RL.of h2 HI.out) f2)
 obtain⟨CC2,HVB2⟩:=Hd2 (CC2a.out.alloc (.cells #[.string ByteArray.empty,.int .i64 (vs),.int .i8 (vk),.bool true] 160)) (Blk.new w2 160 #[.string ByteArray.empty,.int .i64 (vs),.int .i8 (vk),.bool true])
 have v2:=HVB2.out.cell 2
 have v3:=HVB2.out.cell 3
 clear h2 f2 b2 e0 e3 ef d0 d2 d3
 obtain⟨e0,e3,ef,d0,d2,d3⟩:=CC2.out.cells
 go_wp2_with fail
 refine (Cd B kb _ vars ⟨slots,seen,false⟩ _ _ (CC2.out).rl (.inl rfl)).mono ?_
 rintro e w3 ⟨rfl,h3,f3⟩
 obtain⟨CC3,HVB3⟩:=Hd2 ((CC2.out).step (by simp) h3 f3) (f3.blk HVB2.out (by decide))
 clear v2 v3
 have v2:=HVB3.out.cell 2
 have v3:=HVB3.out.cell 3
 clear h3 f3 e0 e3 ef d0 d2 d3
 obtain⟨e0,e3,ef,d0,d2,d3⟩:=CC3.out.cells
 go_wp2_with fail
 refine (Bh B kb tb toff cap ts ⟨slots,seen,true⟩ vars i x 0 x.n 0 _ (.inr rfl) (CC3.out).rl HX.out (CC3.out).nodes hl).mono ?_
 rintro e w4 ⟨rfl,h4,f4⟩
 obtain⟨CC4,HVB4⟩:=Hd2 ((CC3.out).step (by simp) h4 f4) (f4.blk HVB3.out (by decide))
 clear v2 v3
 have v2:=HVB4.out.cell 2
 have v3:=HVB4.out.cell 3
 clear h4 f4 e0 e3 ef d0 d2 d3
 obtain⟨e0,e3,ef,d0,d2,d3⟩:=CC4.out.cells
 have e3:w4.cell? ⟨kb,3,none⟩=some (.bool true):=e3
 go_wp2_with fail
 go_end0
 exact ⟨rfl,CC4.out.rl,CC4.out.fr⟩
theorem Im (e1:(((Am ts i).length:Int) == 1)=false) (vs vk:Int) (hf:Da vars x.n=some ⟨vs,vk,false⟩) :
  Calls Tryz.prog 168 #[.pointer (some ⟨kb,0,none⟩),.int .i64 i] w fun e w'=>e=.returned (.tuple #[])∧(RL w' B kb (.slice (some ⟨tb,toff,none⟩) ts.length cap) vars ⟨slots,seen,true⟩)∧Frm B [158,118,160] w w':=by
 obtain⟨c0,c1,c2,c3,c4,c5,c6⟩:=hn.all hx
 obtain⟨k0,k3,kf⟩:=h.cells
 simp only at k3
 obtain⟨hB,hks⟩:=h.size
 have hki:=AH B kb tb toff cap ts i x vars ⟨slots,seen,false⟩ w h hn htb hi hl
 obtain⟨n,hnk⟩:∃ n,(Am ts i).length=n:=⟨_,rfl⟩
 rw [hnk] at hki
 obtain⟨HKI,HF⟩:=Hd2 hki hf
 clear hf
 obtain⟨HNK,HX,HS,HBE,HT,H⟩:=Hd6 hnk hx hs hbe htxt h
 have hop2:=hop
 have q11:(x.op == 11)=false:=Ao (by omega)
 have q12:(x.op == 12)=true:=AB hop
 clear hop hop2
 rw [hnk] at e1
 clear h hn hki hx hs hbe htxt
 go_in
 go_wp2_with fail
 refine HKI.out.mono ?_
 rintro e w1 ⟨A,c,base,rfl,C1⟩
 obtain⟨e0,e3,ef,d0,d2,d3⟩:=C1.cells
 have CC1:=Lh C1
 have hz1:=C1.rl.size
 clear C1
 obtain⟨sl0,hrk0,hgd0⟩:=CC1.out.rl
 obtain⟨e00,hI0⟩:=hgd0 rfl
 simp only at e00
 rw [e00] at hrk0
 have hse:=Dy B kb _ ⟨slots,vars,false⟩ x.n w1 hrk0 (by have h1:vars.length≤slots.length:=hI0.len;have:=HS.out;show vars.length≤_;omega)
 simp only at hse
 rw [HF.out] at hse
 simp only [Mb,Option.isSome,Vr.cells] at hse
 obtain⟨HSE,HI⟩:=Hd2 hse hI0
 clear hse hrk0 hgd0 hI0 e00
 go_wp2_with fail
 refine HSE.out.mono ?_
 rintro e w2 ⟨rfl,h2,b2⟩
 have hzz:=b2.size
 have f2:Frm B [158] w1 w2:=Frm.of_below b2 (by omega)
 have CC2a:=Lh (CC1.out.step (by simp) (RL.of h2 HI.out) f2)
 obtain⟨CC2,HVB2⟩:=Hd2 (CC2a.out.alloc (.cells #[.string ByteArray.empty,.int .i64 (vs),.int .i8 (vk),.bool false] 160)) (Blk.new w2 160 #[.string ByteArray.empty,.int .i64 (vs),.int .i8 (vk),.bool false])
 have v2:=HVB2.out.cell 2
 have v3:=HVB2.out.cell 3
 clear h2 f2 b2 e0 e3 ef d0 d2 d3
 obtain⟨e0,e3,ef,d0,d2,d3⟩:=CC2.out.cells
 go_wp2_with fail
 refine (Cd B kb _ vars ⟨slots,seen,false⟩ _ _ (CC2.out).rl (.inl rfl)).mono ?_
 rintro e w3 ⟨rfl,h3,f3⟩
 obtain⟨CC3,HVB3⟩:=Hd2 ((CC2.out).step (by simp) h3 f3) (f3.blk HVB2.out (by decide))
 clear v2 v3
 have v2:=HVB3.out.cell 2
 have v3:=HVB3.out.cell 3
 clear h3 f3 e0 e3 ef d0 d2 d3
 obtain⟨e0,e3,ef,d0,d2,d3⟩:=CC3.out.cells
 go_wp2_with fail
 refine (Bh B kb tb toff cap ts ⟨slots,seen,true⟩ vars i x 0 x.n 0 _ (.inr rfl) (CC3.out).rl HX.out (CC3.out).nodes hl).mono ?_
 rintro e w4 ⟨rfl,h4,f4⟩
 obtain⟨CC4,HVB4⟩:=Hd2 ((CC3.out).step (by simp) h4 f4) (f4.blk HVB3.out (by decide))
 clear v2 v3
 have v2:=HVB4.out.cell 2
 have v3:=HVB4.out.cell 3
 clear h4 f4 e0 e3 ef d0 d2 d3
 obtain⟨e0,e3,ef,d0,d2,d3⟩:=CC4.out.cells
 have e3:w4.cell? ⟨kb,3,none⟩=some (.bool true):=e3
 go_wp2_with fail
 go_end0
 exact ⟨rfl,CC4.out.rl,CC4.out.fr⟩
end
end Go.Proofs.YtmpcbaflcogmmaaGreatDoor
