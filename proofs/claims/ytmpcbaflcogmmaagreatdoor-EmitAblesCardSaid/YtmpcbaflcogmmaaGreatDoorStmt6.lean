/- Stmt4 Stmt5 Stmt6 -/
import Derived.Test.YtmpcbaflcogmmaaGreatDoorStmt12
namespace Go.Proofs.YtmpcbaflcogmmaaGreatDoor
open Go.RowKit
set_option linter.all false
set_option maxHeartbeats 1000000
set_option maxRecDepth 100000
section
variable (B kb tb toff cap:Nat) (ts:List Au) (slots:List Int) (seen:Int→Option Value) (htb:tb < B) (hl:ts.length≤100000) (htxt:∀ y∈ts,y.text.size≤1099511627776) (i:Nat) (x:Au) (hi:i < ts.length) (hbe:0≤Ap ts i) (hx:ts[i]? = some x) (w:World) (hg:Ci ⟨slots,seen,false⟩) (hs:slots.length≤2 + 3 * i) (h:LK w B kb (.slice (some ⟨tb,toff,none⟩) ts.length cap) ⟨slots,seen,false⟩) (hn:As w tb toff ts)
include B kb tb toff cap ts slots seen htb hl htxt i x hi hbe hx w hg hs h hn
theorem LE (hop:x.op=11) (hm:AP [1] (Am ts i).length=false) :
  Calls Tryz.prog 143 #[.pointer (some ⟨kb,0,none⟩),.int .i64 i] w fun e w'=>e=.returned (.tuple #[])∧LK w' B kb (.slice (some ⟨tb,toff,none⟩) ts.length cap) (⟨slots,seen,true⟩)∧Frm B [144,118] w w':=by
 obtain⟨n,hnk⟩:∃ n,(Am ts i).length=n:=⟨_,rfl⟩
 have hnl:n≤100000:=by rw [← hnk];exact AM hbe hl
 obtain⟨c0,c1,c2,c3,c4,c5,c6⟩:=hn.all hx
 obtain⟨k0,k3⟩:=h.cells
 simp only at k3
 obtain⟨hBk,hks⟩:=h.size
 have htw:tb < w.heap.size:=by omega
 obtain⟨HC0,HG,HX,HK,HS,HBE,HT⟩:=Hd7 (AY B kb tb toff cap ts ⟨slots,seen,false⟩ i n x w hl h hn htb hi hnk) hg hx hnk hs hbe htxt
 clear h hn hg hx hnk hs hbe htxt
 have hop2:=hop
 have q11:(x.op == 11)=true:=AB hop
 have HOP:=Lh hop2
 clear hop hop2
 rw [HK.out] at hm
 have HM:=Lh hm
 clear hm
 go_in
 go_wp2_with fail
 refine HC0.out.mono ?_
 rintro e w1 ⟨A,c,rfl,C0⟩
 obtain⟨e1,d0,d2,d3,e3⟩:=C0.cells
 have CC0:=Lh C0
 have hz0:=C0.size
 clear C0
 go_wp2_with fail
 refine (Ea ((CC0.out).alloc (.cells #[.int .i64 1] 3)) [1] (w1.heap.size + 1) 1 1 rfl (by omega) (Bf w1 (.cells #[.slice A n c] 128) 3 #[.int .i64 1]) HM.out).mono ?_
 rintro e w2 ⟨rfl,h2,f2⟩
 have C2:=(((CC0.out).alloc _)).step (by simp) h2 f2
 clear e1 d0 d2 d3 e3
 obtain⟨e1,d0,d2,d3,e3⟩:=C2.cells
 have CC2:=Lh C2
 clear h2 f2 C2
 go_wp2_with fail
 go_end0
 exact ⟨rfl,CC2.out.lk,CC2.out.fr⟩
theorem Lz (hop:x.op=13) (hm:AP [2,3] (Am ts i).length=false) :
  Calls Tryz.prog 143 #[.pointer (some ⟨kb,0,none⟩),.int .i64 i] w fun e w'=>e=.returned (.tuple #[])∧LK w' B kb (.slice (some ⟨tb,toff,none⟩) ts.length cap) (⟨slots,seen,true⟩)∧Frm B [144,118] w w':=by
 obtain⟨n,hnk⟩:∃ n,(Am ts i).length=n:=⟨_,rfl⟩
 have hnl:n≤100000:=by rw [← hnk];exact AM hbe hl
 obtain⟨c0,c1,c2,c3,c4,c5,c6⟩:=hn.all hx
 obtain⟨k0,k3⟩:=h.cells
 simp only at k3
 obtain⟨hBk,hks⟩:=h.size
 have htw:tb < w.heap.size:=by omega
 obtain⟨HC0,HG,HX,HK,HS,HBE,HT⟩:=Hd7 (AY B kb tb toff cap ts ⟨slots,seen,false⟩ i n x w hl h hn htb hi hnk) hg hx hnk hs hbe htxt
 clear h hn hg hx hnk hs hbe htxt
 have hop2:=hop
 have q11:(x.op == 11)=false:=Ao (by omega)
 have q12:(x.op == 12)=false:=Ao (by omega)
 have q13:(x.op == 13)=true:=AB hop
 have HOP:=Lh hop2
 clear hop hop2
 rw [HK.out] at hm
 have HM:=Lh hm
 clear hm
 go_in
 go_wp2_with fail
 refine HC0.out.mono ?_
 rintro e w1 ⟨A,c,rfl,C0⟩
 obtain⟨e1,d0,d2,d3,e3⟩:=C0.cells
 have CC0:=Lh C0
 have hz0:=C0.size
 clear C0
 go_wp2_with fail
 refine (Ea ((CC0.out).alloc (.cells #[.int .i64 2,.int .i64 3] 3)) [2,3] (w1.heap.size + 1) 2 2 rfl (by omega) (Bf w1 (.cells #[.slice A n c] 128) 3 #[.int .i64 2,.int .i64 3]) HM.out).mono ?_
 rintro e w2 ⟨rfl,h2,f2⟩
 have C2:=(((CC0.out).alloc _)).step (by simp) h2 f2
 clear e1 d0 d2 d3 e3
 obtain⟨e1,d0,d2,d3,e3⟩:=C2.cells
 have CC2:=Lh C2
 clear h2 f2 C2
 go_wp2_with fail
 go_end0
 exact ⟨rfl,CC2.out.lk,CC2.out.fr⟩
theorem L6 (hop:x.op=14) (hm:AP [1] (Am ts i).length=false) :
  Calls Tryz.prog 143 #[.pointer (some ⟨kb,0,none⟩),.int .i64 i] w fun e w'=>e=.returned (.tuple #[])∧LK w' B kb (.slice (some ⟨tb,toff,none⟩) ts.length cap) (⟨slots,seen,true⟩)∧Frm B [144,118] w w':=by
 obtain⟨n,hnk⟩:∃ n,(Am ts i).length=n:=⟨_,rfl⟩
 have hnl:n≤100000:=by rw [← hnk];exact AM hbe hl
 obtain⟨c0,c1,c2,c3,c4,c5,c6⟩:=hn.all hx
 obtain⟨k0,k3⟩:=h.cells
 simp only at k3
 obtain⟨hBk,hks⟩:=h.size
 have htw:tb < w.heap.size:=by omega
 obtain⟨HC0,HG,HX,HK,HS,HBE,HT⟩:=Hd7 (AY B kb tb toff cap ts ⟨slots,seen,false⟩ i n x w hl h hn htb hi hnk) hg hx hnk hs hbe htxt
 clear h hn hg hx hnk hs hbe htxt
 have hop2:=hop
 have q11:(x.op == 11)=false:=Ao (by omega)
 have q12:(x.op == 12)=false:=Ao (by omega)
 have q13:(x.op == 13)=false:=Ao (by omega)
 have q14:(x.op == 14)=true:=AB hop
 have HOP:=Lh hop2
 clear hop hop2
 rw [HK.out] at hm
 have HM:=Lh hm
 clear hm
 go_in
 go_wp2_with fail
 refine HC0.out.mono ?_
 rintro e w1 ⟨A,c,rfl,C0⟩
 obtain⟨e1,d0,d2,d3,e3⟩:=C0.cells
 have CC0:=Lh C0
 have hz0:=C0.size
 clear C0
 go_wp2_with fail
 refine (Ea ((CC0.out).alloc (.cells #[.int .i64 1] 3)) [1] (w1.heap.size + 1) 1 1 rfl (by omega) (Bf w1 (.cells #[.slice A n c] 128) 3 #[.int .i64 1]) HM.out).mono ?_
 rintro e w2 ⟨rfl,h2,f2⟩
 have C2:=(((CC0.out).alloc _)).step (by simp) h2 f2
 clear e1 d0 d2 d3 e3
 obtain⟨e1,d0,d2,d3,e3⟩:=C2.cells
 have CC2:=Lh C2
 clear h2 f2 C2
 go_wp2_with fail
 go_end0
 exact ⟨rfl,CC2.out.lk,CC2.out.fr⟩
theorem Lj (hop:x.op=15) (hm:AP [2] (Am ts i).length=false) :
  Calls Tryz.prog 143 #[.pointer (some ⟨kb,0,none⟩),.int .i64 i] w fun e w'=>e=.returned (.tuple #[])∧LK w' B kb (.slice (some ⟨tb,toff,none⟩) ts.length cap) (⟨slots,seen,true⟩)∧Frm B [144,118] w w':=by
 obtain⟨n,hnk⟩:∃ n,(Am ts i).length=n:=⟨_,rfl⟩
 have hnl:n≤100000:=by rw [← hnk];exact AM hbe hl
 obtain⟨c0,c1,c2,c3,c4,c5,c6⟩:=hn.all hx
 obtain⟨k0,k3⟩:=h.cells
 simp only at k3
 obtain⟨hBk,hks⟩:=h.size
 have htw:tb < w.heap.size:=by omega
 obtain⟨HC0,HG,HX,HK,HS,HBE,HT⟩:=Hd7 (AY B kb tb toff cap ts ⟨slots,seen,false⟩ i n x w hl h hn htb hi hnk) hg hx hnk hs hbe htxt
 clear h hn hg hx hnk hs hbe htxt
 have hop2:=hop
 have q11:(x.op == 11)=false:=Ao (by omega)
 have q12:(x.op == 12)=false:=Ao (by omega)
 have q13:(x.op == 13)=false:=Ao (by omega)
 have q14:(x.op == 14)=false:=Ao (by omega)
 have q15:(x.op == 15)=true:=AB hop
 have HOP:=Lh hop2
 clear hop hop2
 rw [HK.out] at hm
 have HM:=Lh hm
 clear hm
 go_in
 go_wp2_with fail
 refine HC0.out.mono ?_
 rintro e w1 ⟨A,c,rfl,C0⟩
 obtain⟨e1,d0,d2,d3,e3⟩:=C0.cells
 have CC0:=Lh C0
 have hz0:=C0.size
 clear C0
 go_wp2_with fail
 refine (Ea ((CC0.out).alloc (.cells #[.int .i64 2] 3)) [2] (w1.heap.size + 1) 1 1 rfl (by omega) (Bf w1 (.cells #[.slice A n c] 128) 3 #[.int .i64 2]) HM.out).mono ?_
 rintro e w2 ⟨rfl,h2,f2⟩
 have C2:=(((CC0.out).alloc _)).step (by simp) h2 f2
 clear e1 d0 d2 d3 e3
 obtain⟨e1,d0,d2,d3,e3⟩:=C2.cells
 have CC2:=Lh C2
 clear h2 f2 C2
 go_wp2_with fail
 go_end0
 exact ⟨rfl,CC2.out.lk,CC2.out.fr⟩
theorem Lv (hop:x.op=16) (hm:AP [2,3] (Am ts i).length=false) :
  Calls Tryz.prog 143 #[.pointer (some ⟨kb,0,none⟩),.int .i64 i] w fun e w'=>e=.returned (.tuple #[])∧LK w' B kb (.slice (some ⟨tb,toff,none⟩) ts.length cap) (⟨slots,seen,true⟩)∧Frm B [144,118] w w':=by
 obtain⟨n,hnk⟩:∃ n,(Am ts i).length=n:=⟨_,rfl⟩
 have hnl:n≤100000:=by rw [← hnk];exact AM hbe hl
 obtain⟨c0,c1,c2,c3,c4,c5,c6⟩:=hn.all hx
 obtain⟨k0,k3⟩:=h.cells
 simp only at k3
 obtain⟨hBk,hks⟩:=h.size
 have htw:tb < w.heap.size:=by omega
 obtain⟨HC0,HG,HX,HK,HS,HBE,HT⟩:=Hd7 (AY B kb tb toff cap ts ⟨slots,seen,false⟩ i n x w hl h hn htb hi hnk) hg hx hnk hs hbe htxt
 clear h hn hg hx hnk hs hbe htxt
 have hop2:=hop
 have q11:(x.op == 11)=false:=Ao (by omega)
 have q12:(x.op == 12)=false:=Ao (by omega)
 have q13:(x.op == 13)=false:=Ao (by omega)
 have q14:(x.op == 14)=false:=Ao (by omega)
 have q15:(x.op == 15)=false:=Ao (by omega)
 have q16:(x.op == 16)=true:=AB hop
 have HOP:=Lh hop2
 clear hop hop2
 rw [HK.out] at hm
 have HM:=Lh hm
 clear hm
 go_in
 go_wp2_with fail
 refine HC0.out.mono ?_
 rintro e w1 ⟨A,c,rfl,C0⟩
 obtain⟨e1,d0,d2,d3,e3⟩:=C0.cells
 have CC0:=Lh C0
 have hz0:=C0.size
 clear C0
 go_wp2_with fail
 refine (Ea ((CC0.out).alloc (.cells #[.int .i64 2,.int .i64 3] 3)) [2,3] (w1.heap.size + 1) 2 2 rfl (by omega) (Bf w1 (.cells #[.slice A n c] 128) 3 #[.int .i64 2,.int .i64 3]) HM.out).mono ?_
 rintro e w2 ⟨rfl,h2,f2⟩
 have C2:=(((CC0.out).alloc _)).step (by simp) h2 f2
 clear e1 d0 d2 d3 e3
 obtain⟨e1,d0,d2,d3,e3⟩:=C2.cells
 have CC2:=Lh C2
 clear h2 f2 C2
 go_wp2_with fail
 go_end0
 exact ⟨rfl,CC2.out.lk,CC2.out.fr⟩
theorem KZ (hop:x.op=17) (hm:AP [0] (Am ts i).length=false) :
  Calls Tryz.prog 143 #[.pointer (some ⟨kb,0,none⟩),.int .i64 i] w fun e w'=>e=.returned (.tuple #[])∧LK w' B kb (.slice (some ⟨tb,toff,none⟩) ts.length cap) (⟨slots,seen,true⟩)∧Frm B [144,118] w w':=by
 obtain⟨n,hnk⟩:∃ n,(Am ts i).length=n:=⟨_,rfl⟩
 have hnl:n≤100000:=by rw [← hnk];exact AM hbe hl
 obtain⟨c0,c1,c2,c3,c4,c5,c6⟩:=hn.all hx
 obtain⟨k0,k3⟩:=h.cells
 simp only at k3
 obtain⟨hBk,hks⟩:=h.size
 have htw:tb < w.heap.size:=by omega
 obtain⟨HC0,HG,HX,HK,HS,HBE,HT⟩:=Hd7 (AY B kb tb toff cap ts ⟨slots,seen,false⟩ i n x w hl h hn htb hi hnk) hg hx hnk hs hbe htxt
 clear h hn hg hx hnk hs hbe htxt
 have hop2:=hop
 have q11:(x.op == 11)=false:=Ao (by omega)
 have q12:(x.op == 12)=false:=Ao (by omega)
 have q13:(x.op == 13)=false:=Ao (by omega)
 have q14:(x.op == 14)=false:=Ao (by omega)
 have q15:(x.op == 15)=false:=Ao (by omega)
 have q16:(x.op == 16)=false:=Ao (by omega)
 have q17:(x.op == 17)=true:=AB hop
 have HOP:=Lh hop2
 clear hop hop2
 rw [HK.out] at hm
 have HM:=Lh hm
 clear hm
 go_in
 go_wp2_with fail
 refine HC0.out.mono ?_
 rintro e w1 ⟨A,c,rfl,C0⟩
 obtain⟨e1,d0,d2,d3,e3⟩:=C0.cells
 have CC0:=Lh C0
 have hz0:=C0.size
 clear C0
 go_wp2_with fail
 refine (Ea ((CC0.out).alloc (.cells #[.int .i64 0] 3)) [0] (w1.heap.size + 1) 1 1 rfl (by omega) (Bf w1 (.cells #[.slice A n c] 128) 3 #[.int .i64 0]) HM.out).mono ?_
 rintro e w2 ⟨rfl,h2,f2⟩
 have C2:=(((CC0.out).alloc _)).step (by simp) h2 f2
 clear e1 d0 d2 d3 e3
 obtain⟨e1,d0,d2,d3,e3⟩:=C2.cells
 have CC2:=Lh C2
 clear h2 f2 C2
 go_wp2_with fail
 go_end0
 exact ⟨rfl,CC2.out.lk,CC2.out.fr⟩
theorem KG (hop:x.op=18) (hm:AP [0] (Am ts i).length=false) :
  Calls Tryz.prog 143 #[.pointer (some ⟨kb,0,none⟩),.int .i64 i] w fun e w'=>e=.returned (.tuple #[])∧LK w' B kb (.slice (some ⟨tb,toff,none⟩) ts.length cap) (⟨slots,seen,true⟩)∧Frm B [144,118] w w':=by
 obtain⟨n,hnk⟩:∃ n,(Am ts i).length=n:=⟨_,rfl⟩
 have hnl:n≤100000:=by rw [← hnk];exact AM hbe hl
 obtain⟨c0,c1,c2,c3,c4,c5,c6⟩:=hn.all hx
 obtain⟨k0,k3⟩:=h.cells
 simp only at k3
 obtain⟨hBk,hks⟩:=h.size
 have htw:tb < w.heap.size:=by omega
 obtain⟨HC0,HG,HX,HK,HS,HBE,HT⟩:=Hd7 (AY B kb tb toff cap ts ⟨slots,seen,false⟩ i n x w hl h hn htb hi hnk) hg hx hnk hs hbe htxt
 clear h hn hg hx hnk hs hbe htxt
 have hop2:=hop
 have q11:(x.op == 11)=false:=Ao (by omega)
 have q12:(x.op == 12)=false:=Ao (by omega)
 have q13:(x.op == 13)=false:=Ao (by omega)
 have q14:(x.op == 14)=false:=Ao (by omega)
 have q15:(x.op == 15)=false:=Ao (by omega)
 have q16:(x.op == 16)=false:=Ao (by omega)
 have q17:(x.op == 17)=false:=Ao (by omega)
 have q18:(x.op == 18)=true:=AB hop
 have HOP:=Lh hop2
 clear hop hop2
 rw [HK.out] at hm
 have HM:=Lh hm
 clear hm
 go_in
 go_wp2_with fail
 refine HC0.out.mono ?_
 rintro e w1 ⟨A,c,rfl,C0⟩
 obtain⟨e1,d0,d2,d3,e3⟩:=C0.cells
 have CC0:=Lh C0
 have hz0:=C0.size
 clear C0
 go_wp2_with fail
 refine (Ea ((CC0.out).alloc (.cells #[.int .i64 0] 3)) [0] (w1.heap.size + 1) 1 1 rfl (by omega) (Bf w1 (.cells #[.slice A n c] 128) 3 #[.int .i64 0]) HM.out).mono ?_
 rintro e w2 ⟨rfl,h2,f2⟩
 have C2:=(((CC0.out).alloc _)).step (by simp) h2 f2
 clear e1 d0 d2 d3 e3
 obtain⟨e1,d0,d2,d3,e3⟩:=C2.cells
 have CC2:=Lh C2
 clear h2 f2 C2
 go_wp2_with fail
 go_end0
 exact ⟨rfl,CC2.out.lk,CC2.out.fr⟩
end
section
variable (B kb tb toff cap:Nat) (ts:List Au) (slots:List Int) (seen:Int→Option Value) (htb:tb < B) (hl:ts.length≤100000) (htxt:∀ y∈ts,y.text.size≤1099511627776) (i:Nat) (x:Au) (hi:i < ts.length) (hbe:0≤Ap ts i) (hx:ts[i]? = some x) (w:World) (hg:Ci ⟨slots,seen,false⟩) (hs:slots.length≤2 + 3 * i) (h:LK w B kb (.slice (some ⟨tb,toff,none⟩) ts.length cap) ⟨slots,seen,false⟩) (hn:As w tb toff ts)
include B kb tb toff cap ts slots seen htb hl htxt i x hi hbe hx w hg hs h hn
theorem Kz (hop:x.op=11) (hm:AP [1] (Am ts i).length=true) (hli:AO x 0 x.n 0=false) :
  Calls Tryz.prog 143 #[.pointer (some ⟨kb,0,none⟩),.int .i64 i] w fun e w'=>e=.returned (.tuple #[])∧LK w' B kb (.slice (some ⟨tb,toff,none⟩) ts.length cap) (⟨slots,seen,true⟩)∧Frm B [144,118] w w':=by
 obtain⟨n,hnk⟩:∃ n,(Am ts i).length=n:=⟨_,rfl⟩
 have hnl:n≤100000:=by rw [← hnk];exact AM hbe hl
 obtain⟨c0,c1,c2,c3,c4,c5,c6⟩:=hn.all hx
 obtain⟨k0,k3⟩:=h.cells
 simp only at k3
 obtain⟨hBk,hks⟩:=h.size
 have htw:tb < w.heap.size:=by omega
 obtain⟨HC0,HG,HX,HK,HS,HBE,HT⟩:=Hd7 (AY B kb tb toff cap ts ⟨slots,seen,false⟩ i n x w hl h hn htb hi hnk) hg hx hnk hs hbe htxt
 clear h hn hg hx hnk hs hbe htxt
 have hop2:=hop
 have q11:(x.op == 11)=true:=AB hop
 have HOP:=Lh hop2
 clear hop hop2
 rw [HK.out] at hm
 have HM:=Lh hm
 clear hm
 have HLI:=Lh hli
 clear hli
 go_in
 go_wp2_with fail
 refine HC0.out.mono ?_
 rintro e w1 ⟨A,c,rfl,C0⟩
 obtain⟨e1,d0,d2,d3,e3⟩:=C0.cells
 have CC0:=Lh C0
 have hz0:=C0.size
 clear C0
 go_wp2_with fail
 refine (B9 ((CC0.out).alloc (.cells #[.int .i64 1] 3)) [1] (w1.heap.size + 1) 1 1 rfl (by omega) (Bf w1 (.cells #[.slice A n c] 128) 3 #[.int .i64 1]) HM.out).mono ?_
 rintro e w2 ⟨rfl,h2,f2⟩
 have C2:=(((CC0.out).alloc _)).step (by simp) h2 f2
 clear e1 d0 d2 d3 e3
 obtain⟨e1,d0,d2,d3,e3⟩:=C2.cells
 have CC2:=Lh C2
 clear h2 f2 C2
 go_wp2_with fail
 refine (DI B kb tb toff cap ts slots seen i x 0 x.n 0 _ false HLI.out (CC2.out).lk HX.out (CC2.out).nodes hl).mono ?_
 rintro e w3 ⟨rfl,h3,f3⟩
 have C3:=(CC2.out).step (by simp) h3 f3
 clear e1 d0 d2 d3 e3
 obtain⟨e1,d0,d2,d3,e3⟩:=C3.cells
 have CC3:=Lh C3
 clear h3 f3 C3
 go_wp2_with fail
 go_end0
 exact ⟨rfl,CC3.out.lk,CC3.out.fr⟩
theorem KM (hop:x.op=13) (hm:AP [2,3] (Am ts i).length=true) (hli:AO x 0 0 0=false) :
  Calls Tryz.prog 143 #[.pointer (some ⟨kb,0,none⟩),.int .i64 i] w fun e w'=>e=.returned (.tuple #[])∧LK w' B kb (.slice (some ⟨tb,toff,none⟩) ts.length cap) (⟨slots,seen,true⟩)∧Frm B [144,118] w w':=by
 obtain⟨n,hnk⟩:∃ n,(Am ts i).length=n:=⟨_,rfl⟩
 have hnl:n≤100000:=by rw [← hnk];exact AM hbe hl
 obtain⟨c0,c1,c2,c3,c4,c5,c6⟩:=hn.all hx
 obtain⟨k0,k3⟩:=h.cells
 simp only at k3
 obtain⟨hBk,hks⟩:=h.size
 have htw:tb < w.heap.size:=by omega
 obtain⟨HC0,HG,HX,HK,HS,HBE,HT⟩:=Hd7 (AY B kb tb toff cap ts ⟨slots,seen,false⟩ i n x w hl h hn htb hi hnk) hg hx hnk hs hbe htxt
 clear h hn hg hx hnk hs hbe htxt
 have hop2:=hop
 have q11:(x.op == 11)=false:=Ao (by omega)
 have q12:(x.op == 12)=false:=Ao (by omega)
 have q13:(x.op == 13)=true:=AB hop
 have HOP:=Lh hop2
 clear hop hop2
 rw [HK.out] at hm
 have HM:=Lh hm
 clear hm
 have HLI:=Lh hli
 clear hli
 go_in
 go_wp2_with fail
 refine HC0.out.mono ?_
 rintro e w1 ⟨A,c,rfl,C0⟩
 obtain⟨e1,d0,d2,d3,e3⟩:=C0.cells
 have CC0:=Lh C0
 have hz0:=C0.size
 clear C0
 go_wp2_with fail
 refine (B9 ((CC0.out).alloc (.cells #[.int .i64 2,.int .i64 3] 3)) [2,3] (w1.heap.size + 1) 2 2 rfl (by omega) (Bf w1 (.cells #[.slice A n c] 128) 3 #[.int .i64 2,.int .i64 3]) HM.out).mono ?_
 rintro e w2 ⟨rfl,h2,f2⟩
 have C2:=(((CC0.out).alloc _)).step (by simp) h2 f2
 clear e1 d0 d2 d3 e3
 obtain⟨e1,d0,d2,d3,e3⟩:=C2.cells
 have CC2:=Lh C2
 clear h2 f2 C2
 go_wp2_with fail
 refine (DI B kb tb toff cap ts slots seen i x 0 0 0 _ false HLI.out (CC2.out).lk HX.out (CC2.out).nodes hl).mono ?_
 rintro e w3 ⟨rfl,h3,f3⟩
 have C3:=(CC2.out).step (by simp) h3 f3
 clear e1 d0 d2 d3 e3
 obtain⟨e1,d0,d2,d3,e3⟩:=C3.cells
 have CC3:=Lh C3
 clear h3 f3 C3
 go_wp2_with fail
 go_end0
 exact ⟨rfl,CC3.out.lk,CC3.out.fr⟩
theorem La (hop:x.op=16) (hm:AP [2,3] (Am ts i).length=true) (hli:AO x 0 x.n 0=false) :
  Calls Tryz.prog 143 #[.pointer (some ⟨kb,0,none⟩),.int .i64 i] w fun e w'=>e=.returned (.tuple #[])∧LK w' B kb (.slice (some ⟨tb,toff,none⟩) ts.length cap) (⟨slots,seen,true⟩)∧Frm B [144,118] w w':=by
 obtain⟨n,hnk⟩:∃ n,(Am ts i).length=n:=⟨_,rfl⟩
 have hnl:n≤100000:=by rw [← hnk];exact AM hbe hl
 obtain⟨c0,c1,c2,c3,c4,c5,c6⟩:=hn.all hx
 obtain⟨k0,k3⟩:=h.cells
 simp only at k3
 obtain⟨hBk,hks⟩:=h.size
 have htw:tb < w.heap.size:=by omega
 obtain⟨HC0,HG,HX,HK,HS,HBE,HT⟩:=Hd7 (AY B kb tb toff cap ts ⟨slots,seen,false⟩ i n x w hl h hn htb hi hnk) hg hx hnk hs hbe htxt
 clear h hn hg hx hnk hs hbe htxt
 have hop2:=hop
 have q11:(x.op == 11)=false:=Ao (by omega)
 have q12:(x.op == 12)=false:=Ao (by omega)
 have q13:(x.op == 13)=false:=Ao (by omega)
 have q14:(x.op == 14)=false:=Ao (by omega)
 have q15:(x.op == 15)=false:=Ao (by omega)
 have q16:(x.op == 16)=true:=AB hop
 have HOP:=Lh hop2
 clear hop hop2
 rw [HK.out] at hm
 have HM:=Lh hm
 clear hm
 have HLI:=Lh hli
 clear hli
 go_in
 go_wp2_with fail
 refine HC0.out.mono ?_
 rintro e w1 ⟨A,c,rfl,C0⟩
 obtain⟨e1,d0,d2,d3,e3⟩:=C0.cells
 have CC0:=Lh C0
 have hz0:=C0.size
 clear C0
 go_wp2_with fail
 refine (B9 ((CC0.out).alloc (.cells #[.int .i64 2,.int .i64 3] 3)) [2,3] (w1.heap.size + 1) 2 2 rfl (by omega) (Bf w1 (.cells #[.slice A n c] 128) 3 #[.int .i64 2,.int .i64 3]) HM.out).mono ?_
 rintro e w2 ⟨rfl,h2,f2⟩
 have C2:=(((CC0.out).alloc _)).step (by simp) h2 f2
 clear e1 d0 d2 d3 e3
 obtain⟨e1,d0,d2,d3,e3⟩:=C2.cells
 have CC2:=Lh C2
 clear h2 f2 C2
 go_wp2_with fail
 refine (DI B kb tb toff cap ts slots seen i x 0 x.n 0 _ false HLI.out (CC2.out).lk HX.out (CC2.out).nodes hl).mono ?_
 rintro e w3 ⟨rfl,h3,f3⟩
 have C3:=(CC2.out).step (by simp) h3 f3
 clear e1 d0 d2 d3 e3
 obtain⟨e1,d0,d2,d3,e3⟩:=C3.cells
 have CC3:=Lh C3
 clear h3 f3 C3
 go_wp2_with fail
 go_end0
 exact ⟨rfl,CC3.out.lk,CC3.out.fr⟩
theorem Lm (hop:x.op=17) (hm:AP [0] (Am ts i).length=true) (hli:AO x 0 0 0=false) :
  Calls Tryz.prog 143 #[.pointer (some ⟨kb,0,none⟩),.int .i64 i] w fun e w'=>e=.returned (.tuple #[])∧LK w' B kb (.slice (some ⟨tb,toff,none⟩) ts.length cap) (⟨slots,seen,true⟩)∧Frm B [144,118] w w':=by
 obtain⟨n,hnk⟩:∃ n,(Am ts i).length=n:=⟨_,rfl⟩
 have hnl:n≤100000:=by rw [← hnk];exact AM hbe hl
 obtain⟨c0,c1,c2,c3,c4,c5,c6⟩:=hn.all hx
 obtain⟨k0,k3⟩:=h.cells
 simp only at k3
 obtain⟨hBk,hks⟩:=h.size
 have htw:tb < w.heap.size:=by omega
 obtain⟨HC0,HG,HX,HK,HS,HBE,HT⟩:=Hd7 (AY B kb tb toff cap ts ⟨slots,seen,false⟩ i n x w hl h hn htb hi hnk) hg hx hnk hs hbe htxt
 clear h hn hg hx hnk hs hbe htxt
 have hop2:=hop
 have q11:(x.op == 11)=false:=Ao (by omega)
 have q12:(x.op == 12)=false:=Ao (by omega)
 have q13:(x.op == 13)=false:=Ao (by omega)
 have q14:(x.op == 14)=false:=Ao (by omega)
 have q15:(x.op == 15)=false:=Ao (by omega)
 have q16:(x.op == 16)=false:=Ao (by omega)
 have q17:(x.op == 17)=true:=AB hop
 have HOP:=Lh hop2
 clear hop hop2
 rw [HK.out] at hm
 have HM:=Lh hm
 clear hm
 have HLI:=Lh hli
 clear hli
 go_in
 go_wp2_with fail
 refine HC0.out.mono ?_
 rintro e w1 ⟨A,c,rfl,C0⟩
 obtain⟨e1,d0,d2,d3,e3⟩:=C0.cells
 have CC0:=Lh C0
 have hz0:=C0.size
 clear C0
 go_wp2_with fail
 refine (B9 ((CC0.out).alloc (.cells #[.int .i64 0] 3)) [0] (w1.heap.size + 1) 1 1 rfl (by omega) (Bf w1 (.cells #[.slice A n c] 128) 3 #[.int .i64 0]) HM.out).mono ?_
 rintro e w2 ⟨rfl,h2,f2⟩
 have C2:=(((CC0.out).alloc _)).step (by simp) h2 f2
 clear e1 d0 d2 d3 e3
 obtain⟨e1,d0,d2,d3,e3⟩:=C2.cells
 have CC2:=Lh C2
 clear h2 f2 C2
 go_wp2_with fail
 refine (DI B kb tb toff cap ts slots seen i x 0 0 0 _ false HLI.out (CC2.out).lk HX.out (CC2.out).nodes hl).mono ?_
 rintro e w3 ⟨rfl,h3,f3⟩
 have C3:=(CC2.out).step (by simp) h3 f3
 clear e1 d0 d2 d3 e3
 obtain⟨e1,d0,d2,d3,e3⟩:=C3.cells
 have CC3:=Lh C3
 clear h3 f3 C3
 go_wp2_with fail
 go_end0
 exact ⟨rfl,CC3.out.lk,CC3.out.fr⟩
theorem Li (hop:x.op=18) (hm:AP [0] (Am ts i).length=true) (hli:AO x 0 0 0=false) :
  Calls Tryz.prog 143 #[.pointer (some ⟨kb,0,none⟩),.int .i64 i] w fun e w'=>e=.returned (.tuple #[])∧LK w' B kb (.slice (some ⟨tb,toff,none⟩) ts.length cap) (⟨slots,seen,true⟩)∧Frm B [144,118] w w':=by
 obtain⟨n,hnk⟩:∃ n,(Am ts i).length=n:=⟨_,rfl⟩
 have hnl:n≤100000:=by rw [← hnk];exact AM hbe hl
 obtain⟨c0,c1,c2,c3,c4,c5,c6⟩:=hn.all hx
 obtain⟨k0,k3⟩:=h.cells
 simp only at k3
 obtain⟨hBk,hks⟩:=h.size
 have htw:tb < w.heap.size:=by omega
 obtain⟨HC0,HG,HX,HK,HS,HBE,HT⟩:=Hd7 (AY B kb tb toff cap ts ⟨slots,seen,false⟩ i n x w hl h hn htb hi hnk) hg hx hnk hs hbe htxt
 clear h hn hg hx hnk hs hbe htxt
 have hop2:=hop
 have q11:(x.op == 11)=false:=Ao (by omega)
 have q12:(x.op == 12)=false:=Ao (by omega)
 have q13:(x.op == 13)=false:=Ao (by omega)
 have q14:(x.op == 14)=false:=Ao (by omega)
 have q15:(x.op == 15)=false:=Ao (by omega)
 have q16:(x.op == 16)=false:=Ao (by omega)
 have q17:(x.op == 17)=false:=Ao (by omega)
 have q18:(x.op == 18)=true:=AB hop
 have HOP:=Lh hop2
 clear hop hop2
 rw [HK.out] at hm
 have HM:=Lh hm
 clear hm
 have HLI:=Lh hli
 clear hli
 go_in
 go_wp2_with fail
 refine HC0.out.mono ?_
 rintro e w1 ⟨A,c,rfl,C0⟩
 obtain⟨e1,d0,d2,d3,e3⟩:=C0.cells
 have CC0:=Lh C0
 have hz0:=C0.size
 clear C0
 go_wp2_with fail
 refine (B9 ((CC0.out).alloc (.cells #[.int .i64 0] 3)) [0] (w1.heap.size + 1) 1 1 rfl (by omega) (Bf w1 (.cells #[.slice A n c] 128) 3 #[.int .i64 0]) HM.out).mono ?_
 rintro e w2 ⟨rfl,h2,f2⟩
 have C2:=(((CC0.out).alloc _)).step (by simp) h2 f2
 clear e1 d0 d2 d3 e3
 obtain⟨e1,d0,d2,d3,e3⟩:=C2.cells
 have CC2:=Lh C2
 clear h2 f2 C2
 go_wp2_with fail
 refine (DI B kb tb toff cap ts slots seen i x 0 0 0 _ false HLI.out (CC2.out).lk HX.out (CC2.out).nodes hl).mono ?_
 rintro e w3 ⟨rfl,h3,f3⟩
 have C3:=(CC2.out).step (by simp) h3 f3
 clear e1 d0 d2 d3 e3
 obtain⟨e1,d0,d2,d3,e3⟩:=C3.cells
 have CC3:=Lh C3
 clear h3 f3 C3
 go_wp2_with fail
 go_end0
 exact ⟨rfl,CC3.out.lk,CC3.out.fr⟩
theorem Oj (hop:x.op=17) (hm:AP [0] (Am ts i).length=true) (hli:AO x 0 0 0=true) :
  Calls Tryz.prog 143 #[.pointer (some ⟨kb,0,none⟩),.int .i64 i] w fun e w'=>e=.returned (.tuple #[])∧LK w' B kb (.slice (some ⟨tb,toff,none⟩) ts.length cap) (⟨slots,seen,false⟩)∧Frm B [144,118] w w':=by
 obtain⟨n,hnk⟩:∃ n,(Am ts i).length=n:=⟨_,rfl⟩
 have hnl:n≤100000:=by rw [← hnk];exact AM hbe hl
 obtain⟨c0,c1,c2,c3,c4,c5,c6⟩:=hn.all hx
 obtain⟨k0,k3⟩:=h.cells
 simp only at k3
 obtain⟨hBk,hks⟩:=h.size
 have htw:tb < w.heap.size:=by omega
 obtain⟨HC0,HG,HX,HK,HS,HBE,HT⟩:=Hd7 (AY B kb tb toff cap ts ⟨slots,seen,false⟩ i n x w hl h hn htb hi hnk) hg hx hnk hs hbe htxt
 clear h hn hg hx hnk hs hbe htxt
 have hop2:=hop
 have q11:(x.op == 11)=false:=Ao (by omega)
 have q12:(x.op == 12)=false:=Ao (by omega)
 have q13:(x.op == 13)=false:=Ao (by omega)
 have q14:(x.op == 14)=false:=Ao (by omega)
 have q15:(x.op == 15)=false:=Ao (by omega)
 have q16:(x.op == 16)=false:=Ao (by omega)
 have q17:(x.op == 17)=true:=AB hop
 have HOP:=Lh hop2
 clear hop hop2
 rw [HK.out] at hm
 have HM:=Lh hm
 clear hm
 have HLI:=Lh hli
 clear hli
 go_in
 go_wp2_with fail
 refine HC0.out.mono ?_
 rintro e w1 ⟨A,c,rfl,C0⟩
 obtain⟨e1,d0,d2,d3,e3⟩:=C0.cells
 have CC0:=Lh C0
 have hz0:=C0.size
 clear C0
 go_wp2_with fail
 refine (B9 ((CC0.out).alloc (.cells #[.int .i64 0] 3)) [0] (w1.heap.size + 1) 1 1 rfl (by omega) (Bf w1 (.cells #[.slice A n c] 128) 3 #[.int .i64 0]) HM.out).mono ?_
 rintro e w2 ⟨rfl,h2,f2⟩
 have C2:=(((CC0.out).alloc _)).step (by simp) h2 f2
 clear e1 d0 d2 d3 e3
 obtain⟨e1,d0,d2,d3,e3⟩:=C2.cells
 have CC2:=Lh C2
 clear h2 f2 C2
 go_wp2_with fail
 refine (Cl B kb tb toff cap ts slots seen i x 0 0 0 _ HLI.out (CC2.out).lk HX.out (CC2.out).nodes hl).mono ?_
 rintro e w3 ⟨rfl,h3,f3⟩
 have C3:=(CC2.out).step (by simp) h3 f3
 clear e1 d0 d2 d3 e3
 obtain⟨e1,d0,d2,d3,e3⟩:=C3.cells
 have CC3:=Lh C3
 clear h3 f3 C3
 go_wp2_with fail
 go_end0
 exact ⟨rfl,CC3.out.lk,CC3.out.fr⟩
theorem OQ (hop:x.op=18) (hm:AP [0] (Am ts i).length=true) (hli:AO x 0 0 0=true) :
  Calls Tryz.prog 143 #[.pointer (some ⟨kb,0,none⟩),.int .i64 i] w fun e w'=>e=.returned (.tuple #[])∧LK w' B kb (.slice (some ⟨tb,toff,none⟩) ts.length cap) (⟨slots,seen,false⟩)∧Frm B [144,118] w w':=by
 obtain⟨n,hnk⟩:∃ n,(Am ts i).length=n:=⟨_,rfl⟩
 have hnl:n≤100000:=by rw [← hnk];exact AM hbe hl
 obtain⟨c0,c1,c2,c3,c4,c5,c6⟩:=hn.all hx
 obtain⟨k0,k3⟩:=h.cells
 simp only at k3
 obtain⟨hBk,hks⟩:=h.size
 have htw:tb < w.heap.size:=by omega
 obtain⟨HC0,HG,HX,HK,HS,HBE,HT⟩:=Hd7 (AY B kb tb toff cap ts ⟨slots,seen,false⟩ i n x w hl h hn htb hi hnk) hg hx hnk hs hbe htxt
 clear h hn hg hx hnk hs hbe htxt
 have hop2:=hop
 have q11:(x.op == 11)=false:=Ao (by omega)
 have q12:(x.op == 12)=false:=Ao (by omega)
 have q13:(x.op == 13)=false:=Ao (by omega)
 have q14:(x.op == 14)=false:=Ao (by omega)
 have q15:(x.op == 15)=false:=Ao (by omega)
 have q16:(x.op == 16)=false:=Ao (by omega)
 have q17:(x.op == 17)=false:=Ao (by omega)
 have q18:(x.op == 18)=true:=AB hop
 have HOP:=Lh hop2
 clear hop hop2
 rw [HK.out] at hm
 have HM:=Lh hm
 clear hm
 have HLI:=Lh hli
 clear hli
 go_in
 go_wp2_with fail
 refine HC0.out.mono ?_
 rintro e w1 ⟨A,c,rfl,C0⟩
 obtain⟨e1,d0,d2,d3,e3⟩:=C0.cells
 have CC0:=Lh C0
 have hz0:=C0.size
 clear C0
 go_wp2_with fail
 refine (B9 ((CC0.out).alloc (.cells #[.int .i64 0] 3)) [0] (w1.heap.size + 1) 1 1 rfl (by omega) (Bf w1 (.cells #[.slice A n c] 128) 3 #[.int .i64 0]) HM.out).mono ?_
 rintro e w2 ⟨rfl,h2,f2⟩
 have C2:=(((CC0.out).alloc _)).step (by simp) h2 f2
 clear e1 d0 d2 d3 e3
 obtain⟨e1,d0,d2,d3,e3⟩:=C2.cells
 have CC2:=Lh C2
 clear h2 f2 C2
 go_wp2_with fail
 refine (Cl B kb tb toff cap ts slots seen i x 0 0 0 _ HLI.out (CC2.out).lk HX.out (CC2.out).nodes hl).mono ?_
 rintro e w3 ⟨rfl,h3,f3⟩
 have C3:=(CC2.out).step (by simp) h3 f3
 clear e1 d0 d2 d3 e3
 obtain⟨e1,d0,d2,d3,e3⟩:=C3.cells
 have CC3:=Lh C3
 clear h3 f3 C3
 go_wp2_with fail
 go_end0
 exact ⟨rfl,CC3.out.lk,CC3.out.fr⟩
end
theorem TF (B kb tb toff cap:Nat) (ts:List Au) (slots:List Int) (seen:Int→Option Value) (htb:tb < B) (hl:ts.length≤100000) (htxt:∀ y∈ts,y.text.size≤1099511627776) (i:Nat) (x:Au) (hi:i < ts.length) (hbe:0≤Ap ts i) (hx:ts[i]? = some x) (w:World) (hg:Ci ⟨slots,seen,false⟩) (hs:slots.length≤2 + 3 * i)
  (h:LK w B kb (.slice (some ⟨tb,toff,none⟩) ts.length cap) ⟨slots,seen,false⟩) (hn:As w tb toff ts)
  (hm:AP [1] (Am ts i).length=true) (hop:x.op=11) (hli:AO x 0 x.n 0=true) (j:Nat) (r:List Nat) (hj:Am ts i=j :: r) (kd hgt:Int) (bd:Bool) (hex:Dl ts ⟨slots,seen,false⟩ j false=(kd,hgt,bd)) :
  Calls Tryz.prog 143 #[.pointer (some ⟨kb,0,none⟩),.int .i64 i] w fun e w'=>e=.returned (.tuple #[])∧LK w' B kb (.slice (some ⟨tb,toff,none⟩) ts.length cap) (AE x.n true [kd] (Cr (hgt,bd) ⟨slots,seen,false⟩))∧Frm B [144,118] w w':=by
 obtain⟨n,hnk⟩:∃ n,(Am ts i).length=n:=⟨_,rfl⟩
 have hnl:n≤100000:=by rw [← hnk];exact AM hbe hl
 obtain⟨c0,c1,c2,c3,c4,c5,c6⟩:=hn.all hx
 obtain⟨k0,k3⟩:=h.cells
 simp only at k3
 obtain⟨hBk,hks⟩:=h.size
 have htw:tb < w.heap.size:=by omega
 obtain⟨HC0,HG,HX,HK,HS,HBE,HT⟩:=Hd7 (AY B kb tb toff cap ts ⟨slots,seen,false⟩ i n x w hl h hn htb hi hnk) hg hx hnk hs hbe htxt
 clear h hn hg hx hnk hs hbe htxt
 have hop2:=hop
 have q11:(x.op == 11)=true:=AB hop
 have HOP:=Lh hop2
 clear hop hop2
 rw [HK.out] at hm
 have HM:=Lh hm
 clear hm
 have HLI:=Lh hli
 clear hli
 have hjj:=AU (ts:=ts) (i:=i) (j:=j) (by rw [hj];simp)
 have HJ0:Hid ((Am ts i)[0]? = some j):=by rw [hj];rfl
 have HJL:=Lh hjj.2.1
 have HN0:Hid (0 < n):=Lh (by rw [← HK.out,hj];simp)
 have HJ:=Lh hj
 clear hj hjj
 have HEX:=Lh hex
 clear hex
 go_in
 go_wp2_with fail
 refine HC0.out.mono ?_
 rintro e w1 ⟨A,c,rfl,C0⟩
 obtain⟨e1,d0,d2,d3,e3⟩:=C0.cells
 have CC0:=Lh C0
 have hz0:=C0.size
 clear C0
 go_wp2_with fail
 obtain⟨gk,rfl⟩:=CC0.out.kid0 HN0.out
 have g0:=CC0.out.kidCell HK.out 0 j HJ0.out
 have gl0:=CC0.out.kidLt
 have gcap:=CC0.out.kidCap
 refine (B9 ((CC0.out).alloc (.cells #[.int .i64 1] 3)) [1] (w1.heap.size + 1) 1 1 rfl (by omega) (Bf w1 (.cells #[.slice (some ⟨gk,0,none⟩) n c] 128) 3 #[.int .i64 1]) HM.out).mono ?_
 rintro e w2 ⟨rfl,h2,f2⟩
 have C2:=(((CC0.out).alloc _)).step (by simp) h2 f2
 clear e1 d0 d2 d3 e3
 obtain⟨e1,d0,d2,d3,e3⟩:=C2.cells
 have CC2:=Lh C2
 clear h2 f2 C2
 clear g0
 have g0:=CC2.out.kidCell HK.out 0 j HJ0.out
 go_wp2_with fail
 refine (Cl B kb tb toff cap ts slots seen i x 0 x.n 0 _ HLI.out (CC2.out).lk HX.out (CC2.out).nodes hl).mono ?_
 rintro e w3 ⟨rfl,h3,f3⟩
 have C3:=(CC2.out).step (by simp) h3 f3
 clear e1 d0 d2 d3 e3
 obtain⟨e1,d0,d2,d3,e3⟩:=C3.cells
 have CC3:=Lh C3
 clear h3 f3 C3
 clear g0
 have g0:=CC3.out.kidCell HK.out 0 j HJ0.out
 go_wp2_with fail
 refine A8 (by kernel_rfl) (by kernel_rfl) ?_
 go_wp2_with fail
 refine (Uo htb hl HT.out HG.out j HJL.out kd hgt bd HEX.out CC3.out.drew.lk CC3.out.drew.nodes).mono ?_
 rintro e w4 ⟨rfl,h4,f4⟩
 have C4:=(CC3.out.drew).step (by simp) h4 f4
 clear e1 d0 d2 d3 e3
 obtain⟨e1,d0,d2,d3,e3⟩:=C4.cells
 have CC4:=Lh C4
 clear h4 f4 C4
 clear g0
 have g0:=CC4.out.kidCell HK.out 0 j HJ0.out
 go_wp2_with fail
 refine AX.normal ?_
 go_wp2_with fail
 refine (CD B kb _ ⟨slots,seen,bd⟩ (decide (hgt≤256)) _ CC4.out.lk).mono ?_
 rintro e w5 ⟨rfl,h5,f5⟩
 have C5:=(CC4.out).step (by simp) h5 f5
 clear e1 d0 d2 d3 e3
 obtain⟨e1,d0,d2,d3,e3⟩:=C5.cells
 have CC5:=Lh C5
 clear h5 f5 C5
 clear g0
 have g0:=CC5.out.kidCell HK.out 0 j HJ0.out
 go_wp2_with fail
 refine (DT B kb x.n true [kd] w5.heap.size 1 ((⟨slots,seen,bd⟩:LSt).must (decide (hgt≤256))) _ _ (by have:=HS.out;simp only [LSt.must];omega) (by simp) ((CC5.out).alloc _).lk (Blk.new w5 118 #[.int .i8 kd]) (by have:=(CC5.out).size;simp;omega)).mono ?_
 rintro e w6 ⟨rfl,h6,f6⟩
 have C6:=(CC5.out.alloc _).step (by simp) h6 f6
 clear e1 d0 d2 d3 e3
 obtain⟨e1,d0,d2,d3,e3⟩:=C6.cells
 have CC6:=Lh C6
 clear h6 f6 C6
 clear g0
 have g0:=CC6.out.kidCell HK.out 0 j HJ0.out
 go_wp2_with fail
 go_end0
 exact ⟨rfl,CC6.out.lk,CC6.out.fr⟩
end Go.Proofs.YtmpcbaflcogmmaaGreatDoor
