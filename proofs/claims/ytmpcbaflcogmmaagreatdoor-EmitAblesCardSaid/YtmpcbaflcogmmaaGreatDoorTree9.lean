/- Able1 Able2 Able3 Able4 Able5 Tree9 Gas -/
import Derived.Deep.RegionWith
import Derived.Deep.RegionHeld3
import Derived.Test.YtmpcbaflcogmmaaGreatDoorAble
import Derived.Test.YtmpcbaflcogmmaaGreatDoorExpr
import Derived.Test.YtmpcbaflcogmmaaGreatDoorKinds12
import Derived.Test.YtmpcbaflcogmmaaGreatDoorLook13
import Derived.Test.YtmpcbaflcogmmaaGreatDoorTree
namespace Go.Proofs.YtmpcbaflcogmmaaGreatDoor
open Go.RowKit
set_option linter.all false
set_option maxHeartbeats 2000000
set_option maxRecDepth 100000
theorem ZpTree9:0≤1∧0≤1∧0≤1∧0≤1∧0≤1∧0≤1∧0≤1∧0≤1∧0≤1∧0≤1∧0≤1∧0≤1:=by decide
theorem Mp (on:Int) (SA:Option Addr) (slots:List Int) (sc tb toff tc:Nat) (ts:List Au) (w:World) (h0:0≤on) (h1:on≤4) (h2:slots.length≤32) (h3:ts.length≤2000) (htb:tb < w.heap.size) (hn:As w tb toff ts) (hS:AV w SA slots) (htxt:∀ y∈ts,y.text.size≤1099511627776) (hpos:0 < ts.length)
  (hb:¬ Ap ts 0=ts.length) :
  Calls Tryz.prog 44 #[.agg #[.int .i64 on,.slice SA slots.length sc,.bool false,.slice (some ⟨tb,toff,none⟩) ts.length tc]] w fun e w'=>e=.returned (.bool false)∧Below w.heap.size w w':=by
 have hl:ts.length≤100000:=by omega
 obtain⟨n,hn2⟩:∃ n,ts.length=n:=⟨_,rfl⟩
 have hn3:n≤2000:=by omega
 have hmm:=@run_makeMap Tryz.prog
 obtain⟨w3,w4,hr1,hr2,hC⟩:=D3 w #[.int .i64 on,.slice SA slots.length sc,.bool false,.slice (some ⟨tb,toff,none⟩) ts.length tc]
 have AC:=Lh (hC.1 (.slice (some ⟨tb,toff,none⟩) ts.length tc) hn htb rfl)
 obtain⟨A0,A1,A2,A3⟩:=AC.out.cells
 obtain⟨HS,HT,HP,HN2⟩:=Hd4 hS htxt hpos hn2
 have hb0:=fun k (hk:k < ts.length) wx (hx:As wx tb toff ts)=>CL tb toff tc ts k wx hl hx hk
 have HB0:=Lh hb0
 have hbb:(Ap ts 0 != (ts.length:Int))=true:=by rw [bne_iff_ne];exact hb
 clear hb
 clear hC hS htxt hpos hb0 hn2
 obtain⟨_,_,_,_,_,_,_,_,_,_,_,_⟩:=ZpTree9
 go_in
 go_wp2_with fail
 go_region_held3 (fun w'=>w'.cell? ⟨w.heap.size,3,none⟩=some (.slice (some ⟨tb,toff,none⟩) ts.length tc)) (first | exact A3) ((first | (go_at_call 101;refine (HB0.out 0 HP.out _ (AC.out.drew).nodes).mono ?_;rintro e w5 ⟨rfl,rfl⟩;skip)))
 all_goals go_wp2_with fail
 all_goals go_ret
 all_goals exact ⟨rfl,AC.out.fr.below.drew⟩
theorem Kb (on:Int) (SA:Option Addr) (slots:List Int) (sc tb toff tc:Nat) (ts:List Au) (w:World) (h0:0≤on) (h1:on≤4) (h2:slots.length≤32) (h3:ts.length≤2000) (htb:tb < w.heap.size) (hn:As w tb toff ts) (hS:AV w SA slots) (htxt:∀ y∈ts,y.text.size≤1099511627776) (hpos:0 < ts.length)
  (hb:Ap ts 0=ts.length) (hbad:((sbM ts (ts.length + 1)).2 0 Bn).bad=false) (hlen:((sbM ts (ts.length + 1)).2 0 Bn).slots.length≤1099511627776) :
  Calls Tryz.prog 44 #[.agg #[.int .i64 on,.slice SA slots.length sc,.bool false,.slice (some ⟨tb,toff,none⟩) ts.length tc]] w fun e w'=>e=.returned (.bool (decide (((sbM ts (ts.length + 1)).2 0 Bn).slots=slots)))∧Below w.heap.size w w':=by
 have hl:ts.length≤100000:=by omega
 obtain⟨n,hn2⟩:∃ n,ts.length=n:=⟨_,rfl⟩
 have hn3:n≤2000:=by omega
 have hmm:=@run_makeMap Tryz.prog
 obtain⟨w3,w4,hr1,hr2,hC⟩:=D3 w #[.int .i64 on,.slice SA slots.length sc,.bool false,.slice (some ⟨tb,toff,none⟩) ts.length tc]
 have AC:=Lh (hC.1 (.slice (some ⟨tb,toff,none⟩) ts.length tc) hn htb rfl)
 obtain⟨A0,A1,A2,A3⟩:=AC.out.cells
 obtain⟨HS,HT,HP,HN2⟩:=Hd4 hS htxt hpos hn2
 have hb0:=fun k (hk:k < ts.length) wx (hx:As wx tb toff ts)=>CL tb toff tc ts k wx hl hx hk
 have HB0:=Lh hb0
 have hbb:(Ap ts 0 != (ts.length:Int))=false:=by rw [hb];simp
 have HB:=Lh hb
 clear hb
 have HBAD:=Lh hbad
 clear hbad
 have HLEN:=Lh hlen
 clear hlen
 clear hC hS htxt hpos hb0 hn2
 obtain⟨_,_,_,_,_,_,_,_,_,_,_,_⟩:=ZpTree9
 obtain⟨_,_,_,_,_,_,_,_,_,_,_,_⟩:=ZpTree9
 go_in
 go_wp2_with fail
 go_region_held3 (fun w'=>w'.cell? ⟨w.heap.size,3,none⟩=some (.slice (some ⟨tb,toff,none⟩) ts.length tc)) (first | exact A3) ((first | (go_at_call 101;refine (HB0.out 0 HP.out _ (AC.out.drew).nodes).mono ?_;rintro e w5 ⟨rfl,rfl⟩;skip)))
 all_goals go_wp2_with fail
 refine ((LJ AC.out.tbB hl HT.out (ts.length + 1) (0) (by omega) HP.out (by rw [HB.out];omega)).2 (Bn) _ rfl Kw (by decide) (AC.out.drew).lk (AC.out.drew).nodes).mono ?_
 rintro e w6 ⟨rfl,h6,f6⟩
 have AC6:=Lh ((AC.out.drew).step (by simp) h6 f6)
 clear A0 A1 A2 A3 h6 f6
 obtain⟨A0,A1,A2,A3⟩:=AC6.out.cells
 obtain⟨kx0,kx3⟩:=AC6.out.lk.cells
 rw [HBAD.out] at kx3
 obtain⟨svf,mbf,_,kx1,_,_,ownf,_⟩:=AC6.out.lk.parts
 obtain⟨Af,cf,rfl⟩:=AJ ownf
 have hq:Calls Tryz.prog 104 #[.slice Af (((sbM ts (ts.length + 1)).2 0 Bn)).slots.length cf,.slice SA slots.length sc] w6.drew fun e w'=>e=.returned (.bool (decide ((((sbM ts (ts.length + 1)).2 0 Bn)).slots=slots)))∧∃ n,w'=w6.drew.drewN n:=
  KH Af SA cf sc (((sbM ts (ts.length + 1)).2 0 Bn)).slots slots w6.drew HLEN.out (by omega) (GT ownf) (fun q x hx=>by
   obtain⟨b,off,r1,r2,r3⟩:=HS.out q x hx
   exact ⟨b,off,r1,(AC6.out.fr.below.cell (p:=⟨b,_,none⟩) r2).trans r3⟩)
 have HQ:=Lh hq
 clear ownf hq
 go_wp2_with fail
 refine A8 (by kernel_rfl) (by kernel_rfl) ?_
 go_wp2_with fail
 refine HQ.out.mono ?_
 rintro e wz ⟨rfl,nz,rfl⟩
 go_wp2_with fail
 refine AX.normal ?_
 go_wp2_with fail
 go_ret
 exact ⟨rfl,(AC6.out.fr.drewN (1 + nz)).below⟩
theorem LH (on:Int) (SA:Option Addr) (slots:List Int) (sc tb toff tc:Nat) (ts:List Au) (w:World) (h0:0≤on) (h1:on≤4) (h2:slots.length≤32) (h3:ts.length≤2000) (htb:tb < w.heap.size) (hn:As w tb toff ts) (hS:AV w SA slots) (htxt:∀ y∈ts,y.text.size≤1099511627776) (hpos:0 < ts.length)
  (hb:Ap ts 0=ts.length) (hbad:((sbM ts (ts.length + 1)).2 0 Bn).bad=true) :
  Calls Tryz.prog 44 #[.agg #[.int .i64 on,.slice SA slots.length sc,.bool false,.slice (some ⟨tb,toff,none⟩) ts.length tc]] w fun e w'=>e=.returned (.bool false)∧Below w.heap.size w w':=by
 have hl:ts.length≤100000:=by omega
 obtain⟨n,hn2⟩:∃ n,ts.length=n:=⟨_,rfl⟩
 have hn3:n≤2000:=by omega
 have hmm:=@run_makeMap Tryz.prog
 obtain⟨w3,w4,hr1,hr2,hC⟩:=D3 w #[.int .i64 on,.slice SA slots.length sc,.bool false,.slice (some ⟨tb,toff,none⟩) ts.length tc]
 have AC:=Lh (hC.1 (.slice (some ⟨tb,toff,none⟩) ts.length tc) hn htb rfl)
 obtain⟨A0,A1,A2,A3⟩:=AC.out.cells
 obtain⟨HS,HT,HP,HN2⟩:=Hd4 hS htxt hpos hn2
 have hb0:=fun k (hk:k < ts.length) wx (hx:As wx tb toff ts)=>CL tb toff tc ts k wx hl hx hk
 have HB0:=Lh hb0
 have hbb:(Ap ts 0 != (ts.length:Int))=false:=by rw [hb];simp
 have HB:=Lh hb
 clear hb
 have HBAD:=Lh hbad
 clear hbad
 clear hC hS htxt hpos hb0 hn2
 obtain⟨_,_,_,_,_,_,_,_,_,_,_,_⟩:=ZpTree9
 obtain⟨_,_,_,_,_,_,_,_,_,_,_,_⟩:=ZpTree9
 obtain⟨_,_,_,_,_,_,_,_,_,_,_,_⟩:=ZpTree9
 go_in
 go_wp2_with fail
 go_region_held3 (fun w'=>w'.cell? ⟨w.heap.size,3,none⟩=some (.slice (some ⟨tb,toff,none⟩) ts.length tc)) (first | exact A3) ((first | (go_at_call 101;refine (HB0.out 0 HP.out _ (AC.out.drew).nodes).mono ?_;rintro e w5 ⟨rfl,rfl⟩;skip)))
 all_goals go_wp2_with fail
 refine ((LJ AC.out.tbB hl HT.out (ts.length + 1) (0) (by omega) HP.out (by rw [HB.out];omega)).2 (Bn) _ rfl Kw (by decide) (AC.out.drew).lk (AC.out.drew).nodes).mono ?_
 rintro e w6 ⟨rfl,h6,f6⟩
 have AC6:=Lh ((AC.out.drew).step (by simp) h6 f6)
 clear A0 A1 A2 A3 h6 f6
 obtain⟨A0,A1,A2,A3⟩:=AC6.out.cells
 obtain⟨kx0,kx3⟩:=AC6.out.lk.cells
 rw [HBAD.out] at kx3
 go_wp2_with fail
 refine A8 (by kernel_rfl) (by kernel_rfl) ?_
 go_wp2_with fail
 refine AX.normal ?_
 go_wp2_with fail
 go_ret
 exact ⟨rfl,AC6.out.fr.below.drew⟩
theorem Mc (on:Int) (SA:Option Addr) (slots:List Int) (sc tb toff tc:Nat) (ts:List Au) (w:World) (h0:0≤on) (h1:on≤4) (h2:slots.length≤32) (h3:ts.length≤2000) (htb:tb < w.heap.size) (hn:As w tb toff ts) (hS:AV w SA slots) (htxt:∀ y∈ts,y.text.size≤1099511627776) (hpos:0 < ts.length)
  (hb:Ap ts 0 < 0) :
  Calls Tryz.prog 44 #[.agg #[.int .i64 on,.slice SA slots.length sc,.bool true,.slice (some ⟨tb,toff,none⟩) ts.length tc]] w fun e w'=>e=.returned (.bool false)∧Below w.heap.size w w':=by
 have hl:ts.length≤100000:=by omega
 obtain⟨n,hn2⟩:∃ n,ts.length=n:=⟨_,rfl⟩
 have hn3:n≤2000:=by omega
 have hmm:=@run_makeMap Tryz.prog
 obtain⟨w3,w4,hr1,hr2,hC⟩:=D3 w #[.int .i64 on,.slice SA slots.length sc,.bool true,.slice (some ⟨tb,toff,none⟩) ts.length tc]
 have AC:=Lh (hC.1 (.slice (some ⟨tb,toff,none⟩) ts.length tc) hn htb rfl)
 obtain⟨A0,A1,A2,A3⟩:=AC.out.cells
 obtain⟨HS,HT,HP,HN2⟩:=Hd4 hS htxt hpos hn2
 have hbf:=fun k (hk:k < ts.length) wx (hx:As wx tb toff ts)=>CL tb toff tc ts k wx hl hx hk
 obtain⟨HB0,HB,HM1⟩:=Hd3 hbf hb (IE hb)
 clear hb
 clear hC hS htxt hpos hbf hn2
 obtain⟨_,_,_,_,_,_,_,_,_,_,_,_⟩:=ZpTree9
 obtain⟨_,_,_,_,_,_,_,_,_,_,_,_⟩:=ZpTree9
 obtain⟨_,_,_,_,_,_,_,_,_,_,_,_⟩:=ZpTree9
 obtain⟨_,_,_,_,_,_,_,_,_,_,_,_⟩:=ZpTree9
 go_in
 go_wp2_with fail
 refine (HB0.out 0 HP.out _ AC.out.nodes).mono ?_
 rintro e w5 ⟨rfl,rfl⟩
 rw [HM1.out]
 go_wp2_with fail
 go_quiet (fail)
 all_goals go_wp2_with fail
 all_goals go_ret
 all_goals exact ⟨rfl,Br AC.out.fr.below _⟩
theorem Np (on:Int) (SA:Option Addr) (slots:List Int) (sc tb toff tc:Nat) (ts:List Au) (w:World) (h0:0≤on) (h1:on≤4) (h2:slots.length≤32) (h3:ts.length≤2000) (htb:tb < w.heap.size) (hn:As w tb toff ts) (hS:AV w SA slots) (htxt:∀ y∈ts,y.text.size≤1099511627776) (hpos:0 < ts.length)
  (m:Nat) (hm:Ap ts 0=m) (hb:¬ Ap ts m=ts.length) :
  Calls Tryz.prog 44 #[.agg #[.int .i64 on,.slice SA slots.length sc,.bool true,.slice (some ⟨tb,toff,none⟩) ts.length tc]] w fun e w'=>e=.returned (.bool false)∧Below w.heap.size w w':=by
 have hl:ts.length≤100000:=by omega
 obtain⟨n,hn2⟩:∃ n,ts.length=n:=⟨_,rfl⟩
 have hn3:n≤2000:=by omega
 have hmm:=@run_makeMap Tryz.prog
 obtain⟨w3,w4,hr1,hr2,hC⟩:=D3 w #[.int .i64 on,.slice SA slots.length sc,.bool true,.slice (some ⟨tb,toff,none⟩) ts.length tc]
 have AC:=Lh (hC.1 (.slice (some ⟨tb,toff,none⟩) ts.length tc) hn htb rfl)
 obtain⟨A0,A1,A2,A3⟩:=AC.out.cells
 obtain⟨HS,HT,HP,HN2⟩:=Hd4 hS htxt hpos hn2
 have hb0:=fun k (hk:k < ts.length) wx (hx:As wx tb toff ts)=>CL tb toff tc ts k wx hl hx hk
 obtain⟨HB0,HM⟩:=Hd2 hb0 hm
 clear hm
 have hbb:(Ap ts m != (ts.length:Int))=true:=by rw [bne_iff_ne];exact hb
 clear hb
 have hbh:=fun wx (hx:As wx tb toff ts)=>PR tb toff tc ts m wx hl hx
 have HBH:=Lh hbh
 clear hbh
 clear hC hS htxt hpos hb0 hn2
 obtain⟨_,_,_,_,_,_,_,_,_,_,_,_⟩:=ZpTree9
 obtain⟨_,_,_,_,_,_,_,_,_,_,_,_⟩:=ZpTree9
 obtain⟨_,_,_,_,_,_,_,_,_,_,_,_⟩:=ZpTree9
 obtain⟨_,_,_,_,_,_,_,_,_,_,_,_⟩:=ZpTree9
 obtain⟨_,_,_,_,_,_,_,_,_,_,_,_⟩:=ZpTree9
 go_in
 go_wp2_with fail
 refine (HB0.out 0 HP.out _ AC.out.nodes).mono ?_
 rintro e w5 ⟨rfl,rfl⟩
 rw [HM.out]
 go_wp2_with fail
 go_region_held3 (fun w'=>w'.cell? ⟨w.heap.size,3,none⟩=some (.slice (some ⟨tb,toff,none⟩) ts.length tc)) (first | exact A3) ((first | (go_at_call 101;refine (HBH.out _ (AC.out.drew).nodes).mono ?_;rintro e w5 ⟨rfl,rfl⟩;skip)))
 all_goals go_wp2_with fail
 all_goals go_ret
 all_goals exact ⟨rfl,AC.out.fr.below.drew⟩
theorem JO (A:Option Addr) (n c:Nat) (k:Int) (w:World) (h:k < 0∨(0≤k∧(n:Int)≤k)) (hn:n≤9223372036854775807) :
  Calls Tryz.prog 109 #[.slice A n c,.int .i64 k] w fun e w'=>e=.returned (.int .i64 (-1))∧w=w':=by
 rcases h with h | ⟨h0,h⟩
 ·go_in
  go_wp2
  go_ret
  exact ⟨rfl,rfl⟩
 ·have d1:decide (k < 0)=false:=decide_eq_false (by omega)
  obtain⟨_,_,_,_,_,_,_,_,_,_,_,_⟩:=ZpTree9
  obtain⟨_,_,_,_,_,_,_,_,_,_,_,_⟩:=ZpTree9
  obtain⟨_,_,_,_,_,_,_,_,_,_,_,_⟩:=ZpTree9
  obtain⟨_,_,_,_,_,_,_,_,_,_,_,_⟩:=ZpTree9
  obtain⟨_,_,_,_,_,_,_,_,_,_,_,_⟩:=ZpTree9
  obtain⟨_,_,_,_,_,_,_,_,_,_,_,_⟩:=ZpTree9
  go_in
  go_wp2
  go_loop [1,5] (fun a l=>a=.int .i64 k∧l=.int .i64 1) (fun _ _=>0)
  case atStart=>exact ⟨rfl,rfl⟩
  case round =>
   obtain⟨rfl,rfl⟩:=hrel
   go_wp2
   go_ret
   exact ⟨rfl,rfl⟩
theorem Lo (b off cap:Nat) (ts:List Au) (k:Nat) (w:World) (hl:ts.length≤100000) (hc:As w b off ts) (h1:k < ts.length) :
  Calls Tryz.prog 109 #[.slice (some ⟨b,off,none⟩) ts.length cap,.int .i64 k] w fun e w'=>e=.returned (.int .i64 (Ap ts k))∧w=w':=by
 obtain⟨R,hR⟩:=Ex0 (Ap ts k)
 rw [← hR]
 unfold Ap at hR
 rw [if_pos h1] at hR
 have HR:=Lh hR
 clear hR
 obtain⟨len,hlen⟩:∃ len,ts.length=len:=⟨_,rfl⟩
 rw [hlen] at h1 hl HR ⊢
 have HL:=Lh hlen
 clear hlen
 have d1:decide ((k:Int) < 0)=false:=by simp
 obtain⟨_,_,_,_,_,_,_,_,_,_,_,_⟩:=ZpTree9
 obtain⟨_,_,_,_,_,_,_,_,_,_,_,_⟩:=ZpTree9
 obtain⟨_,_,_,_,_,_,_,_,_,_,_,_⟩:=ZpTree9
 obtain⟨_,_,_,_,_,_,_,_,_,_,_,_⟩:=ZpTree9
 obtain⟨_,_,_,_,_,_,_,_,_,_,_,_⟩:=ZpTree9
 obtain⟨_,_,_,_,_,_,_,_,_,_,_,_⟩:=ZpTree9
 obtain⟨_,_,_,_,_,_,_,_,_,_,_,_⟩:=ZpTree9
 go_in
 go_wp2
 go_loop [1,5] (fun a l=>∃ (j:Nat) (L:Int),j≤len∧L≤j * 100000 + 1∧0≤L∧Hid (R=beh len (ts.drop j) L j)∧a=.int .i64 j∧l=.int .i64 L) (fun a _=>len - (intOf a).toNat)
 case atStart=>exact ⟨k,1,by omega,by omega,by omega,HR,rfl,rfl⟩
 case round =>
  obtain⟨j,L,hj,hL,hL0,H,rfl,rfl⟩:=hrel
  by_cases h:0 < L
  ·by_cases hjl:j < len
   ·obtain⟨x,hx⟩:∃ x,ts[j]? = some x:=⟨_,List.getElem?_eq_getElem (by rw [HL.out];exact hjl)⟩
    have hcj:=hc.kids hx
    have hs:beh len (ts.drop j) L j=if x.kids < 0∨x.kids > len then -1 else beh len (ts.drop (j + 1)) (L + (x.kids - 1)) (j + 1):=by
     rw [I8 hx,beh,if_neg (by omega)]
    have HS:=Lh hs
    clear hs hx hc
    have dj:decide (len≤j)=false:=decide_eq_false (by omega)
    by_cases h1:x.kids < 0
    ·have dk:decide (x.kids < 0)=true:=decide_eq_true h1
     go_wp2
     go_ret
     exact ⟨De (by rw [H.out,HS.out,if_pos (.inl h1)]),rfl⟩
    ·have dk:decide (x.kids < 0)=false:=decide_eq_false h1
     by_cases h2:(len:Int) < x.kids
     ·have dl:decide ((len:Int) < x.kids)=true:=decide_eq_true h2
      go_wp2
      go_ret
      exact ⟨De (by rw [H.out,HS.out,if_pos (.inr h2)]),rfl⟩
     ·have dl:decide ((len:Int) < x.kids)=false:=decide_eq_false h2
      go_wp2
      go_round
      case rel=>exact ⟨j + 1,L + (x.kids - 1),by omega,by omega,by omega,by rw [if_neg (by omega)] at HS;rw [← HS.out];exact H,by go_num,by go_num⟩
      case measure=>simp [intOf];omega
   ·have:j=len:=by omega
    have hs:beh len (ts.drop j) L j = -1:=by
     rw [List.drop_of_length_le (by rw [HL.out];omega),beh,if_neg (by omega)]
    have HS:=Lh hs
    clear hs
    go_wp2
    go_ret
    exact ⟨De (by rw [H.out,HS.out]),rfl⟩
  ·have hs:beh len (ts.drop j) L j=j:=by
    cases ts.drop j <;> rw [beh,if_pos (by omega)]
   have HS:=Lh hs
   clear hs
   go_wp2
   go_ret
   exact ⟨De (by rw [H.out,HS.out]),rfl⟩
section
variable (A:Option Addr) (ts:List Au) (c:Nat)
include A ts c
theorem Pr (k:Nat) (w:World) (hl:ts.length≤100000) (hT:Bv w A ts) :
  Calls Tryz.prog 109 #[.slice A ts.length c,.int .i64 k] w fun e w'=>e=.returned (.int .i64 (Ap ts k))∧w=w':=by
 by_cases hk:k < ts.length
 ·rcases hT with h | ⟨tb,toff,rfl,htb,hN⟩
  ·subst h;simp at hk
  ·exact Lo tb toff c ts k w hl hN hk
 ·have e:Ap ts k = -1:=by unfold Ap;rw [if_neg hk]
  rw [e]
  exact JO A ts.length c k w (.inr ⟨by omega,by omega⟩) (by omega)
theorem CY (i:Nat) (w:World) (hl:ts.length≤100000) (hT:Bv w A ts) (hi:i < ts.length) :
  Calls Tryz.prog 167 #[.slice A ts.length c,.int .i64 i] w fun e w'=>∃ v,e=.returned v∧w'.ownsRow w.heap.size 3 1 v (Am ts i).length (AQ ((Am ts i).map (fun j:Nat=>(j:Int))))∧Below w.heap.size w w':=by
 have hbd:=fun (k:Nat) (wx:World) (hx:Bv wx A ts)=>Pr A ts c k wx hl hx
 by_cases hneg:Ap ts i < 0
 ·have hk:Am ts i=[]:=by unfold Am;rw [if_pos hneg]
  rw [hk]
  have HB:=Lh (hbd i w hT)
  have d1:decide (Ap ts i < 0)=true:=decide_eq_true hneg
  clear hbd hT hk
  obtain⟨_,_,_,_,_,_,_,_,_,_,_,_⟩:=ZpTree9
  obtain⟨_,_,_,_,_,_,_,_,_,_,_,_⟩:=ZpTree9
  obtain⟨_,_,_,_,_,_,_,_,_,_,_,_⟩:=ZpTree9
  obtain⟨_,_,_,_,_,_,_,_,_,_,_,_⟩:=ZpTree9
  obtain⟨_,_,_,_,_,_,_,_,_,_,_,_⟩:=ZpTree9
  obtain⟨_,_,_,_,_,_,_,_,_,_,_,_⟩:=ZpTree9
  obtain⟨_,_,_,_,_,_,_,_,_,_,_,_⟩:=ZpTree9
  obtain⟨_,_,_,_,_,_,_,_,_,_,_,_⟩:=ZpTree9
  go_in
  go_wp2_with fail
  refine HB.out.mono ?_
  rintro e w1 ⟨rfl,rfl⟩
  go_wp2_with fail
  go_ret
  exact ⟨_,rfl,World.ownsRow_nil _ _ _ _,Below.refl _ _⟩
 ·obtain⟨x,hx⟩:∃ x,ts[i]? = some x:=⟨_,List.getElem?_eq_getElem hi⟩
  rcases hT with h | ⟨tb,toff,rfl,htb,hN⟩
  ·subst h;simp at hi
  have hck:=hN.kids hx
  have hz:∃ z,(Bc ts.length ts)[i]? = some (some z):=by
   rw [BV] at hneg
   rcases hz:(Bc ts.length ts)[i]? with _ | _ | z
   ·rw [hz] at hneg;simp only at hneg;omega
   ·rw [hz] at hneg;simp only at hneg;omega
   ·exact ⟨z,rfl⟩
  obtain⟨z,hz⟩:=hz
  obtain⟨hk0,hk1,hadv⟩:=EJ hx hz
  have hkids:Am ts i=BL ts x.kids.toNat (i + 1):=by
   unfold Am
   rw [if_neg hneg,List.getD_eq_getElem?_getD,hx]
   rfl
  rw [hkids]
  obtain⟨K,hK⟩:=Int.eq_ofNat_of_zero_le hk0
  rw [hK] at hck hadv hk1 ⊢
  rw [Int.toNat_natCast] at hadv ⊢
  have hT2:∀ wx,Below w.heap.size w wx→Bv wx (some ⟨tb,toff,none⟩) ts:=fun wx h=>(show Bv w _ ts from .inr ⟨tb,toff,rfl,htb,hN⟩).below h
  have hB:=hbd i w (.inr ⟨tb,toff,rfl,htb,hN⟩)
  obtain⟨len,hlen⟩:∃ len,ts.length=len:=⟨_,rfl⟩
  rw [hlen] at hl hi hk1 hB hadv ⊢
  simp only [hlen] at hbd
  obtain⟨HL,HA,HBD,HT,HB⟩:=Hd5 hlen hadv hbd hT2 hB
  have d1:decide (Ap ts i < 0)=false:=decide_eq_false hneg
  have hbi:0≤Ap ts i:=by omega
  clear hadv hlen hK hx hkids hz hbd hT2 hB hN hneg
  have hiI:(i:Int) < len:=by omega
  obtain⟨_,_,_,_,_,_,_,_,_,_,_,_⟩:=ZpTree9
  obtain⟨_,_,_,_,_,_,_,_,_,_,_,_⟩:=ZpTree9
  obtain⟨_,_,_,_,_,_,_,_,_,_,_,_⟩:=ZpTree9
  obtain⟨_,_,_,_,_,_,_,_,_,_,_,_⟩:=ZpTree9
  obtain⟨_,_,_,_,_,_,_,_,_,_,_,_⟩:=ZpTree9
  obtain⟨_,_,_,_,_,_,_,_,_,_,_,_⟩:=ZpTree9
  obtain⟨_,_,_,_,_,_,_,_,_,_,_,_⟩:=ZpTree9
  obtain⟨_,_,_,_,_,_,_,_,_,_,_,_⟩:=ZpTree9
  obtain⟨_,_,_,_,_,_,_,_,_,_,_,_⟩:=ZpTree9
  go_in
  go_wp2_with fail
  refine HB.out.mono ?_
  rintro e w1 ⟨rfl,rfl⟩
  go_wp2_with fail
  go_loopw [5,6,7] (fun v a k wr=>∃ (j:Nat) (V:Int),j≤K∧k=.int .i64 j∧a=.int .i64 V∧Hid (V=Cn (adv (Bc len ts) j (i + 1)))∧wr.ownsRow w.heap.size 3 1 v j (AQ ((BL ts j (i + 1)).map (fun j:Nat=>(j:Int))))∧Below w.heap.size w wr)
   (fun _ _ k _=>K - (intOf k).toNat)
  case atStart=>exact ⟨0,(i:Int) + 1,by omega,rfl,rfl,by simp [adv,Cn,Hid],World.ownsRow_nil _ _ _ _,Below.refl _ _⟩
  case round =>
   obtain⟨j,V,hjK,rfl,rfl,HV,hown,hbel⟩:=hrel
   obtain⟨A5,c5,rfl⟩:=AJ hown
   have hcw:wr.cell? ⟨tb,toff + i * 7 + 6,none⟩=some (.int .i64 K):=(hbel.cell (p:=⟨tb,toff + i * 7 + 6,none⟩) htb).trans hck
   obtain⟨HO,HBE⟩:=Hd2 hown hbel
   have hzz:=hbel.size
   clear hown hbel
   have hsome:∃ q,adv (Bc len ts) j (i + 1)=some q:=by
    cases h:adv (Bc len ts) j (i + 1) with
    | some q=>exact ⟨q,rfl⟩
    | none =>
     have:=Eg ts j K (i + 1) hjK (by rw [HL.out];exact h)
     rw [HL.out,HA.out] at this
     cases this
   obtain⟨q,hq⟩:=hsome
   have hVq:V=q:=by rw [HV.out,hq];rfl
   subst hVq
   have hql:=Ib (len:=ts.length) (l:=ts) j (i + 1) q (by rw [HL.out];omega) (by rw [HL.out];exact hq)
   rw [HL.out] at hql
   by_cases hlt:j < K
   ·have hqlt:q < len:=by
     have h1:=EY ts j (i + 1) q (by rw [HL.out];exact hq)
     by_cases h2:q < len
     ·exact h2
     ·rw [HL.out,if_neg h2] at h1
      cases h3:adv (Bc len ts) (j + 1) (i + 1) with
      | some z=>rw [h3] at h1;simp only [Cn] at h1;omega
      | none =>
       have:=Eg ts (j + 1) K (i + 1) (by omega) (by rw [HL.out];exact h3)
       rw [HL.out,HA.out] at this
       cases this
    have hnext:=EY ts j (i + 1) q (by rw [HL.out];exact hq)
    rw [HL.out,if_pos hqlt] at hnext
    have hstep:=Ew ts j (i + 1) q (by rw [HL.out];exact hq)
    obtain⟨HN,HS⟩:=Hd2 hnext hstep
    clear hq hnext hstep
    obtain⟨hq1,hq2⟩:=hql
    go_wp2_with (at_builtin;go_loud (refine Cb T4 rfl _ _ rfl w.heap.size wr [.int .i64 q] rfl _ _ _ rfl HO.out rfl rfl (by simp [Value.oneCell']) (by unfold maxLen;omega) (by omega) hzz ?_;intro v2 w2 hown2 hg2;obtain⟨A6,c6,rfl⟩:=AJ hown2;have QB:=Lh (Below.of_own HBE.out HO.out hg2 (Nat.le_refl _) hzz);have QO:=Lh hown2;clear hown2 hg2))
    refine (HBD.out q _ (HT.out _ QB.out)).mono ?_
    rintro e w3 ⟨rfl,rfl⟩
    go_wp2_with fail
    go_roundw
    case rel =>
     refine ⟨j + 1,Ap ts q,by omega,by go_num,rfl,HN.out.symm,?_,QB.out⟩
     have h:=QO.out
     rw [HS.out,List.map_append]
     have e:AQ ((BL ts j (i + 1)).map (fun j:Nat=>(j:Int)) ++ List.map (fun j:Nat=>(j:Int)) [q])=AQ ((BL ts j (i + 1)).map (fun j:Nat=>(j:Int))) ++ [.int .i64 (q:Int)]:=by simp [AQ]
     rw [e]
     exact h
    case measure=>(simp [intOf];try omega)
   ·have hjK2:j=K:=by omega
    subst hjK2
    clear hq
    go_wp2_with fail
    go_ret
    exact ⟨_,rfl,by rw [CZ];exact HO.out,HBE.out⟩
end

end Go.Proofs.YtmpcbaflcogmmaaGreatDoor
