/- Expr2 Expr3 Expr4 Expr7 Expr5 Expr6 -/
import Derived.Test.YtmpcbaflcogmmaaGreatDoorOper
namespace Go.Proofs.YtmpcbaflcogmmaaGreatDoor
open Go.RowKit
set_option linter.all false
set_option maxHeartbeats 3200000
set_option maxRecDepth 100000
theorem LK.below {w w':World} {B C kb:Nat} {tv:Value} {s:LSt} (h:LK w B kb tv s) (hb:Below C w w') (hC:w.heap.size≤C):LK w' B kb tv s:=by
 obtain⟨sv,mb,h1,h2,h3,h4,h5⟩:=h
 refine ⟨sv,mb,h1,h2,h3.below hb (by have:=h3.lt;omega),h4.of_block CB (hb.block mb (by have:=h4.lt CB;omega)),?_⟩
 obtain⟨h6,h7⟩:=h5
 refine ⟨h6,?_⟩
 rcases h7 with h7 | ⟨g,cap,cur,hv,hg,hh,r⟩
 ·exact .inl h7
 ·exact .inr ⟨g,cap,cur,hv,hg,(hb.block g (by have:=(Array.getElem?_eq_some_iff.1 hh).1;omega)).trans hh,r⟩
theorem KO (n:Nat):(((n:Nat):Int) == 0)=decide (n=0):=by rw [Bool.eq_iff_iff];simp
theorem DM (B kb tb toff cap:Nat) (ts:List Au) (s:LSt) (i:Nat) (cs:Array Value) (w:World) (hl:ts.length≤100000) (h:LK w B kb (.slice (some ⟨tb,toff,none⟩) ts.length cap) s)
  (hn:As w tb toff ts) (htb:tb < B) (hi:i < ts.length) (T:List TypeId) :
  Calls Tryz.prog 142 #[.slice (some ⟨tb,toff,none⟩) ts.length cap,.int .i64 i] (w.alloc (.cells cs 120)) fun e w1=>∃ kv,e=.returned kv ∧
   w1.ownsRow (w.heap.size + 1) 3 1 kv (Am ts i).length ((Am ts i).map fun j:Nat=>Value.int .i64 j)∧LK w1 B kb (.slice (some ⟨tb,toff,none⟩) ts.length cap) s∧Frm B T w w1∧As w1 tb toff ts∧Blk w1 w.heap.size 120 cs:=by
 obtain⟨hB,hks⟩:=h.size
 have hn0:As (w.alloc (.cells cs 120)) tb toff ts:=hn.below ((Below.refl B _).alloc (by omega) _) htb
 refine (Iz tb toff cap ts i _ hl hn0 (by simp;omega) hi).mono ?_
 rintro e w1 ⟨v,rfl,ho,hb⟩
 simp only [World.size_alloc] at ho hb
 exact ⟨v,rfl,ho,(h.alloc _).below hb (by simp),((Frm.refl B T w).alloc (by omega) _).trans (Frm.of_below (by simpa using hb) (by simp;omega)),hn0.below hb (by omega),(Blk.new w _ cs).below hb (by omega)⟩
section
variable (B kb tb toff cap:Nat) (ts:List Au) (slots:List Int) (seen:Int→Option Value) (rec:Nat→Bool→ER)
theorem Tk (i:Nat) (w:World) (h:LK w B kb (.slice (some ⟨tb,toff,none⟩) ts.length cap) ⟨slots,seen,true⟩) :
  Calls Tryz.prog 193 #[.pointer (some ⟨kb,0,none⟩),.int .i64 i] w fun e w'=>e=.returned (.tuple #[.int .i8 0,.int .i64 0]) ∧
   LK w' B kb (.slice (some ⟨tb,toff,none⟩) ts.length cap) ⟨slots,seen,true⟩∧Frm B [144] w w':=by
 have k3:=h.cells.2
 have HH:=Lh h
 clear h
 go_in
 go_wp2_with fail
 go_ret2
 exact ⟨rfl,HH.out,Frm.refl _ _ _⟩
theorem TO (i:Nat) (x:Au) (w:World) (hl:ts.length≤100000) (hx:ts[i]? = some x) (h:LK w B kb (.slice (some ⟨tb,toff,none⟩) ts.length cap) ⟨slots,seen,false⟩) (hn:As w tb toff ts) (htb:tb < B)
  (hp:(x.op == 30)=true) :
  Calls Tryz.prog 193 #[.pointer (some ⟨kb,0,none⟩),.int .i64 i] w fun e w'=>e=.returned (.tuple #[.int .i8 1,.int .i64 1]) ∧
   LK w' B kb (.slice (some ⟨tb,toff,none⟩) ts.length cap) ⟨slots,seen,!(decide (0≤x.n) && decide ((Am ts i).length=0)) || !(AO x 1 x.n 0)⟩∧Frm B [144] w w':=by
 have hi:=(List.getElem?_eq_some_iff.1 hx).1
 obtain⟨c0,c1,c2,c3,c4,c5,c6⟩:=hn.all hx
 obtain⟨k0,k3⟩:=h.cells
 obtain⟨hBk,hks⟩:=h.size
 obtain⟨n,hnk⟩:∃ n,(Am ts i).length=n:=⟨_,rfl⟩
 rw [hnk]
 obtain⟨HH,HN,HX,HK⟩:=Hd4 h hn hx hnk
 clear h hn hx hnk
 obtain⟨q,hq⟩:∃ q,(decide (0≤x.n) && decide (n=0))=q:=⟨_,rfl⟩
 rw [hq]
 have HQ:=Lh hq
 clear hq
 go_in
 go_wp2_with (first | (go_at_call 142;refine (DM B kb tb toff cap ts _ i _ w hl HH.out HN.out htb hi [144]).mono ?_;rintro e w1 ⟨kv,rfl,hown,h1,f1,n1,b1⟩;rw [HK.out] at hown;obtain⟨A,c,rfl,_⟩:=Cm hown;have e0:=b1.cell 0;have e2:=b1.cell 2;have H1:=Lh h1;have F1:=Lh f1;have N1:=Lh n1;have B1:=Lh b1;clear h1 f1 n1 b1 hown) | (go_at_call 139;refine (CD B kb _ ⟨slots,seen,false⟩ _ _ H1.out).mono ?_;rintro e w2 ⟨rfl,h2,f2⟩;have e22:=(f2.blk B1.out (by decide)).cell 2;have H2:=Lh h2;have F2:=Lh f2;clear h2 f2) | (go_at_call 141;refine (EV B kb tb toff cap ts _ i x 1 x.n 0 _ H2.out HX.out (F2.out.nodes N1.out htb) hl).mono ?_;rintro e w3 ⟨rfl,h3,f3⟩))
 all_goals
  go_ret2
  refine ⟨rfl,?_,(F1.out.trans F2.out).trans f3⟩
  refine h3.congr rfl rfl ?_
  rw [← HQ.out]
  simp [LSt.must,KO, *]
theorem PP (i:Nat) (x:Au) (w:World) (hl:ts.length≤100000) (hx:ts[i]? = some x) (h:LK w B kb (.slice (some ⟨tb,toff,none⟩) ts.length cap) ⟨slots,seen,false⟩) (hn:As w tb toff ts) (htb:tb < B)
  (hp:(x.op == 30)=false) (hp2:(x.op == 31)=true∨((x.op == 31)=false∧(x.op == 32)=true)) :
  Calls Tryz.prog 193 #[.pointer (some ⟨kb,0,none⟩),.int .i64 i] w fun e w'=>e=.returned (.tuple #[.int .i8 2,.int .i64 1]) ∧
   LK w' B kb (.slice (some ⟨tb,toff,none⟩) ts.length cap) ⟨slots,seen,!(decide ((Am ts i).length=0)) || !(AO x 2 0 0)⟩∧Frm B [144] w w':=by
 have hi:=(List.getElem?_eq_some_iff.1 hx).1
 obtain⟨c0,c1,c2,c3,c4,c5,c6⟩:=hn.all hx
 obtain⟨k0,k3⟩:=h.cells
 obtain⟨hBk,hks⟩:=h.size
 obtain⟨n,hnk⟩:∃ n,(Am ts i).length=n:=⟨_,rfl⟩
 rw [hnk]
 obtain⟨HH,HN,HX,HK⟩:=Hd4 h hn hx hnk
 clear h hn hx hnk
 rcases hp2 with hp2 | ⟨hp2,hp3⟩
 all_goals
  go_in
  go_wp2_with (first | (go_at_call 142;refine (DM B kb tb toff cap ts _ i _ w hl HH.out HN.out htb hi [144]).mono ?_;rintro e w1 ⟨kv,rfl,hown,h1,f1,n1,b1⟩;rw [HK.out] at hown;obtain⟨A,c,rfl,_⟩:=Cm hown;have e0:=b1.cell 0;have e2:=b1.cell 2;have H1:=Lh h1;have F1:=Lh f1;have N1:=Lh n1;have B1:=Lh b1;clear h1 f1 n1 b1 hown) | (go_at_call 139;refine (CD B kb _ ⟨slots,seen,false⟩ _ _ H1.out).mono ?_;rintro e w2 ⟨rfl,h2,f2⟩;have e22:=(f2.blk B1.out (by decide)).cell 2;have H2:=Lh h2;have F2:=Lh f2;clear h2 f2) | (go_at_call 141;refine (EV B kb tb toff cap ts _ i x 2 0 0 _ H2.out HX.out (F2.out.nodes N1.out htb) hl).mono ?_;rintro e w3 ⟨rfl,h3,f3⟩))
  go_ret2
  refine ⟨rfl,?_,(F1.out.trans F2.out).trans f3⟩
  refine h3.congr rfl rfl ?_
  simp [LSt.must,KO]
end
theorem Sr (w:World):(zeroValue 4).run Tryz.prog w=.ok (.bool false) w:=by kernel_rfl
theorem LK.parts {w:World} {B kb:Nat} {tv:Value} {s:LSt} (h:LK w B kb tv s):∃ sv mb,B≤mb∧w.cell? ⟨kb,1,none⟩=some sv∧w.cell? ⟨kb,2,none⟩=some (.map (some mb))∧MK CB w mb s.seen∧w.ownsRow B 118 1 sv s.slots.length (s.slots.map (Value.int .i8)) ∧
  Blk w kb 144 #[tv,sv,.map (some mb),.bool s.bad]:=by
 obtain⟨sv,mb,h1,h2,h3,h4,h5⟩:=h
 exact ⟨sv,mb,h2,h3.cell 1,h3.cell 2,h4,h5,h3⟩
theorem Ei {w:World} {mb:Nat} {f:Int→Option Value} (h:MK CB w mb f) (x:Int) (c:Bool) :
  (Instr.lookup 142 (.map (some mb)) (.int .i64 x) c).run Tryz.prog w=.ok (if c then .tuple #[(f x).getD (.bool false),.bool (f x).isSome] else (f x).getD (.bool false)) w:=
 h.lookup CB Tryz.underlying142 Sr x c
section
variable (B kb tb toff cap:Nat) (ts:List Au) (slots:List Int) (seen:Int→Option Value) (rec:Nat→Bool→ER)
theorem Pt (i:Nat) (x:Au) (w:World) (hl:ts.length≤100000) (hx:ts[i]? = some x) (h:LK w B kb (.slice (some ⟨tb,toff,none⟩) ts.length cap) ⟨slots,seen,false⟩) (hn:As w tb toff ts) (htb:tb < B)
  (hp:x.op=33) (hno:¬ ((seen x.n).isSome=true∧0≤x.n∧x.n < 1048576∧(Am ts i).length=0)) :
  Calls Tryz.prog 193 #[.pointer (some ⟨kb,0,none⟩),.int .i64 i] w fun e w'=>e=.returned (.tuple #[.int .i8 0,.int .i64 0]) ∧
   LK w' B kb (.slice (some ⟨tb,toff,none⟩) ts.length cap) ⟨slots,seen,true⟩∧Frm B [144] w w':=by
 have hi:=(List.getElem?_eq_some_iff.1 hx).1
 obtain⟨c0,c1,c2,c3,c4,c5,c6⟩:=hn.all hx
 obtain⟨k0,k3⟩:=h.cells
 obtain⟨hBk,hks⟩:=h.size
 obtain⟨n,hnk⟩:∃ n,(Am ts i).length=n:=⟨_,rfl⟩
 rw [hnk] at hno
 obtain⟨so,hso⟩:∃ so,(seen x.n).isSome=so:=⟨_,rfl⟩
 rw [hso] at hno
 have p1:(x.op == 30)=false:=by simp [hp]
 have p2:(x.op == 31)=false:=by simp [hp]
 have p3:(x.op == 32)=false:=by simp [hp]
 have p4:(x.op == 33)=true:=by simp [hp]
 obtain⟨HH,HN,HX,HK,HS⟩:=Hd5 h hn hx hnk hso
 have cases4:so=false∨(so=true∧x.n < 0)∨(so=true∧0≤x.n∧1048576≤x.n)∨(so=true∧0≤x.n∧x.n < 1048576∧((n:Int) == 0)=false):=by
  cases so
  ·exact .inl rfl
  ·by_cases h1:x.n < 0
   ·exact .inr (.inl ⟨rfl,h1⟩)
   ·by_cases h2:x.n < 1048576
    ·exact .inr (.inr (.inr ⟨rfl,by omega,h2,by rw [KO];simp;intro h3;exact hno ⟨rfl,by omega,h2,h3⟩⟩))
    ·exact .inr (.inr (.inl ⟨rfl,by omega,by omega⟩))
 clear h hn hx hnk hp hno hso
 rcases cases4 with rfl | ⟨rfl,hc1⟩ | ⟨rfl,hc1,hc2⟩ | ⟨rfl,hc1,hc2,hc3⟩
 all_goals
  go_in
  go_wp2_with (go_at_call 142;refine (DM B kb tb toff cap ts _ i _ w hl HH.out HN.out htb hi [144]).mono ?_;rintro e w1 ⟨kv,rfl,hown,h1,f1,n1,b1⟩;rw [HK.out] at hown;obtain⟨A,c,rfl,_⟩:=Cm hown;have e0:=b1.cell 0;have e2:=b1.cell 2;obtain⟨sv,mb,_,_,m2,m3,_,_⟩:=h1.parts;have hlk:=Ei m3.drew x.n true;rw [HS.out] at hlk;have H1:=Lh h1;have F1:=Lh f1;have N1:=Lh n1;have B1:=Lh b1;clear h1 f1 n1 b1 hown m3)
  refine A8 (by kernel_rfl) (by kernel_rfl) ?_
  go_wp2_with fail
  refine AX.normal ?_
  go_wp2_with fail
  refine (Dq B kb _ slots seen _ false H1.out.drew).mono ?_
  rintro e w2 ⟨rfl,h2,f2⟩
  go_wp2_with fail
  go_ret2
  exact ⟨rfl,h2,F1.out.drew.trans f2⟩
theorem Ku {w:World} {B n:Nat} {sv:Value} {l:List Int} (h:w.ownsRow B 118 1 sv n (l.map (Value.int .i8))) (h0:0 < n):∃ g c,sv=.slice (some ⟨g,0,none⟩) n c∧∀ (k:Nat),k < n→w.cell? ⟨g,k,none⟩=some (.int .i8 (l.getD k 0)):=by
 rcases h.2 with ⟨h1,h2⟩ | ⟨g,cp,cu,h1,_⟩
 ·omega
 ·refine ⟨g,cp,h1,fun k hk=>?_⟩
  have h3:=h
  rw [h1] at h3
  have hl:l.length=n:=by simpa using h3.1
  rw [h3.cellAt k (by omega)]
  rw [List.getElem?_map,List.getElem?_eq_getElem (by omega),List.getD_eq_getElem?_getD,List.getElem?_eq_getElem (by omega)]
  rfl
theorem RQ (i:Nat) (x:Au) (w:World) (hl:ts.length≤100000) (hx:ts[i]? = some x) (h:LK w B kb (.slice (some ⟨tb,toff,none⟩) ts.length cap) ⟨slots,seen,false⟩) (hn:As w tb toff ts) (htb:tb < B)
  (hp:x.op=33) (hso:(seen x.n).isSome=true) (hn0:0≤x.n) (hn1:x.n < 1048576) (hk:(Am ts i).length=0) (hin:x.n < slots.length) :
  Calls Tryz.prog 193 #[.pointer (some ⟨kb,0,none⟩),.int .i64 i] w fun e w'=>e=.returned (.tuple #[.int .i8 (slots.getD x.n.toNat 0),.int .i64 1]) ∧
   LK w' B kb (.slice (some ⟨tb,toff,none⟩) ts.length cap) ⟨slots,seen,!(AO x (slots.getD x.n.toNat 0) x.n 0)⟩∧Frm B [144] w w':=by
 have hi:=(List.getElem?_eq_some_iff.1 hx).1
 obtain⟨c0,c1,c2,c3,c4,c5,c6⟩:=hn.all hx
 obtain⟨k0,k3⟩:=h.cells
 obtain⟨hBk,hks⟩:=h.size
 have p1:(x.op == 30)=false:=by simp [hp]
 have p2:(x.op == 31)=false:=by simp [hp]
 have p3:(x.op == 32)=false:=by simp [hp]
 have p4:(x.op == 33)=true:=by simp [hp]
 obtain⟨K,hK⟩:∃ K,slots.getD x.n.toNat 0=K:=⟨_,rfl⟩
 rw [hK]
 obtain⟨len,hlen⟩:∃ len,slots.length=len:=⟨_,rfl⟩
 rw [hlen] at hin
 obtain⟨HLn,HKK,HH,HN,HX,HK,HS⟩:=Hd7 hlen hK h hn hx hk hso
 clear h hn hx hk hp hso hK hlen
 go_in
 go_wp2_with (go_at_call 142;refine (DM B kb tb toff cap ts _ i _ w hl HH.out HN.out htb hi [144]).mono ?_;rintro e w1 ⟨kv,rfl,hown,h1,f1,n1,b1⟩;rw [HK.out] at hown;obtain⟨A,c,rfl,_⟩:=Cm hown;have e0:=b1.cell 0;have e2:=b1.cell 2;obtain⟨sv,mb,_,_,m2,m3,_,_⟩:=h1.parts;have hlk:=Ei m3.drew x.n true;rw [HS.out] at hlk;have H1:=Lh h1;have F1:=Lh f1;have N1:=Lh n1;have B1:=Lh b1;clear h1 f1 n1 b1 hown m3)
 refine A8 (by kernel_rfl) (by kernel_rfl) ?_
 go_wp2_with fail
 refine AX.normal ?_
 go_wp2_with fail
 refine (BQ B kb _ slots seen _ H1.out.drew).mono ?_
 rintro e w2 ⟨rfl,h2,f2⟩
 have e22:=(f2.blk B1.out.drew (by decide)).cell 2
 obtain⟨sv2,mb2,_,m1,_,_,m4,_⟩:=h2.parts
 simp only [HLn.out] at m4
 obtain⟨g,cg,rfl,hcg⟩:=Ku m4 (by omega)
 have hck:=hcg x.n.toNat (by omega)
 rw [HKK.out] at hck
 obtain⟨H2,F2⟩:=Hd2 h2 f2
 clear hlk m2 m4 hcg h2 f2 e0 e2
 go_wp2_with fail
 refine A8 (by kernel_rfl) (by kernel_rfl) ?_
 go_wp2_with fail
 refine AX.normal ?_
 go_wp2_with fail
 refine (EV B kb tb toff cap ts ⟨slots,seen,false⟩ i x K x.n 0 _ H2.out.drew HX.out (F2.out.nodes (w:=w1.drew) N1.out htb) hl).mono ?_
 rintro e w3 ⟨rfl,h3,f3⟩
 go_wp2_with fail
 go_ret2
 refine ⟨rfl,?_,(F1.out.drew.trans F2.out.drew).trans f3⟩
 exact h3.congr rfl rfl (by simp [LSt.must])
theorem Sc (H:Int) (hH2:H≤1000000) (hr:∀ i b,0≤(rec i b).2.1∧(rec i b).2.1≤H) (i:Nat) (x:Au) (w:World) (hl:ts.length≤100000) (hx:ts[i]? = some x) (h:LK w B kb (.slice (some ⟨tb,toff,none⟩) ts.length cap) ⟨slots,seen,false⟩) (hn:As w tb toff ts) (htb:tb < B)
  (he:∀ j∈Am ts i,j < ts.length∧EW B kb tb toff cap ts slots seen (rec j) j)
  (p1:(x.op == 30)=false) (p2:(x.op == 31)=false) (p3:(x.op == 32)=false) (p4:(x.op == 33)=false) (p5:(x.op == 49)=false) (p6:(x.op == 50)=false) :
  Calls Tryz.prog 193 #[.pointer (some ⟨kb,0,none⟩),.int .i64 i] w fun e w'=>e=.returned (.tuple #[.int .i8 (Bd rec ts i (Am ts i)).1,.int .i64 (Bd rec ts i (Am ts i)).2.1]) ∧
   LK w' B kb (.slice (some ⟨tb,toff,none⟩) ts.length cap) ⟨slots,seen,(Bd rec ts i (Am ts i)).2.2⟩∧Frm B [144] w w':=by
 have hi:=(List.getElem?_eq_some_iff.1 hx).1
 have hgd:(ts.getD i AF)=x:=by rw [List.getD_eq_getElem?_getD,hx];rfl
 have hop:∀ (base:Nat) (kv:Value) (w1:World),LK w1 B kb (.slice (some ⟨tb,toff,none⟩) ts.length cap) ⟨slots,seen,false⟩→As w1 tb toff ts→w1.ownsRow base 3 1 kv (Am ts i).length ((Am ts i).map fun j:Nat=>Value.int .i64 j) →
   Calls Tryz.prog 243 #[.pointer (some ⟨kb,0,none⟩),.int .i64 i,kv] w1 fun e w'=>e=.returned (.tuple #[.int .i8 (Bd rec ts i (Am ts i)).1,.int .i64 (Bd rec ts i (Am ts i)).2.1]) ∧
   LK w' B kb (.slice (some ⟨tb,toff,none⟩) ts.length cap) ⟨slots,seen,(Bd rec ts i (Am ts i)).2.2⟩∧Frm B [144] w1 w':=by
  intro base kv w1 h1 n1 ho
  by_cases hr1:34≤x.op∧x.op≤48
  ·by_cases hc:((Am ts i).length:Int)=(if x.op=34∨x.op=35 then 1 else 2)
   ·cases hlk:AO x (AG x.op).2 0 0
    ·have hf:Bd rec ts i (Am ts i)=(0,0,true):=by
      unfold Bd;simp only [hgd,hlk];rw [if_neg (by simp)]
     rw [hf]
     obtain⟨A,c,rfl,_⟩:=Cm ho
     exact JU B kb tb toff cap ts slots seen i x _ A c w1 hx hl h1 n1 htb hr1.1 hr1.2 hc hlk
    ·exact LW B kb tb toff cap ts slots seen rec H hH2 hr i x _ kv base w1 hx hl he ho h1 n1 htb hr1.1 hr1.2 hc hlk
   ·have hf:Bd rec ts i (Am ts i)=(0,0,true):=by
     unfold Bd;simp only [hgd];rw [if_neg (fun h=>hc (by have:=h.2.1;split at this <;> (rename_i h5;simp only [h5,if_true,if_false];omega)))]
    rw [hf]
    obtain⟨A,c,rfl,_⟩:=Cm ho
    exact In B kb tb toff cap ts slots seen i x _ A c w1 hx h1 n1 (.inr hc)
  ·have hf:Bd rec ts i (Am ts i)=(0,0,true):=by
    unfold Bd;simp only [hgd];rw [if_neg (fun h=>hr1 h.1)]
   rw [hf]
   obtain⟨A,c,rfl,_⟩:=Cm ho
   exact In B kb tb toff cap ts slots seen i x _ A c w1 hx h1 n1 (.inl (by omega))
 obtain⟨c0,c1,c2,c3,c4,c5,c6⟩:=hn.all hx
 obtain⟨k0,k3⟩:=h.cells
 obtain⟨hBk,hks⟩:=h.size
 generalize Bd rec ts i (Am ts i)=R at hop ⊢
 obtain⟨HH,HN,HO⟩:=Hd3 h hn hop
 clear h hn hx hop he hr hgd
 go_in
 go_wp2_with (go_at_call 142;refine (DM B kb tb toff cap ts _ i _ w hl HH.out HN.out htb hi [144]).mono ?_;rintro e w1 ⟨kv,rfl,hown,h1,f1,n1,b1⟩;have e0:=b1.cell 0;have e2:=b1.cell 2;have HW:=Lh hown;have H1:=Lh h1;have F1:=Lh f1;have N1:=Lh n1;have B1:=Lh b1;clear h1 f1 n1 b1 hown)
 refine (HO.out _ _ _ H1.out N1.out HW.out).mono ?_
 rintro e w2 ⟨rfl,h2,f2⟩
 go_wp2_with fail
 go_ret2
 exact ⟨rfl,h2,F1.out.trans f2⟩
end
theorem Gt {W w1:World} (hb:Below W.heap.size W w1):(∀ b o,b < W.heap.size→w1.cell? ⟨b,o,none⟩=W.cell? ⟨b,o,none⟩)∧(∀ b o,b < W.heap.size→w1.frozen? ⟨b,o,none⟩=W.frozen? ⟨b,o,none⟩):=
 ⟨fun b o h=>hb.cell (p:=⟨b,o,none⟩) h,fun b o h=>hb.frozen (p:=⟨b,o,none⟩) h⟩
theorem EL (w:World):w.drew.heap.size=w.heap.size:=rfl
theorem CX {w:World} {b c i:Nat} (h:b≠c) (u0 u1 u2 u3:Value):((((w.setCell ⟨c,0,none⟩ u0).setCell ⟨c,1,none⟩ u1).setCell ⟨c,2,none⟩ u2).setCell ⟨c,3,none⟩ u3).cell? ⟨b,i,none⟩=w.cell? ⟨b,i,none⟩:=by
 have hk:∀ (w:World) (j:Nat) (u:Value),(w.setCell ⟨c,j,none⟩ u).cell? ⟨b,i,none⟩=w.cell? ⟨b,i,none⟩:=fun w j u=>World.cell?_setCell_other w _ _ u (fun e=>h ((Addr.mk.inj e).1.symm))
 rw [hk,hk,hk,hk]
theorem D0.alloc {w:World} {B b:Nat} {l:List B8} (h:D0 w B b l) (o:Obj):D0 (w.alloc o) B b l:=h.below ((Below.refl _ _).alloc (Nat.le_refl _) o) (Nat.le_refl _)
theorem D0.cast {w:World} {B b b':Nat} {l:List B8} (h:D0 w B b l) (e:b=b'):D0 w B b' l:=e▸h
section
variable (w:World) {nb:Nat} {u:Value} (hc:w.cell? ⟨nb,2,none⟩=some u)
include w nb u hc
theorem J3:Calls Tryz.prog 241 #[] w fun e w'=>e=.returned (.slice (some ⟨w.heap.size + 13,0,none⟩) 13 13)∧D0 w' w.heap.size (w.heap.size + 13) BU∧Below w.heap.size w w'∧nb < w'.heap.size∧w'.cell? ⟨nb,2,none⟩=some u:=by
 refine (Qc w).mono ?_
 rintro e w' ⟨rfl,rfl⟩
 exact ⟨rfl,Ek w BU,BO w BU,Nat.lt_of_lt_of_le (World.block_lt_of_cell? w _ hc) (BO w BU).size,((BO w BU).cell (p:=⟨nb,2,none⟩) (World.block_lt_of_cell? w _ hc)).trans hc⟩
theorem L9:Calls Tryz.prog 242 #[] w fun e w'=>e=.returned (.slice (some ⟨w.heap.size + 9,0,none⟩) 9 9)∧D0 w' w.heap.size (w.heap.size + 9) Bz∧Below w.heap.size w w'∧nb < w'.heap.size∧w'.cell? ⟨nb,2,none⟩=some u:=by
 refine (QQ w).mono ?_
 rintro e w' ⟨rfl,rfl⟩
 exact ⟨rfl,Ek w Bz,BO w Bz,Nat.lt_of_lt_of_le (World.block_lt_of_cell? w _ hc) (BO w Bz).size,((BO w Bz).cell (p:=⟨nb,2,none⟩) (World.block_lt_of_cell? w _ hc)).trans hc⟩
theorem I4:Calls Tryz.prog 200 #[] w fun e w'=>e=.returned (.slice (some ⟨w.heap.size + 9,0,none⟩) 9 9)∧D0 w' w.heap.size (w.heap.size + 9) Bu∧Below w.heap.size w w'∧nb < w'.heap.size∧w'.cell? ⟨nb,2,none⟩=some u:=by
 refine (NM w).mono ?_
 rintro e w' ⟨rfl,rfl⟩
 exact ⟨rfl,Ek w Bu,BO w Bu,Nat.lt_of_lt_of_le (World.block_lt_of_cell? w _ hc) (BO w Bu).size,((BO w Bu).cell (p:=⟨nb,2,none⟩) (World.block_lt_of_cell? w _ hc)).trans hc⟩
end
theorem Fw (b len cap:Nat) (n:Int) (w:World) (hlen:len≤1000) (h:n < 0∨(len:Int)≤n) {nb:Nat} {u:Value} (hc:w.cell? ⟨nb,2,none⟩=some u) :
  Calls Tryz.prog 199 #[.slice (some ⟨b,0,none⟩) len cap,.int .i64 n] w fun e w'=>e=.returned (.tuple #[.agg #[.string ByteArray.empty,.slice none 0 0,.int .i8 0,.nilFunc],.bool false])∧Below w.heap.size w w'∧nb < w'.heap.size∧w'.cell? ⟨nb,2,none⟩=some u:=by
 refine (Tn b len cap n w hlen h).mono ?_
 rintro e w' ⟨rfl,hb⟩
 exact ⟨rfl,hb,Nat.lt_of_lt_of_le (World.block_lt_of_cell? w _ hc) hb.size,(hb.cell (p:=⟨nb,2,none⟩) (World.block_lt_of_cell? w _ hc)).trans hc⟩
theorem FO (B b:Nat) (l:List B8) (len cap:Nat) (n:Int) (s:B8) (w:World) (hl:l.length=len) (hlen:len≤1000) (h:D0 w B b l) (hn:0≤n) (hs:l[n.toNat]? = some s) (F:Nat) (hF:s.fn=.func (Fn.func F) #[] #[]) {nb:Nat} {u:Value} (hc:w.cell? ⟨nb,2,none⟩=some u) :
  Calls Tryz.prog 199 #[.slice (some ⟨b,0,none⟩) len cap,.int .i64 n] w fun e w'=>∃ g,e=.returned (.tuple #[.agg #[.string s.name,.slice (some ⟨g,0,none⟩) s.args.length s.args.length,.int .i8 s.tell,.func (Fn.func F) #[] #[]],.bool true]) ∧
   B≤g∧Blk w' g 118 (s.args.map (Value.int .i8)).toArray∧Below w.heap.size w w'∧nb < w'.heap.size∧w'.cell? ⟨nb,2,none⟩=some u:=by
 obtain⟨m,rfl⟩:=Int.eq_ofNat_of_zero_le hn
 subst hl
 refine (UA B b l cap m s w hlen h hs).mono ?_
 rintro e w' ⟨g,rfl,h1,h2,hb⟩
 exact ⟨g,by simp [B8.cells,hF],h1,h2,hb,Nat.lt_of_lt_of_le (World.block_lt_of_cell? w _ hc) hb.size,(hb.cell (p:=⟨nb,2,none⟩) (World.block_lt_of_cell? w _ hc)).trans hc⟩
theorem ES {s:B8} {F g:Nat} (hF:s.fn=.func (Fn.func F) #[] #[]):(s.cells g).toArray=#[.string s.name,.slice (some ⟨g,0,none⟩) s.args.length s.args.length,.int .i8 s.tell,.func (Fn.func F) #[] #[]]:=by simp [B8.cells,hF]
theorem Lc {w:World} {s:B8} {F g sb:Nat} (hF:s.fn=.func (Fn.func F) #[] #[]) (h:Blk w sb 244 #[.string s.name,.slice (some ⟨g,0,none⟩) s.args.length s.args.length,.int .i8 s.tell,.func (Fn.func F) #[] #[]]):Blk w sb 244 (s.cells g).toArray:=by rw [ES hF];exact h
theorem EN {w:World} {s:B8} {F g sb:Nat} {v0 v1 v2 v3:Value} (hF:s.fn=.func (Fn.func F) #[] #[]) (h:Blk w sb 244 #[v0,v1,v2,v3]) :
  Blk ((((w.setCell ⟨sb,0,none⟩ (.string s.name)).setCell ⟨sb,1,none⟩ (.slice (some ⟨g,0,none⟩) s.args.length s.args.length)).setCell ⟨sb,2,none⟩ (.int .i8 s.tell)).setCell ⟨sb,3,none⟩ (.func (Fn.func F) #[] #[])) sb 244 (s.cells g).toArray:=by
 rw [ES hF]
 have:=(((h.set_ 0 (.string s.name)).set_ 1 (.slice (some ⟨g,0,none⟩) s.args.length s.args.length)).set_ 2 (.int .i8 s.tell)).set_ 3 (.func (Fn.func F) #[] #[])
 simpa using this
def FJ (w1 wx:World) (s11 s12:Value) (o:Option B8):Prop:=
 ∃ sb,s11=.pointer (some ⟨sb,0,none⟩)∧Below w1.heap.size w1 wx∧w1.heap.size≤sb∧match o with
  | none=>s12=.bool false
  | some s=>s12=.bool true∧∃ g,Blk wx sb 244 (s.cells g).toArray∧Blk wx g 118 (s.args.map (Value.int .i8)).toArray
section
variable (B kb tb toff cap:Nat) (ts:List Au) (slots:List Int) (seen:Int→Option Value) (rec:Nat→Bool→ER)
theorem NG (i:Nat) (x:Au) (w:World) (hl:ts.length≤100000) (hx:ts[i]? = some x) (h:LK w B kb (.slice (some ⟨tb,toff,none⟩) ts.length cap) ⟨slots,seen,false⟩) (hn:As w tb toff ts) (htb:tb < B)
  (p1:(x.op == 30)=false) (p2:(x.op == 31)=false) (p3:(x.op == 32)=false) (p4:(x.op == 33)=false) (p5:(x.op == 49)=true) (hs:Bp BU x.n=none) :
  Calls Tryz.prog 193 #[.pointer (some ⟨kb,0,none⟩),.int .i64 i] w fun e w'=>e=.returned (.tuple #[.int .i8 0,.int .i64 0]) ∧
   LK w' B kb (.slice (some ⟨tb,toff,none⟩) ts.length cap) ⟨slots,seen,true⟩∧Frm B [144] w w':=by
 have hi:=(List.getElem?_eq_some_iff.1 hx).1
 obtain⟨c0,c1,c2,c3,c4,c5,c6⟩:=hn.all hx
 obtain⟨k0,k3⟩:=h.cells
 obtain⟨hBk,hks⟩:=h.size
 have hout:x.n < 0∨((13:Nat):Int)≤x.n:=by
  unfold Bp at hs
  split at hs
  ·exact .inl (by omega)
  ·rw [List.getElem?_eq_none_iff] at hs
   have:BU.length=13:=rfl
   omega
 obtain⟨HH,HN,HX,HO⟩:=Hd4 h hn hx hout
 clear h hn hx hs hout
 go_in
 go_wp2_with (go_at_call 142;refine (DM B kb tb toff cap ts _ i _ w hl HH.out HN.out htb hi [144]).mono ?_;rintro e w1 ⟨kv,rfl,hown,h1,f1,n1,b1⟩;obtain⟨A,c,rfl,_⟩:=Cm hown;have e0:=b1.cell 0;have e2:w1.cell? ⟨w.heap.size,2,none⟩=some (.int .i64 x.n):=b1.cell 2;have H1:=Lh h1;have F1:=Lh f1;have N1:=Lh n1;have B1:=Lh b1;have hz1:=b1.lt;have hne1:w.heap.size≠w1.heap.size:=Nat.ne_of_lt hz1;clear h1 f1 n1 b1 hown)
 go_cut [11,12] (fun s11 s12 wx=>FJ w1 wx s11 s12 none)
 case first =>
  go_region_held3 (fun w'=>w'.cell? ⟨w.heap.size,2,none⟩=some (.int .i64 x.n)) (first | exact e2 | exact hc3 | (rw [CX hne2];exact hc3) | (rw [CX hne1];exact hc3) | go_keep) ((first | (go_at_call 241;refine (J3 _ (nb:=w.heap.size) (by assumption)).mono ?_;rintro e w2 ⟨rfl,hsg,hbl,hz4,hc3⟩;obtain⟨bc2,bf2⟩:=Gt hbl;have hz6:=hbl.size;(try simp only [World.size_alloc,EL] at bc2 bf2 hz6);(try have hz7:w1.heap.size < w2.heap.size:=hz6);have hne2:w.heap.size≠w2.heap.size:=Nat.ne_of_lt hz4) | (go_at_call 199;refine (Fw _ 13 13 x.n _ (by omega) HO.out (nb:=w.heap.size) (by assumption)).mono ?_;rintro e w3 ⟨rfl,hbl2,hz2,hc3⟩;obtain⟨bc3,bf3⟩:=Gt hbl2;have hz3:=hbl2.size;(try simp only [World.size_alloc] at hz3 bc3 bf3);have hne3:w.heap.size≠w3.heap.size:=Nat.ne_of_lt hz2)))
  ·go_wp2_with fail
   go_meet
   have B2:=(Below.refl w1.heap.size w1).drew.trans hbl
   have B3:=B2.trans (hbl2.mono B2.size)
   exact ⟨_,rfl,B3.alloc B3.size _,B3.size,rfl⟩
  ·go_wp2_with fail
   go_meet
   have B2:=(Below.refl w1.heap.size w1).drew.trans hbl
   have B3:=(B2.alloc B2.size _).trans (hbl2.mono (Nat.le_trans B2.size (by simp)))
   exact ⟨_,rfl,(((B3.setCell B2.size _).setCell B2.size _).setCell B2.size _).setCell B2.size _,B2.size,rfl⟩
  ·go_wp2_with fail
   go_meet
   have B2:=((Below.refl w1.heap.size w1).alloc (Nat.le_refl _) _).drew.trans (hbl.mono (by simp))
   have B3:=B2.trans (hbl2.mono B2.size)
   exact ⟨_,rfl,(((B3.setCell (Nat.le_refl _) _).setCell (Nat.le_refl _) _).setCell (Nat.le_refl _) _).setCell (Nat.le_refl _) _,Nat.le_refl _,rfl⟩
 case rest =>
  obtain⟨sb,rfl,hbw,hsb,rfl⟩:=hcut
  have H2:=H1.out.below hbw (Nat.le_refl _)
  have F2:=F1.out.trans (Frm.of_below hbw (by have:=H1.out.size;omega))
  obtain⟨HL2,HF2⟩:=Hd2 H2 F2
  clear H2 F2 hbw e0 e2
  go_wp2_with fail
  refine (Dq B kb _ slots seen _ false HL2.out).mono ?_
  rintro e w2 ⟨rfl,h2,f2⟩
  go_wp2_with fail
  go_ret2
  exact ⟨rfl,h2,HF2.out.trans f2⟩
end
section
variable (B kb tb toff cap:Nat) (ts:List Au) (slots:List Int) (seen:Int→Option Value) (rec:Nat→Bool→ER)
theorem Re (H:Int) (hH:0≤H) (hH2:H≤1000000) (hr:∀ i b,0≤(rec i b).2.1∧(rec i b).2.1≤H) (htxt:∀ y∈ts,y.text.size≤1099511627776) (i:Nat) (x:Au) (s:B8) (w:World) (hl:ts.length≤100000) (hx:ts[i]? = some x) (h:LK w B kb (.slice (some ⟨tb,toff,none⟩) ts.length cap) ⟨slots,seen,false⟩) (hn:As w tb toff ts) (htb:tb < B)
  (he:∀ j∈Am ts i,j < ts.length∧EW B kb tb toff cap ts slots seen (rec j) j)
  (p1:(x.op == 30)=false) (p2:(x.op == 31)=false) (p3:(x.op == 32)=false) (p4:(x.op == 33)=false) (p5:(x.op == 49)=false) (p6:(x.op == 50)=true) (hs:Bp Bz x.n=some s) :
  Calls Tryz.prog 193 #[.pointer (some ⟨kb,0,none⟩),.int .i64 i] w fun e w'=>e=.returned (.tuple #[.int .i8 (s.tell,max 1 (Cu rec ts i (Am ts i) s).1,(Cu rec ts i (Am ts i) s).2).1,.int .i64 (s.tell,max 1 (Cu rec ts i (Am ts i) s).1,(Cu rec ts i (Am ts i) s).2).2.1]) ∧
   LK w' B kb (.slice (some ⟨tb,toff,none⟩) ts.length cap) ⟨slots,seen,(s.tell,max 1 (Cu rec ts i (Am ts i) s).1,(Cu rec ts i (Am ts i) s).2).2.2⟩∧Frm B [144] w w':=by
 obtain⟨R,hR⟩:∃ R:ER,R=(s.tell,max 1 (Cu rec ts i (Am ts i) s).1,(Cu rec ts i (Am ts i) s).2):=⟨_,rfl⟩
 rw [← hR]
 have HR:=Lh hR
 clear hR
 have hi:=(List.getElem?_eq_some_iff.1 hx).1
 obtain⟨c0,c1,c2,c3,c4,c5,c6⟩:=hn.all hx
 obtain⟨k0,k3⟩:=h.cells
 obtain⟨hBk,hks⟩:=h.size
 obtain⟨F,hF⟩:∃ F,s.fn=.func (Fn.func F) #[] #[]:=⟨_,rfl⟩
 have hm:=CA hs
 obtain⟨n,hnk⟩:∃ n,(Am ts i).length=n:=⟨_,rfl⟩
 have HF:=Lh hF
 have HM:Hid (0≤x.n∧Bz[x.n.toNat]? = some s):=⟨hm.1,hm.2.2.1⟩
 obtain⟨HMM,HH,HN,HX,HK,HE,HRR,HT⟩:=Hd8 hm.2.2.2 h hn hx hnk he hr htxt
 clear h hn hx hs hm hnk hF he hr htxt
 go_in
 go_wp2_with (go_at_call 142;refine (DM B kb tb toff cap ts _ i _ w hl HH.out HN.out htb hi [144]).mono ?_;rintro e w1 ⟨kv,rfl,hown,h1,f1,n1,b1⟩;rw [HK.out] at hown;have HOW:=Lh hown;obtain⟨A,c,rfl,hkf⟩:=Cm hown;have e0:=b1.cell 0;have e2:w1.cell? ⟨w.heap.size,2,none⟩=some (.int .i64 x.n):=b1.cell 2;have HKF:=Lh hkf;have H1:=Lh h1;have F1:=Lh f1;have N1:=Lh n1;have B1:=Lh b1;have hz1:=b1.lt;have hne1:w.heap.size≠w1.heap.size:=Nat.ne_of_lt hz1;clear h1 f1 n1 b1 hown hkf)
 go_cut [13,14] (fun s13 s14 wx=>FJ w1 wx s13 s14 (some s))
 case first =>
  go_region_held3 (fun w'=>w'.cell? ⟨w.heap.size,2,none⟩=some (.int .i64 x.n)) (first | exact e2 | exact hc3 | (rw [CX hne2];exact hc3) | (rw [CX hne1];exact hc3) | go_keep) ((first | (go_at_call 242;refine (L9 _ (nb:=w.heap.size) (by assumption)).mono ?_;rintro e w2 ⟨rfl,hsg,hbl,hz4,hc3⟩;obtain⟨bc2,bf2⟩:=Gt hbl;have hz6:=hbl.size;(try simp only [World.size_alloc,EL] at bc2 bf2 hz6);(try have hz7:w1.heap.size < w2.heap.size:=hz6);have hne2:w.heap.size≠w2.heap.size:=Nat.ne_of_lt hz4) | (go_at_call 199;refine (FO _ _ Bz 9 9 x.n s _ rfl (by omega) (by first | exact hsg.cast (by simp) | exact (hsg.alloc _).cast (by simp)) HM.out.1 HM.out.2 F HF.out (nb:=w.heap.size) (by assumption)).mono ?_;rintro e w3 ⟨g,rfl,hgB,hgb,hbl2,hz2,hc3⟩;obtain⟨bc3,bf3⟩:=Gt hbl2;have hz3:=hbl2.size;(try simp only [World.size_alloc] at hz3 bc3 bf3);have hne3:w.heap.size≠w3.heap.size:=Nat.ne_of_lt hz2)))
  ·go_wp2_with fail
   go_meet
   have B2:=(Below.refl w1.heap.size w1).drew.trans hbl
   have B3:=B2.trans (hbl2.mono B2.size)
   refine ⟨_,rfl,B3.alloc B3.size _,B3.size,rfl,g,?_,hgb.alloc _⟩
   exact Lc HF.out (Blk.new w3 _ _)
  ·go_wp2_with fail
   go_meet
   have B2:=(Below.refl w1.heap.size w1).drew.trans hbl
   have B3:=(B2.alloc B2.size _).trans (hbl2.mono (Nat.le_trans B2.size (by simp)))
   have hgne:g≠w2.heap.size:=hgb.ne_ ((Blk.new w2 _ _).below hbl2 (by simp)) (by decide)
   refine ⟨_,rfl,(((B3.setCell B2.size _).setCell B2.size _).setCell B2.size _).setCell B2.size _,B2.size,rfl,g,?_,(((hgb.far hgne _).far hgne _).far hgne _).far hgne _⟩
   exact EN HF.out ((Blk.new w2 _ _).below hbl2 (by simp))
  ·go_wp2_with fail
   go_meet
   have B2:=((Below.refl w1.heap.size w1).alloc (Nat.le_refl _) _).drew.trans (hbl.mono (by simp))
   have B3:=B2.trans (hbl2.mono B2.size)
   have hb3:=(((Blk.new w1 _ _).drew.below hbl (by simp)).below hbl2 hz7)
   have hgne:g≠w1.heap.size:=hgb.ne_ hb3 (by decide)
   refine ⟨_,rfl,(((B3.setCell (Nat.le_refl _) _).setCell (Nat.le_refl _) _).setCell (Nat.le_refl _) _).setCell (Nat.le_refl _) _,Nat.le_refl _,rfl,g,?_,(((hgb.far hgne _).far hgne _).far hgne _).far hgne _⟩
   exact EN HF.out hb3
 case rest =>
  obtain⟨sb,rfl,hbw,hsb,rfl,g,hbs,hbg⟩:=hcut
  have H2:=H1.out.below hbw (Nat.le_refl _)
  have F2:=F1.out.trans (Frm.of_below hbw (by have:=H1.out.size;omega))
  have N2:=N1.out.below hbw (by have:=H1.out.size;omega)
  have B2:=B1.out.below hbw hz1
  rw [ES HF.out] at hbs
  have q1:=hbs.cell 1
  have q2:=hbs.cell 2
  have e22:=B2.cell 2
  have HKF2:0 < n→∃ gk,A=some ⟨gk,0,none⟩∧wc.ownsRow (w.heap.size + 1) 3 1 (.slice (some ⟨gk,0,none⟩) n c) n ((Am ts i).map fun j:Nat=>Value.int .i64 j):=fun h0=>by
   obtain⟨gk,h3,_,h4⟩:=HKF.out h0
   exact ⟨gk,h3,(Frm.of_below (T:=[]) hbw (Nat.le_refl _)).own h4 (by simp)⟩
  obtain⟨HS2,HG2,HL2,HF2,HN2,HB2,HK2,HOW2⟩:=Hd8 hbs hbg H2 F2 N2 B2 HKF2 ((Frm.of_below (T:=[]) hbw (Nat.le_refl _)).own HOW.out (by simp))
  clear H2 F2 hbw e0 e2 hbs hbg N2 B2 HKF2
  go_wp2_with fail
  refine (BQ B kb _ slots seen _ HL2.out).mono ?_
  rintro e w2 ⟨rfl,h2,f2⟩
  have f4:=f2
  have hs4:=f4.blk HS2.out (by decide)
  have t0:=hs4.cell 0
  have t1:=hs4.cell 1
  have t2:=hs4.cell 2
  have t3:=hs4.cell 3
  obtain⟨H4,F4,S4⟩:=Hd3 h2 f4 hs4
  clear h2 f2 f4 hs4 q1 q2 e22
  obtain⟨V,hV⟩:=Ex0 (Cu rec ts i (Am ts i) s)
  have HV:=Lh hV
  have hRf:R=(s.tell,max 1 V.1,V.2):=by rw [HR.out,hV]
  obtain⟨HRf,OW4⟩:=Hd2 hRf (F4.out.own HOW2.out (by decide))
  have HNK:=HK.out
  clear hV hRf
  go_wp2_with fail
  go_region_held3 (fun w'=>w'.cell? ⟨sb,0,none⟩=some (.string s.name)∧w'.cell? ⟨sb,1,none⟩=some (.slice (some ⟨g,0,none⟩) s.args.length s.args.length)∧w'.cell? ⟨sb,2,none⟩=some (.int .i8 s.tell)∧w'.cell? ⟨sb,3,none⟩=some (.func (Fn.func F) #[] #[])) (first | exact ⟨t0,t1,t2,t3⟩ | exact t5) ((first | (go_at_call 201;rw [← ES HF.out];refine (Pg B kb tb toff cap ts slots seen rec H hH hH2 HRR.out i x (Am ts i) s g _ _ _ HX.out hl HT.out HE.out (Ie HMM.out) ((F4.out.blk HG2.out (by decide)).drew) (by rw [HNK];exact OW4.out.drew) H4.out.drew (F4.out.nodes HN2.out htb) htb).mono ?_;rintro e w5 ⟨rfl,h5,f5⟩;have t5:w5.cell? ⟨sb,0,none⟩=some (.string s.name)∧w5.cell? ⟨sb,1,none⟩=some (.slice (some ⟨g,0,none⟩) s.args.length s.args.length)∧w5.cell? ⟨sb,2,none⟩=some (.int .i8 s.tell)∧w5.cell? ⟨sb,3,none⟩=some (.func (Fn.func F) #[] #[]):=⟨(f5.blk S4.out.drew (by decide)).cell 0,(f5.blk S4.out.drew (by decide)).cell 1,(f5.blk S4.out.drew (by decide)).cell 2,(f5.blk S4.out.drew (by decide)).cell 3⟩)))
  all_goals go_wp2_with fail
  all_goals go_ret2
  all_goals simp only [← HV.out] at *
  all_goals refine ⟨by (rw [HRf.out];first | exact FG (show V.1=max 1 V.1 by omega) | exact FG (show (1:Int)=max 1 V.1 by omega) | exact FG (show (if (1:Int) < V.1 then V.1 else 1)=max 1 V.1 from QE) | exact FG rfl),by rw [HRf.out];exact h5,(HF2.out.trans F4.out).drew.trans f5⟩
end
section
variable (B kb tb toff cap:Nat) (ts:List Au) (slots:List Int) (seen:Int→Option Value) (rec:Nat→Bool→ER)
theorem PE (i:Nat) (x:Au) (s:B8) (w:World) (hl:ts.length≤100000) (hx:ts[i]? = some x) (h:LK w B kb (.slice (some ⟨tb,toff,none⟩) ts.length cap) ⟨slots,seen,false⟩) (hn:As w tb toff ts) (htb:tb < B)
  (he:∀ j∈Am ts i,j < ts.length∧EW B kb tb toff cap ts slots seen (rec j) j)
  (p1:(x.op == 30)=false) (p2:(x.op == 31)=false) (p3:(x.op == 32)=false) (p4:(x.op == 33)=false) (p5:(x.op == 49)=true) (hs:Bp BU x.n=some s) :
  Calls Tryz.prog 193 #[.pointer (some ⟨kb,0,none⟩),.int .i64 i] w fun e w'=>e=.returned (.tuple #[.int .i8 (if (Am ts i).length=1∧AO x s.tell x.n 0=true then (s.tell,(AA (rec ((Am ts i).getD 0 0) false) (s.args.getD 0 0)).1,(AA (rec ((Am ts i).getD 0 0) false) (s.args.getD 0 0)).2) else (0,0,true)).1,.int .i64 (if (Am ts i).length=1∧AO x s.tell x.n 0=true then (s.tell,(AA (rec ((Am ts i).getD 0 0) false) (s.args.getD 0 0)).1,(AA (rec ((Am ts i).getD 0 0) false) (s.args.getD 0 0)).2) else (0,0,true)).2.1]) ∧
   LK w' B kb (.slice (some ⟨tb,toff,none⟩) ts.length cap) ⟨slots,seen,(if (Am ts i).length=1∧AO x s.tell x.n 0=true then (s.tell,(AA (rec ((Am ts i).getD 0 0) false) (s.args.getD 0 0)).1,(AA (rec ((Am ts i).getD 0 0) false) (s.args.getD 0 0)).2) else (0,0,true)).2.2⟩∧Frm B [144] w w':=by
 obtain⟨R,hR⟩:∃ R:ER,R=(if (Am ts i).length=1∧AO x s.tell x.n 0=true then (s.tell,(AA (rec ((Am ts i).getD 0 0) false) (s.args.getD 0 0)).1,(AA (rec ((Am ts i).getD 0 0) false) (s.args.getD 0 0)).2) else (0,0,true)):=⟨_,rfl⟩
 rw [← hR]
 have HR:=Lh hR
 clear hR
 have hi:=(List.getElem?_eq_some_iff.1 hx).1
 obtain⟨c0,c1,c2,c3,c4,c5,c6⟩:=hn.all hx
 obtain⟨k0,k3⟩:=h.cells
 obtain⟨hBk,hks⟩:=h.size
 obtain⟨F,hF⟩:∃ F,s.fn=.func (Fn.func F) #[] #[]:=⟨_,rfl⟩
 have hm:=CA hs
 obtain⟨n,hnk⟩:∃ n,(Am ts i).length=n:=⟨_,rfl⟩
 have HF:=Lh hF
 have HM:Hid (0≤x.n∧BU[x.n.toNat]? = some s):=⟨hm.1,hm.2.2.1⟩
 obtain⟨HMM,HH,HN,HX,HK,HE⟩:=Hd6 hm.2.2.2 h hn hx hnk he
 clear h hn hx hs hm hnk hF he
 go_in
 go_wp2_with (go_at_call 142;refine (DM B kb tb toff cap ts _ i _ w hl HH.out HN.out htb hi [144]).mono ?_;rintro e w1 ⟨kv,rfl,hown,h1,f1,n1,b1⟩;rw [HK.out] at hown;obtain⟨A,c,rfl,hkf⟩:=Cm hown;have e0:=b1.cell 0;have e2:w1.cell? ⟨w.heap.size,2,none⟩=some (.int .i64 x.n):=b1.cell 2;have HKF:=Lh hkf;have H1:=Lh h1;have F1:=Lh f1;have N1:=Lh n1;have B1:=Lh b1;have hz1:=b1.lt;have hne1:w.heap.size≠w1.heap.size:=Nat.ne_of_lt hz1;clear h1 f1 n1 b1 hown hkf)
 go_cut [11,12] (fun s11 s12 wx=>FJ w1 wx s11 s12 (some s))
 case first =>
  go_region_held3 (fun w'=>w'.cell? ⟨w.heap.size,2,none⟩=some (.int .i64 x.n)) (first | exact e2 | exact hc3 | (rw [CX hne2];exact hc3) | (rw [CX hne1];exact hc3) | go_keep) ((first | (go_at_call 241;refine (J3 _ (nb:=w.heap.size) (by assumption)).mono ?_;rintro e w2 ⟨rfl,hsg,hbl,hz4,hc3⟩;obtain⟨bc2,bf2⟩:=Gt hbl;have hz6:=hbl.size;(try simp only [World.size_alloc,EL] at bc2 bf2 hz6);(try have hz7:w1.heap.size < w2.heap.size:=hz6);have hne2:w.heap.size≠w2.heap.size:=Nat.ne_of_lt hz4) | (go_at_call 199;refine (FO _ _ BU 13 13 x.n s _ rfl (by omega) (by first | exact hsg.cast (by simp) | exact (hsg.alloc _).cast (by simp)) HM.out.1 HM.out.2 F HF.out (nb:=w.heap.size) (by assumption)).mono ?_;rintro e w3 ⟨g,rfl,hgB,hgb,hbl2,hz2,hc3⟩;obtain⟨bc3,bf3⟩:=Gt hbl2;have hz3:=hbl2.size;(try simp only [World.size_alloc] at hz3 bc3 bf3);have hne3:w.heap.size≠w3.heap.size:=Nat.ne_of_lt hz2)))
  ·go_wp2_with fail
   go_meet
   have B2:=(Below.refl w1.heap.size w1).drew.trans hbl
   have B3:=B2.trans (hbl2.mono B2.size)
   refine ⟨_,rfl,B3.alloc B3.size _,B3.size,rfl,g,?_,hgb.alloc _⟩
   exact Lc HF.out (Blk.new w3 _ _)
  ·go_wp2_with fail
   go_meet
   have B2:=(Below.refl w1.heap.size w1).drew.trans hbl
   have B3:=(B2.alloc B2.size _).trans (hbl2.mono (Nat.le_trans B2.size (by simp)))
   have hgne:g≠w2.heap.size:=hgb.ne_ ((Blk.new w2 _ _).below hbl2 (by simp)) (by decide)
   refine ⟨_,rfl,(((B3.setCell B2.size _).setCell B2.size _).setCell B2.size _).setCell B2.size _,B2.size,rfl,g,?_,(((hgb.far hgne _).far hgne _).far hgne _).far hgne _⟩
   exact EN HF.out ((Blk.new w2 _ _).below hbl2 (by simp))
  ·go_wp2_with fail
   go_meet
   have B2:=((Below.refl w1.heap.size w1).alloc (Nat.le_refl _) _).drew.trans (hbl.mono (by simp))
   have B3:=B2.trans (hbl2.mono B2.size)
   have hb3:=(((Blk.new w1 _ _).drew.below hbl (by simp)).below hbl2 hz7)
   have hgne:g≠w1.heap.size:=hgb.ne_ hb3 (by decide)
   refine ⟨_,rfl,(((B3.setCell (Nat.le_refl _) _).setCell (Nat.le_refl _) _).setCell (Nat.le_refl _) _).setCell (Nat.le_refl _) _,Nat.le_refl _,rfl,g,?_,(((hgb.far hgne _).far hgne _).far hgne _).far hgne _⟩
   exact EN HF.out hb3
 case rest =>
  obtain⟨sb,rfl,hbw,hsb,rfl,g,hbs,hbg⟩:=hcut
  have H2:=H1.out.below hbw (Nat.le_refl _)
  have F2:=F1.out.trans (Frm.of_below hbw (by have:=H1.out.size;omega))
  have N2:=N1.out.below hbw (by have:=H1.out.size;omega)
  have B2:=B1.out.below hbw hz1
  rw [ES HF.out] at hbs
  have q1:=hbs.cell 1
  have q2:=hbs.cell 2
  have e22:=B2.cell 2
  have HKF2:0 < n→∃ gk,A=some ⟨gk,0,none⟩∧wc.ownsRow (w.heap.size + 1) 3 1 (.slice (some ⟨gk,0,none⟩) n c) n ((Am ts i).map fun j:Nat=>Value.int .i64 j):=fun h0=>by
   obtain⟨gk,h3,_,h4⟩:=HKF.out h0
   exact ⟨gk,h3,(Frm.of_below (T:=[]) hbw (Nat.le_refl _)).own h4 (by simp)⟩
  obtain⟨HS2,HG2,HL2,HF2,HN2,HB2,HK2⟩:=Hd7 hbs hbg H2 F2 N2 B2 HKF2
  clear H2 F2 hbw e0 e2 hbs hbg N2 B2 HKF2
  by_cases h1:n=1
  ·subst h1
   have hlen:=HK.out
   obtain⟨j0,hj0⟩:∃ j0,Am ts i=[j0]:=by
    match hk:Am ts i,hlen with
    | [a],_=>exact ⟨a,rfl⟩
   obtain⟨gk,rfl,hown⟩:=HK2.out (by omega)
   obtain⟨u0,hu0⟩:∃ u0,s.args=[u0]:=by
    have:=JG HMM.out
    match hk:s.args,this with
    | [a],_=>exact ⟨a,rfl⟩
   have hq0:wc.cell? ⟨gk,0,none⟩=some (.int .i64 j0):=by rw [hown.cellAt 0 (by omega),hj0];rfl
   have hown3:=Lh hown
   obtain⟨hjl,hej⟩:=HE.out j0 (by rw [hj0];simp)
   obtain⟨HEJ,HJ0,HU0⟩:=Hd3 hej hj0 hu0
   have hal:s.args.length=1:=by rw [hu0];rfl
   clear hown hlen hej hj0 hu0
   simp only [hal] at q1 HS2
   by_cases hlike:AO x s.tell x.n 0=true
   ·have hRf:R=(s.tell,(AA (rec j0 false) u0).1,(AA (rec j0 false) u0).2):=by
     rw [HR.out,if_pos ⟨HK.out,hlike⟩,HJ0.out,HU0.out];rfl
    obtain⟨HRf,HLK⟩:=Hd2 hRf hlike
    clear hRf hlike
    go_wp2_with fail
    refine (BQ B kb _ slots seen _ HL2.out).mono ?_
    rintro e w2 ⟨rfl,h2,f2⟩
    have r2:=(f2.blk HS2.out (by decide)).cell 2
    have r3:=(f2.blk HB2.out (by decide)).cell 2
    obtain⟨H3,F3⟩:=Hd2 h2 f2
    clear h2 f2
    go_wp2_with fail
    refine (Cl B kb tb toff cap ts slots seen i x s.tell x.n 0 _ HLK.out H3.out HX.out (F3.out.nodes HN2.out htb) hl).mono ?_
    rintro e w3 ⟨rfl,h3,f3⟩
    have f4:=F3.out.trans f3
    have hs4:=f4.blk HS2.out (by decide)
    have t1:=hs4.cell 1
    have t2:=hs4.cell 2
    have hg4:=f4.blk HG2.out (by decide)
    have t3:w3.cell? ⟨g,0,none⟩=some (.int .i8 u0):=by rw [hg4.cell 0,HU0.out];rfl
    have t4:w3.cell? ⟨gk,0,none⟩=some (.int .i64 j0):=by rw [(f4.own hown3.out (by decide)).cellAt 0 (by omega),HJ0.out];rfl
    obtain⟨H4,F4,S4,G4⟩:=Hd4 h3 f4 hs4 hg4
    clear h3 f3 f4 hs4 hg4 r2 r3 q1 q2 hq0 e22
    go_wp2_with fail
    go_region_held3 (fun w'=>w'.cell? ⟨sb,2,none⟩=some (.int .i8 s.tell)∧w'.cell? ⟨gk,0,none⟩=some (.int .i64 j0)∧w'.cell? ⟨sb,1,none⟩=some (.slice (some ⟨g,0,none⟩) 1 1)∧w'.cell? ⟨g,0,none⟩=some (.int .i8 u0)) (first | exact ⟨t2,t4,t1,t3⟩ | exact t5) ((first | (go_at_call 140;refine (FV B kb tb toff cap ts slots seen (rec j0) j0 u0 false _ HEJ.out H4.out.drew (F4.out.nodes HN2.out htb)).mono ?_;rintro e w5 ⟨rfl,h5,f5⟩;have t5:w5.cell? ⟨sb,2,none⟩=some (.int .i8 s.tell)∧w5.cell? ⟨gk,0,none⟩=some (.int .i64 j0)∧w5.cell? ⟨sb,1,none⟩=some (.slice (some ⟨g,0,none⟩) 1 1)∧w5.cell? ⟨g,0,none⟩=some (.int .i8 u0):=⟨(f5.blk S4.out.drew (by decide)).cell 2,by rw [((F4.out.drew.trans f5).own hown3.out (by decide)).cellAt 0 (by omega),HJ0.out];rfl,(f5.blk S4.out.drew (by decide)).cell 1,by rw [(f5.blk G4.out.drew (by decide)).cell 0,HU0.out];rfl⟩)))
    all_goals
     go_wp2_with fail
     go_ret2
     refine ⟨by (first | (rw [HRf.out];done) | (rw [HRf.out];rfl)),by rw [HRf.out];exact h5,(HF2.out.trans F4.out).drew.trans f5⟩
   ·have hlf:AO x s.tell x.n 0=false:=by simpa using hlike
    have hRf:R=(0,0,true):=by rw [HR.out,if_neg (fun h=>hlike h.2)]
    obtain⟨HRf,HLK⟩:=Hd2 hRf hlf
    clear hRf hlike hlf
    go_wp2_with fail
    refine (BQ B kb _ slots seen _ HL2.out).mono ?_
    rintro e w2 ⟨rfl,h2,f2⟩
    have r2:=(f2.blk HS2.out (by decide)).cell 2
    have r3:=(f2.blk HB2.out (by decide)).cell 2
    obtain⟨H3,F3⟩:=Hd2 h2 f2
    clear h2 f2
    go_wp2_with fail
    refine (DI B kb tb toff cap ts slots seen i x s.tell x.n 0 _ false HLK.out H3.out HX.out (F3.out.nodes HN2.out htb) hl).mono ?_
    rintro e w3 ⟨rfl,h3,f3⟩
    go_wp2_with fail
    go_ret2
    exact ⟨by (first | (rw [HRf.out];done) | (rw [HRf.out];rfl)),by rw [HRf.out];exact h3,(HF2.out.trans F3.out).trans f3⟩
  ·have hb1:((n:Int) == 1)=false:=by simp;omega
   have hRf:R=(0,0,true):=by rw [HR.out,if_neg (fun h=>h1 (by rw [← HK.out];exact h.1))]
   have HRf:=Lh hRf
   clear h1 hRf
   go_wp2_with fail
   refine (Dq B kb _ slots seen _ false HL2.out).mono ?_
   rintro e w2 ⟨rfl,h2,f2⟩
   go_wp2_with fail
   go_ret2
   exact ⟨by (first | (rw [HRf.out];done) | (rw [HRf.out];rfl)),by rw [HRf.out];exact h2,HF2.out.trans f2⟩
end
section
variable (B kb tb toff cap:Nat) (ts:List Au) (slots:List Int) (seen:Int→Option Value) (rec:Nat→Bool→ER)
theorem NZ (i:Nat) (x:Au) (w:World) (hl:ts.length≤100000) (hx:ts[i]? = some x) (h:LK w B kb (.slice (some ⟨tb,toff,none⟩) ts.length cap) ⟨slots,seen,false⟩) (hn:As w tb toff ts) (htb:tb < B)
  (p1:(x.op == 30)=false) (p2:(x.op == 31)=false) (p3:(x.op == 32)=false) (p4:(x.op == 33)=false) (p5:(x.op == 49)=false) (p6:(x.op == 50)=true) (hs:Bp Bz x.n=none) :
  Calls Tryz.prog 193 #[.pointer (some ⟨kb,0,none⟩),.int .i64 i] w fun e w'=>e=.returned (.tuple #[.int .i8 0,.int .i64 0]) ∧
   LK w' B kb (.slice (some ⟨tb,toff,none⟩) ts.length cap) ⟨slots,seen,true⟩∧Frm B [144] w w':=by
 have hi:=(List.getElem?_eq_some_iff.1 hx).1
 obtain⟨c0,c1,c2,c3,c4,c5,c6⟩:=hn.all hx
 obtain⟨k0,k3⟩:=h.cells
 obtain⟨hBk,hks⟩:=h.size
 have hout:x.n < 0∨((9:Nat):Int)≤x.n:=by
  unfold Bp at hs
  split at hs
  ·exact .inl (by omega)
  ·rw [List.getElem?_eq_none_iff] at hs
   have:Bz.length=9:=rfl
   omega
 obtain⟨HH,HN,HX,HO⟩:=Hd4 h hn hx hout
 clear h hn hx hs hout
 go_in
 go_wp2_with (go_at_call 142;refine (DM B kb tb toff cap ts _ i _ w hl HH.out HN.out htb hi [144]).mono ?_;rintro e w1 ⟨kv,rfl,hown,h1,f1,n1,b1⟩;obtain⟨A,c,rfl,_⟩:=Cm hown;have e0:=b1.cell 0;have e2:w1.cell? ⟨w.heap.size,2,none⟩=some (.int .i64 x.n):=b1.cell 2;have H1:=Lh h1;have F1:=Lh f1;have N1:=Lh n1;have B1:=Lh b1;have hz1:=b1.lt;have hne1:w.heap.size≠w1.heap.size:=Nat.ne_of_lt hz1;clear h1 f1 n1 b1 hown)
 go_cut [13,14] (fun s13 s14 wx=>FJ w1 wx s13 s14 none)
 case first =>
  go_region_held3 (fun w'=>w'.cell? ⟨w.heap.size,2,none⟩=some (.int .i64 x.n)) (first | exact e2 | exact hc3 | (rw [CX hne2];exact hc3) | (rw [CX hne1];exact hc3) | go_keep) ((first | (go_at_call 242;refine (L9 _ (nb:=w.heap.size) (by assumption)).mono ?_;rintro e w2 ⟨rfl,hsg,hbl,hz4,hc3⟩;obtain⟨bc2,bf2⟩:=Gt hbl;have hz6:=hbl.size;(try simp only [World.size_alloc,EL] at bc2 bf2 hz6);(try have hz7:w1.heap.size < w2.heap.size:=hz6);have hne2:w.heap.size≠w2.heap.size:=Nat.ne_of_lt hz4) | (go_at_call 199;refine (Fw _ 9 9 x.n _ (by omega) HO.out (nb:=w.heap.size) (by assumption)).mono ?_;rintro e w3 ⟨rfl,hbl2,hz2,hc3⟩;obtain⟨bc3,bf3⟩:=Gt hbl2;have hz3:=hbl2.size;(try simp only [World.size_alloc] at hz3 bc3 bf3);have hne3:w.heap.size≠w3.heap.size:=Nat.ne_of_lt hz2)))
  ·go_wp2_with fail
   go_meet
   have B2:=(Below.refl w1.heap.size w1).drew.trans hbl
   have B3:=B2.trans (hbl2.mono B2.size)
   exact ⟨_,rfl,B3.alloc B3.size _,B3.size,rfl⟩
  ·go_wp2_with fail
   go_meet
   have B2:=(Below.refl w1.heap.size w1).drew.trans hbl
   have B3:=(B2.alloc B2.size _).trans (hbl2.mono (Nat.le_trans B2.size (by simp)))
   exact ⟨_,rfl,(((B3.setCell B2.size _).setCell B2.size _).setCell B2.size _).setCell B2.size _,B2.size,rfl⟩
  ·go_wp2_with fail
   go_meet
   have B2:=((Below.refl w1.heap.size w1).alloc (Nat.le_refl _) _).drew.trans (hbl.mono (by simp))
   have B3:=B2.trans (hbl2.mono B2.size)
   exact ⟨_,rfl,(((B3.setCell (Nat.le_refl _) _).setCell (Nat.le_refl _) _).setCell (Nat.le_refl _) _).setCell (Nat.le_refl _) _,Nat.le_refl _,rfl⟩
 case rest =>
  obtain⟨sb,rfl,hbw,hsb,rfl⟩:=hcut
  have H2:=H1.out.below hbw (Nat.le_refl _)
  have F2:=F1.out.trans (Frm.of_below hbw (by have:=H1.out.size;omega))
  obtain⟨HL2,HF2⟩:=Hd2 H2 F2
  clear H2 F2 hbw e0 e2
  go_wp2_with fail
  refine (Dq B kb _ slots seen _ false HL2.out).mono ?_
  rintro e w2 ⟨rfl,h2,f2⟩
  go_wp2_with fail
  go_ret2
  exact ⟨rfl,h2,HF2.out.trans f2⟩
end
end Go.Proofs.YtmpcbaflcogmmaaGreatDoor
