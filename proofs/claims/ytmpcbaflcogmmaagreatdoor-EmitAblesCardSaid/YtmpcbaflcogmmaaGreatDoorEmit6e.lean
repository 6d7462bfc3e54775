/- Emit6a RefF17 Emit6c Emit6d Emit6e -/
import Derived.Test.YtmpcbaflcogmmaaGreatDoorCopyL
import Derived.Test.YtmpcbaflcogmmaaGreatDoorEmit9
namespace Go.Proofs.YtmpcbaflcogmmaaGreatDoor
open Go.RowKit
set_option linter.all false
set_option maxHeartbeats 1600000
set_option maxRecDepth 100000
section
variable (w0:World) (B kb:Nat) (tv im tm mb:Value) (ts:List Au) (rec:Nat→MS→MS) (hgr:Do rec) (i:Nat) (x:Au) (hr:∀ j∈Am ts i,E6 w0 B kb tv im tm mb rec j) (hkl:(Am ts i).length≤100000)
include hgr hr hkl
theorem Vv (j0 j1:Nat) (hkk:Am ts i=[j0,j1]):BH w0 B kb tv im tm mb ts (fun s=>orE rec (Am ts i) s) i x 149 #[]:=by
 intro s w A n c base hb0 h0 ho0 hm
 obtain⟨wl0,HW,S0,HO,F0,KN⟩:=CE x hb0 h0 ho0
 obtain⟨s1,HS1,m1⟩:=sN hgr j0 s
 obtain⟨s2,HS2,m2⟩:=sA 31 s1
 obtain⟨s3,HS3,m3⟩:=sO 2 s2
 obtain⟨s4,HS4,m4⟩:=sA 30 s3
 obtain⟨s5,HS5,m5⟩:=sH s2.at_ s4
 obtain⟨s6,HS6,m6⟩:=sN hgr j1 s5
 obtain⟨s7,HS7,m7⟩:=sH s4.at_ s6
 have hF:(fun s=>orE rec (Am ts i) s) s=s7:=by
  rw [HS7.out,HS6.out,HS5.out,HS4.out,HS3.out,HS2.out,HS1.out]
  unfold orE;rw [hkk];rfl
 rw [hF] at hm ⊢
 have hq0:(Am ts i)[0]? = some j0:=by rw [hkk];rfl
 have hq1:(Am ts i)[1]? = some j1:=by rw [hkk];rfl
 obtain⟨g,hn,rfl,hgw⟩:=Fs ho0 hq0
 rw [hkk] at hn
 obtain rfl:n=2:=hn
 obtain⟨HO0,HR,HKK⟩:=Hd3 ho0 hr hkk
 clear hr hkk hb0 h0 ho0 hF hgr hkl
 go_in
 have kc1:=S0.kid HO hq0
 have kw1:=Bo HO0.out hq0
 rw [HW.out] at kc1
 go_wp2_with fail
 rw [← HW.out]
 refine (S0.node (HR.out j0 (CT hq0)) HS1 (by omega)).mono ?_
 rintro e wl1 ⟨rfl,S1,f⟩
 go_wp2_with fail
 refine (S1.ah0 31 HS2 (by omega)).mono ?_
 rintro e wl2 ⟨ga2,gb2,rfl,S2,f,KA2⟩
 go_wp2_with fail
 refine (S2.op0 2 HS3 (by omega)).mono ?_
 rintro e wl3 ⟨rfl,S3,f⟩
 replace KA2:=AhE.up KA2 f
 go_wp2_with fail
 refine (S3.ah0 30 HS4 (by omega)).mono ?_
 rintro e wl4 ⟨ga4,gb4,rfl,S4,f,KA4⟩
 replace KA2:=AhE.up KA2 f
 go_wp2_with fail
 refine (S4.here KA2 HS5 (by omega)).mono ?_
 rintro e wl5 ⟨rfl,S5,f⟩
 replace KA4:=AhE.up KA4 f
 have kc6:=S5.kid HO hq1
 go_wp2_with fail
 refine (S5.node (HR.out j1 (CT hq1)) HS6 (by omega)).mono ?_
 rintro e wl6 ⟨rfl,S6,f⟩
 replace KA4:=AhE.up KA4 f
 go_wp2_with fail
 refine (S6.here KA4 HS7 (by omega)).mono ?_
 rintro e wl7 ⟨rfl,S7,f⟩
 go_wp2_with fail
 go_end0
 exact ⟨rfl,S7.k,F0.trans S7.f⟩
theorem Ve (j0 j1:Nat) (hkk:Am ts i=[j0,j1]):BH w0 B kb tv im tm mb ts (fun s=>II rec (Am ts i) s) i x 150 #[]:=by
 intro s w A n c base hb0 h0 ho0 hm
 obtain⟨wl0,HW,S0,HO,F0,KN⟩:=CE x hb0 h0 ho0
 obtain⟨s1,HS1,m1⟩:=sN hgr j0 s
 obtain⟨s2,HS2,m2⟩:=sA 31 s1
 obtain⟨s3,HS3,m3⟩:=sN hgr j1 s2
 obtain⟨s4,HS4,m4⟩:=sA 30 s3
 obtain⟨s5,HS5,m5⟩:=sH s2.at_ s4
 obtain⟨s6,HS6,m6⟩:=sO 3 s5
 obtain⟨s7,HS7,m7⟩:=sH s4.at_ s6
 have hF:(fun s=>II rec (Am ts i) s) s=s7:=by
  rw [HS7.out,HS6.out,HS5.out,HS4.out,HS3.out,HS2.out,HS1.out]
  unfold II;rw [hkk];rfl
 rw [hF] at hm ⊢
 have hq0:(Am ts i)[0]? = some j0:=by rw [hkk];rfl
 have hq1:(Am ts i)[1]? = some j1:=by rw [hkk];rfl
 obtain⟨g,hn,rfl,hgw⟩:=Fs ho0 hq0
 rw [hkk] at hn
 obtain rfl:n=2:=hn
 obtain⟨HO0,HR,HKK⟩:=Hd3 ho0 hr hkk
 clear hr hkk hb0 h0 ho0 hF hgr hkl
 go_in
 have kc1:=S0.kid HO hq0
 have kw1:=Bo HO0.out hq0
 rw [HW.out] at kc1
 go_wp2_with fail
 rw [← HW.out]
 refine (S0.node (HR.out j0 (CT hq0)) HS1 (by omega)).mono ?_
 rintro e wl1 ⟨rfl,S1,f⟩
 go_wp2_with fail
 refine (S1.ah0 31 HS2 (by omega)).mono ?_
 rintro e wl2 ⟨ga2,gb2,rfl,S2,f,KA2⟩
 have kc3:=S2.kid HO hq1
 go_wp2_with fail
 refine (S2.node (HR.out j1 (CT hq1)) HS3 (by omega)).mono ?_
 rintro e wl3 ⟨rfl,S3,f⟩
 replace KA2:=AhE.up KA2 f
 go_wp2_with fail
 refine (S3.ah0 30 HS4 (by omega)).mono ?_
 rintro e wl4 ⟨ga4,gb4,rfl,S4,f,KA4⟩
 replace KA2:=AhE.up KA2 f
 go_wp2_with fail
 refine (S4.here KA2 HS5 (by omega)).mono ?_
 rintro e wl5 ⟨rfl,S5,f⟩
 replace KA4:=AhE.up KA4 f
 go_wp2_with fail
 refine (S5.op0 3 HS6 (by omega)).mono ?_
 rintro e wl6 ⟨rfl,S6,f⟩
 replace KA4:=AhE.up KA4 f
 go_wp2_with fail
 refine (S6.here KA4 HS7 (by omega)).mono ?_
 rintro e wl7 ⟨rfl,S7,f⟩
 go_wp2_with fail
 go_end0
 exact ⟨rfl,S7.k,F0.trans S7.f⟩
end
def Df {κ:Type} (eqb:κ→κ→Bool):Nat→List κ→κ→Option Int
 | _,[],_=>none
 | k,x :: r,y=>if k < 4096 then (if eqb x y=true then some (k:Int) else Df eqb (k + 1) r y) else none
theorem KF {κ:Type} {eqb:κ→κ→Bool} {l:List κ} {k:Nat} {y:κ} (h:4096≤k):Df eqb k l y=none:=by
 cases l with
 | nil=>rfl
 | cons x r=>rw [Df,if_neg (by omega)]
theorem Id {κ:Type} {eqb:κ→κ→Bool} (he:∀ a b,eqb a b=true↔a=b):∀ (l:List κ) (k:Nat) (f:κ→Option Int) (y:κ),Ff eqb k f l y=if (f y).isSome=true then f y else Df eqb k l y
 | [],k,f,y=>by
  rw [Ff,Df]
  cases f y <;> rfl
 | x :: r,k,f,y=>by
  rw [Ff,Id he r]
  by_cases hc:(f x).isNone=true∧k < 4096
  ·rw [if_pos hc]
   by_cases hy:y=x
   ·subst hy
    have h1:eqb y y=true:=(he y y).2 rfl
    have h2:(f y).isSome=false:=by
     have:=hc.1
     cases hf:f y with
     | none=>rfl
     | some v=>rw [hf] at this;cases this
    simp only [h1,if_true,Option.isSome_some,h2,Bool.false_eq_true,if_false]
    rw [Df,if_pos hc.2,if_pos h1]
   ·have h1:eqb y x=false:=by
     cases h:eqb y x with
     | false=>rfl
     | true=>exact absurd ((he y x).1 h) hy
    have h2:eqb x y=false:=by
     cases h:eqb x y with
     | false=>rfl
     | true=>exact absurd ((he x y).1 h).symm hy
    simp only [h1,Bool.false_eq_true,if_false]
    rw [Df,if_pos hc.2,h2]
    simp
  ·rw [if_neg hc]
   by_cases hs:(f y).isSome=true
   ·rw [if_pos hs,if_pos hs]
   ·rw [if_neg hs,if_neg hs]
    by_cases hk:k < 4096
    ·have hx:¬ (f x).isNone=true:=fun h=>hc ⟨h,hk⟩
     have hne:x≠y:=by
      rintro rfl
      apply hx
      cases hf:f x with
      | none=>rfl
      | some v=>rw [hf] at hs;exact absurd rfl hs
     have h2:eqb x y=false:=by
      cases h:eqb x y with
      | false=>rfl
      | true=>exact absurd ((he x y).1 h) hne
     rw [Df,if_pos hk,h2]
     simp
    ·rw [KF (by omega),Df,if_neg hk]
theorem KE (a b:Int):Fg.eqb a b=true↔a=b:=Fg.eqb_iff a b
theorem L7 (a b:ByteArray):Fb.eqb a b=true↔a=b:=Fb.eqb_iff a b
theorem PI (l:List Int) (n:Int):Dp l n=Df Fg.eqb 0 l n:=by unfold Dp;rw [Id KE];rfl
theorem P4 (l:List ByteArray) (n:ByteArray):DA l n=Df Fb.eqb 0 l n:=by unfold DA;rw [Id L7];rfl
section
variable {κ:Type} {eqb:κ→κ→Bool} {l:List κ} {k:Nat}
include κ eqb l k
theorem J5 {x y:κ} (hx:l[k]? = some x) (hk:k < 4096) (he:eqb x y=true):Df eqb k (l.drop k) y=some (k:Int):=by
 obtain⟨hlt,e⟩:=List.getElem?_eq_some_iff.1 hx
 rw [List.drop_eq_getElem_cons hlt,e,Df,if_pos hk,if_pos he]
theorem Jy {x y:κ} (hx:l[k]? = some x) (hk:k < 4096) (he:eqb x y=false):Df eqb k (l.drop k) y=Df eqb (k + 1) (l.drop (k + 1)) y:=by
 obtain⟨hlt,e⟩:=List.getElem?_eq_some_iff.1 hx
 rw [List.drop_eq_getElem_cons hlt,e,Df,if_pos hk,if_neg (by rw [he];decide)]
theorem FU {y:κ} (h:l.length≤k∨4096≤k):Df eqb k (l.drop k) y=none:=by
 rcases h with h | h
 ·rw [List.drop_of_length_le h];rfl
 ·exact KF h
end
section
variable (w0:World) (B kb:Nat) (tv im tm mb:Value) (ts:List Au) (rec:Nat→MS→MS) (hgr:Do rec) (i:Nat) (x:Au) (hr:∀ j∈Am ts i,E6 w0 B kb tv im tm mb rec j) (hkl:(Am ts i).length≤100000)
include hgr hr hkl
theorem Td (pi:Int→Option Int) (hp:DR w0 B im pi) (hpb:∀ n v,pi n=some v→0≤v∧v≤10000000):BH w0 B kb tv im tm mb ts (fun s=>D9 pi rec x (Am ts i) s) i x 154 #[]:=by
 intro s w A n c base hb0 h0 ho0 hm
 obtain⟨wl0,HW,S0,HO,F0,KN⟩:=CE x hb0 h0 ho0
 obtain⟨s1,HS1,m1⟩:=sP (pi 0) s
 obtain⟨s2,HS2,m2⟩:=sI 5 (u8 x.m) s1
 obtain⟨s3,HS3,m3⟩:=sI 4 (u8 x.m) s2
 obtain⟨s4,HS4,m4⟩:=sP (pi x.n) s3
 obtain⟨s5,HS5,m5⟩:=sO 19 s4
 obtain⟨s6,HS6,m6⟩:=sA 31 s5
 obtain⟨s7,HS7,m7⟩:=sL hgr (Am ts i) s6
 obtain⟨s8,HS8,m8⟩:=sI 4 (u8 x.m) s7
 obtain⟨s9,HS9,m9⟩:=sP (pi 1) s8
 obtain⟨s10,HS10,m10⟩:=sO 10 s9
 obtain⟨s11,HS11,m11⟩:=sI 5 (u8 x.m) s10
 obtain⟨s12,HS12,m12⟩:=sW 30 ((s2.b.length:Int)) s11
 obtain⟨s13,HS13,m13⟩:=sH s6.at_ s12
 have hF:(fun s=>D9 pi rec x (Am ts i) s) s=s13:=by
  rw [HS13.out,HS12.out,HS11.out,HS10.out,HS9.out,HS8.out,HS7.out,HS6.out,HS5.out,HS4.out,HS3.out,HS2.out,HS1.out]
  unfold D9 D5 Ee GR;rfl
 rw [hF] at hm ⊢
 obtain⟨HR,HKL,HGR,HP,HPB⟩:=Hd5 hr hkl hgr hp hpb
 clear hr hkl hgr hp hpb hb0 h0 ho0 hF
 obtain⟨e1,e2,e3⟩:=u8e x
 go_in
 go_wp2_with fail
 rw [← HW.out]
 refine (S0.push HP HPB (0) HS1 (by omega)).mono ?_
 rintro e wl1 ⟨rfl,S1,f⟩
 go_wp2_with fail
 refine (S1.op1 5 (u8 x.m) HS2 (by omega)).mono ?_
 rintro e wl2 ⟨rfl,S2,f⟩
 obtain⟨Ab,cb,kb3⟩:=S2.k.bcell
 go_wp2_with fail
 refine (S2.op1 4 (u8 x.m) HS3 (by omega)).mono ?_
 rintro e wl3 ⟨rfl,S3,f⟩
 have nc4_2:=S3.cell (.int .i64 x.n) 2 KN rfl
 go_wp2_with fail
 refine (S3.push HP HPB (x.n) HS4 (by omega)).mono ?_
 rintro e wl4 ⟨rfl,S4,f⟩
 go_wp2_with fail
 refine (S4.op0 19 HS5 (by omega)).mono ?_
 rintro e wl5 ⟨rfl,S5,f⟩
 go_wp2_with fail
 refine (S5.ah0 31 HS6 (by omega)).mono ?_
 rintro e wl6 ⟨ga6,gb6,rfl,S6,f,KA6⟩
 go_wp2_with fail
 refine (S6.nodes HGR HKL HR HO HS7 (by omega)).mono ?_
 rintro e wl7 ⟨rfl,S7,f⟩
 replace KA6:=AhE.up KA6 f
 go_wp2_with fail
 refine (S7.op1 4 (u8 x.m) HS8 (by omega)).mono ?_
 rintro e wl8 ⟨rfl,S8,f⟩
 replace KA6:=AhE.up KA6 f
 go_wp2_with fail
 refine (S8.push HP HPB (1) HS9 (by omega)).mono ?_
 rintro e wl9 ⟨rfl,S9,f⟩
 replace KA6:=AhE.up KA6 f
 go_wp2_with fail
 refine (S9.op0 10 HS10 (by omega)).mono ?_
 rintro e wl10 ⟨rfl,S10,f⟩
 replace KA6:=AhE.up KA6 f
 go_wp2_with fail
 refine (S10.op1 5 (u8 x.m) HS11 (by omega)).mono ?_
 rintro e wl11 ⟨rfl,S11,f⟩
 replace KA6:=AhE.up KA6 f
 go_wp2_with fail
 refine (S11.wide 30 ((s2.b.length:Int)) (by unfold MS.ms at *;omega) HS12 (by omega)).mono ?_
 rintro e wl12 ⟨rfl,S12,f⟩
 replace KA6:=AhE.up KA6 f
 go_wp2_with fail
 refine (S12.here KA6 HS13 (by omega)).mono ?_
 rintro e wl13 ⟨rfl,S13,f⟩
 go_wp2_with fail
 go_end0
 exact ⟨rfl,S13.k,F0.trans S13.f⟩
end
section
variable (w0:World) (B kb:Nat) (tv im tm mb:Value) (ts:List Au) (rec:Nat→MS→MS) (hgr:Do rec) (i:Nat) (x:Au) (hr:∀ j∈Am ts i,E6 w0 B kb tv im tm mb rec j) (hkl:(Am ts i).length≤100000)
include hgr hr hkl
theorem Vd (j0 j1:Nat) (hkk:Am ts i=[j0,j1]) (pi:Int→Option Int) (hp:DR w0 B im pi) (hpb:∀ n v,pi n=some v→0≤v∧v≤10000000):BH w0 B kb tv im tm mb ts (fun s=>Fq pi rec x (Am ts i) s) i x 155 #[]:=by
 intro s w A n c base hb0 h0 ho0 hm
 obtain⟨wl0,HW,S0,HO,F0,KN⟩:=CE x hb0 h0 ho0
 obtain⟨s1,HS1,m1⟩:=sM (pi 1) s
 obtain⟨s2,HS2,m2⟩:=sN hgr j0 s1
 obtain⟨s3,HS3,m3⟩:=sI 5 (u8 x.m) s2
 obtain⟨s4,HS4,m4⟩:=sP (pi 0) s3
 obtain⟨s5,HS5,m5⟩:=sI 5 (u8 (u8 x.m + 1)) s4
 obtain⟨s6,HS6,m6⟩:=sB 32 (u8 x.m) (u8 (u8 x.m + 1)) s5
 obtain⟨s7,HS7,m7⟩:=sI 5 (u8 x.n) s6
 obtain⟨s8,HS8,m8⟩:=sN hgr j1 s7
 obtain⟨s9,HS9,m9⟩:=sW 30 ((s5.b.length:Int)) s8
 obtain⟨s10,HS10,m10⟩:=sH s6.at_ s9
 have hF:(fun s=>Fq pi rec x (Am ts i) s) s=s10:=by
  rw [HS10.out,HS9.out,HS8.out,HS7.out,HS6.out,HS5.out,HS4.out,HS3.out,HS2.out,HS1.out]
  unfold Fq Gx;rw [hkk];rfl
 rw [hF] at hm ⊢
 have hq0:(Am ts i)[0]? = some j0:=by rw [hkk];rfl
 have hq1:(Am ts i)[1]? = some j1:=by rw [hkk];rfl
 obtain⟨g,hn,rfl,hgw⟩:=Fs ho0 hq0
 rw [hkk] at hn
 obtain rfl:n=2:=hn
 obtain⟨HO0,HR,HP,HPB,HKK⟩:=Hd5 ho0 hr hp hpb hkk
 clear hr hp hpb hkk hb0 h0 ho0 hF hgr hkl
 obtain⟨e1,e2,e3⟩:=u8e x
 go_in
 go_wp2_with fail
 rw [← HW.out]
 refine (S0.num HP (1) HS1).mono ?_
 rintro e wl1 ⟨rfl,S1,f⟩
 have kc2:=S1.kid HO hq0
 go_wp2_with fail
 refine (S1.node (HR.out j0 (CT hq0)) HS2 (by omega)).mono ?_
 rintro e wl2 ⟨rfl,S2,f⟩
 go_wp2_with fail
 refine (S2.op1 5 (u8 x.m) HS3 (by omega)).mono ?_
 rintro e wl3 ⟨rfl,S3,f⟩
 go_wp2_with fail
 refine (S3.push HP HPB (0) HS4 (by omega)).mono ?_
 rintro e wl4 ⟨rfl,S4,f⟩
 go_wp2_with fail
 refine (S4.op1 5 (u8 (u8 x.m + 1)) HS5 (by omega)).mono ?_
 rintro e wl5 ⟨rfl,S5,f⟩
 obtain⟨Ab,cb,kb3⟩:=S5.k.bcell
 go_wp2_with fail
 refine (S5.ah2 32 (u8 x.m) (u8 (u8 x.m + 1)) HS6 (by omega)).mono ?_
 rintro e wl6 ⟨ga6,gb6,rfl,S6,f,KA6⟩
 have nc7_2:=S6.cell (.int .i64 x.n) 2 KN rfl
 go_wp2_with fail
 refine (S6.op1 5 (u8 x.n) HS7 (by omega)).mono ?_
 rintro e wl7 ⟨rfl,S7,f⟩
 replace KA6:=AhE.up KA6 f
 have kc8:=S7.kid HO hq1
 go_wp2_with fail
 refine (S7.node (HR.out j1 (CT hq1)) HS8 (by omega)).mono ?_
 rintro e wl8 ⟨rfl,S8,f⟩
 replace KA6:=AhE.up KA6 f
 go_wp2_with fail
 refine (S8.wide 30 ((s5.b.length:Int)) (by unfold MS.ms at *;omega) HS9 (by omega)).mono ?_
 rintro e wl9 ⟨rfl,S9,f⟩
 replace KA6:=AhE.up KA6 f
 go_wp2_with fail
 refine (S9.here KA6 HS10 (by omega)).mono ?_
 rintro e wl10 ⟨rfl,S10,f⟩
 go_wp2_with fail
 go_end0
 exact ⟨rfl,S10.k,F0.trans S10.f⟩
end
section
variable (w0:World) (B kb:Nat) (tv im tm mb:Value) (ts:List Au) (rec:Nat→MS→MS) (hgr:Do rec) (i:Nat) (x:Au) (hr:∀ j∈Am ts i,E6 w0 B kb tv im tm mb rec j) (hkl:(Am ts i).length≤100000)
include hgr hr hkl
theorem Uj (pt:ByteArray→Option Int) (hxn:x.n=0):BH w0 B kb tv im tm mb ts (fun s=>Bi pt ts rec x (Am ts i) s) i x 152 #[]:=by
 intro s w A n c base hb0 h0 ho0 hm
 obtain⟨wl0,HW,S0,HO,F0,KN⟩:=CE x hb0 h0 ho0
 rw [hxn] at HW KN
 obtain⟨s1,HS1,m1⟩:=sL hgr (Am ts i) s
 obtain⟨s2,HS2,m2⟩:=sO 40 s1
 have hF:(fun s=>Bi pt ts rec x (Am ts i) s) s=s2:=by
  rw [HS2.out,HS1.out]
  simp [Bi,CP,hxn]
 rw [hF] at hm ⊢
 obtain⟨HR,HKL,HGR⟩:=Hd3 hr hkl hgr
 clear hr hkl hgr hb0 h0 ho0 hF
 go_in
 have nc1_2:=S0.cell (.int .i64 0) 2 KN rfl
 go_wp2_with fail
 rw [← HW.out]
 refine (S0.nodes HGR HKL HR HO HS1 (by omega)).mono ?_
 rintro e wl1 ⟨rfl,S1,f⟩
 have nc2_2:=S1.cell (.int .i64 0) 2 KN rfl
 have hix:=Sz wl1
 go_wp2_with fail
 refine (S1.op0 40 HS2 (by omega)).mono ?_
 rintro e wl2 ⟨rfl,S2,f⟩
 go_wp2_with fail
 go_end0
 exact ⟨rfl,S2.k,F0.trans S2.f⟩
theorem UF (pt:ByteArray→Option Int) (hxn:x.n=2):BH w0 B kb tv im tm mb ts (fun s=>Bi pt ts rec x (Am ts i) s) i x 152 #[]:=by
 intro s w A n c base hb0 h0 ho0 hm
 obtain⟨wl0,HW,S0,HO,F0,KN⟩:=CE x hb0 h0 ho0
 rw [hxn] at HW KN
 obtain⟨s1,HS1,m1⟩:=sL hgr (Am ts i) s
 obtain⟨s2,HS2,m2⟩:=sO 42 s1
 have hF:(fun s=>Bi pt ts rec x (Am ts i) s) s=s2:=by
  rw [HS2.out,HS1.out]
  simp [Bi,CP,hxn]
 rw [hF] at hm ⊢
 obtain⟨HR,HKL,HGR⟩:=Hd3 hr hkl hgr
 clear hr hkl hgr hb0 h0 ho0 hF
 go_in
 have nc1_2:=S0.cell (.int .i64 2) 2 KN rfl
 go_wp2_with fail
 rw [← HW.out]
 refine (S0.nodes HGR HKL HR HO HS1 (by omega)).mono ?_
 rintro e wl1 ⟨rfl,S1,f⟩
 have nc2_2:=S1.cell (.int .i64 2) 2 KN rfl
 have hix:=T0 wl1
 go_wp2_with fail
 refine (S1.op0 42 HS2 (by omega)).mono ?_
 rintro e wl2 ⟨rfl,S2,f⟩
 go_wp2_with fail
 go_end0
 exact ⟨rfl,S2.k,F0.trans S2.f⟩
theorem Ur (pt:ByteArray→Option Int) (hxn:x.n=3):BH w0 B kb tv im tm mb ts (fun s=>Bi pt ts rec x (Am ts i) s) i x 152 #[]:=by
 intro s w A n c base hb0 h0 ho0 hm
 obtain⟨wl0,HW,S0,HO,F0,KN⟩:=CE x hb0 h0 ho0
 rw [hxn] at HW KN
 obtain⟨s1,HS1,m1⟩:=sL hgr (Am ts i) s
 obtain⟨s2,HS2,m2⟩:=sO 43 s1
 have hF:(fun s=>Bi pt ts rec x (Am ts i) s) s=s2:=by
  rw [HS2.out,HS1.out]
  simp [Bi,CP,hxn]
 rw [hF] at hm ⊢
 obtain⟨HR,HKL,HGR⟩:=Hd3 hr hkl hgr
 clear hr hkl hgr hb0 h0 ho0 hF
 go_in
 have nc1_2:=S0.cell (.int .i64 3) 2 KN rfl
 go_wp2_with fail
 rw [← HW.out]
 refine (S0.nodes HGR HKL HR HO HS1 (by omega)).mono ?_
 rintro e wl1 ⟨rfl,S1,f⟩
 have nc2_2:=S1.cell (.int .i64 3) 2 KN rfl
 have hix:=TI wl1
 go_wp2_with fail
 refine (S1.op0 43 HS2 (by omega)).mono ?_
 rintro e wl2 ⟨rfl,S2,f⟩
 go_wp2_with fail
 go_end0
 exact ⟨rfl,S2.k,F0.trans S2.f⟩
theorem U6 (pt:ByteArray→Option Int) (hxn:x.n=4):BH w0 B kb tv im tm mb ts (fun s=>Bi pt ts rec x (Am ts i) s) i x 152 #[]:=by
 intro s w A n c base hb0 h0 ho0 hm
 obtain⟨wl0,HW,S0,HO,F0,KN⟩:=CE x hb0 h0 ho0
 rw [hxn] at HW KN
 obtain⟨s1,HS1,m1⟩:=sL hgr (Am ts i) s
 obtain⟨s2,HS2,m2⟩:=sO 44 s1
 have hF:(fun s=>Bi pt ts rec x (Am ts i) s) s=s2:=by
  rw [HS2.out,HS1.out]
  simp [Bi,CP,hxn]
 rw [hF] at hm ⊢
 obtain⟨HR,HKL,HGR⟩:=Hd3 hr hkl hgr
 clear hr hkl hgr hb0 h0 ho0 hF
 go_in
 have nc1_2:=S0.cell (.int .i64 4) 2 KN rfl
 go_wp2_with fail
 rw [← HW.out]
 refine (S0.nodes HGR HKL HR HO HS1 (by omega)).mono ?_
 rintro e wl1 ⟨rfl,S1,f⟩
 have nc2_2:=S1.cell (.int .i64 4) 2 KN rfl
 have hix:=TM wl1
 go_wp2_with fail
 refine (S1.op0 44 HS2 (by omega)).mono ?_
 rintro e wl2 ⟨rfl,S2,f⟩
 go_wp2_with fail
 go_end0
 exact ⟨rfl,S2.k,F0.trans S2.f⟩
theorem U2 (pt:ByteArray→Option Int) (hxn:x.n=6):BH w0 B kb tv im tm mb ts (fun s=>Bi pt ts rec x (Am ts i) s) i x 152 #[]:=by
 intro s w A n c base hb0 h0 ho0 hm
 obtain⟨wl0,HW,S0,HO,F0,KN⟩:=CE x hb0 h0 ho0
 rw [hxn] at HW KN
 obtain⟨s1,HS1,m1⟩:=sL hgr (Am ts i) s
 obtain⟨s2,HS2,m2⟩:=sO 16 s1
 have hF:(fun s=>Bi pt ts rec x (Am ts i) s) s=s2:=by
  rw [HS2.out,HS1.out]
  simp [Bi,CP,hxn]
 rw [hF] at hm ⊢
 obtain⟨HR,HKL,HGR⟩:=Hd3 hr hkl hgr
 clear hr hkl hgr hb0 h0 ho0 hF
 go_in
 have nc1_2:=S0.cell (.int .i64 6) 2 KN rfl
 go_wp2_with fail
 rw [← HW.out]
 refine (S0.nodes HGR HKL HR HO HS1 (by omega)).mono ?_
 rintro e wl1 ⟨rfl,S1,f⟩
 have nc2_2:=S1.cell (.int .i64 6) 2 KN rfl
 have hix:=SK wl1
 go_wp2_with fail
 refine (S1.op0 16 HS2 (by omega)).mono ?_
 rintro e wl2 ⟨rfl,S2,f⟩
 go_wp2_with fail
 go_end0
 exact ⟨rfl,S2.k,F0.trans S2.f⟩
theorem Us (pt:ByteArray→Option Int) (hxn:x.n=7):BH w0 B kb tv im tm mb ts (fun s=>Bi pt ts rec x (Am ts i) s) i x 152 #[]:=by
 intro s w A n c base hb0 h0 ho0 hm
 obtain⟨wl0,HW,S0,HO,F0,KN⟩:=CE x hb0 h0 ho0
 rw [hxn] at HW KN
 obtain⟨s1,HS1,m1⟩:=sL hgr (Am ts i) s
 obtain⟨s2,HS2,m2⟩:=sO 17 s1
 have hF:(fun s=>Bi pt ts rec x (Am ts i) s) s=s2:=by
  rw [HS2.out,HS1.out]
  simp [Bi,CP,hxn]
 rw [hF] at hm ⊢
 obtain⟨HR,HKL,HGR⟩:=Hd3 hr hkl hgr
 clear hr hkl hgr hb0 h0 ho0 hF
 go_in
 have nc1_2:=S0.cell (.int .i64 7) 2 KN rfl
 go_wp2_with fail
 rw [← HW.out]
 refine (S0.nodes HGR HKL HR HO HS1 (by omega)).mono ?_
 rintro e wl1 ⟨rfl,S1,f⟩
 have nc2_2:=S1.cell (.int .i64 7) 2 KN rfl
 have hix:=SH wl1
 go_wp2_with fail
 refine (S1.op0 17 HS2 (by omega)).mono ?_
 rintro e wl2 ⟨rfl,S2,f⟩
 go_wp2_with fail
 go_end0
 exact ⟨rfl,S2.k,F0.trans S2.f⟩
theorem Um (pt:ByteArray→Option Int) (hxn:x.n=8):BH w0 B kb tv im tm mb ts (fun s=>Bi pt ts rec x (Am ts i) s) i x 152 #[]:=by
 intro s w A n c base hb0 h0 ho0 hm
 obtain⟨wl0,HW,S0,HO,F0,KN⟩:=CE x hb0 h0 ho0
 rw [hxn] at HW KN
 obtain⟨s1,HS1,m1⟩:=sL hgr (Am ts i) s
 obtain⟨s2,HS2,m2⟩:=sO 18 s1
 have hF:(fun s=>Bi pt ts rec x (Am ts i) s) s=s2:=by
  rw [HS2.out,HS1.out]
  simp [Bi,CP,hxn]
 rw [hF] at hm ⊢
 obtain⟨HR,HKL,HGR⟩:=Hd3 hr hkl hgr
 clear hr hkl hgr hb0 h0 ho0 hF
 go_in
 have nc1_2:=S0.cell (.int .i64 8) 2 KN rfl
 go_wp2_with fail
 rw [← HW.out]
 refine (S0.nodes HGR HKL HR HO HS1 (by omega)).mono ?_
 rintro e wl1 ⟨rfl,S1,f⟩
 have nc2_2:=S1.cell (.int .i64 8) 2 KN rfl
 have hix:=SP wl1
 go_wp2_with fail
 refine (S1.op0 18 HS2 (by omega)).mono ?_
 rintro e wl2 ⟨rfl,S2,f⟩
 go_wp2_with fail
 go_end0
 exact ⟨rfl,S2.k,F0.trans S2.f⟩
end
end Go.Proofs.YtmpcbaflcogmmaaGreatDoor
