/- Tree -/
import Derived.Test.YtmpcbaflcogmmaaGreatDoorProg
import Derived.Deep.OwnRows
import Derived.Test.YtmpcbaflcogmmaaGreatDoorKinds
namespace Go.Proofs.YtmpcbaflcogmmaaGreatDoor
open Go.RowKit
set_option linter.all false
set_option maxHeartbeats 800000
set_option maxRecDepth 100000
theorem De {a b:Int} (h:a=b):Ending.returned (.int .i64 a)=Ending.returned (.int .i64 b):=by rw [h]
theorem I8 {ts:List Au} {j:Nat} {x:Au} (h:ts[j]? = some x):ts.drop j=x :: ts.drop (j + 1):=by
 obtain⟨hj,hx⟩:=List.getElem?_eq_some_iff.1 h
 rw [List.drop_eq_getElem_cons hj,hx]
theorem Hv (v:Value) (A:Option Addr) (n c:Nat) (k:Int) (w:World) (hv:v=.slice A n c) (h:k < 0∨n≤k) (hn:n≤9223372036854775807) :
  Calls Tryz.prog 101 #[v,.int .i64 k] w fun e w'=>e=.returned (.int .i64 (-1))∧w=w':=by
 subst hv
 rcases h with h | h
 ·go_in
  go_wp2
  go_ret
  exact ⟨rfl,rfl⟩
 ·by_cases h0:k < 0
  ·omega
  ·go_in
   go_wp2
   go_ret
   exact ⟨rfl,rfl⟩
theorem CL (b off cap:Nat) (ts:List Au) (k:Nat) (w:World) (hl:ts.length≤100000) (hc:As w b off ts) (h1:k < ts.length) :
  Calls Tryz.prog 101 #[.slice (some ⟨b,off,none⟩) ts.length cap,.int .i64 k] w fun e w'=>e=.returned (.int .i64 (Ap ts k))∧w=w':=by
 obtain⟨R,hR⟩:=Ex0 (Ap ts k)
 rw [← hR]
 unfold Ap at hR
 rw [if_pos h1] at hR
 have HR:=Lh hR
 clear hR
 obtain⟨len,hlen⟩:∃ len,ts.length=len:=⟨_,rfl⟩
 rw [hlen] at h1 hl HR ⊢
 have HL:=Lh hlen
 clear hlen
 have d1:decide ((k:Int) < 0)=false:=by simp
 have d2:decide (len≤k)=false:=by simp;omega
 go_in
 go_wp2
 go_loop [1,4,5] (fun a _ l=>∃ (j:Nat) (L:Int),j≤len∧L≤j * 100000 + 1∧0≤L∧Hid (R=beh len (ts.drop j) L j)∧a=.int .i64 j∧l=.int .i64 L) (fun a _ _=>len - (intOf a).toNat)
 case atStart=>exact ⟨k,1,by omega,by omega,by omega,HR,rfl,rfl⟩
 case round =>
  obtain⟨j,L,hj,hL,hL0,H,rfl,rfl⟩:=hrel
  by_cases h:0 < L
  ·by_cases hjl:j < len
   ·obtain⟨x,hx⟩:∃ x,ts[j]? = some x:=⟨_,List.getElem?_eq_getElem (by rw [HL.out];exact hjl)⟩
    have hcj:=hc.kids hx
    have hs:beh len (ts.drop j) L j=if x.kids < 0∨x.kids > len then -1 else beh len (ts.drop (j + 1)) (L + (x.kids - 1)) (j + 1):=by
     rw [I8 hx,beh,if_neg (by omega)]
    have HS:=Lh hs
    clear hs hx hc
    by_cases h1:x.kids < 0
    ·go_wp2
     go_ret
     exact ⟨De (by rw [H.out,HS.out,if_pos (.inl h1)]),rfl⟩
    ·by_cases h2:(len:Int) < x.kids
     ·go_wp2
      go_ret
      exact ⟨De (by rw [H.out,HS.out,if_pos (.inr h2)]),rfl⟩
     ·go_wp2
      go_round
      case rel=>exact ⟨j + 1,L + (x.kids - 1),by omega,by omega,by omega,by rw [if_neg (by omega)] at HS;rw [← HS.out];exact H,by go_num,rfl⟩
      case measure=>simp [intOf];omega
   ·have:j=len:=by omega
    have hs:beh len (ts.drop j) L j = -1:=by
     rw [List.drop_of_length_le (by rw [HL.out];omega),beh,if_neg (by omega)]
    have HS:=Lh hs
    clear hs
    go_wp2
    go_ret
    exact ⟨De (by rw [H.out,HS.out]),rfl⟩
  ·have hs:beh len (ts.drop j) L j=j:=by
    cases ts.drop j <;> rw [beh,if_pos (by omega)]
   have HS:=Lh hs
   clear hs
   go_wp2
   go_ret
   exact ⟨De (by rw [H.out,HS.out]),rfl⟩
theorem Tryz.infoInt:(Tryz.prog.info? 3).map (fun i=>(i.zero,i.size,i.bytes))=some (some (.int .i64 0),1,8):=by kernel_rfl
def Cn:Option Nat→Int
 | some q=>q
 | none=>-1
section
variable (ts:List Au)
include ts
theorem Ns {i:Nat} {x:Au} (hx:ts[i]? = some x) :
  Ap ts i=if x.kids < 0∨x.kids > ts.length then -1 else Cn (adv (Bc ts.length ts) x.kids.toNat (i + 1)):=by
 have hi:=(List.getElem?_eq_some_iff.1 hx).1
 have h1:(Bc ts.length ts)[i]? = some (if x.kids < 0∨x.kids > ts.length then none else (adv (Bc ts.length (ts.drop (i + 1))) x.kids.toNat 0).map (· + 1)):=by
  have:=Eq ts.length ts i
  rw [I8 hx] at this
  have h0:=congrArg (·[0]?) this
  simp only [Bc,List.getElem?_cons_zero,List.getElem?_drop,Nat.add_zero] at h0
  exact h0.symm
 rw [BV,h1]
 by_cases hk:x.kids < 0∨x.kids > ts.length
 ·rw [if_pos hk,if_pos hk]
 ·rw [if_neg hk,if_neg hk,Eq,K6,Nat.add_zero]
  cases h2:adv (Bc ts.length ts) x.kids.toNat (i + 1) with
  | none=>rfl
  | some q =>
   have:=Ib _ _ _ (by omega) h2
   show (i:Int) + ((q - (i + 1) + 1:Nat):Int)=(q:Int)
   omega
theorem EY (k p q:Nat) (h:adv (Bc ts.length ts) k p=some q) :
  Cn (adv (Bc ts.length ts) (k + 1) p)=if q < ts.length then Ap ts q else -1:=by
 rw [Kt,h,Option.bind_some]
 simp only [adv]
 by_cases hq:q < ts.length
 ·rw [if_pos hq,BV]
  rcases (Bc ts.length ts)[q]? with _ | _ | z <;> simp [Cn]
 ·rw [if_neg hq,List.getElem?_eq_none (by rw [Gl];omega)]
  rfl
theorem Eg (k c p:Nat) (hc:k≤c) (h:adv (Bc ts.length ts) k p=none):adv (Bc ts.length ts) c p=none:=by
 obtain⟨d,rfl⟩:=Nat.le.dest hc
 rw [Kt,h]
 rfl
end
theorem Tj (b off cap:Nat) (ts:List Au) (w:World) (hl:ts.length≤100000) (hc:As w b off ts) (hb:b < w.heap.size) :
  Calls Tryz.prog 194 #[.slice (some ⟨b,off,none⟩) ts.length cap] w fun e w'=>∃ cs,e=.returned (.slice (some ⟨w.heap.size,0,none⟩) ts.length ts.length) ∧
   Blk w' w.heap.size 3 cs∧cs.size=ts.length∧(∀ j,j < ts.length→cs[j]? = some (.int .i64 (Ap ts j)))∧Below w.heap.size w w':=by
 obtain⟨len,hlen⟩:∃ len,ts.length=len:=⟨_,rfl⟩
 rw [hlen] at hl ⊢
 have HL:=Lh hlen
 clear hlen
 have hmk:=run_make_row' (P:=Tryz.prog) 128 3 (.int .i64 0) 8 Tryz.underlying128 Tryz.infoInt rfl .i64 .i64 len (by omega) (by omega) w
 have hnew:=Blk.new w 3 (madeCells #[.int .i64 0] len)
 have hsz:(madeCells #[Value.int .i64 0] len).size=len:=by
  have:=congrArg List.length (toList_madeCells_one (.int .i64 0) len)
  simpa using this
 obtain⟨G,hG⟩:=Ex0 w.heap.size
 rw [← hG] at hb hnew hmk ⊢
 generalize hcs:madeCells #[Value.int .i64 0] len=cs0 at *
 have hB0:Below G w (w.alloc (.cells cs0 3)):=(Below.refl _ _).alloc (by omega) _
 have HG:=Lh hG
 clear hG hcs
 go_in
 go_wp2
 go_loopw [4,5,6] (fun a _ _ wr=>∃ (m:Nat) (cs:Array Value),m≤len∧a=.int .i64 ((m:Int) - 1)∧Blk wr G 3 cs∧cs.size=len∧Hid (∀ j,m≤j→j < len→cs[j]? = some (.int .i64 (Ap ts j)))∧Below G w wr)
  (fun a _ _ _=>(intOf a + 1).toNat)
 case atStart=>exact ⟨len,cs0,Nat.le_refl _,rfl,hnew,hsz,fun j h1 h2=>absurd h1 (by omega),hB0⟩
 case round =>
  obtain⟨m,cs,hm,rfl,hblk,hcz,HC,hbel⟩:=hrel
  by_cases h0:m=0
  ·have h0':(m:Int) - 1 = -1:=by omega
   rw [h0']
   go_wp2
   go_ret
   exact ⟨cs,rfl,hblk,hcz,fun j hj=>HC.out j (by omega) hj,hbel⟩
  ·obtain⟨i,rfl⟩:∃ i,m=i + 1:=⟨m - 1,by omega⟩
   have hi1:((i + 1:Nat):Int) - 1=(i:Int):=by omega
   rw [hi1]
   obtain⟨x,hx⟩:∃ x,ts[i]? = some x:=⟨_,List.getElem?_eq_getElem (by rw [HL.out];omega)⟩
   have hck:wr.cell? ⟨b,off + i * 7 + 6,none⟩=some (.int .i64 x.kids):=(hbel.cell (p:=⟨b,off + i * 7 + 6,none⟩) hb).trans (hc.kids hx)
   have hbp:=Ns ts hx
   rw [HL.out] at hbp
   have HP:=Lh hbp
   clear hbp h0 hi1
   have hcell:∀ q,q < len→q > i→wr.cell? ⟨G,q,none⟩=some (.int .i64 (Ap ts q)):=fun q hq hqi=>(hblk.cell q).trans (HC.out q (by omega) hq)
   have HCell:=Lh hcell
   obtain⟨u,hci⟩:∃ u,wr.cell? ⟨G,i,none⟩=some u:=⟨_,(hblk.cell i).trans (Array.getElem?_eq_getElem (by omega))⟩
   have hfr:=hblk.frozen i
   have hset:∀ V:Int,V=Ap ts i→Blk (wr.setCell ⟨G,i,none⟩ (.int .i64 V)) G 3 (cs.setIfInBounds i (.int .i64 V))∧(cs.setIfInBounds i (.int .i64 V)).size=len ∧
     Hid (∀ j,i≤j→j < len→(cs.setIfInBounds i (.int .i64 V))[j]? = some (.int .i64 (Ap ts j)))∧Below G w (wr.setCell ⟨G,i,none⟩ (.int .i64 V)):=fun V hV =>
    ⟨hblk.set_ i _,by simpa using hcz,fun j h1 h2=>by
     rw [Array.getElem?_setIfInBounds]
     by_cases hj:i=j
     ·subst hj;rw [if_pos rfl,if_pos (by omega),hV]
     ·rw [if_neg hj];exact HC.out j (by omega) h2,hbel.setCell (Nat.le_refl _) _⟩
   have HSet:=Lh hset
   clear hset hcell hblk hcz HC hx
   by_cases hK:x.kids < 0∨(len:Int) < x.kids
   ·have hV:Ap ts i = -1:=by rw [HP.out,if_pos hK]
    have HV:=Lh hV
    clear hV
    rcases hK with hK | hK
    ·go_wp2
     refine wp_loop_rounds 1 ?_;rw [rounds_succ]
     go_wp2
     go_roundw
     case rel =>
      obtain⟨r1,r2,r3,r4⟩:=HSet.out (-1) HV.out.symm
      exact ⟨i,_,by omega,rfl,r1,r2,r3,r4⟩
     case measure=>(simp [intOf];try omega)
    ·have hK0:¬ x.kids < 0:=by omega
     go_wp2
     refine wp_loop_rounds 1 ?_;rw [rounds_succ]
     go_wp2
     go_roundw
     case rel =>
      obtain⟨r1,r2,r3,r4⟩:=HSet.out (-1) HV.out.symm
      exact ⟨i,_,by omega,rfl,r1,r2,r3,r4⟩
     case measure=>(simp [intOf];try omega)
   ·have hK0:¬ x.kids < 0:=by omega
    have hK1:¬ (len:Int) < x.kids:=by omega
    have hV:Ap ts i=Cn (adv (Bc len ts) x.kids.toNat (i + 1)):=by rw [HP.out,if_neg (by omega)]
    have HV:=Lh hV
    clear hV hK
    obtain⟨wo,hwo⟩:∃ wo:World,wo=wr:=⟨_,rfl⟩
    go_wp2
    go_loop [5,6] (fun a k=>∃ (c:Nat) (V:Int),(c:Int)≤x.kids∧k=.int .i64 c∧a=.int .i64 V∧Hid (V=Cn (adv (Bc len ts) c (i + 1)))) (fun _ k=>x.kids.toNat - (intOf k).toNat)
    case atStart=>exact ⟨0,(i:Int) + 1,by omega,rfl,by go_num,by simp [adv,Cn,Hid]⟩
    case round =>
     obtain⟨c,V,hcK,rfl,rfl,HVV⟩:=hrel
     have hcle:(c:Int)≤100000:=by omega
     by_cases hV0:V < 0
     ·-- there is no place: out
      have hfin:V=Ap ts i:=by
       have h1:=HVV.out
       cases h2:adv (Bc len ts) c (i + 1) with
       | some q=>rw [h2] at h1;simp only [Cn] at h1;omega
       | none =>
        have h3:=Eg ts c x.kids.toNat (i + 1) (by omega) (by rw [HL.out];exact h2)
        rw [HL.out] at h3
        rw [HV.out,h3,h1,h2]
      have HF:=Lh hfin
      clear hfin
      by_cases hck2:(c:Int) < x.kids
      all_goals
       go_wp2
       go_roundw
       case rel =>
        obtain⟨r1,r2,r3,r4⟩:=HSet.out V HF.out
        exact ⟨i,_,by omega,rfl,r1,r2,r3,r4⟩
       case measure=>(simp [intOf];try omega)
     ·obtain⟨q,rfl⟩:=Int.eq_ofNat_of_zero_le (show 0≤V by omega)
      have hadv:adv (Bc len ts) c (i + 1)=some q:=by
       have h1:=HVV.out
       cases h2:adv (Bc len ts) c (i + 1) with
       | some q'=>rw [h2] at h1;simp only [Cn] at h1;rw [show q'=q by omega]
       | none=>rw [h2] at h1;simp only [Cn] at h1;omega
      have hnext:=EY ts c (i + 1) q (by rw [HL.out];exact hadv)
      have hq1:i + 1 + c≤q∧q≤len:=by
       have:=Ib (len:=ts.length) (l:=ts) c (i + 1) q (by rw [HL.out];omega) (by rw [HL.out];exact hadv)
       rw [HL.out] at this
       exact this
      rw [HL.out] at hnext
      obtain⟨HN,HA⟩:=Hd2 hnext hadv
      clear hnext hadv hV0
      obtain⟨hq1,hq2⟩:=hq1
      by_cases hck2:(c:Int) < x.kids
      ·by_cases hql:q < len
       ·have hcq:=HCell.out q hql (by omega)
        have hn2:Cn (adv (Bc len ts) (c + 1) (i + 1))=Ap ts q:=by rw [HN.out,if_pos hql]
        have HN2:=Lh hn2
        clear hn2
        go_wp2
        go_round
        case rel=>exact ⟨c + 1,Ap ts q,by omega,by go_num,rfl,HN2.out.symm⟩
        case measure=>(simp [intOf];try omega)
       ·have hfin:(-1:Int)=Ap ts i:=by
         have h1:=HN.out
         rw [if_neg hql] at h1
         have h2:adv (Bc len ts) (c + 1) (i + 1)=none:=by
          cases h3:adv (Bc len ts) (c + 1) (i + 1) with
          | none=>rfl
          | some z=>rw [h3] at h1;simp only [Cn] at h1;omega
         have h3:=Eg ts (c + 1) x.kids.toNat (i + 1) (by omega) (by rw [HL.out];exact h2)
         rw [HL.out] at h3
         rw [HV.out,h3]
         rfl
        have HF:=Lh hfin
        clear hfin
        go_wp2
        go_roundw
        case rel =>
         obtain⟨r1,r2,r3,r4⟩:=HSet.out (-1) HF.out
         exact ⟨i,_,by omega,rfl,r1,r2,r3,r4⟩
        case measure=>(simp [intOf];try omega)
      ·have hfin:(q:Int)=Ap ts i:=by
        rw [HV.out,show x.kids.toNat=c by omega,HA.out]
        rfl
       have HF:=Lh hfin
       clear hfin
       go_wp2
       go_roundw
       case rel =>
        obtain⟨r1,r2,r3,r4⟩:=HSet.out q HF.out
        exact ⟨i,_,by omega,rfl,r1,r2,r3,r4⟩
       case measure=>simp [intOf];try omega
theorem Tryz.elInts:ElT Tryz.prog 128 3 1 8:=⟨Tryz.underlying128,by decide,by
 obtain⟨i0,hi,hz0,hz1,hz2⟩:=info_parts Tryz.infoInt
 exact ⟨i0,_,hi,hz0,hz1,hz2,rfl⟩⟩
theorem Ew (ts:List Au):∀ (c p q:Nat),adv (Bc ts.length ts) c p=some q→BL ts (c + 1) p=BL ts c p ++ [q]
 | 0,p,q,h=>by simp only [adv,Option.some.injEq] at h;subst h;rfl
 | c + 1,p,q,h=>by
  simp only [adv] at h
  rcases hz:(Bc ts.length ts)[p]? with _ | _ | z <;> rw [hz] at h <;> simp only at h
  ·cases h
  ·cases h
  ·have hb:(Ap ts p).toNat=p + z:=by rw [BV,hz];simp only;omega
   rw [BL,hb,Ew ts c (p + z) q h]
   conv=>rhs;rw [BL,hb]
   rfl
theorem Iz (b off cap:Nat) (ts:List Au) (i:Nat) (w:World) (hl:ts.length≤100000) (hc:As w b off ts) (hb:b < w.heap.size) (hi:i < ts.length) :
  Calls Tryz.prog 142 #[.slice (some ⟨b,off,none⟩) ts.length cap,.int .i64 i] w fun e w'=>∃ v,e=.returned v∧w'.ownsRow w.heap.size 3 1 v (Am ts i).length ((Am ts i).map fun j:Nat=>Value.int .i64 j)∧Below w.heap.size w w':=by
 by_cases hneg:Ap ts i < 0
 ·have HN:=Lh hneg
  clear hneg
  go_in
  go_wp2_with fail
  refine (CL b off cap ts i w hl hc hi).mono ?_
  rintro e w1 ⟨rfl,rfl⟩
  have hneg:=HN.out
  go_wp2_with fail
  go_ret
  have hk:Am ts i=[]:=by unfold Am;rw [if_pos HN.out]
  exact ⟨_,rfl,by rw [hk];exact World.ownsRow_nil _ _ _ _,Below.refl _ _⟩
 ·obtain⟨x,hx⟩:∃ x,ts[i]? = some x:=⟨_,List.getElem?_eq_getElem hi⟩
  have hck:=hc.kids hx
  have hz:∃ z,(Bc ts.length ts)[i]? = some (some z):=by
   rw [BV] at hneg
   rcases hz:(Bc ts.length ts)[i]? with _ | _ | z
   ·rw [hz] at hneg;simp only at hneg;omega
   ·rw [hz] at hneg;simp only at hneg;omega
   ·exact ⟨z,rfl⟩
  obtain⟨z,hz⟩:=hz
  obtain⟨hk0,hk1,hadv⟩:=EJ hx hz
  have hzp:=Dv hz
  have hkids:Am ts i=BL ts x.kids.toNat (i + 1):=by
   unfold Am
   rw [if_neg hneg,List.getD_eq_getElem?_getD,hx]
   rfl
  rw [hkids]
  obtain⟨K,hK⟩:=Int.eq_ofNat_of_zero_le hk0
  rw [hK] at hck hadv hk1 ⊢
  rw [Int.toNat_natCast] at hadv ⊢
  obtain⟨HA,HN⟩:=Hd2 hadv hneg
  obtain⟨len,hlen⟩:∃ len,ts.length=len:=⟨_,rfl⟩
  have hb1:=CL b off cap ts i w hl hc hi
  have he1:=Tj b off cap ts w hl hc hb
  rw [hlen] at hl hi hk1 hzp hb1 he1 ⊢
  obtain⟨HL,HB,HE⟩:=Hd3 hlen hb1 he1
  obtain⟨i0,hi0,hz0,hz1,hz2⟩:=info_parts Tryz.infoInt
  clear hneg hadv hlen hK hx hkids hz hb1 he1
  obtain⟨G,hG⟩:=Ex0 w.heap.size
  rw [← hG] at hb HE ⊢
  have HG:=Lh hG
  clear hG
  have hnn:¬ Ap ts i < 0:=HN.out
  go_in
  go_wp2_with fail
  refine HB.out.mono ?_
  rintro e w1 ⟨rfl,rfl⟩
  go_wp2_with fail
  refine HE.out.mono ?_
  rintro e w1 ⟨cs,rfl,hblk,hcz,hcs,hbel⟩
  have HCS:=Lh hcs
  clear hcs
  have hck1:w1.cell? ⟨b,off + i * 7 + 6,none⟩=some (.int .i64 K):=(hbel.cell (p:=⟨b,off + i * 7 + 6,none⟩) hb).trans hck
  have hG1:G < w1.heap.size:=hblk.lt
  go_wp2_with fail
  go_loopw [6,7,21] (fun v a k wr=>∃ (c:Nat) (V:Int),c≤K∧k=.int .i64 c∧a=.int .i64 V∧Hid (V=Cn (adv (Bc len ts) c (i + 1)))∧wr.ownsRow (G + 1) 3 1 v c ((BL ts c (i + 1)).map fun j:Nat=>Value.int .i64 j)∧Blk wr G 3 cs∧Below G w wr∧G < wr.heap.size)
   (fun _ _ k _=>K - (intOf k).toNat)
  case atStart=>exact ⟨0,(i:Int) + 1,by omega,rfl,rfl,by simp [adv,Cn,Hid],World.ownsRow_nil _ _ _ _,hblk,hbel,hG1⟩
  case round =>
   obtain⟨c,V,hcK,rfl,rfl,HV,hown,hblk,hbel,hsz⟩:=hrel
   have hsome:∃ q,adv (Bc len ts) c (i + 1)=some q:=by
    cases h:adv (Bc len ts) c (i + 1) with
    | some q=>exact ⟨q,rfl⟩
    | none =>
     have:=Eg ts c K (i + 1) hcK (by rw [HL.out];exact h)
     rw [HA.out] at this
     cases this
   obtain⟨q,hq⟩:=hsome
   have hVq:V=q:=by rw [HV.out,hq];rfl
   subst hVq
   have hql:=Ib (len:=ts.length) (l:=ts) c (i + 1) q (by rw [HL.out];omega) (by rw [HL.out];exact hq)
   rw [HL.out] at hql
   by_cases hlt:c < K
   ·have hqlt:q < len:=by
     have h1:=EY ts c (i + 1) q (by rw [HL.out];exact hq)
     by_cases h2:q < len
     ·exact h2
     ·rw [HL.out,if_neg h2] at h1
      cases h3:adv (Bc len ts) (c + 1) (i + 1) with
      | some z=>rw [h3] at h1;simp only [Cn] at h1;omega
      | none =>
       have:=Eg ts (c + 1) K (i + 1) (by omega) (by rw [HL.out];exact h3)
       rw [HA.out] at this
       cases this
    have hnext:=EY ts c (i + 1) q (by rw [HL.out];exact hq)
    rw [HL.out,if_pos hqlt] at hnext
    have hstep:=Ew ts c (i + 1) q (by rw [HL.out];exact hq)
    obtain⟨HQ,HN,HS⟩:=Hd3 hq hnext hstep
    clear hq hnext hstep
    obtain⟨hq1,hq2⟩:=hql
    go_wp2_with (at_builtin;refine Cb Tryz.elInts rfl _ _ rfl (G + 1) wr [.int .i64 q] rfl _ _ _ rfl hown rfl rfl (by simp [Value.oneCell']) (by unfold maxLen;omega) (by omega) hsz ?_;intro v1 w2 hown1 hg1;have hblk1:Blk w2 G 3 cs:=hblk.grown hg1 (by intro e;have:=hown.lt G e.symm;omega);have hcell1:w2.cell? ⟨G,q,none⟩=some (.int .i64 (Ap ts q)):=(hblk1.cell q).trans (HCS.out q hqlt))
    go_roundw
    case rel=>exact ⟨c + 1,Ap ts q,by omega,by go_num,rfl,HN.out.symm,by rw [HS.out,List.map_append];exact hown1,hblk1,Below.of_own hbel hown hg1 (by omega) (by omega),hblk1.lt⟩
    case measure=>(simp [intOf];try omega)
   ·have:c=K:=by omega
    subst this
    clear hq
    go_wp2
    go_ret
    exact ⟨_,rfl,by rw [CZ];exact ⟨hown.1,hown.2.imp id fun ⟨g,cp,cu,h1,h2,h3⟩=>⟨g,cp,cu,h1,by omega,h3⟩⟩,hbel⟩
end Go.Proofs.YtmpcbaflcogmmaaGreatDoor
