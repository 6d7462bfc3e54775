/- Small EqB -/
import Derived.Test.YtmpcbaflcogmmaaGreatDoorProg
import Derived.BigGuardPart
import Derived.Deep.QuietTactic
import Derived.Test.YtmpcbaflcogmmaaGreatDoorKinds
namespace Go.Proofs.YtmpcbaflcogmmaaGreatDoor
open Go.RowKit
set_option linter.all false
set_option maxHeartbeats 400000
def AG (op:Int):Int × Int:=if op=35∨(44≤op∧op≤48) then (1,1) else if 40≤op∧op≤43 then (1,2) else (2,2)
theorem CH (op:Int) (w:World):Calls Tryz.prog 267 #[.int .i8 op] w fun e w'=>e=.returned (.tuple #[.int .i8 (AG op).1,.int .i8 (AG op).2])∧w=w':=by
 obtain⟨r,hr⟩:∃ r,AG op=r:=⟨_,rfl⟩
 rw [hr]
 have HR:=Lh hr
 clear hr
 by_cases h1:op=35
 ·have hv:(1,1)=r:=by rw [← HR.out,AG,if_pos (by omega)]
  subst hv
  clear HR
  go_in
  go_wp2
  go_ret2
  exact ⟨rfl,rfl⟩
 ·have h1':(op == 35)=false:=by simp [h1]
  by_cases h2:44≤op∧op≤48
  ·have hv:(1,1)=r:=by rw [← HR.out,AG,if_pos (by omega)]
   subst hv
   clear HR
   obtain⟨a,b⟩:=h2
   go_in
   go_wp2
   go_ret2
   exact ⟨rfl,rfl⟩
  ·by_cases h3:40≤op∧op≤43
   ·have hv:(1,2)=r:=by rw [← HR.out,AG,if_neg (by omega),if_pos (by omega)]
    subst hv
    clear HR
    obtain⟨a,b⟩:=h3
    go_in
    go_wp2
    go_ret2
    exact ⟨rfl,rfl⟩
   ·have hv:(2,2)=r:=by rw [← HR.out,AG,if_neg (by omega),if_neg (by omega)]
    subst hv
    clear HR
    rcases (show op < 40∨48 < op by omega) with h | h
    all_goals
     clear h2 h3
     go_in
     go_wp2
     all_goals first
      | (exfalso;omega)
      | (go_ret2;exact ⟨rfl,rfl⟩)
def CV (s:ByteArray):Bool:=s.data.toList.all (fun c=>32≤c.toNat && c.toNat≤126) && decide (s.size≤64)
theorem Og {a b:Int} (h:a=b):Ending.returned (.int .i64 a)=Ending.returned (.int .i64 b):=by rw [h]
theorem Ck {a b:Bool} (h:a=b):Ending.returned (.bool a)=Ending.returned (.bool b):=by rw [h]
theorem Sg (s:ByteArray) (w:World) (hs:s.size≤1099511627776):Calls Tryz.prog 247 #[.string s] w fun e w'=>e=.returned (.bool (CV s))∧w=w':=by
 go_in
 go_wp2
 go_loop [2,3,6] (fun _ _ i=>∃ k:Nat,k≤s.size∧i=.int .i64 k∧Hid ((s.data.toList.take k).all (fun c=>32≤c.toNat && c.toNat≤126)=true)) (fun _ _ i=>s.size - (intOf i).toNat)
 case atStart=>exact ⟨0,by omega,rfl,rfl⟩
 case round =>
  obtain⟨k,hk,rfl,H⟩:=hrel
  by_cases hlt:k < s.size
  ·have htake:s.data.toList.take (k + 1)=s.data.toList.take k ++ [s[k]]:=by
    rw [List.take_succ_eq_append_getElem (by simpa using hlt)];rfl
   have HT:=Lh htake
   clear htake
   by_cases h1:(s[k].toNat:Int) < 32
   ·have hf:CV s=false:=by
     have h2:¬ (s.data.toList.all (fun c=>32≤c.toNat && c.toNat≤126)=true):=by
      intro h
      rw [List.all_eq_true] at h
      have:=h s[k] (by rw [← Array.mem_def];exact Array.getElem_mem hlt)
      simp at this;omega
     simp [CV,Bool.eq_false_iff.2 h2]
    have HF:=Lh hf
    clear hf
    go_wp2
    go_ret
    exact ⟨Ck HF.out.symm,rfl⟩
   ·by_cases h2:(126:Int) < (s[k].toNat:Int)
    ·have hf:CV s=false:=by
      have h2:¬ (s.data.toList.all (fun c=>32≤c.toNat && c.toNat≤126)=true):=by
       intro h
       rw [List.all_eq_true] at h
       have:=h s[k] (by rw [← Array.mem_def];exact Array.getElem_mem hlt)
       simp at this;omega
      simp [CV,Bool.eq_false_iff.2 h2]
     have HF:=Lh hf
     clear hf
     go_wp2
     go_ret
     exact ⟨Ck HF.out.symm,rfl⟩
    ·go_wp2
     go_round
     case rel =>
      refine ⟨k + 1,by omega,by go_num,?_⟩
      unfold Hid
      rw [HT.out,List.all_append,H.out]
      simp;omega
     case measure=>(simp [intOf];try omega)
  ·have hk2:k=s.size:=by omega
   have hall:(s.data.toList.all (fun c=>32≤c.toNat && c.toNat≤126))=true:=by
    have:=H.out
    rwa [List.take_of_length_le (by simp;omega)] at this
   have hf:CV s=decide (s.size≤64):=by simp only [CV,hall,Bool.true_and]
   have HF:=Lh hf
   clear hf hall
   go_wp2
   go_ret
   exact ⟨Ck (by rw [HF.out,decide_eq_decide];omega),rfl⟩
def IB (w:World) (b off:Nat) (vs:List Value):Prop:=∀ i v,vs[i]? = some v→w.cell? ⟨b,off + i,none⟩=some v
theorem IB.of_own {w:World} {base:Nat} {e:TypeId} {g c n:Nat} {xs:List Value} (h:w.ownsRow base e 1 (.slice (some ⟨g,0,none⟩) n c) n xs):IB w g 0 xs:=by
 intro i v hv
 have hi:=(List.getElem?_eq_some_iff.1 hv).1
 have:=h.cellAt i (by have:=h.1;omega)
 rw [Nat.zero_add,this,hv]
def DQ:List Int→Int→Int→Int
 | [],_,_=>-1
 | x :: l,v,i=>if x=v then i else DQ l v (i + 1)
theorem Rz (b off cap:Nat) (l:List Int) (v:Int) (w:World) (hl:l.length≤1099511627776) (hc:IB w b off (l.map (Value.int .i64))) :
  Calls Tryz.prog 244 #[.slice (some ⟨b,off,none⟩) l.length cap,.int .i64 v] w fun e w'=>e=.returned (.int .i64 (DQ l v 0))∧w=w':=by
 obtain⟨R,hR⟩:=Ex0 (DQ l v 0)
 rw [← hR]
 obtain⟨len,hlen⟩:∃ len,l.length=len:=⟨_,rfl⟩
 rw [hlen] at hl ⊢
 obtain⟨HL,HR,HC⟩:=Hd3 hlen hR hc
 clear hR hlen hc
 go_in
 go_wp2
 go_loop [4,5,8] (fun _ _ i=>∃ k:Nat,k≤len∧i=.int .i64 k∧Hid (R=DQ (l.drop k) v k)) (fun _ _ i=>len - (intOf i).toNat)
 case atStart=>exact ⟨0,by omega,rfl,HR⟩
 case round =>
  obtain⟨k,hk,rfl,H⟩:=hrel
  by_cases hlt:k < len
  ·obtain⟨x,hx⟩:∃ x,l[k]? = some x:=⟨_,List.getElem?_eq_getElem (by rw [HL.out];exact hlt)⟩
   have hc:w.cell? ⟨b,off + k,none⟩=some (.int .i64 x):=HC.out k _ (by simp [hx])
   have hd:l.drop k=x :: l.drop (k + 1):=by
    obtain⟨h1,h2⟩:=List.getElem?_eq_some_iff.1 hx
    rw [List.drop_eq_getElem_cons h1,h2]
   have hs:DQ (l.drop k) v k=if x=v then (k:Int) else DQ (l.drop (k + 1)) v (k + 1):=by rw [hd,DQ]
   have HS:=Lh hs
   clear hs hd hx
   by_cases hv:v=x
   ·subst hv
    have hs2:=HS.out
    rw [if_pos rfl] at hs2
    have HS2:=Lh hs2
    clear hs2 HS
    go_wp2
    go_ret
    exact ⟨Og (by rw [H.out,HS2.out]),rfl⟩
   ·have hvb:(v == x)=false:=by simp [hv]
    have hvn:(x == v)=false:=by simp;exact fun h=>hv h.symm
    have hvp:¬ x=v:=fun h=>hv h.symm
    go_wp2
    all_goals
     go_round
     case rel=>exact ⟨k + 1,by omega,by go_num,by unfold Hid;rw [H.out,HS.out,if_neg hvp];rfl⟩
     case measure=>(simp [intOf];try omega)
  ·have hs:DQ (l.drop k) v k = -1:=by
    rw [List.drop_of_length_le (by rw [HL.out];omega),DQ]
   have HS:=Lh hs
   clear hs
   go_wp2
   go_ret
   exact ⟨Og (by rw [H.out,HS.out]),rfl⟩
def AP (l:List Int) (v:Int):Bool:=decide (0≤DQ l v 0)
theorem N9 (b off cap:Nat) (l:List Int) (v:Int) (w:World) (hl:l.length≤1099511627776) (hc:IB w b off (l.map (Value.int .i64))) :
  Calls Tryz.prog 196 #[.slice (some ⟨b,off,none⟩) l.length cap,.int .i64 v] w fun e w'=>e=.returned (.bool (AP l v))∧w=w':=by
 have h:=Rz b off cap l v w hl hc
 have H:=Lh h
 clear h hc
 go_in
 go_wp2_with fail
 refine H.out.mono ?_
 rintro e w1 ⟨rfl,rfl⟩
 go_wp2_with fail
 go_ret
 exact ⟨rfl,rfl⟩
theorem KH (A B:Option Addr) (c d:Nat) (l m:List Int) (w:World) (hl:l.length≤1099511627776) (hm:m.length≤1099511627776)
  (h1:∀ k x,l[k]? = some x→∃ b off,A=some ⟨b,off,none⟩∧w.cell? ⟨b,off + k,none⟩=some (.int .i8 x)) (h2:∀ k x,m[k]? = some x→∃ b off,B=some ⟨b,off,none⟩∧w.cell? ⟨b,off + k,none⟩=some (.int .i8 x)) :
  Calls Tryz.prog 104 #[.slice A l.length c,.slice B m.length d] w fun e w'=>e=.returned (.bool (decide (l=m)))∧∃ n,w'=w.drewN n:=by
 by_cases hne:l.length=m.length
 ·obtain⟨len,hlen⟩:∃ len,l.length=len:=⟨_,rfl⟩
  rw [← hne,hlen]
  obtain⟨HL,HN,H1,H2⟩:=Hd4 hlen hne h1 h2
  rw [hlen] at hl
  clear h1 h2 hm hne hlen
  have hb:((len:Int) != (len:Int))=false:=by simp
  go_in
  go_wp2
  go_loopw [4,5,13] (fun _ _ i wr=>∃ k:Nat,k≤len∧i=.int .i64 k∧Hid (l.take k=m.take k)∧∃ n,wr=w.drewN n) (fun _ _ i _=>len - (intOf i).toNat)
  case atStart=>exact ⟨0,by omega,rfl,rfl,0,rfl⟩
  case round =>
   obtain⟨k,hk,rfl,H,n,rfl⟩:=hrel
   by_cases hlt:k < len
   ·have hk1:k < l.length:=by rw [HL.out];exact hlt
    have hk2:k < m.length:=by rw [← HN.out,HL.out];exact hlt
    obtain⟨x,hx⟩:∃ x,l[k]? = some x:=⟨_,List.getElem?_eq_getElem hk1⟩
    obtain⟨y,hy⟩:∃ y,m[k]? = some y:=⟨_,List.getElem?_eq_getElem hk2⟩
    obtain⟨b1,o1,rfl,c1⟩:=H1.out k x hx
    obtain⟨b2,o2,rfl,c2⟩:=H2.out k y hy
    obtain⟨HX,HY⟩:=Hd2 hx hy
    clear hx hy hk1 hk2
    by_cases hv:x=y
    ·have hvb:(x != y)=false:=by simp [hv]
     have HV:=Lh hv
     clear hv
     go_wp2_with fail
     go_quiet (fail)
     go_wp2
     go_roundw
     case rel =>
      refine ⟨k + 1,by omega,by go_num,?_,_,rfl⟩
      unfold Hid
      rw [List.take_add_one,List.take_add_one,H.out,HX.out,HY.out,HV.out]
     case measure=>(simp [intOf];try omega)
    ·have hvb:(x != y)=true:=by simp [hv]
     have hf:decide (l=m)=false:=by
      simp only [decide_eq_false_iff_not]
      rintro rfl
      have:=HX.out.symm.trans HY.out
      exact hv (by injection this)
     have HF:=Lh hf
     clear hf hv
     go_wp2_with fail
     go_quiet (fail)
     go_wp2
     go_ret
     exact ⟨Ck HF.out.symm,n + nq,by rw [World.drewN_drewN]⟩
   ·have hf:decide (l=m)=true:=by
     have:=H.out
     rw [List.take_of_length_le (by rw [HL.out];omega),List.take_of_length_le (by rw [← HN.out,HL.out];omega)] at this
     simp [this]
    have HF:=Lh hf
    clear hf
    go_wp2
    go_ret
    exact ⟨Ck HF.out.symm,_,rfl⟩
 ·have hb:((l.length:Int) != (m.length:Int))=true:=by simp;omega
  have hf:decide (l=m)=false:=by
   simp only [decide_eq_false_iff_not]
   rintro rfl
   exact hne rfl
  have HF:=Lh hf
  clear h1 h2 hf
  have hne':¬ ((l.length:Int)=(m.length:Int)):=by omega
  go_in
  go_wp2
  go_ret
  exact ⟨Ck HF.out.symm,0,rfl⟩
theorem JK (A B:Option Addr) (c d:Nat) (l m:List Int) (w:World) (hl:l.length≤1099511627776) (hm:m.length≤1099511627776)
  (h1:∀ k x,l[k]? = some x→∃ b off,A=some ⟨b,off,none⟩∧w.cell? ⟨b,off + k,none⟩=some (.int .u8 x)) (h2:∀ k x,m[k]? = some x→∃ b off,B=some ⟨b,off,none⟩∧w.cell? ⟨b,off + k,none⟩=some (.int .u8 x)) :
  Calls Tryz.prog 12 #[.slice A l.length c,.slice B m.length d] w fun e w'=>e=.returned (.bool (decide (l=m)))∧∃ n,w'=w.drewN n:=by
 by_cases hne:l.length=m.length
 ·obtain⟨len,hlen⟩:∃ len,l.length=len:=⟨_,rfl⟩
  rw [← hne,hlen]
  obtain⟨HL,HN,H1,H2⟩:=Hd4 hlen hne h1 h2
  rw [hlen] at hl
  clear h1 h2 hm hne hlen
  have hb:((len:Int) != (len:Int))=false:=by simp
  go_in
  go_wp2
  go_loopw [5] (fun i wr=>∃ k:Nat,k≤len∧i=.int .i64 k∧Hid (l.take k=m.take k)∧∃ n,wr=w.drewN n) (fun i _=>len - (intOf i).toNat)
  case atStart=>exact ⟨0,by omega,rfl,rfl,0,rfl⟩
  case round =>
   obtain⟨k,hk,rfl,H,n,rfl⟩:=hrel
   by_cases hlt:k < len
   ·have hk1:k < l.length:=by rw [HL.out];exact hlt
    have hk2:k < m.length:=by rw [← HN.out,HL.out];exact hlt
    obtain⟨x,hx⟩:∃ x,l[k]? = some x:=⟨_,List.getElem?_eq_getElem hk1⟩
    obtain⟨y,hy⟩:∃ y,m[k]? = some y:=⟨_,List.getElem?_eq_getElem hk2⟩
    obtain⟨b1,o1,rfl,c1⟩:=H1.out k x hx
    obtain⟨b2,o2,rfl,c2⟩:=H2.out k y hy
    obtain⟨HX,HY⟩:=Hd2 hx hy
    clear hx hy hk1 hk2
    by_cases hv:x=y
    ·have hvb:(x != y)=false:=by simp [hv]
     have HV:=Lh hv
     clear hv
     go_wp2_with fail
     go_quiet (fail)
     go_wp2
     go_roundw
     case rel =>
      refine ⟨k + 1,by omega,by go_num,?_,_,rfl⟩
      unfold Hid
      rw [List.take_add_one,List.take_add_one,H.out,HX.out,HY.out,HV.out]
     case measure=>(simp [intOf];try omega)
    ·have hvb:(x != y)=true:=by simp [hv]
     have hf:decide (l=m)=false:=by
      simp only [decide_eq_false_iff_not]
      rintro rfl
      have:=HX.out.symm.trans HY.out
      exact hv (by injection this)
     have HF:=Lh hf
     clear hf hv
     go_wp2_with fail
     go_quiet (fail)
     go_wp2
     go_ret
     exact ⟨Ck HF.out.symm,n + nq,by rw [World.drewN_drewN]⟩
   ·have hf:decide (l=m)=true:=by
     have:=H.out
     rw [List.take_of_length_le (by rw [HL.out];omega),List.take_of_length_le (by rw [← HN.out,HL.out];omega)] at this
     simp [this]
    have HF:=Lh hf
    clear hf
    go_wp2
    go_ret
    exact ⟨Ck HF.out.symm,_,rfl⟩
 ·have hb:((l.length:Int) != (m.length:Int))=true:=by simp;omega
  have hf:decide (l=m)=false:=by
   simp only [decide_eq_false_iff_not]
   rintro rfl
   exact hne rfl
  have HF:=Lh hf
  clear h1 h2 hf
  have hne':¬ ((l.length:Int)=(m.length:Int)):=by omega
  go_in
  go_wp2
  go_ret
  exact ⟨Ck HF.out.symm,0,rfl⟩
end Go.Proofs.YtmpcbaflcogmmaaGreatDoor
