/- WideS WideN WideA -/
import Derived.Deep.OwnRows
import Derived.Deep.QuietTactic
import Derived.BigQuiet
import Derived.Deep.RegionHeld3
import Derived.Test.YtmpcbaflcogmmaaGreatDoorAble
import Derived.Test.YtmpcbaflcogmmaaGreatDoorSerial3
import Derived.Test.YtmpcbaflcogmmaaGreatDoorSizesT
namespace Go.Proofs.YtmpcbaflcogmmaaGreatDoor
open Go.RowKit
set_option linter.all false
set_option maxHeartbeats 4000000
set_option maxRecDepth 100000
theorem Ti:(Tryz.prog.info? 118).map (fun i=>(i.zero,i.size,i.bytes))=some (some (.int .i8 0),1,1):=by kernel_rfl
def B6 (l:List Int):List Value:=l.map (Value.int .i8)
def E3 (n i:Int):Int:=1048576 * n + i + 1
theorem FZ (n i:Int) (w:World) (h0:0≤n) (h1:n≤1000000) (h2:0≤i) (h3:i≤1000000000):Calls Tryz.prog 42 #[.int .i64 n,.int .i64 i] w fun e w'=>e=.returned (.int .i64 (E3 n i))∧w=w':=by
 have e:E3 n i=1048576 * n + i + 1:=rfl
 rw [e]
 clear e
 go_in
 go_wp2
 go_ret
 exact ⟨rfl,rfl⟩
def Hl (i:Nat):Int:=IntKind.i8.wrap (E3 279 (7 * (i:Int)))
def E7 (l:List Int):List Int:=l ++ (List.range 64).map fun j=>Hl (l.length + j)
theorem Sd (l:List Int):(E7 l).length=l.length + 64:=by simp [E7]
theorem Ls {l:List Int} {i:Nat} (h:i < l.length):(E7 l)[i]? = l[i]?:=List.getElem?_append_left h
theorem JL {l:List Int} {i:Nat} (h:l.length≤i) (h2:i < l.length + 64):(E7 l)[i]? = some (Hl i):=by
 unfold E7
 rw [List.getElem?_append_right h,List.getElem?_map,List.getElem?_range (by omega)]
 show some (Hl (l.length + (i - l.length)))=_
 congr 2
 omega
theorem NK (K:Nat):madeCells #[Value.int .i8 0] K=(B6 (List.replicate K 0)).toArray:=by
 have:=toList_madeCells_one (.int .i8 0) K
 rw [← Array.toArray_toList (xs:=madeCells #[Value.int .i8 0] K),this]
 simp [B6]
theorem Lq {l:List Int} {i:Nat} {v:Int} {K:Nat} (h:i < K) (hl:K≤l.length) (hv:l[i]? = some v):((B6 (l.take i ++ List.replicate (K - i) 0)).toArray).setIfInBounds i (.int .i8 v)=(B6 (l.take (i + 1) ++ List.replicate (K - (i + 1)) 0)).toArray:=by
 unfold B6
 rw [List.setIfInBounds_toArray]
 congr 1
 obtain⟨d,hd⟩:∃ d,K - i=d + 1:=⟨K - i - 1,by omega⟩
 rw [hd,show K - (i + 1)=d by omega,List.replicate_succ,List.map_append,List.map_cons,List.set_append_right _ _ (by simp;omega),List.length_map,List.length_take,show i - min i l.length=0 by omega,List.take_add_one,hv]
 simp
theorem LI (A:Option Addr) (l:List Int) (c:Nat) (w:World) (hl:l.length≤16777216) (hb:AV w A l) :
  Calls Tryz.prog 40 #[.slice A l.length c] w fun e w'=>e=.returned (.slice (some ⟨w.heap.size,0,none⟩) l.length (l.length + 64))∧Blk w' w.heap.size 118 (B6 (E7 l)).toArray∧Below w.heap.size w w':=by
 obtain⟨n,hn⟩:∃ n,l.length=n:=⟨_,rfl⟩
 have hcell:∀ i x,l[i]? = some x→∃ b off,A=some ⟨b,off,none⟩∧b < w.heap.size∧w.cell? ⟨b,off + i,none⟩=some (.int .i8 x):=hb
 have hlen:=Sd l
 have hleft:=fun i (h:i < l.length)=>Ls (l:=l) h
 have hright:=fun i (h:l.length≤i) (h2:i < l.length + 64)=>JL (l:=l) h h2
 obtain⟨W,hW⟩:=Ex0 (E7 l)
 rw [← hW] at hlen ⊢
 simp only [← hW] at hleft hright
 simp only [hn] at hlen hleft hright
 rw [hn] at hl ⊢
 have hmk:∀ wx,(Instr.makeSlice 22 (.int .i64 ((n:Int) + 64)) (.int .i64 ((n:Int) + 64))).run Tryz.prog wx=.ok (.slice (some ⟨wx.heap.size,0,none⟩) (n + 64) (n + 64)) (wx.alloc (.cells (B6 (W.take 0 ++ List.replicate (n + 64 - 0) 0)).toArray 118)):=by
  intro wx
  have h:=run_make_row' (P:=Tryz.prog) 22 118 (.int .i8 0) 1 Tryz.underlying22 Ti rfl .i64 .i64 (n + 64) (by omega) (by omega) wx
  simp only [NK] at h
  exact h
 obtain⟨HC,HN,HLE,HL,HRT,HKB,HB0⟩:=Hd7 hcell hn hlen hleft hright (Blk.new w 118 (B6 (W.take 0 ++ List.replicate (n + 64 - 0) 0)).toArray) (show Below w.heap.size w (w.alloc (.cells (B6 (W.take 0 ++ List.replicate (n + 64 - 0) 0)).toArray 118)) from (Below.refl _ _).alloc (Nat.le_refl _) _)
 clear hcell hn hlen hleft hright hW hb
 go_in
 go_wp2_with fail
 go_loopw [4] (fun iv wr=>∃ i:Nat,i≤n + 64∧iv=.int .i64 i∧Blk wr w.heap.size 118 (B6 (W.take i ++ List.replicate (n + 64 - i) 0)).toArray∧Below w.heap.size w wr) (fun iv _=>n + 64 - (intOf iv).toNat)
 case atStart=>exact ⟨0,by omega,rfl,HKB.out,HB0.out⟩
 case round =>
  obtain⟨i,hi,rfl,hkb,hbel⟩:=hrel
  by_cases hlt:i < n + 64
  ·have hcz:wr.cell? ⟨w.heap.size,i,none⟩=some (.int .i8 0):=by
    rw [hkb.cell i]
    unfold B6
    rw [List.getElem?_toArray,List.getElem?_map,List.getElem?_append_right (by rw [List.length_take];omega),List.length_take,List.getElem?_replicate,if_pos (by rw [HLE.out];omega)]
    rfl
   have hcf:=hkb.frozen i
   have hii:(i:Int) < n + 64:=by omega
   obtain⟨HK,HB⟩:=Hd2 hkb hbel
   clear hkb hbel
   by_cases hin:i < n
   ·obtain⟨x,hx⟩:∃ x,l[i]? = some x:=⟨_,List.getElem?_eq_getElem (by rw [HN.out];exact hin)⟩
    obtain⟨b,off,rfl,hbl,hc⟩:=HC.out i x hx
    have hcw:wr.cell? ⟨b,off + i,none⟩=some (.int .i8 x):=(HB.out.cell (p:=⟨b,_,none⟩) hbl).trans hc
    have hWi:W[i]? = some x:=by rw [HL.out i hin,hx]
    have HWI:=Lh hWi
    clear hx hWi hc
    go_wp2_with fail
    go_roundw
    case rel =>
     have hs:=HK.out.set_ i (.int .i8 x)
     rw [Lq hlt (by rw [HLE.out];exact Nat.le_refl _) HWI.out] at hs
     exact ⟨i + 1,by omega,by go_num,hs,HB.out.setCell (p:=⟨w.heap.size,i,none⟩) (Nat.le_refl _) _⟩
    case measure=>(simp [intOf];try omega)
   ·have hWi:W[i]? = some (Hl i):=HRT.out i (by omega) (by omega)
    have HWI:=Lh hWi
    clear hWi
    have hge:(n:Int)≤i:=by omega
    have hmark:IntKind.i8.wrap (E3 279 (7 * (i:Int)))=Hl i:=rfl
    go_wp2_with fail
    refine (FZ 279 (7 * (i:Int)) _ (by omega) (by omega) (by omega) (by omega)).mono ?_
    rintro e w5 ⟨rfl,rfl⟩
    go_wp2_with fail
    go_roundw
    case rel =>
     have hs:=HK.out.set_ i (.int .i8 (Hl i))
     rw [Lq hlt (by rw [HLE.out];exact Nat.le_refl _) HWI.out] at hs
     exact ⟨i + 1,by omega,by go_num,hs,HB.out.setCell (p:=⟨w.heap.size,i,none⟩) (Nat.le_refl _) _⟩
    case measure=>(simp [intOf];try omega)
  ·obtain rfl:i=n + 64:=by omega
   obtain⟨HK,HB⟩:=Hd2 hkb hbel
   have hfull:W.take (n + 64) ++ List.replicate (n + 64 - (n + 64)) 0=W:=by rw [List.take_of_length_le (by rw [HLE.out];exact Nat.le_refl _)];simp
   have HF:=Lh hfull
   clear hkb hbel hfull
   go_wp2_with fail
   go_ret
   have h:=HK.out
   rw [HF.out] at h
   exact ⟨rfl,h,HB.out⟩
theorem JS (b:Nat) (l:List Int) (w:World) (hl:l.length≤16777216) (hk:Blk w b 118 (B6 (E7 l)).toArray) :
  Calls Tryz.prog 57 #[.slice (some ⟨b,0,none⟩) l.length (l.length + 64)] w fun e w'=>e=.returned (.bool true)∧w=w':=by
 obtain⟨n,hn⟩:∃ n,l.length=n:=⟨_,rfl⟩
 have hcell:∀ i,n≤i→i < n + 64→w.cell? ⟨b,i,none⟩=some (.int .i8 (Hl i)):=by
  intro i h1 h2
  rw [hk.cell i]
  unfold B6
  rw [List.getElem?_toArray,List.getElem?_map,JL (by omega) (by omega)]
  rfl
 rw [hn] at hl ⊢
 have HC:=Lh hcell
 clear hcell hk hn
 go_in
 go_wp2_with fail
 go_loop [4,5] (fun iv _=>∃ i:Nat,n≤i∧i≤n + 64∧iv=.int .i64 i) (fun iv _=>n + 64 - (intOf iv).toNat)
 case atStart=>exact ⟨n,by omega,by omega,rfl⟩
 case round =>
  obtain⟨i,hi0,hi,rfl⟩:=hrel
  by_cases hlt:i < n + 64
  ·have hc:=HC.out i hi0 hlt
   have hii:(i:Int) < n + 64:=by omega
   have hmark:IntKind.i8.wrap (E3 279 (7 * (i:Int)))=Hl i:=rfl
   have hself:(Hl i == Hl i)=true:=by simp
   go_wp2_with fail
   refine (FZ 279 (7 * (i:Int)) _ (by omega) (by omega) (by omega) (by omega)).mono ?_
   rintro e w5 ⟨rfl,rfl⟩
   go_wp2_with fail
   go_round
   case rel=>exact ⟨i + 1,by omega,by omega,by go_num⟩
   case measure=>(simp [intOf];try omega)
  ·obtain rfl:i=n + 64:=by omega
   go_wp2_with fail
   go_ret
   exact ⟨rfl,rfl⟩
theorem Mn (A B:Option Addr) (l:List Int) (c d:Nat) (w:World) (hl:l.length≤16777216) (ha:AV w A l) (hb:AV w B l) :
  Calls Tryz.prog 55 #[.slice A l.length c,.slice B l.length d] w fun e w'=>e=.returned (.bool true)∧Below w.heap.size w w':=by
 obtain⟨n,hn⟩:∃ n,l.length=n:=⟨_,rfl⟩
 have hac:∀ i x,l[i]? = some x→∃ b off,A=some ⟨b,off,none⟩∧b < w.heap.size∧w.cell? ⟨b,off + i,none⟩=some (.int .i8 x):=ha
 have hbc:∀ i x,l[i]? = some x→∃ b off,B=some ⟨b,off,none⟩∧b < w.heap.size∧w.cell? ⟨b,off + i,none⟩=some (.int .i8 x):=hb
 rw [hn] at hl ⊢
 obtain⟨HA,HB,HN⟩:=Hd3 hac hbc hn
 clear hac hbc ha hb hn
 go_in
 go_wp2_with fail
 go_loopw [5] (fun iv wr=>∃ i:Nat,i≤n∧iv=.int .i64 i∧Below w.heap.size w wr) (fun iv _=>n - (intOf iv).toNat)
 case atStart=>exact ⟨0,by omega,rfl,Below.refl _ _⟩
 case round =>
  obtain⟨i,hi,rfl,hbel⟩:=hrel
  have HBE:=Lh hbel
  by_cases hlt:i < n
  ·obtain⟨x,hx⟩:∃ x,l[i]? = some x:=⟨_,List.getElem?_eq_getElem (by rw [HN.out];exact hlt)⟩
   obtain⟨b1,o1,rfl,h1,hc1⟩:=HA.out i x hx
   obtain⟨b2,o2,rfl,h2,hc2⟩:=HB.out i x hx
   have hd1:wr.cell? ⟨b1,o1 + i,none⟩=some (.int .i8 x):=(hbel.cell (p:=⟨b1,_,none⟩) h1).trans hc1
   have hd2:wr.cell? ⟨b2,o2 + i,none⟩=some (.int .i8 x):=(hbel.cell (p:=⟨b2,_,none⟩) h2).trans hc2
   have hii:(i:Int) < n:=by omega
   clear hx hc1 hc2 hbel
   go_wp2_with fail
   refine A8 (by kernel_rfl) (by kernel_rfl) ?_
   go_wp2_with fail
   refine AX.normal ?_
   go_wp2_with fail
   go_roundw
   case rel=>exact ⟨i + 1,by omega,by go_num,HBE.out.drew⟩
   case measure=>(simp [intOf];try omega)
  ·clear hbel
   go_wp2_with fail
   go_ret
   exact ⟨rfl,HBE.out⟩
theorem Ho {w:World} {b:Nat} {l:List Int} (hk:Blk w b 118 (B6 (E7 l)).toArray):AV w (some ⟨b,0,none⟩) l:=
 fun k x hx=>⟨b,0,rfl,hk.lt,by
  have hkl:=(List.getElem?_eq_some_iff.1 hx).1
  rw [Nat.zero_add,hk.cell k]
  unfold B6
  rw [List.getElem?_toArray,List.getElem?_map,Ls hkl,hx]
  rfl⟩
theorem RU {P:Program} {f:FuncId} {args:Array Value} {w:World} {n:Nat} {v:Value} (h:Calls P f args (w.drewN n) fun e w'=>e=.returned v∧w.drewN n=w'):Calls P f args (w.drewN n) fun e w''=>e=.returned v∧∃ m,w''=w.drewN m:=
 h.mono fun _ _ ⟨he,hm⟩=>⟨he,n,hm.symm⟩
theorem Qk:(Tryz.prog.info? 120).map (fun i=>(i.zero.map (fun z=>z.cells.size),i.size,i.bytes))=some (some 7,7,56):=by kernel_rfl
def Kv (i:Nat):Au:=⟨0,0,0,0,⟨#[]⟩,E3 9 i,0⟩
def Fo (ts:List Au):List Au:=ts ++ (List.range 64).map fun j=>Kv (ts.length + j)
theorem LG {ts:List Au} {i:Nat} (h:i < ts.length):(Fo ts)[i]? = ts[i]?:=List.getElem?_append_left h
theorem Jv {ts:List Au} {i:Nat} (h:ts.length≤i) (h2:i < ts.length + 64):(Fo ts)[i]? = some (Kv i):=by
 unfold Fo
 rw [List.getElem?_append_right h,List.getElem?_map,List.getElem?_range (by omega)]
 show some (Kv (ts.length + (i - ts.length)))=_
 congr 2
 omega
theorem Au.cells_at (x:Au) (j:Nat) (u:Value):x.cells[j]? = some u↔(j=0∧u=.int .i8 x.op)∨(j=1∧u=.int .i8 x.kind)∨(j=2∧u=.int .i64 x.n)∨(j=3∧u=.int .i64 x.m)∨(j=4∧u=.string x.text)∨(j=5∧u=.int .i64 x.pos)∨(j=6∧u=.int .i64 x.kids):=by
 unfold Au.cells
 rcases j with _ | _ | _ | _ | _ | _ | _ | j
 all_goals simp [eq_comm]
def BN (w:World) (b K:Nat) (W:List Au) (i:Nat):Prop:=
 ∃ cs,Blk w b 120 cs∧cs.size=K * 7∧∀ (k:Nat) (x:Au),k < i→W[k]? = some x→∀ j u,x.cells[j]? = some u→cs[k * 7 + j]? = some u
theorem BN.lt {w:World} {b K i:Nat} {W:List Au} (h:BN w b K W i):b < w.heap.size:=by
 obtain⟨cs,h1,_⟩:=h
 exact h1.lt
theorem BN.below {w w':World} {b K i:Nat} {W:List Au} (h:BN w b K W i) (hb:Below w.heap.size w w'):BN w' b K W i:=by
 obtain⟨cs,h1,h2⟩:=h
 exact ⟨cs,h1.below hb h1.lt,h2⟩
section
variable {w:World} {b K i:Nat} {W:List Au} (h:BN w b K W i)
include w b K i W h
theorem BN.far {p:Addr} (hp:b≠p.block) (u:Value):BN (w.setCell p u) b K W i:=by
 obtain⟨cs,h1,h2⟩:=h
 exact ⟨cs,h1.far hp u,h2⟩
theorem BN.at_ (hk:i < K) (j:Nat) (hj:j < 7):(∃ v,w.cell? ⟨b,i * 7 + j,none⟩=some v)∧w.frozen? ⟨b,i * 7 + j,none⟩=false:=by
 obtain⟨cs,h1,h2,_⟩:=h
 exact ⟨⟨_,(h1.cell _).trans (Array.getElem?_eq_getElem (by omega))⟩,h1.frozen _⟩
end
def PT (cs:Array Value) (p:Nat) (x:Au):Array Value:=((((((cs.setIfInBounds p (.int .i8 x.op)).setIfInBounds (p + 1) (.int .i8 x.kind)).setIfInBounds (p + 2) (.int .i64 x.n)).setIfInBounds (p + 3) (.int .i64 x.m)).setIfInBounds (p + 4) (.string x.text)).setIfInBounds (p + 5) (.int .i64 x.pos)).setIfInBounds (p + 6) (.int .i64 x.kids)
section
variable (cs:Array Value)
include cs
theorem RE (p:Nat) (x:Au):(PT cs p x).size=cs.size:=by
 unfold PT
 simp only [Array.size_setIfInBounds]
theorem UH (p q:Nat) (x:Au) (h:q < p∨p + 7≤q):(PT cs p x)[q]? = cs[q]?:=by
 unfold PT
 rw [Array.getElem?_setIfInBounds_ne (by omega),Array.getElem?_setIfInBounds_ne (by omega),Array.getElem?_setIfInBounds_ne (by omega),Array.getElem?_setIfInBounds_ne (by omega),Array.getElem?_setIfInBounds_ne (by omega),Array.getElem?_setIfInBounds_ne (by omega),Array.getElem?_setIfInBounds_ne (by omega)]
theorem U4 (p:Nat) (x:Au) (h:p + 7≤cs.size) (j:Nat) (u:Value) (hj:x.cells[j]? = some u):(PT cs p x)[p + j]? = some u:=by
 rw [Au.cells_at] at hj
 unfold PT
 rcases hj with ⟨rfl,rfl⟩ | ⟨rfl,rfl⟩ | ⟨rfl,rfl⟩ | ⟨rfl,rfl⟩ | ⟨rfl,rfl⟩ | ⟨rfl,rfl⟩ | ⟨rfl,rfl⟩
 ·have e:p + 0=p:=rfl
  simp only [e]
  rw [Array.getElem?_setIfInBounds_ne (by omega),Array.getElem?_setIfInBounds_ne (by omega),Array.getElem?_setIfInBounds_ne (by omega),Array.getElem?_setIfInBounds_ne (by omega),Array.getElem?_setIfInBounds_ne (by omega),Array.getElem?_setIfInBounds_ne (by omega),Array.getElem?_setIfInBounds_self_of_lt (by omega)]
 ·rw [Array.getElem?_setIfInBounds_ne (by omega),Array.getElem?_setIfInBounds_ne (by omega),Array.getElem?_setIfInBounds_ne (by omega),Array.getElem?_setIfInBounds_ne (by omega),Array.getElem?_setIfInBounds_ne (by omega),Array.getElem?_setIfInBounds_self_of_lt (by simp only [Array.size_setIfInBounds];omega)]
 ·rw [Array.getElem?_setIfInBounds_ne (by omega),Array.getElem?_setIfInBounds_ne (by omega),Array.getElem?_setIfInBounds_ne (by omega),Array.getElem?_setIfInBounds_ne (by omega),Array.getElem?_setIfInBounds_self_of_lt (by simp only [Array.size_setIfInBounds];omega)]
 ·rw [Array.getElem?_setIfInBounds_ne (by omega),Array.getElem?_setIfInBounds_ne (by omega),Array.getElem?_setIfInBounds_ne (by omega),Array.getElem?_setIfInBounds_self_of_lt (by simp only [Array.size_setIfInBounds];omega)]
 ·rw [Array.getElem?_setIfInBounds_ne (by omega),Array.getElem?_setIfInBounds_ne (by omega),Array.getElem?_setIfInBounds_self_of_lt (by simp only [Array.size_setIfInBounds];omega)]
 ·rw [Array.getElem?_setIfInBounds_ne (by omega),Array.getElem?_setIfInBounds_self_of_lt (by simp only [Array.size_setIfInBounds];omega)]
 ·rw [Array.getElem?_setIfInBounds_self_of_lt (by simp only [Array.size_setIfInBounds];omega)]
end
theorem BN.put {w:World} {b K i:Nat} {W:List Au} (h:BN w b K W i) (hk:i < K) {x:Au} (hx:W[i]? = some x) :
  BN (((((((w.setCell ⟨b,i * 7,none⟩ (.int .i8 x.op)).setCell ⟨b,i * 7 + 1,none⟩ (.int .i8 x.kind)).setCell ⟨b,i * 7 + 2,none⟩ (.int .i64 x.n)).setCell ⟨b,i * 7 + 3,none⟩ (.int .i64 x.m)).setCell ⟨b,i * 7 + 4,none⟩ (.string x.text)).setCell ⟨b,i * 7 + 5,none⟩ (.int .i64 x.pos)).setCell ⟨b,i * 7 + 6,none⟩ (.int .i64 x.kids)) b K W (i + 1):=by
 obtain⟨cs,h1,h2,h3⟩:=h
 have b0:=h1.set_ (i * 7) (.int .i8 x.op)
 have b1:=b0.set_ (i * 7 + 1) (.int .i8 x.kind)
 have b2:=b1.set_ (i * 7 + 2) (.int .i64 x.n)
 have b3:=b2.set_ (i * 7 + 3) (.int .i64 x.m)
 have b4:=b3.set_ (i * 7 + 4) (.string x.text)
 have b5:=b4.set_ (i * 7 + 5) (.int .i64 x.pos)
 have b6:=b5.set_ (i * 7 + 6) (.int .i64 x.kids)
 refine ⟨PT cs (i * 7) x,b6,by rw [RE,h2],?_⟩
 clear b0 b1 b2 b3 b4 b5 b6 h1
 intro k y hk2 hy j u hj
 have hj7:j < 7:=by have:=(List.getElem?_eq_some_iff.1 hj).1;simpa [Au.cells] using this
 by_cases hki:k=i
 ·subst hki
  have e:x=y:=Option.some.inj (hx.symm.trans hy)
  subst e
  clear hx hy h3
  exact U4 cs (k * 7) x (by omega) j u hj
 ·rw [UH _ _ _ _ (by omega)]
  exact h3 k y (by omega) hy j u hj
theorem MP {w0 w:World} {b i:Nat} (h:Below w0.heap.size w0 w) (hb:w0.heap.size≤b) (v0 v1 v2 v3 v4 v5 v6:Value) :
  Below w0.heap.size w0 (((((((w.setCell ⟨b,i * 7,none⟩ v0).setCell ⟨b,i * 7 + 1,none⟩ v1).setCell ⟨b,i * 7 + 2,none⟩ v2).setCell ⟨b,i * 7 + 3,none⟩ v3).setCell ⟨b,i * 7 + 4,none⟩ v4).setCell ⟨b,i * 7 + 5,none⟩ v5).setCell ⟨b,i * 7 + 6,none⟩ v6):=
 ((((((h.setCell (p:=⟨b,i * 7,none⟩) hb _).setCell (p:=⟨b,i * 7 + 1,none⟩) hb _).setCell (p:=⟨b,i * 7 + 2,none⟩) hb _).setCell (p:=⟨b,i * 7 + 3,none⟩) hb _).setCell (p:=⟨b,i * 7 + 4,none⟩) hb _).setCell (p:=⟨b,i * 7 + 5,none⟩) hb _).setCell (p:=⟨b,i * 7 + 6,none⟩) hb _
theorem Ms (A:Option Addr) (ts:List Au) (c:Nat) (w:World) (hl:ts.length≤16777216) (hT:Bv w A ts) :
  Calls Tryz.prog 41 #[.slice A ts.length c] w fun e w'=>e=.returned (.slice (some ⟨w.heap.size,0,none⟩) ts.length (ts.length + 64))∧BN w' w.heap.size (ts.length + 64) (Fo ts) (ts.length + 64)∧Below w.heap.size w w':=by
 obtain⟨n,hn⟩:∃ n,ts.length=n:=⟨_,rfl⟩
 have hcell:∀ (i:Nat) (x:Au),ts[i]? = some x→∃ b off,A=some ⟨b,off,none⟩∧b < w.heap.size∧As w b off ts:=by
  intro i x hx
  rcases hT with h | ⟨tb,toff,h1,h2,h3⟩
  ·subst h;simp at hx
  ·exact ⟨tb,toff,h1,h2,h3⟩
 have hleft:=fun i (h:i < ts.length)=>LG (ts:=ts) h
 have hright:=fun i (h:ts.length≤i) (h2:i < ts.length + 64)=>Jv (ts:=ts) h h2
 obtain⟨W,hW⟩:=Ex0 (Fo ts)
 rw [← hW]
 simp only [← hW] at hleft hright
 simp only [hn] at hleft hright
 rw [hn] at hl ⊢
 obtain⟨i0,hi0,h⟩:=Option.map_eq_some_iff.1 Qk
 injection h with h1 h
 injection h with h2 h3
 obtain⟨z0,hz0,hs0⟩:=Option.map_eq_some_iff.1 h1
 obtain⟨CS,hCS⟩:=Ex0 (madeCells z0.cells ((n + 64) * 7))
 have hsz:CS.size=(n + 64) * 7:=by rw [hCS,size_madeCells]
 have hmk:∀ wx,(Instr.makeSlice 23 (.int .i64 ((n:Int) + 64)) (.int .i64 ((n:Int) + 64))).run Tryz.prog wx=.ok (.slice (some ⟨wx.heap.size,0,none⟩) (n + 64) (n + 64)) (wx.alloc (.cells CS 120)):=by
  intro wx
  have h:=run_make (P:=Tryz.prog) wx 23 120 i0 z0 Tryz.underlying23 hi0 hz0 .i64 .i64 ((n:Int) + 64) ((n:Int) + 64) (by omega) (by omega) (by rw [h3];omega) (by omega)
  rw [h2,show ((n:Int) + 64).toNat=n + 64 by omega,← hCS] at h
  exact h
 obtain⟨HC,HN,HL,HRT,HKB,HB0⟩:=Hd6 hcell hn hleft hright (show BN (w.alloc (.cells CS 120)) w.heap.size (n + 64) W 0 from ⟨CS,Blk.new w _ _,hsz,fun k x hk=>absurd hk (by omega)⟩) (show Below w.heap.size w (w.alloc (.cells CS 120)) from (Below.refl _ _).alloc (Nat.le_refl _) _)
 clear hcell hn hleft hright hW hT hsz hCS hi0 hz0 hs0 h1 h2 h3
 go_in
 go_wp2_with fail
 go_loopw [4] (fun iv wr=>∃ i:Nat,i≤n + 64∧iv=.int .i64 i∧BN wr w.heap.size (n + 64) W i∧Below w.heap.size w wr) (fun iv _=>n + 64 - (intOf iv).toNat)
 case atStart=>exact ⟨0,by omega,rfl,HKB.out,HB0.out⟩
 case round =>
  obtain⟨i,hi,rfl,hkb,hbel⟩:=hrel
  by_cases hlt:i < n + 64
  ·obtain⟨⟨o0,y0⟩,z0⟩:=hkb.at_ hlt 0 (by omega)
   obtain⟨⟨o1,y1⟩,z1⟩:=hkb.at_ hlt 1 (by omega)
   obtain⟨⟨o2,y2⟩,z2⟩:=hkb.at_ hlt 2 (by omega)
   obtain⟨⟨o3,y3⟩,z3⟩:=hkb.at_ hlt 3 (by omega)
   obtain⟨⟨o4,y4⟩,z4⟩:=hkb.at_ hlt 4 (by omega)
   obtain⟨⟨o5,y5⟩,z5⟩:=hkb.at_ hlt 5 (by omega)
   obtain⟨⟨o6,y6⟩,z6⟩:=hkb.at_ hlt 6 (by omega)
   rw [Nat.add_zero] at y0 z0
   have hii:(i:Int) < n + 64:=by omega
   obtain⟨HK,HB⟩:=Hd2 hkb hbel
   clear hkb hbel
   by_cases hin:i < n
   ·obtain⟨x,hx⟩:∃ x,ts[i]? = some x:=⟨_,List.getElem?_eq_getElem (by rw [HN.out];exact hin)⟩
    obtain⟨b,off,rfl,hbl,hnd⟩:=HC.out i x hx
    obtain⟨c0,c1,c2,c3,c4,c5,c6⟩:=(hnd.below HB.out hbl).all hx
    have hWi:W[i]? = some x:=by rw [HL.out i hin,hx]
    have HWI:=Lh hWi
    clear hx hWi hnd
    go_wp2_with fail
    go_roundw
    case rel=>exact ⟨i + 1,by omega,by go_num,HK.out.put hlt HWI.out,MP HB.out (Nat.le_refl _) _ _ _ _ _ _ _⟩
    case measure=>(simp [intOf];try omega)
   ·have hWi:W[i]? = some (Kv i):=HRT.out i (by omega) (by omega)
    have HWI:=Lh hWi
    clear hWi
    have hge:(n:Int)≤i:=by omega
    go_wp2_with fail
    refine (FZ 9 (i:Int) _ (by omega) (by omega) (by omega) (by omega)).mono ?_
    rintro e w5 ⟨rfl,rfl⟩
    go_wp2_with fail
    go_roundw
    case rel =>
     have hp:=HK.out.put hlt HWI.out
     simp only [Kv] at hp
     exact ⟨i + 1,by omega,by go_num,hp,MP HB.out (Nat.le_refl _) _ _ _ _ _ _ _⟩
    case measure=>(simp [intOf];try omega)
  ·obtain rfl:i=n + 64:=by omega
   obtain⟨HK,HB⟩:=Hd2 hkb hbel
   clear hkb hbel
   go_wp2_with fail
   go_ret
   exact ⟨rfl,HK.out,HB.out⟩
theorem Lk (b:Nat) (ts:List Au) (w:World) (hl:ts.length≤16777216) (hk:BN w b (ts.length + 64) (Fo ts) (ts.length + 64)) :
  Calls Tryz.prog 58 #[.slice (some ⟨b,0,none⟩) ts.length (ts.length + 64)] w fun e w'=>e=.returned (.bool true)∧Below w.heap.size w w':=by
 have hcell:∀ i,ts.length≤i→i < ts.length + 64→∀ j u,(Kv i).cells[j]? = some u→w.cell? ⟨b,i * 7 + j,none⟩=some u:=by
  intro i h1 h2 j u hu
  obtain⟨cs,hb,_,hc⟩:=hk
  rw [hb.cell]
  exact hc i _ h2 (Jv h1 h2) j u hu
 have hbs:=hk.lt
 obtain⟨n,hn⟩:∃ n,ts.length=n:=⟨_,rfl⟩
 rw [hn] at hl hcell ⊢
 have HC:=Lh hcell
 clear hcell hk hn
 go_in
 go_wp2_with fail
 go_loopw [4] (fun iv wr=>∃ i:Nat,n≤i∧i≤n + 64∧iv=.int .i64 i∧Below w.heap.size w wr) (fun iv _=>n + 64 - (intOf iv).toNat)
 case atStart=>exact ⟨n,by omega,by omega,rfl,Below.refl _ _⟩
 case round =>
  obtain⟨i,hi0,hi,rfl,hbel⟩:=hrel
  by_cases hlt:i < n + 64
  ·have hcw:∀ j u,(Kv i).cells[j]? = some u→wr.cell? ⟨b,i * 7 + j,none⟩=some u:=fun j u hu=>(hbel.cell (p:=⟨b,i * 7 + j,none⟩) hbs).trans (HC.out i hi0 hlt j u hu)
   have c0:wr.cell? ⟨b,i * 7,none⟩=some (.int .i8 0):=hcw 0 _ rfl
   have c1:wr.cell? ⟨b,i * 7 + 1,none⟩=some (.int .i8 0):=hcw 1 _ rfl
   have c2:wr.cell? ⟨b,i * 7 + 2,none⟩=some (.int .i64 0):=hcw 2 _ rfl
   have c3:wr.cell? ⟨b,i * 7 + 3,none⟩=some (.int .i64 0):=hcw 3 _ rfl
   have c4:wr.cell? ⟨b,i * 7 + 4,none⟩=some (.string ⟨#[]⟩):=hcw 4 _ rfl
   have c5:wr.cell? ⟨b,i * 7 + 5,none⟩=some (.int .i64 (E3 9 i)):=hcw 5 _ rfl
   have c6:wr.cell? ⟨b,i * 7 + 6,none⟩=some (.int .i64 0):=hcw 6 _ rfl
   have hii:(i:Int) < n + 64:=by omega
   have hself:(E3 9 (i:Int) == E3 9 (i:Int))=true:=by simp
   have HB:=Lh hbel
   clear hcw hbel
   go_wp2_with fail
   go_quiet ((go_at_call 42;exact RU (FZ 9 (i:Int) _ (by omega) (by omega) (by omega) (by omega))))
   go_wp2_with fail
   go_roundw
   case rel=>exact ⟨i + 1,by omega,by omega,by go_num,by have h:=HB.out.alloc HB.out.size (.cells #[.int .i8 0,.int .i8 0,.int .i64 0,.int .i64 0,.string ⟨#[]⟩,.int .i64 (E3 9 i),.int .i64 0] 120);exact ⟨h.os,h.tape,h.output,h.size,h.block⟩⟩
   case measure=>(simp [intOf];try omega)
  ·obtain rfl:i=n + 64:=by omega
   have HB:=Lh hbel
   clear hbel
   go_wp2_with fail
   go_ret
   exact ⟨rfl,HB.out⟩
theorem N7 (A B:Option Addr) (ts:List Au) (c d:Nat) (w:World) (hl:ts.length≤16777216) (ha:Bv w A ts) (hb:Bv w B ts) :
  Calls Tryz.prog 56 #[.slice A ts.length c,.slice B ts.length d] w fun e w'=>e=.returned (.bool true)∧Below w.heap.size w w':=by
 obtain⟨n,hn⟩:∃ n,ts.length=n:=⟨_,rfl⟩
 have hcell:∀ {A:Option Addr},Bv w A ts→∀ (i:Nat) (x:Au),ts[i]? = some x→∃ b off,A=some ⟨b,off,none⟩∧b < w.heap.size∧As w b off ts:=by
  intro A hT i x hx
  rcases hT with h | ⟨tb,toff,h1,h2,h3⟩
  ·subst h;simp at hx
  ·exact ⟨tb,toff,h1,h2,h3⟩
 rw [hn] at hl ⊢
 obtain⟨HA,HB,HN⟩:=Hd3 (hcell ha) (hcell hb) hn
 clear hcell ha hb hn
 go_in
 go_wp2_with fail
 go_loopw [5] (fun iv wr=>∃ i:Nat,i≤n∧iv=.int .i64 i∧Below w.heap.size w wr) (fun iv _=>n - (intOf iv).toNat)
 case atStart=>exact ⟨0,by omega,rfl,Below.refl _ _⟩
 case round =>
  obtain⟨i,hi,rfl,hbel⟩:=hrel
  have HBE:=Lh hbel
  by_cases hlt:i < n
  ·obtain⟨x,hx⟩:∃ x,ts[i]? = some x:=⟨_,List.getElem?_eq_getElem (by rw [HN.out];exact hlt)⟩
   obtain⟨b1,o1,rfl,h1,hc1⟩:=HA.out i x hx
   obtain⟨b2,o2,rfl,h2,hc2⟩:=HB.out i x hx
   obtain⟨c0,c1,c2,c3,c4,c5,c6⟩:=(hc1.below hbel h1).all hx
   obtain⟨d0,d1,d2,d3,d4,d5,d6⟩:=(hc2.below hbel h2).all hx
   have hii:(i:Int) < n:=by omega
   clear hx hc1 hc2 hbel
   go_wp2_with fail
   refine A8 (by kernel_rfl) (by kernel_rfl) ?_
   go_wp2_with fail
   refine AX.normal ?_
   go_wp2_with fail
   go_roundw
   case rel=>exact ⟨i + 1,by omega,by go_num,HBE.out.drew⟩
   case measure=>(simp [intOf];try omega)
  ·clear hbel
   go_wp2_with fail
   go_ret
   exact ⟨rfl,HBE.out⟩
theorem J0 {w:World} {b:Nat} {ts:List Au} (hk:BN w b (ts.length + 64) (Fo ts) (ts.length + 64)):Bv w (some ⟨b,0,none⟩) ts:=by
 refine .inr ⟨b,0,rfl,hk.lt,fun i x hx j u hu=>?_⟩
 have hi:=(List.getElem?_eq_some_iff.1 hx).1
 obtain⟨cs,hb,_,hc⟩:=hk
 rw [show 0 + i * 7 + j=i * 7 + j by omega,hb.cell]
 exact hc i x (by omega) (by rw [LG hi];exact hx) j u hu
theorem Nb (on:Int) (SA TA:Option Addr) (slots:List Int) (sc tc:Nat) (when_:Bool) (ts:List Au) (w:World) (hl:slots.length≤16777216) (ht:ts.length≤16777216) (hT:Bv w TA ts) (hS:AV w SA slots) :
  Calls Tryz.prog 7 #[.agg #[.int .i64 on,.slice SA slots.length sc,.bool when_,.slice TA ts.length tc]] w fun e w'=>∃ b1 b2,e=.returned (.agg #[.int .i64 on,.slice (some ⟨b1,0,none⟩) slots.length (slots.length + 64),.bool when_,.slice (some ⟨b2,0,none⟩) ts.length (ts.length + 64)])∧Blk w' b1 118 (B6 (E7 slots)).toArray∧BN w' b2 (ts.length + 64) (Fo ts) (ts.length + 64)∧Below w.heap.size w w':=by
 obtain⟨W,hW⟩:=Ex0 ((w.alloc (.cells #[.int .i64 on,.slice SA slots.length sc,.bool when_,.slice TA ts.length tc] 25)).alloc (.cells #[.int .i64 0,.slice none 0 0,.bool false,.slice none 0 0] 25))
 have hBW:Below w.heap.size w W:=by rw [hW];exact ((Below.refl _ _).alloc (Nat.le_refl _) _).alloc (by simp) _
 have hzW:W.heap.size=w.heap.size + 1 + 1:=by rw [hW];simp
 have hb0:Blk W w.heap.size 25 #[.int .i64 on,.slice SA slots.length sc,.bool when_,.slice TA ts.length tc]:=by rw [hW];exact (Blk.new _ _ _).alloc _
 have hb1:Blk W (w.heap.size + 1) 25 #[.int .i64 0,.slice none 0 0,.bool false,.slice none 0 0]:=by rw [hW];have:=Blk.new (w.alloc (.cells #[.int .i64 on,.slice SA slots.length sc,.bool when_,.slice TA ts.length tc] 25)) 25 #[.int .i64 0,.slice none 0 0,.bool false,.slice none 0 0];simpa using this
 have hc8:=LI SA slots sc W hl (hS.below hBW)
 obtain⟨n,hn⟩:∃ n,slots.length=n:=⟨_,rfl⟩
 obtain⟨m,hm⟩:∃ m,ts.length=m:=⟨_,rfl⟩
 have hcN:=fun (c:Nat) (w':World) (h:Bv w' TA ts)=>Ms TA ts c w' ht h
 rw [hn] at hc8 hb0 hW ⊢
 rw [hm] at hcN hb0 hW ⊢
 rw [hW] at hc8
 obtain⟨HW,HC8,HCN,HT,HB0,HB1,HBW⟩:=Hd7 hW hc8 hcN hT hb0 hb1 hBW
 clear hW hc8 hcN hT hS hb0 hb1 hBW hl ht hn hm
 go_in
 go_wp2_with fail
 refine HC8.out.mono ?_
 rintro e w1 ⟨rfl,hS1,hbel1⟩
 rw [← HW.out] at hbel1 hS1
 rw [← HW.out]
 have k0:=HB0.out.below hbel1 (by omega)
 have k1:=HB1.out.below hbel1 (by omega)
 have hz1:=hbel1.size
 have hlt0:w.heap.size < w1.heap.size:=by omega
 have hlt1:w.heap.size + 1 < w1.heap.size:=by omega
 have x0:=k0.cell 0
 have x1:=k0.cell 1
 have x2:=k0.cell 2
 have x3:=k0.cell 3
 have z0:=k0.frozen 0
 have z1:=k0.frozen 1
 have z2:=k0.frozen 2
 have z3:=k0.frozen 3
 obtain⟨s1,hs1⟩:=Ex0 W.heap.size
 rw [← hs1] at hS1 ⊢
 have hsW:w.heap.size + 1 < s1:=by omega
 have hlt2:s1 < w1.heap.size:=hS1.lt
 obtain⟨HS1,HL1,K0,K1⟩:=Hd4 hS1 hbel1 k0 k1
 clear hS1 hbel1 k0 k1 hs1
 go_wp2_with fail
 have hB1:Below w.heap.size w (w1.setCell ⟨w.heap.size,1,none⟩ (.slice (some ⟨s1,0,none⟩) n (n + 64))):=(HBW.out.trans (HL1.out.mono (by omega))).setCell (p:=⟨w.heap.size,1,none⟩) (Nat.le_refl _) _
 refine (HCN.out tc _ (HT.out.below hB1)).mono ?_
 rintro e w2 ⟨rfl,hT2,hbel2⟩
 have hzs:(w1.setCell ⟨w.heap.size,1,none⟩ (.slice (some ⟨s1,0,none⟩) n (n + 64))).heap.size=w1.heap.size:=by simp [World.setCell]
 rw [hzs] at hbel2 hT2
 rw [hzs]
 have q0:=(K0.out.set_ 1 (.slice (some ⟨s1,0,none⟩) n (n + 64))).below hbel2 hlt0
 have q1:=(K1.out.far (p:=⟨w.heap.size,1,none⟩) (by show w.heap.size + 1≠w.heap.size;omega) (.slice (some ⟨s1,0,none⟩) n (n + 64))).below hbel2 hlt1
 have hS2:=(HS1.out.far (p:=⟨w.heap.size,1,none⟩) (by show s1≠w.heap.size;omega) (.slice (some ⟨s1,0,none⟩) n (n + 64))).below hbel2 hlt2
 have hz2:=hbel2.size
 rw [hzs] at hz2
 obtain⟨s2,hs2⟩:=Ex0 w1.heap.size
 rw [← hs2] at hT2 ⊢
 have hlt02:w.heap.size < w2.heap.size:=by omega
 have hlt12:w.heap.size + 1 < w2.heap.size:=by omega
 have hlt3:w.heap.size + 1 < s2:=by omega
 have hB2:Below w.heap.size w w2:=hB1.trans (hbel2.mono (by omega))
 clear x0 x1 x2 x3 z0 z1 z2 z3
 have x0:=q0.cell 0
 have x1:=q0.cell 1
 have x2:=q0.cell 2
 have x3:=q0.cell 3
 have z0:=q0.frozen 0
 have z1:=q0.frozen 1
 have z2:=q0.frozen 2
 have z3:=q0.frozen 3
 have y0:=q1.cell 0
 have y1:=q1.cell 1
 have y2:=q1.cell 2
 have y3:=q1.cell 3
 have v0:=q1.frozen 0
 have v1:=q1.frozen 1
 have v2:=q1.frozen 2
 have v3:=q1.frozen 3
 obtain⟨Q0,Q1,HS2,HT2,HB2⟩:=Hd5 q0 q1 hS2 hT2 hB2
 clear q0 q1 hS2 hT2 hB2 hB1 hbel2 hzs hs2
 go_wp2_with fail
 have r1:=(((((Q1.out.far (p:=⟨w.heap.size,3,none⟩) (by show w.heap.size + 1≠w.heap.size;omega) (.slice (some ⟨s2,0,none⟩) m (m + 64))).set_ 0 (.int .i64 on)).set_ 1 (.slice (some ⟨s1,0,none⟩) n (n + 64))).set_ 2 (.bool when_)).set_ 3 (.slice (some ⟨s2,0,none⟩) m (m + 64)))
 have f0:=r1.cell 0
 have f1:=r1.cell 1
 have f2:=r1.cell 2
 have f3:=r1.cell 3
 have hSf:=((((HS2.out.far (p:=⟨w.heap.size,3,none⟩) (by show s1≠w.heap.size;omega) (.slice (some ⟨s2,0,none⟩) m (m + 64))).far (p:=⟨w.heap.size + 1,0,none⟩) (by show s1≠w.heap.size + 1;omega) (.int .i64 on)).far (p:=⟨w.heap.size + 1,1,none⟩) (by show s1≠w.heap.size + 1;omega) (.slice (some ⟨s1,0,none⟩) n (n + 64))).far (p:=⟨w.heap.size + 1,2,none⟩) (by show s1≠w.heap.size + 1;omega) (.bool when_)).far (p:=⟨w.heap.size + 1,3,none⟩) (by show s1≠w.heap.size + 1;omega) (.slice (some ⟨s2,0,none⟩) m (m + 64))
 have hTf:=((((HT2.out.far (p:=⟨w.heap.size,3,none⟩) (by show s2≠w.heap.size;omega) (.slice (some ⟨s2,0,none⟩) m (m + 64))).far (p:=⟨w.heap.size + 1,0,none⟩) (by show s2≠w.heap.size + 1;omega) (.int .i64 on)).far (p:=⟨w.heap.size + 1,1,none⟩) (by show s2≠w.heap.size + 1;omega) (.slice (some ⟨s1,0,none⟩) n (n + 64))).far (p:=⟨w.heap.size + 1,2,none⟩) (by show s2≠w.heap.size + 1;omega) (.bool when_)).far (p:=⟨w.heap.size + 1,3,none⟩) (by show s2≠w.heap.size + 1;omega) (.slice (some ⟨s2,0,none⟩) m (m + 64))
 have hBf:=((((HB2.out.setCell (p:=⟨w.heap.size,3,none⟩) (by show w.heap.size≤w.heap.size;omega) (.slice (some ⟨s2,0,none⟩) m (m + 64))).setCell (p:=⟨w.heap.size + 1,0,none⟩) (by show w.heap.size≤w.heap.size + 1;omega) (.int .i64 on)).setCell (p:=⟨w.heap.size + 1,1,none⟩) (by show w.heap.size≤w.heap.size + 1;omega) (.slice (some ⟨s1,0,none⟩) n (n + 64))).setCell (p:=⟨w.heap.size + 1,2,none⟩) (by show w.heap.size≤w.heap.size + 1;omega) (.bool when_)).setCell (p:=⟨w.heap.size + 1,3,none⟩) (by show w.heap.size≤w.heap.size + 1;omega) (.slice (some ⟨s2,0,none⟩) m (m + 64))
 clear r1 x0 x1 x2 x3 y0 y1 y2 y3 z0 z1 z2 z3 v0 v1 v2 v3
 exact bodyPost_ret (v:=.agg #[.int .i64 on,.slice (some ⟨s1,0,none⟩) n (n + 64),.bool when_,.slice (some ⟨s2,0,none⟩) m (m + 64)]) (by simp [results,Tryz.results7,go_sem,f0,f1,f2,f3]) rfl ⟨s1,s2,rfl,hSf,hTf,hBf⟩
section
variable (on:Int) (SA TA SB TB:Option Addr) (slots:List Int) (sc tc sd td:Nat) (when_:Bool) (ts:List Au) (w:World) (hl:slots.length≤16777216) (ht:ts.length≤16777216)
include hl ht
theorem Mq (b1 b2:Nat) (h1:Blk w b1 118 (B6 (E7 slots)).toArray) (h2:BN w b2 (ts.length + 64) (Fo ts) (ts.length + 64)) :
  Calls Tryz.prog 14 #[.agg #[.int .i64 on,.slice (some ⟨b1,0,none⟩) slots.length (slots.length + 64),.bool when_,.slice (some ⟨b2,0,none⟩) ts.length (ts.length + 64)]] w fun e w'=>e=.returned (.bool true)∧Below w.heap.size w w':=by
 have hb:=(Below.refl w.heap.size w).alloc (Nat.le_refl _) (.cells #[.int .i64 on,.slice (some ⟨b1,0,none⟩) slots.length (slots.length + 64),.bool when_,.slice (some ⟨b2,0,none⟩) ts.length (ts.length + 64)] 25)
 have hs:=JS b1 slots _ hl (h1.below hb h1.lt)
 have hn:=Lk b2 ts _ ht (h2.below hb)
 obtain⟨n,hnn⟩:∃ n,slots.length=n:=⟨_,rfl⟩
 obtain⟨m,hmm⟩:∃ m,ts.length=m:=⟨_,rfl⟩
 rw [hnn] at hs hn hb ⊢
 rw [hmm] at hs hn hb ⊢
 obtain⟨HS,HN,HB⟩:=Hd3 hs hn hb
 clear hs hn hb h1 h2 hnn hmm
 go_in
 go_wp2_with fail
 refine HS.out.mono ?_
 rintro e w1 ⟨rfl,rfl⟩
 go_wp2_with fail
 refine HN.out.mono ?_
 rintro e w2 ⟨rfl,hb2⟩
 go_wp2_with fail
 go_ret
 exact ⟨rfl,HB.out.trans (hb2.mono (by simp))⟩
theorem Od (hS:AV w SA slots) (hT:Bv w TA ts) (hSB:AV w SB slots) (hTB:Bv w TB ts) :
  Calls Tryz.prog 13 #[.agg #[.int .i64 on,.slice SA slots.length sc,.bool when_,.slice TA ts.length tc],.agg #[.int .i64 on,.slice SB slots.length sd,.bool when_,.slice TB ts.length td]] w fun e w'=>e=.returned (.bool true)∧Below w.heap.size w w':=by
 have hqs:=fun (wx:World) (h:Below w.heap.size w wx)=>Mn SA SB slots sc sd wx hl (hS.below h) (hSB.below h)
 have hqn:=fun (wx:World) (h:Below w.heap.size w wx)=>N7 TA TB ts tc td wx ht (hT.below h) (hTB.below h)
 obtain⟨n,hnn⟩:∃ n,slots.length=n:=⟨_,rfl⟩
 obtain⟨m,hmm⟩:∃ m,ts.length=m:=⟨_,rfl⟩
 simp only [hnn] at hqs ⊢
 simp only [hmm] at hqn ⊢
 have hb:=((Below.refl w.heap.size w).alloc (Nat.le_refl _) (.cells #[.int .i64 on,.slice SA n sc,.bool when_,.slice TA m tc] 25)).alloc (by simp) (.cells #[.int .i64 on,.slice SB n sd,.bool when_,.slice TB m td] 25)
 have k0:=(Blk.new w 25 #[.int .i64 on,.slice SA n sc,.bool when_,.slice TA m tc]).alloc (.cells #[.int .i64 on,.slice SB n sd,.bool when_,.slice TB m td] 25)
 have k1:=Blk.new (w.alloc (.cells #[.int .i64 on,.slice SA n sc,.bool when_,.slice TA m tc] 25)) 25 #[.int .i64 on,.slice SB n sd,.bool when_,.slice TB m td]
 simp only [World.size_alloc] at k1
 obtain⟨HQS,HQN,HB,K0,K1⟩:=Hd5 hqs hqn hb k0 k1
 have hsz:((w.alloc (.cells #[.int .i64 on,.slice SA n sc,.bool when_,.slice TA m tc] 25)).alloc (.cells #[.int .i64 on,.slice SB n sd,.bool when_,.slice TB m td] 25)).heap.size=w.heap.size + 1 + 1:=by simp
 have HZ:=Lh hsz
 have hwb:(when_ != when_)=false:=by simp
 have hob:(on != on)=false:=by simp
 clear hqs hqn hb k0 k1 hsz hS hT hSB hTB hnn hmm
 go_in
 go_wp2_with fail
 refine (HQS.out _ HB.out).mono ?_
 rintro e w1 ⟨rfl,hb1⟩
 have B1:=Lh (HB.out.trans (hb1.mono (by rw [HZ.out];omega)))
 have x3:=(K0.out.below hb1 (by rw [HZ.out];omega)).cell 3
 have y3:=(K1.out.below hb1 (by rw [HZ.out];omega)).cell 3
 clear hb1
 go_wp2_with fail
 refine (HQN.out _ B1.out).mono ?_
 rintro e w2 ⟨rfl,hb2⟩
 go_wp2_with fail
 go_ret
 exact ⟨rfl,B1.out.trans (hb2.mono B1.out.size)⟩
end
end Go.Proofs.YtmpcbaflcogmmaaGreatDoor
