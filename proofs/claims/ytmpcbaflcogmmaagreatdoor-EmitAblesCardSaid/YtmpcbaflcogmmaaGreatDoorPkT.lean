/- PkT -/
import Derived.Lib.AppendIntMem
import Derived.Lib.ItoaLen
import Derived.Test.YtmpcbaflcogmmaaGreatDoorSerial3
import Derived.Test.YtmpcbaflcogmmaaGreatDoorSubst
import Derived.Test.YtmpcbaflcogmmaaGreatDoorWideA
namespace Go.Proofs.YtmpcbaflcogmmaaGreatDoor
open Go.RowKit
set_option linter.all false
set_option maxHeartbeats 4000000
set_option maxRecDepth 100000
def GI (w:World) (B:Nat):Prop:=Lib.TabBelow Tryz.prog B w "internal/strconv.uint64pow10" .u64 Lib.pow10Tab
theorem GI.on {w w':World} {B:Nat} (h:GI w B) (hb:Below B w w'):GI w' B:=Lib.TabBelow.on h hb
def JF (i:Nat):ByteArray:=(⟨#[33]⟩:ByteArray) ++ ⟨(Lib.itoa (E3 9 (i:Int))).toArray⟩
theorem Po (i:Nat) (w:World) (B:Nat) (hB:B≤w.heap.size) (ht:GI w B) (hi:i≤1000000000):Calls Tryz.prog 43 #[.int .i64 9,.int .i64 i] w fun e w'=>e=.returned (.string (JF i))∧Below w.heap.size w w':=by
 have hit:=fun (n:Int) (h0 : -9223372036854775808≤n) (h1:n≤9223372036854775807)=>Any.strconv_Itoa Vp n h0 h1 w ht.here
 have HIT:=Lh hit
 clear hit ht
 go_in
 go_wp2_with fail
 refine (FZ 9 (i:Int) _ (by omega) (by omega) (by omega) (by omega)).mono ?_
 rintro e w5 ⟨rfl,rfl⟩
 go_wp2_with fail
 refine (HIT.out (E3 9 (i:Int)) (by unfold E3;omega) (by unfold E3;omega)).mono ?_
 rintro e w6 ⟨rfl,k,os,rfl⟩
 have hbg:Below w.heap.size w (Sort.grow (w.drewN k) os):=Lib.below_grow _ _ (Nat.le_refl _) _ _
 obtain⟨W,hW⟩:=Ex0 (Sort.grow (w.drewN k) os)
 obtain⟨D,hD⟩:∃ D:ByteArray,D=⟨(Lib.itoa (E3 9 (i:Int))).toArray⟩:=⟨_,rfl⟩
 have hM:JF i=(⟨#[33]⟩:ByteArray) ++ D:=by rw [hD];rfl
 have hDs:D.size≤21:=by rw [hD];exact (show (Lib.itoa (E3 9 (i:Int))).toArray.size≤21 by rw [List.size_toArray];exact Lib.itoa_length_le (E3 9 (i:Int)) (by unfold E3;omega) (by unfold E3;omega))
 rw [← hD,← hW]
 rw [← hW] at hbg
 clear hD hW
 go_wp2_with fail
 go_ret
 exact ⟨by rw [hM];rfl,hbg⟩
theorem Ob:(Tryz.prog.info? 9).map (fun i=>(i.zero,i.size,i.bytes))=some (some (.string ⟨#[]⟩),1,16):=by kernel_rfl
def CF (l:List ByteArray):List Value:=l.map Value.string
def E0 (l:List ByteArray):List ByteArray:=l ++ (List.range 64).map fun j=>JF (l.length + j)
theorem Mz (l:List ByteArray):(E0 l).length=l.length + 64:=by simp [E0]
theorem LD {l:List ByteArray} {i:Nat} (h:i < l.length):(E0 l)[i]? = l[i]?:=List.getElem?_append_left h
theorem J4 {l:List ByteArray} {i:Nat} (h:l.length≤i) (h2:i < l.length + 64):(E0 l)[i]? = some (JF i):=by
 unfold E0
 rw [List.getElem?_append_right h,List.getElem?_map,List.getElem?_range (by omega)]
 show some (JF (l.length + (i - l.length)))=_
 congr 2
 omega
theorem Qe (K:Nat):madeCells #[Value.string ⟨#[]⟩] K=(CF (List.replicate K ⟨#[]⟩)).toArray:=by
 have:=toList_madeCells_one (.string ⟨#[]⟩) K
 rw [← Array.toArray_toList (xs:=madeCells #[Value.string ⟨#[]⟩] K),this]
 simp [CF]
theorem My {l:List ByteArray} {i:Nat} {v:ByteArray} {K:Nat} (h:i < K) (hl:K≤l.length) (hv:l[i]? = some v):((CF (l.take i ++ List.replicate (K - i) ⟨#[]⟩)).toArray).setIfInBounds i (.string v)=(CF (l.take (i + 1) ++ List.replicate (K - (i + 1)) ⟨#[]⟩)).toArray:=by
 unfold CF
 rw [List.setIfInBounds_toArray]
 congr 1
 obtain⟨d,hd⟩:∃ d,K - i=d + 1:=⟨K - i - 1,by omega⟩
 rw [hd,show K - (i + 1)=d by omega,List.replicate_succ,List.map_append,List.map_cons,List.set_append_right _ _ (by simp;omega),List.length_map,List.length_take,show i - min i l.length=0 by omega,List.take_add_one,hv]
 simp
theorem Mg (A:Option Addr) (l:List ByteArray) (c:Nat) (w:World) (hl:l.length≤16777216) (hb:BE w A l) (htb:GI w w.heap.size) :
  Calls Tryz.prog 9 #[.slice A l.length c] w fun e w'=>e=.returned (.slice (some ⟨w.heap.size,0,none⟩) l.length (l.length + 64))∧Blk w' w.heap.size 9 (CF (E0 l)).toArray∧Below w.heap.size w w':=by
 obtain⟨n,hn⟩:∃ n,l.length=n:=⟨_,rfl⟩
 have hcell:∀ i x,l[i]? = some x→∃ b off,A=some ⟨b,off,none⟩∧b < w.heap.size∧w.cell? ⟨b,off + i,none⟩=some (.string x):=hb
 have hlen:=Mz l
 have hleft:=fun i (h:i < l.length)=>LD (l:=l) h
 have hright:=fun i (h:l.length≤i) (h2:i < l.length + 64)=>J4 (l:=l) h h2
 obtain⟨W,hW⟩:=Ex0 (E0 l)
 rw [← hW] at hlen ⊢
 simp only [← hW] at hleft hright
 simp only [hn] at hlen hleft hright
 rw [hn] at hl ⊢
 have hmk:∀ wx,(Instr.makeSlice 27 (.int .i64 ((n:Int) + 64)) (.int .i64 ((n:Int) + 64))).run Tryz.prog wx=.ok (.slice (some ⟨wx.heap.size,0,none⟩) (n + 64) (n + 64)) (wx.alloc (.cells (CF (W.take 0 ++ List.replicate (n + 64 - 0) ⟨#[]⟩)).toArray 9)):=by
  intro wx
  have h:=run_make_row' (P:=Tryz.prog) 27 9 (.string ⟨#[]⟩) 16 Tryz.underlying27 Ob rfl .i64 .i64 (n + 64) (by omega) (by omega) wx
  simp only [Qe] at h
  exact h
 obtain⟨HC,HN,HLE,HL,HRT,HKB,HB0,HTB⟩:=Hd8 hcell hn hlen hleft hright (Blk.new w 9 (CF (W.take 0 ++ List.replicate (n + 64 - 0) ⟨#[]⟩)).toArray) (show Below w.heap.size w (w.alloc (.cells (CF (W.take 0 ++ List.replicate (n + 64 - 0) ⟨#[]⟩)).toArray 9)) from (Below.refl _ _).alloc (Nat.le_refl _) _) htb
 clear hcell hn hlen hleft hright hW hb htb
 go_in
 go_wp2_with fail
 go_loopw [4] (fun iv wr=>∃ i:Nat,i≤n + 64∧iv=.int .i64 i∧Blk wr w.heap.size 9 (CF (W.take i ++ List.replicate (n + 64 - i) ⟨#[]⟩)).toArray∧Below w.heap.size w wr) (fun iv _=>n + 64 - (intOf iv).toNat)
 case atStart=>exact ⟨0,by omega,rfl,HKB.out,HB0.out⟩
 case round =>
  obtain⟨i,hi,rfl,hkb,hbel⟩:=hrel
  by_cases hlt:i < n + 64
  ·have hcz:wr.cell? ⟨w.heap.size,i,none⟩=some (.string ⟨#[]⟩):=by
    rw [hkb.cell i]
    unfold CF
    rw [List.getElem?_toArray,List.getElem?_map,List.getElem?_append_right (by rw [List.length_take];omega),List.length_take,List.getElem?_replicate,if_pos (by rw [HLE.out];omega)]
    rfl
   have hcf:=hkb.frozen i
   have hii:(i:Int) < n + 64:=by omega
   obtain⟨HK,HB⟩:=Hd2 hkb hbel
   clear hkb hbel
   by_cases hin:i < n
   ·obtain⟨x,hx⟩:∃ x,l[i]? = some x:=⟨_,List.getElem?_eq_getElem (by rw [HN.out];exact hin)⟩
    obtain⟨b,off,rfl,hbl,hc⟩:=HC.out i x hx
    have hcw:wr.cell? ⟨b,off + i,none⟩=some (.string x):=(HB.out.cell (p:=⟨b,_,none⟩) hbl).trans hc
    have hWi:W[i]? = some x:=by rw [HL.out i hin,hx]
    have HWI:=Lh hWi
    clear hx hWi hc
    go_wp2_with fail
    go_roundw
    case rel =>
     have hs:=HK.out.set_ i (.string x)
     rw [My hlt (by rw [HLE.out];exact Nat.le_refl _) HWI.out] at hs
     exact ⟨i + 1,by omega,by go_num,hs,HB.out.setCell (p:=⟨w.heap.size,i,none⟩) (Nat.le_refl _) _⟩
    case measure=>(simp [intOf];try omega)
   ·have hWi:W[i]? = some (JF i):=HRT.out i (by omega) (by omega)
    have HWI:=Lh hWi
    clear hWi
    have hge:(n:Int)≤i:=by omega
    go_wp2_with fail
    refine (Po i wr w.heap.size HB.out.size (HTB.out.on HB.out) (by omega)).mono ?_
    rintro e w5 ⟨rfl,hb5⟩
    have hk5:=HK.out.below hb5 HK.out.lt
    have hcf:=hk5.frozen i
    have hcz:=(hk5.cell i).trans ((HK.out.cell i).symm.trans hcz)
    obtain⟨HB5,HK5⟩:=Hd2 (HB.out.trans (hb5.mono HB.out.size)) hk5
    clear hk5 hb5
    go_wp2_with fail
    go_roundw
    case rel =>
     have hs:=HK5.out.set_ i (.string (JF i))
     rw [My hlt (by rw [HLE.out];exact Nat.le_refl _) HWI.out] at hs
     exact ⟨i + 1,by omega,by go_num,hs,HB5.out.setCell (p:=⟨w.heap.size,i,none⟩) (Nat.le_refl _) _⟩
    case measure=>(simp [intOf];try omega)
  ·obtain rfl:i=n + 64:=by omega
   obtain⟨HK,HB⟩:=Hd2 hkb hbel
   have hfull:W.take (n + 64) ++ List.replicate (n + 64 - (n + 64)) ⟨#[]⟩=W:=by rw [List.take_of_length_le (by rw [HLE.out];exact Nat.le_refl _)];simp
   have HF:=Lh hfull
   clear hkb hbel hfull
   go_wp2_with fail
   go_ret
   have h:=HK.out
   rw [HF.out] at h
   exact ⟨rfl,h,HB.out⟩
theorem Ll (b:Nat) (l:List ByteArray) (w:World) (hl:l.length≤16777216) (htb:GI w w.heap.size) (hk:Blk w b 9 (CF (E0 l)).toArray) :
  Calls Tryz.prog 18 #[.slice (some ⟨b,0,none⟩) l.length (l.length + 64)] w fun e w'=>e=.returned (.bool true)∧Below w.heap.size w w':=by
 obtain⟨n,hn⟩:∃ n,l.length=n:=⟨_,rfl⟩
 have hcell:∀ i,n≤i→i < n + 64→w.cell? ⟨b,i,none⟩=some (.string (JF i)):=by
  intro i h1 h2
  rw [hk.cell i]
  unfold CF
  rw [List.getElem?_toArray,List.getElem?_map,J4 (by omega) (by omega)]
  rfl
 rw [hn] at hl ⊢
 have hbs:=hk.lt
 obtain⟨HC,HTB⟩:=Hd2 hcell htb
 clear hcell hk hn htb
 go_in
 go_wp2_with fail
 go_loopw [4,5] (fun iv _ wr=>∃ i:Nat,n≤i∧i≤n + 64∧iv=.int .i64 i∧Below w.heap.size w wr) (fun iv _ _=>n + 64 - (intOf iv).toNat)
 case atStart=>exact ⟨n,by omega,by omega,rfl,Below.refl _ _⟩
 case round =>
  obtain⟨i,hi0,hi,rfl,hbel⟩:=hrel
  by_cases hlt:i < n + 64
  ·have hc:=(hbel.cell (p:=⟨b,i,none⟩) hbs).trans (HC.out i hi0 hlt)
   have hii:(i:Int) < n + 64:=by omega
   have HB:=Lh hbel
   clear hbel
   go_wp2_with fail
   refine (Po i wr w.heap.size HB.out.size (HTB.out.on HB.out) (by omega)).mono ?_
   rintro e w5 ⟨rfl,hb5⟩
   have HB5:=Lh (HB.out.trans (hb5.mono HB.out.size))
   clear hb5
   go_wp2_with fail
   go_roundw
   case rel=>exact ⟨i + 1,by omega,by omega,by go_num,HB5.out⟩
   case measure=>(simp [intOf];try omega)
  ·have hge:(n:Int) + 64≤i:=by omega
   have HB:=Lh hbel
   clear hbel
   go_wp2_with fail
   go_ret
   exact ⟨rfl,HB.out⟩
theorem Nd (A B:Option Addr) (l:List ByteArray) (c d:Nat) (w:World) (hl:l.length≤16777216) (ha:BE w A l) (hb:BE w B l) :
  Calls Tryz.prog 17 #[.slice A l.length c,.slice B l.length d] w fun e w'=>e=.returned (.bool true)∧Below w.heap.size w w':=by
 obtain⟨n,hn⟩:∃ n,l.length=n:=⟨_,rfl⟩
 have hac:∀ i x,l[i]? = some x→∃ b off,A=some ⟨b,off,none⟩∧b < w.heap.size∧w.cell? ⟨b,off + i,none⟩=some (.string x):=ha
 have hbc:∀ i x,l[i]? = some x→∃ b off,B=some ⟨b,off,none⟩∧b < w.heap.size∧w.cell? ⟨b,off + i,none⟩=some (.string x):=hb
 rw [hn] at hl ⊢
 obtain⟨HA,HB,HN⟩:=Hd3 hac hbc hn
 clear hac hbc ha hb hn
 go_in
 go_wp2_with fail
 go_loopw [5] (fun iv wr=>∃ i:Nat,i≤n∧iv=.int .i64 i∧Below w.heap.size w wr) (fun iv _=>n - (intOf iv).toNat)
 case atStart=>exact ⟨0,by omega,rfl,Below.refl _ _⟩
 case round =>
  obtain⟨i,hi,rfl,hbel⟩:=hrel
  have HBE:=Lh hbel
  by_cases hlt:i < n
  ·obtain⟨x,hx⟩:∃ x,l[i]? = some x:=⟨_,List.getElem?_eq_getElem (by rw [HN.out];exact hlt)⟩
   obtain⟨b1,o1,rfl,h1,hc1⟩:=HA.out i x hx
   obtain⟨b2,o2,rfl,h2,hc2⟩:=HB.out i x hx
   have hd1:wr.cell? ⟨b1,o1 + i,none⟩=some (.string x):=(hbel.cell (p:=⟨b1,_,none⟩) h1).trans hc1
   have hd2:wr.cell? ⟨b2,o2 + i,none⟩=some (.string x):=(hbel.cell (p:=⟨b2,_,none⟩) h2).trans hc2
   have hii:(i:Int) < n:=by omega
   clear hx hc1 hc2 hbel
   go_wp2_with fail
   refine A8 (by kernel_rfl) (by kernel_rfl) ?_
   go_wp2_with fail
   refine AX.normal ?_
   go_wp2_with fail
   go_roundw
   case rel=>exact ⟨i + 1,by omega,by go_num,HBE.out.drew⟩
   case measure=>(simp [intOf];try omega)
  ·clear hbel
   go_wp2_with fail
   go_ret
   exact ⟨rfl,HBE.out⟩
theorem IK {w:World} {b:Nat} {l:List ByteArray} (hk:Blk w b 9 (CF (E0 l)).toArray):BE w (some ⟨b,0,none⟩) l:=
 fun k x hx=>⟨b,0,rfl,hk.lt,by
  have hkl:=(List.getElem?_eq_some_iff.1 hx).1
  rw [Nat.zero_add,hk.cell k]
  unfold CF
  rw [List.getElem?_toArray,List.getElem?_map,LD hkl,hx]
  rfl⟩
end Go.Proofs.YtmpcbaflcogmmaaGreatDoor
