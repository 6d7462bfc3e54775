/- Emit7 Emit7S CopyL -/
import Derived.IntWalk
import Derived.Test.YtmpcbaflcogmmaaGreatDoorAble
import Derived.Test.YtmpcbaflcogmmaaGreatDoorEmit1
import Derived.Test.YtmpcbaflcogmmaaGreatDoorSerial3
import Derived.Test.YtmpcbaflcogmmaaGreatDoorSizesT
namespace Go.Proofs.YtmpcbaflcogmmaaGreatDoor
open Go.RowKit
set_option linter.all false
set_option maxHeartbeats 1600000
set_option maxRecDepth 100000
noncomputable def Ff {κ:Type} (eqb:κ→κ→Bool):Nat→(κ→Option Int)→List κ→κ→Option Int
 | _,f,[]=>f
 | k,f,x :: r=>Ff eqb (k + 1) (if (f x).isNone=true∧k < 4096 then (fun y=>if eqb y x=true then some (k:Int) else f y) else f) r
noncomputable def Dp (l:List Int):Int→Option Int:=Ff Fg.eqb 0 (fun _=>none) l
noncomputable def DA (l:List ByteArray):ByteArray→Option Int:=Ff Fb.eqb 0 (fun _=>none) l
theorem NB (A:Option Addr) (l:List Int) (n c:Nat) (w:World) (hl:Ch w A l) (hn:l.length=n) (hl2:n≤100000000) :
  Calls Tryz.prog 46 #[.slice A n c] w fun e w'=>∃ mb,e=.returned (.map (some mb))∧w.heap.size≤mb∧MK Fg w' mb (fun n=>LY (Dp l n))∧Below w.heap.size w w':=by
 have hmm:=@run_makeMap Tryz.prog
 obtain⟨R,hR⟩:=Ex0 (Dp l)
 rw [← hR]
 obtain⟨HR,HL,HN⟩:=Hd3 hR hl hn
 have m0:=MK.made Fg w
 have b0:Below w.heap.size w (w.alloc (.map #[] 0)):=(Below.refl _ _).alloc (Nat.le_refl _) _
 obtain⟨M0,B0⟩:=Hd2 m0 b0
 clear hR hl hn m0 b0
 go_in
 go_wp2_with fail
 go_loopw [4,5,6,7,11] (fun _ _ _ _ iv wr=>∃ (k:Nat) (f:Int→Option Int),k≤n∧iv=.int .i64 k∧Hid (R=Ff Fg.eqb k f (l.drop k))∧MK Fg wr w.heap.size (fun n=>LY (f n))∧Below w.heap.size w wr) (fun _ _ _ _ iv _=>n - (intOf iv).toNat)
 case atStart=>exact ⟨0,fun _=>none,by omega,rfl,by rw [HR.out];rfl,M0.out,B0.out⟩
 case round =>
  obtain⟨k,f,hkn,rfl,HRk,hmk,hbel⟩:=hrel
  by_cases hlt:k < n
  ·obtain⟨x,hx⟩:∃ x,l[k]? = some x:=⟨_,List.getElem?_eq_getElem (by rw [HN.out];exact hlt)⟩
   obtain⟨b,o,rfl,hbs,hc0⟩:=HL.out k x hx
   have hcj:wr.cell? ⟨b,o + k,none⟩=some (.int .i64 x):=(hbel.cell (p:=⟨b,_,none⟩) hbs).trans hc0
   have hkI:(k:Int) < n:=by omega
   have hlk:=hmk.lookup Fg Tryz.underlying98 GP x true
   obtain⟨w2,hup,hmk2,hg2⟩:=hmk.update Fg Tryz.underlying98 x (.int .i64 k)
   have hb2:=hbel.grown hg2 hbel.size (fun q hq=>by injection hq with hq;omega)
   have hup2:(Instr.mapUpdate 98 (.map (some w.heap.size)) (.int .i64 x) (.int .i64 k)).run Tryz.prog wr=.ok () w2:=hup
   have hdrop:l.drop k=x :: l.drop (k + 1):=by
    obtain⟨hlt',e⟩:=List.getElem?_eq_some_iff.1 hx
    rw [List.drop_eq_getElem_cons hlt',e]
   obtain⟨HDR,HM,HM2,HB,HB2⟩:=Hd5 hdrop hmk hmk2 hbel hb2
   obtain⟨fx,hfx⟩:∃ fx,f x=fx:=⟨_,rfl⟩
   have HFX:=Lh hfx
   simp only [hfx] at hlk
   clear hx hbs hc0 hup hmk hmk2 hg2 hbel hb2 hdrop hfx
   cases fx with
   | none =>
    have hl2:(Instr.lookup 98 (.map (some w.heap.size)) (.int .i64 x) true).run Tryz.prog wr=.ok (.tuple #[.int .i64 0,.bool false]) wr:=hlk
    clear hlk
    by_cases h4:k < 4096
    ·have h4I:(k:Int) < 4096:=by omega
     have hnx:R=Ff Fg.eqb (k + 1) (fun y=>if Fg.eqb y x=true then some (k:Int) else f y) (l.drop (k + 1)):=by
      rw [HRk.out,HDR.out,Ff,if_pos ⟨by rw [HFX.out];rfl,h4⟩]
     have HNX:=Lh hnx
     clear hnx
     go_wp2_with fail
     go_roundw
     case rel=>exact ⟨k + 1,_,by omega,by go_num,HNX.out,HM2.out.congr Fg (fun y=>by unfold upd;split <;> rfl),HB2.out⟩
     case measure=>(simp [intOf];try omega)
    ·have h4I:¬ (k:Int) < 4096:=by omega
     have hnx:R=Ff Fg.eqb (k + 1) f (l.drop (k + 1)):=by
      rw [HRk.out,HDR.out,Ff,if_neg (fun h=>h4 h.2)]
     have HNX:=Lh hnx
     clear hnx
     go_wp2_with fail
     go_roundw
     case rel=>exact ⟨k + 1,f,by omega,by go_num,HNX.out,HM.out,HB.out⟩
     case measure=>(simp [intOf];try omega)
   | some v =>
    have hl2:(Instr.lookup 98 (.map (some w.heap.size)) (.int .i64 x) true).run Tryz.prog wr=.ok (.tuple #[.int .i64 v,.bool true]) wr:=hlk
    clear hlk
    have hnx:R=Ff Fg.eqb (k + 1) f (l.drop (k + 1)):=by
     rw [HRk.out,HDR.out,Ff,if_neg (fun h=>by rw [HFX.out] at h;simp at h)]
    have HNX:=Lh hnx
    clear hnx
    go_wp2_with fail
    go_roundw
    case rel=>exact ⟨k + 1,f,by omega,by go_num,HNX.out,HM.out,HB.out⟩
    case measure=>(simp [intOf];try omega)
  ·have hkk:k=n:=by omega
   have hfin:R=f:=by rw [HRk.out,List.drop_of_length_le (by rw [HN.out];omega)];rfl
   obtain⟨HFIN,HM,HB⟩:=Hd3 hfin hmk hbel
   clear hfin hmk hbel
   go_wp2_with fail
   go_ret
   exact ⟨_,rfl,Nat.le_refl _,by rw [HFIN.out];exact HM.out,HB.out⟩
theorem NF (A:Option Addr) (l:List ByteArray) (n c:Nat) (w:World) (hl:BE w A l) (hn:l.length=n) (hl2:n≤100000000) :
  Calls Tryz.prog 47 #[.slice A n c] w fun e w'=>∃ mb,e=.returned (.map (some mb))∧w.heap.size≤mb∧MK Fb w' mb (fun n=>LY (DA l n))∧Below w.heap.size w w':=by
 have hmm:=@run_makeMap Tryz.prog
 obtain⟨R,hR⟩:=Ex0 (DA l)
 rw [← hR]
 obtain⟨HR,HL,HN⟩:=Hd3 hR hl hn
 have m0:=MK.made Fb w
 have b0:Below w.heap.size w (w.alloc (.map #[] 0)):=(Below.refl _ _).alloc (Nat.le_refl _) _
 obtain⟨M0,B0⟩:=Hd2 m0 b0
 clear hR hl hn m0 b0
 go_in
 go_wp2_with fail
 go_loopw [4,5,6,7,11] (fun _ _ _ _ iv wr=>∃ (k:Nat) (f:ByteArray→Option Int),k≤n∧iv=.int .i64 k∧Hid (R=Ff Fb.eqb k f (l.drop k))∧MK Fb wr w.heap.size (fun n=>LY (f n))∧Below w.heap.size w wr) (fun _ _ _ _ iv _=>n - (intOf iv).toNat)
 case atStart=>exact ⟨0,fun _=>none,by omega,rfl,by rw [HR.out];rfl,M0.out,B0.out⟩
 case round =>
  obtain⟨k,f,hkn,rfl,HRk,hmk,hbel⟩:=hrel
  by_cases hlt:k < n
  ·obtain⟨x,hx⟩:∃ x,l[k]? = some x:=⟨_,List.getElem?_eq_getElem (by rw [HN.out];exact hlt)⟩
   obtain⟨b,o,rfl,hbs,hc0⟩:=HL.out k x hx
   have hcj:wr.cell? ⟨b,o + k,none⟩=some (.string x):=(hbel.cell (p:=⟨b,_,none⟩) hbs).trans hc0
   have hkI:(k:Int) < n:=by omega
   have hlk:=hmk.lookup Fb Tryz.underlying100 GP x true
   obtain⟨w2,hup,hmk2,hg2⟩:=hmk.update Fb Tryz.underlying100 x (.int .i64 k)
   have hb2:=hbel.grown hg2 hbel.size (fun q hq=>by injection hq with hq;omega)
   have hup2:(Instr.mapUpdate 100 (.map (some w.heap.size)) (.string x) (.int .i64 k)).run Tryz.prog wr=.ok () w2:=hup
   have hdrop:l.drop k=x :: l.drop (k + 1):=by
    obtain⟨hlt',e⟩:=List.getElem?_eq_some_iff.1 hx
    rw [List.drop_eq_getElem_cons hlt',e]
   obtain⟨HDR,HM,HM2,HB,HB2⟩:=Hd5 hdrop hmk hmk2 hbel hb2
   obtain⟨fx,hfx⟩:∃ fx,f x=fx:=⟨_,rfl⟩
   have HFX:=Lh hfx
   simp only [hfx] at hlk
   clear hx hbs hc0 hup hmk hmk2 hg2 hbel hb2 hdrop hfx
   cases fx with
   | none =>
    have hl2:(Instr.lookup 100 (.map (some w.heap.size)) (.string x) true).run Tryz.prog wr=.ok (.tuple #[.int .i64 0,.bool false]) wr:=hlk
    clear hlk
    by_cases h4:k < 4096
    ·have h4I:(k:Int) < 4096:=by omega
     have hnx:R=Ff Fb.eqb (k + 1) (fun y=>if Fb.eqb y x=true then some (k:Int) else f y) (l.drop (k + 1)):=by
      rw [HRk.out,HDR.out,Ff,if_pos ⟨by rw [HFX.out];rfl,h4⟩]
     have HNX:=Lh hnx
     clear hnx
     go_wp2_with fail
     go_roundw
     case rel=>exact ⟨k + 1,_,by omega,by go_num,HNX.out,HM2.out.congr Fb (fun y=>by unfold upd;split <;> rfl),HB2.out⟩
     case measure=>(simp [intOf];try omega)
    ·have h4I:¬ (k:Int) < 4096:=by omega
     have hnx:R=Ff Fb.eqb (k + 1) f (l.drop (k + 1)):=by
      rw [HRk.out,HDR.out,Ff,if_neg (fun h=>h4 h.2)]
     have HNX:=Lh hnx
     clear hnx
     go_wp2_with fail
     go_roundw
     case rel=>exact ⟨k + 1,f,by omega,by go_num,HNX.out,HM.out,HB.out⟩
     case measure=>(simp [intOf];try omega)
   | some v =>
    have hl2:(Instr.lookup 100 (.map (some w.heap.size)) (.string x) true).run Tryz.prog wr=.ok (.tuple #[.int .i64 v,.bool true]) wr:=hlk
    clear hlk
    have hnx:R=Ff Fb.eqb (k + 1) f (l.drop (k + 1)):=by
     rw [HRk.out,HDR.out,Ff,if_neg (fun h=>by rw [HFX.out] at h;simp at h)]
    have HNX:=Lh hnx
    clear hnx
    go_wp2_with fail
    go_roundw
    case rel=>exact ⟨k + 1,f,by omega,by go_num,HNX.out,HM.out,HB.out⟩
    case measure=>(simp [intOf];try omega)
  ·have hkk:k=n:=by omega
   have hfin:R=f:=by rw [HRk.out,List.drop_of_length_le (by rw [HN.out];omega)];rfl
   obtain⟨HFIN,HM,HB⟩:=Hd3 hfin hmk hbel
   clear hfin hmk hbel
   go_wp2_with fail
   go_ret
   exact ⟨_,rfl,Nat.le_refl _,by rw [HFIN.out];exact HM.out,HB.out⟩
theorem RT:(Tryz.prog.info? 2).map (fun i=>(i.zero,i.size,i.bytes))=some (some (.int .i64 0),1,8):=by kernel_rfl
theorem MX:ElT Tryz.prog 26 2 1 8:=⟨Tryz.underlying26,by decide,by
 obtain⟨i0,hi,hz0,hz1,hz2⟩:=info_parts RT
 exact ⟨i0,_,hi,hz0,hz1,hz2,rfl⟩⟩
theorem Rq:(Tryz.prog.info? 9).map (fun i=>(i.zero,i.size,i.bytes))=some (some (.string ⟨#[]⟩),1,16):=by kernel_rfl
theorem Nz:ElT Tryz.prog 27 9 1 16:=⟨Tryz.underlying27,by decide,by
 obtain⟨i0,hi,hz0,hz1,hz2⟩:=info_parts Rq
 exact ⟨i0,_,hi,hz0,hz1,hz2,rfl⟩⟩
def Es (l:List ByteArray):List Value:=l.map Value.string
section
variable {w:World}
include w
theorem Jl {e:TypeId} {base n c:Nat} {A:Option Addr} {xs:List Value} (h:w.ownsRow base e 1 (.slice A n c) n xs):∀ k v,xs[k]? = some v→∃ b,A=some ⟨b,0,none⟩∧base≤b∧b < w.heap.size∧w.cell? ⟨b,k,none⟩=some v:=by
 intro k v hk
 have h1:=h.1
 simp only [Nat.mul_one] at h1
 have hlt:=(List.getElem?_eq_some_iff.1 hk).1
 rcases h.2 with ⟨h2,h3⟩ | ⟨g,cap,cur,h2,h3,h4,_⟩
 ·omega
 ·injection h2 with h2 _ _
  subst h2
  refine ⟨g,rfl,h3,(h.lt g rfl).2,?_⟩
  have:=h.cells rfl k v hk
  rw [← this]
  congr 1
  unfold Addr.add
  cases k <;> simp
theorem R8 {S n c:Nat} {A:Option Addr} {l:List Int} (h:w.ownsRow S 2 1 (.slice A n c) n (AQ l)):Ch w A l∧l.length=n:=by
 have h1:=h.1
 simp only [AQ,List.length_map,Nat.mul_one] at h1
 refine ⟨fun k x hk=>?_,h1⟩
 obtain⟨b,e,h2,h3,h4⟩:=Jl h k (.int .i64 x) (by simp [AQ,hk])
 exact ⟨b,0,e,h3,by rw [Nat.zero_add];exact h4⟩
theorem QP {S n c:Nat} {A:Option Addr} {l:List ByteArray} (h:w.ownsRow S 9 1 (.slice A n c) n (Es l)):BE w A l∧l.length=n:=by
 have h1:=h.1
 simp only [Es,List.length_map,Nat.mul_one] at h1
 refine ⟨fun k x hk=>?_,h1⟩
 obtain⟨b,e,h2,h3,h4⟩:=Jl h k (.string x) (by simp [Es,hk])
 exact ⟨b,0,e,h3,by rw [Nat.zero_add];exact h4⟩
theorem T2 {A:Option Addr} {l:List Int} (h:Ch w A l) (h0:0 < l.length):∃ b off,A=some ⟨b,off,none⟩∧∀ j v,(AQ l)[j]? = some v→w.cell? ((⟨b,off,none⟩:Addr).add j)=some v:=by
 obtain⟨b,off,hA,_,_⟩:=h 0 _ (List.getElem?_eq_getElem h0)
 refine ⟨b,off,hA,fun j v hj=>?_⟩
 rw [AQ,List.getElem?_map,Option.map_eq_some_iff] at hj
 obtain⟨x,hx,rfl⟩:=hj
 obtain⟨b2,off2,e,_,hc⟩:=h j x hx
 rw [hA] at e
 injection e with e
 injection e with e1 e2
 subst e1 e2
 rw [show (⟨b,off,none⟩:Addr).add j=⟨b,off + j,none⟩ by unfold Addr.add;split <;> simp_all]
 exact hc
theorem Ri {A:Option Addr} {l:List ByteArray} (h:BE w A l) (h0:0 < l.length):∃ b off,A=some ⟨b,off,none⟩∧∀ j v,(Es l)[j]? = some v→w.cell? ((⟨b,off,none⟩:Addr).add j)=some v:=by
 obtain⟨b,off,hA,_,_⟩:=h 0 _ (List.getElem?_eq_getElem h0)
 refine ⟨b,off,hA,fun j v hj=>?_⟩
 rw [Es,List.getElem?_map,Option.map_eq_some_iff] at hj
 obtain⟨x,hx,rfl⟩:=hj
 obtain⟨b2,off2,e,_,hc⟩:=h j x hx
 rw [hA] at e
 injection e with e
 injection e with e1 e2
 subst e1 e2
 rw [show (⟨b,off,none⟩:Addr).add j=⟨b,off + j,none⟩ by unfold Addr.add;split <;> simp_all]
 exact hc
end
theorem Px (l:List Int):∀ u∈AQ l,u.oneCell'=true:=by
 intro u hu
 obtain⟨x,_,rfl⟩:=List.mem_map.1 hu
 rfl
theorem Ov (l:List ByteArray):∀ u∈Es l,u.oneCell'=true:=by
 intro u hu
 obtain⟨x,_,rfl⟩:=List.mem_map.1 hu
 rfl
theorem Rx (A:Option Addr) (l:List Int) (n c:Nat) (w:World) (hn:l.length=n) (hl:n≤100000000) (hS:Ch w A l) :
  Calls Tryz.prog 19 #[.slice A n c] w fun e w'=>∃ v,e=.returned v∧w'.ownsRow w.heap.size 2 1 v n (AQ l)∧Below w.heap.size w w':=by
 obtain⟨i0,z0,hi0,hz0,hsz0,hby0,hzc0⟩:=MX.info
 by_cases h0:n=0
 ·subst h0
  have hn0:=List.length_eq_zero_iff.1 hn
  have hr:=fun wx=>Gu (P:=Tryz.prog) (w:=wx) 26 26 2 i0 z0 MX.und hi0 hz0 A c
  obtain⟨HR,HN⟩:=Hd2 hr hn0
  clear hS hr hn hn0
  go_in
  go_wp2_with (at_builtin;go_loud (refine Cw rfl _ _ 26 rfl _ _ _ _ rfl rfl (HR.out _) ?_))
  go_ret
  rw [HN.out]
  exact ⟨_,rfl,World.ownsRow_nil _ _ _ _,Below.refl _ _⟩
 ·obtain⟨b,off,rfl,hc⟩:=T2 hS (by omega)
  have hz:(AQ l).length=n * 1:=by simp [AQ,hn]
  obtain⟨HC,HZ⟩:=Hd2 hc hz
  have hone:=Px l
  have HO:=Lh hone
  clear hS hc hz hone hn
  go_in
  go_wp2_with (at_builtin;go_loud (refine wpList_append_own w rfl _ _ 26 rfl w.heap.size 2 i0 z0 1 8 MX.und hi0 hz0 hsz0 hby0 hzc0 (by decide) _ 0 [] rfl (World.ownsRow_nil _ _ _ _) ⟨b,off,none⟩ n c (AQ l) rfl HZ.out HC.out HO.out (by unfold maxLen;omega) (by omega) (Nat.le_refl _) ?_))
  intro v' w' h2 h3 _
  obtain⟨H2,H3⟩:=Hd2 h2 h3
  clear h2 h3
  go_wp2_with fail
  go_ret
  refine ⟨_,rfl,by simpa using H2.out,?_⟩
  exact (Below.refl _ _).grown H3.out (Nat.le_refl _) (fun k hk=>by simp [Value.ownBlock] at hk)
theorem Rn (A:Option Addr) (l:List ByteArray) (n c:Nat) (w:World) (hn:l.length=n) (hl:n≤100000000) (hS:BE w A l) :
  Calls Tryz.prog 20 #[.slice A n c] w fun e w'=>∃ v,e=.returned v∧w'.ownsRow w.heap.size 9 1 v n (Es l)∧Below w.heap.size w w':=by
 obtain⟨i0,z0,hi0,hz0,hsz0,hby0,hzc0⟩:=Nz.info
 by_cases h0:n=0
 ·subst h0
  have hn0:=List.length_eq_zero_iff.1 hn
  have hr:=fun wx=>Gu (P:=Tryz.prog) (w:=wx) 27 27 9 i0 z0 Nz.und hi0 hz0 A c
  obtain⟨HR,HN⟩:=Hd2 hr hn0
  clear hS hr hn hn0
  go_in
  go_wp2_with (at_builtin;go_loud (refine Cw rfl _ _ 27 rfl _ _ _ _ rfl rfl (HR.out _) ?_))
  go_ret
  rw [HN.out]
  exact ⟨_,rfl,World.ownsRow_nil _ _ _ _,Below.refl _ _⟩
 ·obtain⟨b,off,rfl,hc⟩:=Ri hS (by omega)
  have hz:(Es l).length=n * 1:=by simp [Es,hn]
  obtain⟨HC,HZ⟩:=Hd2 hc hz
  have hone:=Ov l
  have HO:=Lh hone
  clear hS hc hz hone hn
  go_in
  go_wp2_with (at_builtin;go_loud (refine wpList_append_own w rfl _ _ 27 rfl w.heap.size 9 i0 z0 1 16 Nz.und hi0 hz0 hsz0 hby0 hzc0 (by decide) _ 0 [] rfl (World.ownsRow_nil _ _ _ _) ⟨b,off,none⟩ n c (Es l) rfl HZ.out HC.out HO.out (by unfold maxLen;omega) (by omega) (Nat.le_refl _) ?_))
  intro v' w' h2 h3 _
  obtain⟨H2,H3⟩:=Hd2 h2 h3
  clear h2 h3
  go_wp2_with fail
  go_ret
  refine ⟨_,rfl,by simpa using H2.out,?_⟩
  exact (Below.refl _ _).grown H3.out (Nat.le_refl _) (fun k hk=>by simp [Value.ownBlock] at hk)
end Go.Proofs.YtmpcbaflcogmmaaGreatDoor
