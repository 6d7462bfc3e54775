/- Open2 OpenK Laid17 -/
import Derived.SizedLaws
import Derived.Deep.Slices
import Derived.Lib.SmallJoins
import Derived.OpenShut
import Derived.ChangeSlices
import Derived.SliceStrings
import Derived.ShutString
import Derived.Test.YtmpcbaflcogmmaaGreatDoorCards
import Derived.Test.YtmpcbaflcogmmaaGreatDoorTie
import Derived.Test.YtmpcbaflcogmmaaGreatDoorRows
import Derived.WalkKit
import Derived.ProofKit
import Derived.Deep.DeepHandedRow
import Derived.Laws.Cover2
import Derived.JoinedCond
import Derived.ChangeOld
import Derived.Below
import Derived.Carry
import Derived.Test.YtmpcbaflcogmmaaGreatDoorAbl13
import Derived.Test.YtmpcbaflcogmmaaGreatDoorCopyL
namespace Go.Proofs.YtmpcbaflcogmmaaGreatDoor
open Go.ChangeShapes Go.WideShapes Go.ChangeAt Go.RowKit Go.Joins Go.Deep
set_option linter.all false
set_option maxRecDepth 100000
theorem K7 : Tryz.prog.cellsOf 118 = 1:=by kernel_rfl
theorem Ts : Tryz.prog.bytesOf 118 = 1:=by kernel_rfl
theorem Ly : Tryz.prog.cellsOf 120 = 7:=by kernel_rfl
theorem PV : Tryz.prog.bytesOf 120 = 56:=by kernel_rfl
theorem LL : Tryz.prog.cellsOf 25 = 4:=by kernel_rfl
theorem Jm : Tryz.prog.cellsOf 2 = 1:=by kernel_rfl
theorem Js : Tryz.prog.cellsOf 3 = 1:=by kernel_rfl
theorem MA : Tryz.prog.cellsOf 9 = 1:=by kernel_rfl
section
variable {H:Type} {enc:TypeId × Value→H} {W:World} {sp:Nat→Bool} {fuel:Nat} {v:Value} {y:DataW H × List MemPlace}
theorem Fv {P:Program} {e:TypeId}:∀ {l:List (DataW H)} {d:DataW H},d∈l→∀ n∈d.weights P e,n∈DataW.weightsAll P e l
 | d' :: r,d,hd,n,hn=>by
  simp only [DataW.weightsAll,List.mem_append]
  rcases List.mem_cons.1 hd with rfl | h
  ·exact Or.inl hn
  ·exact Or.inr (Fv h n hn)
theorem Kr {a:Addr} {u:Value} (h:W.cell? a=some u):a.block < W.heap.size:=
 World.cells?_block (cells?_one (base:=0) (Nat.zero_le _) h) (by decide)
theorem O5 (hf:DataW.trod enc Tryz.prog W 0 sp true fuel 22 [v]=some y) (hr:∀ n∈y.1.weights Tryz.prog 22,n≤reachBytes) :
  ∃ A l c,v=.slice A (l:List Int).length c∧AV W A l∧l.length≤reachBytes:=by
 rcases open_ints Tryz.underlying22 Tryz.underlying118 K7 hf with ⟨hcs,hx⟩ | ⟨a,len,cap,zs,hcs,hb,hl,hm,hz,hx,hcell,hwz⟩
 ·simp only [List.cons.injEq,and_true] at hcs
  subst hcs
  exact ⟨none,[],0,rfl,fun k x hk=>by simp at hk,by simp⟩
 ·simp only [List.cons.injEq,and_true] at hcs
  subst hcs
  have hzl:len≤zs.length:=by rw [hz];split <;> omega
  have hlen:(zs.take len).length=len:=by rw [List.length_take];omega
  refine ⟨some a,zs.take len,cap,by rw [hlen],?_,?_⟩
  ·intro k x hk
   rw [List.getElem?_take] at hk
   split at hk
   ·rename_i hkl
    obtain⟨b,off,rfl,hc⟩:=ints_at hcell (by omega)
    have h1:=hc k (by omega)
    rw [List.getD_eq_getElem?_getD,hk] at h1
    exact ⟨b,off,rfl,Kr h1,h1⟩
   ·cases hk
  ·have h1:=hr ((List.take len zs).length * 1 + (zs.drop len).length * 1) (by
    subst hx
    simp [DataW.weights,Tryz.underlying22,Ts,lits])
   omega
theorem Dk {cs:List Value} {k:Nat} {u:Value} (h:(cs.drop k).take 1=[u]):cs[k]? = some u:=by
 have:=congrArg (fun l=>l[0]?) h
 simpa [List.getElem?_take,List.getElem?_drop] using this
theorem TV {n:Int} (h:(Lit.int .i64 n).wf=true):I64 n:=by
 simp [Lit.wf,IntKind.min,IntKind.max,IntKind.signed,IntKind.bits] at h
 unfold I64
 omega
instance:Inhabited Au:=⟨AF⟩
theorem Rc {cs:List Value} (hf:DataW.trod enc Tryz.prog W 0 sp true fuel 120 cs=some y) (hr:∀ n∈y.1.weights Tryz.prog 120,n≤reachBytes) :
  ∃ x:Au,cs=x.cells∧(x.text.size≤reachBytes∧I64 x.n∧I64 x.m):=by
 obtain⟨xs,n,_,rfl,hl,hlen,hfs⟩:=DataW.trod_struct Tryz.underlying120 hf
 have f0:DataW.trod enc Tryz.prog W 0 sp true n 118 ((cs.drop 0).take (Tryz.prog.cellsOf 118))=xs[0]?:=hfs 0 _ rfl
 rw [K7] at f0
 have f1:DataW.trod enc Tryz.prog W 0 sp true n 118 ((cs.drop 1).take (Tryz.prog.cellsOf 118))=xs[1]?:=hfs 1 _ rfl
 rw [K7] at f1
 have f2:DataW.trod enc Tryz.prog W 0 sp true n 2 ((cs.drop 2).take (Tryz.prog.cellsOf 2))=xs[2]?:=hfs 2 _ rfl
 rw [Jm] at f2
 have f3:DataW.trod enc Tryz.prog W 0 sp true n 2 ((cs.drop 3).take (Tryz.prog.cellsOf 2))=xs[3]?:=hfs 3 _ rfl
 rw [Jm] at f3
 have f4:DataW.trod enc Tryz.prog W 0 sp true n 9 ((cs.drop 4).take (Tryz.prog.cellsOf 9))=xs[4]?:=hfs 4 _ rfl
 rw [MA] at f4
 have f5:DataW.trod enc Tryz.prog W 0 sp true n 3 ((cs.drop 5).take (Tryz.prog.cellsOf 3))=xs[5]?:=hfs 5 _ rfl
 rw [Js] at f5
 have f6:DataW.trod enc Tryz.prog W 0 sp true n 3 ((cs.drop 6).take (Tryz.prog.cellsOf 3))=xs[6]?:=hfs 6 _ rfl
 rw [Js] at f6
 have hlen7:xs.length=7:=hlen
 rw [List.getElem?_eq_getElem (by omega)] at f0 f1 f2 f3 f4 f5 f6
 obtain⟨a0,e0,d0,w0⟩:=DataW.trod_int Tryz.underlying118 f0
 obtain⟨a1,e1,d1,w1⟩:=DataW.trod_int Tryz.underlying118 f1
 obtain⟨a2,e2,d2,w2⟩:=DataW.trod_int Tryz.underlying2 f2
 obtain⟨a3,e3,d3,w3⟩:=DataW.trod_int Tryz.underlying2 f3
 obtain⟨a4,e4,d4,w4⟩:=DataW.trod_string Tryz.underlying9 f4
 obtain⟨a5,e5,d5,w5⟩:=DataW.trod_int Tryz.underlying3 f5
 obtain⟨a6,e6,d6,w6⟩:=DataW.trod_int Tryz.underlying3 f6
 have hcs:cs.length=7:=by rw [hl,Ly]
 refine ⟨⟨a0,a1,a2,a3,a4,a5,a6⟩,?_,?_⟩
 ·apply List.ext_getElem?
  intro k
  have g0:=Dk e0
  have g1:=Dk e1
  have g2:=Dk e2
  have g3:=Dk e3
  have g4:=Dk e4
  have g5:=Dk e5
  have g6:=Dk e6
  by_cases hk:k < 7
  ·have:k=0∨k=1∨k=2∨k=3∨k=4∨k=5∨k=6:=by omega
   rcases this with rfl | rfl | rfl | rfl | rfl | rfl | rfl
   ·rw [g0];rfl
   ·rw [g1];rfl
   ·rw [g2];rfl
   ·rw [g3];rfl
   ·rw [g4];rfl
   ·rw [g5];rfl
   ·rw [g6];rfl
  ·rw [List.getElem?_eq_none (by omega),List.getElem?_eq_none (by show 7≤k;omega)]
 ·have h1:=hr a4.data.toList.length (by
   show _∈(DataW.agg (xs.map (·.1))).weights _ _
   rw [DataW.weights,Tryz.underlying120]
   refine DataW.weights_mem_each (j:=4) (t:=9) (d:=.lit (.string a4.data.toList)) rfl ?_ _ (by simp [DataW.weights])
   rw [List.getElem?_map,List.getElem?_eq_getElem (by omega),Option.map_some,d4])
  rw [Array.length_toList] at h1
  refine ⟨h1,TV w2,TV w3⟩
theorem Qs (hf:DataW.trod enc Tryz.prog W 0 sp true fuel 23 [v]=some y) (hr:∀ n∈y.1.weights Tryz.prog 23,n≤reachBytes) :
  ∃ A ts c,v=.slice A (ts:List Au).length c∧Bv W A ts∧ts.length≤reachBytes∧∀ x∈ts,(x.text.size≤reachBytes∧I64 x.n∧I64 x.m):=by
 rcases open_slice Tryz.underlying23 hf with ⟨hcs,hx⟩ | ⟨a,len,cap,m,n,D,Pl,hcs,hb,hl,hm,hmm,hx,hel⟩
 ·simp only [List.cons.injEq,and_true] at hcs
  subst hcs
  exact ⟨none,[],0,rfl,.inl rfl,by simp,fun x hx=>by simp at hx⟩
 ·simp only [List.cons.injEq,and_true] at hcs
  subst hcs
  have hlm:len≤m:=by rw [hmm];split <;> omega
  rw [Ly] at hel
  have hw:(((List.range len).map D).length + ((List.range (m - len)).map fun j=>D (len + j)).length) * 56≤reachBytes∧∀ i,i < len→∀ k∈(D i).weights Tryz.prog 120,k≤reachBytes:=by
   subst hx
   simp only [DataW.weights,Tryz.underlying23,PV] at hr
   refine ⟨hr _ (List.mem_cons_self ..),fun i hi k hk=>hr k (List.mem_cons_of_mem _ (List.mem_append_left _ (Fv (List.mem_map.2 ⟨i,List.mem_range.2 hi,rfl⟩) k hk)))⟩
  have hlr:len≤reachBytes:=by
   have:=hw.1
   simp only [List.length_map,List.length_range] at this
   omega
  obtain⟨X,hX⟩:=choose_lt (n:=len) (p:=fun i (x:Au)=>(x.text.size≤reachBytes∧I64 x.n∧I64 x.m)∧∀ j u,x.cells[j]? = some u→W.cell? (a.add (i * 7 + j))=some u) (fun i hi=>by
   obtain⟨cs',h1,h2⟩:=hel i (by omega)
   obtain⟨x,hx1,hx2⟩:=Rc h2 (hw.2 i hi)
   obtain⟨_,hcl,hcc⟩:=World.cells?_some h1
   refine ⟨x,hx2,fun j u hj=>?_⟩
   have hj7:j < 7:=by
    have:=(List.getElem?_eq_some_iff.1 hj).1
    simpa [Au.cells] using this
   have:=hcc j hj7
   rw [add_add] at this
   rw [this,hx1]
   exact hj)
  refine ⟨some a,(List.range len).map X,cap,by simp,?_,by simpa using hlr,?_⟩
  ·rcases Nat.eq_zero_or_pos len with h0 | h0
   ·exact .inl (by rw [h0];rfl)
   ·have hfirst:=(hX 0 h0).2 0 _ rfl
    obtain⟨b,off,spot⟩:=a
    have hspot:spot=none:=by simpa [Addr.add] using World.cell?_spot hfirst
    subst hspot
    refine .inr ⟨b,off,rfl,Kr hfirst,fun i x hx j u hj=>?_⟩
    rw [List.getElem?_map,Option.map_eq_some_iff] at hx
    obtain⟨i',hi',rfl⟩:=hx
    obtain⟨hi1,hi2⟩:=List.getElem?_eq_some_iff.1 hi'
    simp only [List.length_range] at hi1
    rw [List.getElem_range] at hi2
    subst hi2
    have:=(hX i hi1).2 j u hj
    rw [add_plain] at this
    rw [← this,Nat.add_assoc]
  ·intro x hx
   obtain⟨i,hi,rfl⟩:=List.mem_map.1 hx
   exact (hX i (List.mem_range.1 hi)).1
end
theorem Sb : Tryz.prog.bytesOf 2 = 8:=by kernel_rfl
theorem So : Tryz.prog.bytesOf 9 = 16:=by kernel_rfl
theorem R4 : Tryz.prog.cellsOf 29 = 6:=by kernel_rfl
theorem Ry : Tryz.prog.cellsOf 22 = 1:=by kernel_rfl
theorem Pz : Tryz.prog.cellsOf 4 = 1:=by kernel_rfl
theorem Rm : Tryz.prog.cellsOf 23 = 1:=by kernel_rfl
theorem RG : Tryz.prog.cellsOf 26 = 1:=by kernel_rfl
theorem QU : Tryz.prog.cellsOf 27 = 1:=by kernel_rfl
section
variable {H:Type} {enc:TypeId × Value→H} {W:World} {sp:Nat→Bool} {fuel:Nat} {v:Value} {y:DataW H × List MemPlace}
theorem Py (hf:DataW.trod enc Tryz.prog W 0 sp true fuel 26 [v]=some y) (hr:∀ n∈y.1.weights Tryz.prog 26,n≤reachBytes) :
  ∃ A l c,v=.slice A (l:List Int).length c∧Ch W A l∧l.length≤reachBytes:=by
 rcases open_ints Tryz.underlying26 Tryz.underlying2 Jm hf with ⟨hcs,hx⟩ | ⟨a,len,cap,zs,hcs,hb,hl,hm,hz,hx,hcell,hwz⟩
 ·simp only [List.cons.injEq,and_true] at hcs
  subst hcs
  exact ⟨none,[],0,rfl,fun k x hk=>by simp at hk,by simp⟩
 ·simp only [List.cons.injEq,and_true] at hcs
  subst hcs
  have hzl:len≤zs.length:=by rw [hz];split <;> omega
  have hlen:(zs.take len).length=len:=by rw [List.length_take];omega
  refine ⟨some a,zs.take len,cap,by rw [hlen],?_,?_⟩
  ·intro k x hk
   rw [List.getElem?_take] at hk
   split at hk
   ·rename_i hkl
    obtain⟨b,off,rfl,hc⟩:=ints_at hcell (by omega)
    have h1:=hc k (by omega)
    rw [List.getD_eq_getElem?_getD,hk] at h1
    exact ⟨b,off,rfl,Kr h1,h1⟩
   ·cases hk
  ·have h1:=hr ((List.take len zs).length * 8 + (zs.drop len).length * 8) (by
    subst hx
    simp [DataW.weights,Tryz.underlying26,Sb,lits]
    try omega)
   omega
theorem Nf {l:List ByteArray} {s:ByteArray} (h:s∈l):s.size∈DataW.weightsAll (H:=H) Tryz.prog 9 (strs l):=by
 refine Fv (d:=.lit (.string s.data.toList)) ?_ _ (by simp [DataW.weights])
 unfold strs
 exact List.mem_map.2 ⟨s,h,rfl⟩
theorem Q9 (hf:DataW.trod enc Tryz.prog W 0 sp true fuel 27 [v]=some y) (hr:∀ n∈y.1.weights Tryz.prog 27,n≤reachBytes) :
  ∃ A l c,v=.slice A (l:List ByteArray).length c∧BE W A l∧l.length≤reachBytes∧∀ s∈l,s.size≤reachBytes:=by
 rcases open_strings Tryz.underlying27 Tryz.underlying9 MA hf with ⟨hcs,hx⟩ | ⟨a,len,cap,zs,hcs,hb,hl,hm,hz,hx,hcell,hwz⟩
 ·simp only [List.cons.injEq,and_true] at hcs
  subst hcs
  exact ⟨none,[],0,rfl,fun k x hk=>by simp at hk,by simp,fun s hs=>by simp at hs⟩
 ·simp only [List.cons.injEq,and_true] at hcs
  subst hcs
  have hzl:len≤zs.length:=by rw [hz];split <;> omega
  have hlen:(zs.take len).length=len:=by rw [List.length_take];omega
  refine ⟨some a,zs.take len,cap,by rw [hlen],?_,?_,?_⟩
  ·intro k x hk
   rw [List.getElem?_take] at hk
   split at hk
   ·rename_i hkl
    have h1:=hcell k (by omega)
    rw [List.getD_eq_getElem?_getD,hk] at h1
    obtain⟨b,off,spot⟩:=a
    have hfirst:=hcell 0 (by omega)
    have hspot:spot=none:=by simpa [Addr.add] using World.cell?_spot hfirst
    subst hspot
    rw [add_plain] at h1
    exact ⟨b,off,rfl,Kr h1,h1⟩
   ·cases hk
  ·have h1:=hr ((List.take len zs).length * 16 + (zs.drop len).length * 16) (by
    subst hx
    simp [DataW.weights,Tryz.underlying27,So,strs]
    try omega)
   omega
  ·intro s hs
   refine hr _ ?_
   subst hx
   simp only [DataW.weights,Tryz.underlying27]
   exact List.mem_cons_of_mem _ (List.mem_append_left _ (Nf hs))
theorem Qu {cs:List Value} (hf:DataW.trod enc Tryz.prog W 0 sp true fuel 25 cs=some y) (hr:∀ n∈y.1.weights Tryz.prog 25,n≤reachBytes) :
  ∃ on SA slots sc wh TA ts tc,cs=[.int .i64 on,.slice SA (slots:List Int).length sc,.bool wh,.slice TA (ts:List Au).length tc]∧AV W SA slots∧Bv W TA ts∧slots.length≤reachBytes∧ts.length≤reachBytes∧∀ x∈ts,(x.text.size≤reachBytes∧I64 x.n∧I64 x.m):=by
 obtain⟨xs,n,_,rfl,hl,hlen,hfs⟩:=DataW.trod_struct Tryz.underlying25 hf
 have hl4:cs.length=4:=by rw [hl,LL]
 have hlen4:xs.length=4:=hlen
 match cs,hl4 with
 | [c0,c1,c2,c3],_ =>
 match xs,hlen4 with
 | [x0,x1,x2,x3],_ =>
 have f0:DataW.trod enc Tryz.prog W 0 sp true n 3 (([c0,c1,c2,c3].drop 0).take (Tryz.prog.cellsOf 3))=some x0:=hfs 0 _ rfl
 rw [Js] at f0
 have f1:DataW.trod enc Tryz.prog W 0 sp true n 22 (([c0,c1,c2,c3].drop 1).take (Tryz.prog.cellsOf 22))=some x1:=hfs 1 _ rfl
 rw [Ry] at f1
 have f2:DataW.trod enc Tryz.prog W 0 sp true n 4 (([c0,c1,c2,c3].drop 2).take (Tryz.prog.cellsOf 4))=some x2:=hfs 2 _ rfl
 rw [Pz] at f2
 have f3:DataW.trod enc Tryz.prog W 0 sp true n 23 (([c0,c1,c2,c3].drop 3).take (Tryz.prog.cellsOf 23))=some x3:=hfs 3 _ rfl
 rw [Rm] at f3
 simp only [DataW.weights,Tryz.underlying25,DataW.weightsEach,List.mem_append,List.map_cons,List.map_nil] at hr
 obtain⟨on,e0,d0,w0⟩:=DataW.trod_int Tryz.underlying3 f0
 obtain⟨SA,slots,sc,e1,hS,l1⟩:=O5 f1 (fun n hn=>hr n (.inr (.inl hn)))
 obtain⟨wh,e2,d2⟩:=DataW.trod_bool Tryz.underlying4 f2
 obtain⟨TA,ts,tc,e3,hT,l3,l4⟩:=Qs f3 (fun n hn=>hr n (.inr (.inr (.inr (.inl hn)))))
 simp only [List.drop_zero,List.drop_succ_cons,List.take_succ_cons,List.take_zero,List.cons.injEq,and_true] at e0 e2
 subst e0 e1 e2 e3
 exact ⟨on,SA,slots,sc,wh,TA,ts,tc,rfl,hS,hT,l1,l3,l4⟩
theorem Tt {base:Nat} {d:DataW H} {p:List MemPlace} (hv:Value.okWide Tryz.prog W .any base 29 v) (h:DataW.Trod enc Tryz.prog W 0 (fun _=>true) true 29 v d p)
  (hr:∀ n∈d.weights Tryz.prog 29,n≤reachBytes) :
  ∃ on SA slots sc wh TA ts tc IA ints ic XA texts xc,v=.agg #[.int .i64 on,.slice SA (slots:List Int).length sc,.bool wh,.slice TA (ts:List Au).length tc,.slice IA (ints:List Int).length ic,.slice XA (texts:List ByteArray).length xc]∧AV W SA slots∧Bv W TA ts∧Ch W IA ints∧BE W XA texts ∧
   slots.length≤reachBytes∧ts.length≤reachBytes∧ints.length≤reachBytes∧texts.length≤reachBytes∧(∀ x∈ts,(x.text.size≤reachBytes∧I64 x.n∧I64 x.m))∧∀ x∈texts,x.size≤reachBytes:=by
 obtain⟨cs,rfl,hsz⟩:=okWide_struct Tryz.underlying29 hv
 obtain⟨fuel,hf⟩:=h
 rw [R4] at hsz
 obtain⟨xs,n,_,hd,hl,hlen,hfs⟩:=DataW.trod_struct Tryz.underlying29 hf
 injection hd with hd hp
 subst hd
 have hlen3:xs.length=3:=hlen
 match xs,hlen3 with
 | [x0,x1,x2],_ =>
 obtain⟨l⟩:=cs
 have hl6:l.length=6:=hsz
 match l,hl6 with
 | [c0,c1,c2,c3,c4,c5],_ =>
 have f0:DataW.trod enc Tryz.prog W 0 (fun _=>true) true n 25 (([c0,c1,c2,c3,c4,c5].drop 0).take (Tryz.prog.cellsOf 25))=some x0:=hfs 0 _ rfl
 rw [LL] at f0
 have f1:DataW.trod enc Tryz.prog W 0 (fun _=>true) true n 26 (([c0,c1,c2,c3,c4,c5].drop 4).take (Tryz.prog.cellsOf 26))=some x1:=hfs 1 _ rfl
 rw [RG] at f1
 have f2:DataW.trod enc Tryz.prog W 0 (fun _=>true) true n 27 (([c0,c1,c2,c3,c4,c5].drop 5).take (Tryz.prog.cellsOf 27))=some x2:=hfs 2 _ rfl
 rw [QU] at f2
 simp only [DataW.weights,Tryz.underlying29,DataW.weightsEach,List.mem_append,List.map_cons,List.map_nil] at hr
 obtain⟨on,SA,slots,sc,wh,TA,ts,tc,e0,hS,hT,l1,l2,l3⟩:=Qu f0 (fun n hn=>hr n (.inl hn))
 obtain⟨IA,ints,ic,e1,hI,l4⟩:=Py f1 (fun n hn=>hr n (.inr (.inl hn)))
 obtain⟨XA,texts,xc,e2,hX,l5,l6⟩:=Q9 f2 (fun n hn=>hr n (.inr (.inr (.inl hn))))
 simp only [List.drop_zero,List.take_succ_cons,List.take_zero,List.cons.injEq,and_true] at e0
 obtain⟨rfl,rfl,rfl,rfl⟩:=e0
 subst e1 e2
 exact ⟨on,SA,slots,sc,wh,TA,ts,tc,IA,ints,ic,XA,texts,xc,rfl,hS,hT,hI,hX,l1,l2,l4,l5,l3,l6⟩
end
theorem V0:ownKnob Tryz.prog.godebug=none:=by kernel_rfl
theorem Uh:laidOutB Tryz.prog=true:=by kernel_rfl
def Vm:List Int:=[0,1,28,2,29,14,24,3,30,22,20,15,25,17,4,8,31,27,13,23,21,19,16,7,26,12,18,6,11,5,10,9]
def Vo:List Int:=[0,1,56,2,57,49,28,3,61,58,42,50,38,29,17,4,62,47,59,36,45,43,51,22,53,39,33,30,24,18,12,5,63,55,48,27,60,41,37,16,46,35,44,21,52,32,23,11,54,26,40,15,34,20,31,10,25,14,19,9,13,8,7,6]
def UZ:List Int:=[1,10,100,1000,10000,100000,1000000,10000000,100000000,1000000000,10000000000,100000000000,1000000000000,10000000000000,100000000000000,1000000000000000,10000000000000000,100000000000000000,1000000000000000000,10000000000000000000]
def T8 (k:IntKind) (l:List Int):Obj→Obj
 | .cells _ t frozen=>.cells (l.map (Value.int k)).toArray t frozen
 | o=>o
noncomputable def Je (os:Os):World:=
 { World.holding Tryz.prog os ⟨#[],#[],[]⟩ with heap:=(((World.holding Tryz.prog os ⟨#[],#[],[]⟩).heap.modify 0 (T8 .u64 UZ)).modify 1 (T8 .u8 Vm)).modify 2 (T8 .u8 Vo) }
end Go.Proofs.YtmpcbaflcogmmaaGreatDoor
