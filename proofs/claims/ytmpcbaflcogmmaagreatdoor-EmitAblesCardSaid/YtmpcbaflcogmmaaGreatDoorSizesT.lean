/- RefFit RowsB Copy AppO RefM17 Tree11 Sizes SizeA SizesT AbleAll Forms Code Code2 Read Read0 Read1 Read2 Read3 Read4 ReadAll CopyV Walk Walk2 -/
import Derived.Deep.RegionHeld3
import Derived.Deep.DeepCutAuto
import Derived.Deep.OwnRows
import Derived.Test.YtmpcbaflcogmmaaGreatDoorAble
import Derived.Test.YtmpcbaflcogmmaaGreatDoorAble10
import Derived.Test.YtmpcbaflcogmmaaGreatDoorLook
import Derived.Test.YtmpcbaflcogmmaaGreatDoorLook13
import Derived.Test.YtmpcbaflcogmmaaGreatDoorSerial3
import Derived.Test.YtmpcbaflcogmmaaGreatDoorStmt12
import Derived.Test.YtmpcbaflcogmmaaGreatDoorTree9
namespace Go.Proofs.YtmpcbaflcogmmaaGreatDoor
open Go.RowKit
set_option linter.all false
set_option maxHeartbeats 2000000
set_option maxRecDepth 100000
def LZ (op:Int) (k:Nat):Bool:=decide (30≤op) || decide (op=11∨op=12∨op=19) || (decide (op=13∨op=15∨op=16) && k == 0)
def Tz (e:Bool) (x:Au):Prop:=if e=true then 30≤x.op∧x.op≤50 else 10≤x.op∧x.op≤19
def EF (ts:List Au):Nat→Bool→Nat→Prop
 | 0,_,_=>True
 | f + 1,e,i=>Tz e (ts.getD i AF)∧Bb (ts.getD i AF) (Am ts i).length=true∧∀ (k:Nat) (j:Nat),(Cz (ts.getD i AF) (Am ts i))[k]? = some j→EF ts f (LZ (ts.getD i AF).op k) j
theorem EF.le {ts:List Au}:∀ {f g i:Nat} {e:Bool},EF ts f e i→g≤f→EF ts g e i
 | _,0,_,_,_,_=>trivial
 | 0,g + 1,_,_,_,h=>absurd h (by omega)
 | f + 1,g + 1,i,e,hf,h=>⟨hf.1,hf.2.1,fun k j hk=>(hf.2.2 k j hk).le (by omega)⟩
theorem TW {a j k:Nat} (h:[a][k]? = some j):k=0∧j=a:=by
 match k,h with
 | 0,h=>exact ⟨rfl,by simpa using h.symm⟩
 | k + 1,h=>simp at h
theorem Uz {α:Type} {l:List α} {k:Nat} {j:α} (h:l[k]? = some j) (hl:l.length=0):False:=by
 rw [List.length_eq_zero_iff.1 hl] at h
 simp at h
section
variable {ts:List Au} (P Q:Nat→Prop) {recS recB:Nat→LSt→LSt} (hS:∀ i s,(recS i s).bad=false→P i) (hB:∀ i s,(recB i s).bad=false→P i)
include hS hB
theorem OT (hE:∀ (s:LSt) (k:Nat),(Dl ts s k false).2.2=false→Q k) (i:Nat) (s:LSt) (h:(DL ts recS recB i s).bad=false):(11≤(ts.getD i AF).op∧(ts.getD i AF).op≤19)∧∀ (k j:Nat),(Am ts i)[k]? = some j→if LZ (ts.getD i AF).op k=true then Q j else P j:=by
 have hV:∀ {s:LSt} {k:Nat} {kd:Int},s.bad=false→(AD ts k kd s).bad=false→Q k:=fun hb h=>by
  unfold AD Cr at h
  rw [hb] at h
  simp only [AA,Bool.or_eq_false_iff] at h
  exact hE _ _ h.1.1
 have hVb:∀ {s:LSt} {k:Nat} {kd:Int},(AD ts k kd s).bad=false→s.bad=false:=fun {s k kd} h=>by
  unfold AD Cr at h
  simp only [AA,Bool.or_eq_false_iff] at h
  cases hb:s.bad with
  | false=>rfl
  | true=>have h1:=h.1.1;rw [hb] at h1;unfold Dl at h1;rw [Dz] at h1;cases h1
 have hD:∀ {n:Int} {b:Bool} {l:List Int} {s:LSt},(AE n b l s).bad=false→s.bad=false:=fun {n b l s} h=>by
  unfold AE at h
  split at h
  ·exact h
  ·rename_i hb;simpa using hb
 have hb:=fun l i s h=>Gd (ts:=ts) P hS hB l i s h
 -- a value ahead, statements behind it
 have hAP:∀ {op:Int} {a:Nat} {r:List Nat} {k j:Nat},op=13∨op=15∨op=16→Q a→(∀ y∈r,P y)→(a :: r)[k]? = some j→if LZ op k=true then Q j else P j:=fun {op a r k j} ho ha hr hk=>by
  match k,hk with
  | 0,hk =>
   have e:j=a:=by simpa using hk.symm
   have v:LZ op 0=true:=by rcases ho with ho | ho | ho <;> rw [ho] <;> rfl
   rw [if_pos v,e];exact ha
  | k + 1,hk =>
   have v:LZ op (k + 1)=false:=by rcases ho with ho | ho | ho <;> rw [ho] <;> rfl
   rw [if_neg (by rw [v];decide)]
   exact hr j (List.mem_of_getElem? (by simpa using hk))
 unfold DL at h
 simp only at h
 split at h
 ·rename_i q
  refine ⟨by omega,?_⟩
  split at h
  ·rename_i hc
   have h1:=hD h
   simp only [Cr,Bool.or_eq_false_iff] at h1
   intro k j hk
   match hk2:Am ts i,hc.1 with
   | [a],_ =>
    rw [hk2] at hk h1
    obtain⟨rfl,rfl⟩:=TW hk
    rw [q]
    exact hE _ _ h1.1
  ·cases h
 split at h
 ·rename_i q
  refine ⟨by omega,?_⟩
  split at h
  ·rename_i hc
   intro k j hk
   match hk2:Am ts i,hc.1 with
   | [a],_ =>
    rw [hk2] at hk h
    obtain⟨rfl,rfl⟩:=TW hk
    rw [q]
    exact hV (hVb h) h
  ·cases h
 split at h
 ·rename_i q
  refine ⟨by omega,?_⟩
  split at h
  ·rename_i hc
   have h1:=hb _ _ _ h
   intro k j hk
   match hk2:Am ts i,hc.1 with
   | a :: r,_ =>
    rw [hk2] at hk h1
    exact hAP (.inl q) (hV (hVb h1.1) h1.1) (fun y hy=>h1.2 y (by simpa using hy)) hk
   | [],hl=>simp at hl
  ·cases h
 split at h
 ·rename_i q
  refine ⟨by omega,?_⟩
  split at h
  ·intro k j hk
   rw [q]
   exact (hb _ _ _ h).2 j (List.mem_of_getElem? hk)
  ·cases h
 split at h
 ·rename_i q
  refine ⟨by omega,?_⟩
  split at h
  ·rename_i hc
   have h1:=hb _ _ _ h
   intro k j hk
   match hk2:Am ts i,hc.1 with
   | a :: r,_ =>
    rw [hk2] at hk h1
    exact hAP (.inr (.inl q)) (hV (hVb (hD h1.1)) (hD h1.1)) (fun y hy=>h1.2 y (by simpa using hy)) hk
  ·cases h
 split at h
 ·rename_i q
  refine ⟨by omega,?_⟩
  split at h
  ·rename_i hc
   have key:∀ l,(forget (ts.getD i AF).n (AS ts recS recB 0 l (AE (ts.getD i AF).n false [3] (AD ts ((Am ts i).getD 0 0) 6 s)))).bad=false→Q ((Am ts i).getD 0 0)∧∀ k∈l,P k:=fun l h=>by
    have h1:=hb _ _ _ (show (AS ts recS recB 0 l _).bad=false from h)
    exact ⟨hV (hVb (hD h1.1)) (hD h1.1),h1.2⟩
   match hk2:Am ts i,hc.1 with
   | [a,b],_ =>
    rw [hk2] at h key
    rw [if_neg (by simp)] at h
    obtain⟨k1,k2⟩:=key _ h
    intro k j hk
    exact hAP (.inr (.inr q)) k1 (fun y hy=>k2 y (by simpa using hy)) hk
   | [a,b,d],_ =>
    rw [hk2] at h key
    by_cases hb2:(forget (ts.getD i AF).n (AS ts recS recB 0 (List.take 1 (List.drop 1 [a,b,d])) (AE (ts.getD i AF).n false [3] (AD ts ([a,b,d].getD 0 0) 6 s)))).bad=false
    ·rw [if_pos ⟨rfl,hb2⟩] at h
     obtain⟨k1,k2⟩:=key _ hb2
     intro k j hk
     refine hAP (.inr (.inr q)) k1 (fun y hy=>?_) hk
     simp only [List.mem_cons,List.not_mem_nil,or_false] at hy
     rcases hy with rfl | rfl
     ·exact k2 _ (by simp)
     ·exact hB _ _ h
    ·rw [if_neg (by simp only [not_and];exact fun _=>hb2)] at h
     exact absurd h hb2
   | [],hl=>simp at hl
   | [_],hl=>simp at hl
   | _ :: _ :: _ :: _ :: _,hl=>simp at hl
  ·cases h
 split at h
 ·rename_i q
  refine ⟨by omega,?_⟩
  simp only [Bool.or_eq_false_iff,Bool.not_eq_false',decide_eq_true_eq] at h
  exact fun k j hk=>absurd (Uz hk h.1) (by simp)
 split at h
 ·rename_i q
  refine ⟨by omega,?_⟩
  split at h
  ·cases h
  ·rename_i sg hs
   simp only [Cr,Bool.or_eq_false_iff] at h
   intro k j hk
   rw [q]
   exact GW Q (ts:=ts) (rec:=Dl ts s) (fun j=>Dz _ _ _ _) (fun j hj=>hE _ _ hj) h.1 (J6 (CA hs).2.2.2) j (List.mem_of_getElem? hk)
 ·cases h
end
theorem ME {op:Int} (h:30≤op) (k:Nat):LZ op k=true:=by unfold LZ;rw [decide_eq_true h];rfl
theorem Ht (ts:List Au) (slots:List Int) (seen:Int→Option Value):∀ (f i:Nat),(BR ts slots seen f i false).2.2=false→EF ts f true i
 | 0,_,_=>trivial
 | f + 1,i,h=>by
  have ih:=Ht ts slots seen f
  have ht:=Dz (ts:=ts) slots seen f
  have har:=(FC slots seen (f + 1) i h).1
  suffices hs:(30≤(ts.getD i AF).op∧(ts.getD i AF).op≤50)∧∀ k∈Cz (ts.getD i AF) (Am ts i),EF ts f true k from
   ⟨hs.1,har,fun k j hk=>by rw [ME hs.1.1];exact hs.2 j (List.mem_of_getElem? hk)⟩
  have h0:(Am ts i).length=0→∀ k∈Cz (ts.getD i AF) (Am ts i),EF ts f true k:=fun h k hk=>by rw [List.length_eq_zero_iff.1 h] at hk;simp [Cz] at hk
  have hk:∀ x:Au,x.op≠50→(∀ k∈Am ts i,EF ts f true k)→∀ k∈Cz x (Am ts i),EF ts f true k:=fun x hx h=>by rw [Cx _ hx];exact h
  rw [BR] at h
  generalize BR ts slots seen f=rec at h ih ht
  unfold BW at h
  simp only [Bool.false_eq_true,if_false] at h
  split at h
  ·rename_i q
   simp only [Bool.or_eq_false_iff,Bool.not_eq_false',Bool.and_eq_true,decide_eq_true_eq] at h
   exact ⟨by omega,h0 h.1.2⟩
  split at h
  ·rename_i q
   simp only [Bool.or_eq_false_iff,Bool.not_eq_false',decide_eq_true_eq] at h
   exact ⟨by omega,h0 h.1⟩
  split at h
  ·rename_i q
   split at h
   ·rename_i hc
    exact ⟨by omega,h0 hc.2.2.2⟩
   ·cases h
  split at h
  ·rename_i q
   split at h
   ·cases h
   ·rename_i s hs
    split at h
    ·rename_i hc
     refine ⟨by omega,hk _ (by omega) ?_⟩
     simp only [AA,Bool.or_eq_false_iff] at h
     match hk2:Am ts i,hc.1 with
     | [a],_ =>
      rw [hk2] at h
      intro k hk
      rw [List.mem_singleton] at hk
      subst hk
      exact ih _ h.1
    ·cases h
  split at h
  ·rename_i q
   split at h
   ·cases h
   ·rename_i s hs
    refine ⟨by omega,?_⟩
    by_cases hn:(ts.getD i AF).n=1∨(ts.getD i AF).n=5
    ·obtain⟨h1,h2⟩:=Hq (EF ts f true) ht ih h
     unfold Cz
     rw [if_pos ⟨q,hn⟩]
     have hl:(Am ts i).length=2:=by rw [h1];rcases Gm hs hn with e | e <;> rw [e] <;> rfl
     match hk2:Am ts i,hl with
     | [a,b],_ =>
      rw [hk2] at h2
      intro k hk
      simp at hk
      subst hk
      rcases Gm hs hn with e | e <;> rw [e] at h2
      ·exact h2 _ 4 (by simp) (by decide) (by decide)
      ·exact h2 _ 3 (by simp) (by decide) (by decide)
    ·unfold Cz
     rw [if_neg (fun h=>hn h.2)]
     exact GW (EF ts f true) ht ih h (Mx hs (by omega) (by omega))
  ·obtain⟨h1,h2⟩:=GJ (EF ts f true) ih h
   exact ⟨by omega,hk _ (by omega) h2⟩
theorem Pk (ts:List Au):∀ f,f≤ts.length + 1→(∀ i s,((sbM ts f).1 i s).bad=false→EF ts f false i)∧(∀ i s,((sbM ts f).2 i s).bad=false→EF ts f false i)
 | 0,_=>⟨fun _ _ _=>trivial,fun _ _ _=>trivial⟩
 | f + 1,h=>by
  obtain⟨i1,i2⟩:=Pk ts f (by omega)
  obtain⟨a1,a2⟩:=GN ts (f + 1) h
  refine ⟨fun i s hb=>?_,fun i s hb=>?_⟩
  ·obtain⟨h1,h2⟩:=OT (EF ts f false) (EF ts f true) i1 i2 (fun s k hk=>(Ht ts _ _ _ _ hk).le (by omega)) i s hb
   refine ⟨⟨by omega,h1.2⟩,(a1 i s hb).1,fun k j hk=>?_⟩
   rw [Cx _ (by omega)] at hk
   have:=h2 k j hk
   cases hv:LZ (ts.getD i AF).op k with
   | true=>rw [if_pos hv] at this;exact this
   | false=>rw [if_neg (by rw [hv];decide)] at this;exact this
  ·have hb2:=hb
   simp only [sbM] at hb2
   unfold CW at hb2
   simp only at hb2
   split at hb2
   ·rename_i hc
    have hop:=hc.1
    refine ⟨⟨by omega,by omega⟩,(a2 i s hb).1,fun k j hk=>?_⟩
    rw [Cx _ (by omega)] at hk
    rw [hop]
    exact (DV (EF ts f false) i1 _ _ _ hb2).2 j (List.mem_of_getElem? hk)
   ·cases hb2
theorem OF {on:Int} {slots:List Int} {when_:Bool} {ts:List Au} (h:Bg on slots when_ ts=true):EF ts ts.length false (CU when_ ts).toNat∧(when_=true→EF ts ts.length true 0):=by
 unfold Bg at h
 simp only [Bool.and_eq_true,decide_eq_true_eq,Bool.not_eq_true'] at h
 obtain⟨⟨⟨⟨⟨⟨h0,h1⟩,h2⟩,h3⟩,h4⟩,h5⟩,h6⟩:=h
 have hb1:(Eh when_ ts).bad=false:=by
  unfold DS at h5
  split at h5
  ·rename_i hh;rw [hh] at h5;cases h5
  ·rename_i hh;simpa using hh
 have hb2:((sbM ts (ts.length + 1)).2 (CU when_ ts).toNat (Eh when_ ts)).bad=false:=by
  unfold DS at h5
  rw [if_neg (by rw [hb1];decide)] at h5
  exact h5
 refine ⟨((Pk ts (ts.length + 1) (Nat.le_refl _)).2 _ _ hb2).le (by omega),fun hw=>?_⟩
 subst hw
 unfold Eh at hb1
 rw [if_pos rfl] at hb1
 unfold AD Cr at hb1
 simp only [AA,Bool.or_eq_false_iff] at hb1
 exact Ht ts _ _ _ _ hb1.1.1
def nd (op kind n m kids:Int):Au:=⟨op,kind,n,m,ByteArray.empty,0,kids⟩
theorem JB:∀ (ts:List Au) (i j:Nat) (x:Au) (v:Value),ts[i]? = some x→x.cells[j]? = some v→(ts.flatMap Au.cells)[i * 7 + j]? = some v
 | [],i,j,x,v,h,_=>by simp at h
 | y :: r,0,j,x,v,h,hv=>by
  simp only [List.getElem?_cons_zero,Option.some.injEq] at h
  subst h
  have hj:j < 7:=by
   have:=(List.getElem?_eq_some_iff.1 hv).1
   simpa [Au.cells] using this
  rw [List.flatMap_cons,Nat.zero_mul,Nat.zero_add,List.getElem?_append_left (by simpa [Au.cells] using hj)]
  exact hv
 | y :: r,i + 1,j,x,v,h,hv=>by
  have:=JB r i j x v h hv
  have hl:y.cells.length=7:=rfl
  rw [List.flatMap_cons,List.getElem?_append_right (by omega),hl,← this]
  congr 1
  omega
theorem R7 {w:World} {b:Nat} {t:TypeId} {ts:List Au} (h:Blk w b t (ts.flatMap Au.cells).toArray):As w b 0 ts:=by
 intro i x hx j v hv
 rw [show 0 + i * 7 + j=i * 7 + j by omega,h.cell,List.getElem?_toArray]
 exact JB ts i j x v hx hv
theorem P1 {w:World} {b:Nat} {t:TypeId} {l:List Int} (h:Blk w b t (l.map (Value.int .i8)).toArray):AV w (some ⟨b,0,none⟩) l:=by
 intro k x hk
 refine ⟨b,0,rfl,h.lt,?_⟩
 rw [Nat.zero_add,h.cell,List.getElem?_toArray,List.getElem?_map,hk]
 rfl
theorem Gu {P:Program} {w:World} (t ty e:TypeId) (i:TypeInfo) (z:Value) (ht:P.underlying t=some (.slice e)) (hi:P.info? e=some i) (hz:i.zero=some z) (A:Option Addr) (c:Nat) :
  (Builtin.append_ #[t,t] ty #[.slice none 0 0,.slice A 0 c]).run P w=.ok (.slice none 0 0) w:=by
 cases A with
 | none=>simp [Builtin.append_,run_underlying ht,sizeOf,typeInfo,zeroValue,hi,hz,Builtin.lenOf,Builtin.firstCells]
 | some a=>simp [Builtin.append_,run_underlying ht,sizeOf,typeInfo,zeroValue,hi,hz,Builtin.lenOf,Builtin.firstCells,loadCells,loadCellsFrom]
theorem Cw {P:Program} {w:World} {ops:Array Oper} {rest:List Oper} {o:Oper} {a:Act} {Q:Exit→Act→World→Prop} (hgd:o.guard=none) (s x:Operand) (t:TypeId)
  (ho:o.op=.call { callee:=.builtin .append,args:=#[s,x],argTypes:=#[t,t] }) (vs vx v:Value) (W:World) (hs:a.eval s=vs) (hx:a.eval x=vx) (hr:(Builtin.append_ #[t,t] o.type #[vs,vx]).run P w=.ok v W)
  (h:wpList P ops Q rest (a.put o.dst v) W):wpList P ops Q (o :: rest) a w:=by
 refine wpList_plain hgd fun K hK=>?_
 unfold Oper.wp execOp
 simp only [ho,resolve,invoke,builtin,Sem.run_bind,Sem.run_pure,Result.andThen_ok,List.map_toArray,List.map_cons,List.map_nil,hs,hx,hr]
 exact hK _ _ h
def Jt (w:World) (A:Option Addr):Prop:=∀ a,A=some a→w.heap.size≤a.block
theorem Jt.nil (w:World):Jt w none:=fun a h=>by cases h
theorem Jt.here (w:World) (o:Nat):Jt w (some ⟨w.heap.size,o,none⟩):=fun a h=>by injection h with h;subst h;exact Nat.le_refl _
theorem AV.far {w w0:World} {A:Option Addr} {l:List Int} (h:AV w A l) (hf:Jt w0 A) {p:Addr} (hp:p.block < w0.heap.size) (u:Value):AV (w.setCell p u) A l:=by
 intro k x hk
 obtain⟨b,off,h1,h2,h3⟩:=h k x hk
 have:=hf _ h1
 refine ⟨b,off,h1,by simpa [World.setCell] using h2,?_⟩
 rw [World.cell?_of_block (w:=w) (Below.heap_setCell w p u b (by show b≠p.block;simp only at this;omega))]
 exact h3
theorem Bv.far {w w0:World} {A:Option Addr} {ts:List Au} (h:Bv w A ts) (hf:Jt w0 A) {p:Addr} (hp:p.block < w0.heap.size) (u:Value):Bv (w.setCell p u) A ts:=by
 rcases h with h | ⟨tb,toff,h1,h2,h3⟩
 ·exact .inl h
 ·have:=hf _ h1
  refine .inr ⟨tb,toff,h1,by simpa [World.setCell] using h2,fun i x hx j v hv=>?_⟩
  rw [World.cell?_of_block (w:=w) (Below.heap_setCell w p u tb (by show tb≠p.block;simp only at this;omega))]
  exact h3 i x hx j v hv

theorem MT:∀ (l:List (Nat × Nat)) (b:List Int),(Du l b).length=b.length
 | [],b=>rfl
 | p :: l,b=>by
  show (Du l ((b.set p.1 (hi8 p.2)).set (p.1 + 1) (u8 p.2))).length=_
  rw [MT l,List.length_set,List.length_set]
theorem OH:∀ (l:List (Nat × Nat)) (b x:List Int),(∀ p∈l,p.1 + 1 < b.length)→Du l (b ++ x)=Du l b ++ x
 | [],b,x,_=>rfl
 | p :: l,b,x,h=>by
  have h0:=h p (List.mem_cons_self ..)
  show Du l (((b ++ x).set p.1 (hi8 p.2)).set (p.1 + 1) (u8 p.2))=Du l ((b.set p.1 (hi8 p.2)).set (p.1 + 1) (u8 p.2)) ++ x
  rw [List.set_append_left _ _ (by omega),List.set_append_left _ _ (by rw [List.length_set];omega)]
  exact OH l _ x fun q hq=>by rw [List.length_set,List.length_set];exact h q (List.mem_cons_of_mem _ hq)
theorem RV (l:List (Nat × Nat)) (b:List Int) (p n:Nat):Du (l ++ [(p,n)]) b=((Du l b).set p (hi8 n)).set (p + 1) (u8 n):=by
 unfold Du
 rw [List.foldl_append]
 rfl
def E5 (x:List Int) (s:MS):MS:={ s with b:=s.b ++ x }
theorem QR (c n:Int) (s:MS):E5 [hi8 n,u8 n] (opE c [] s)=Ec c n s:=by simp [Ec,opE,E5]
theorem Rs (o:Option Int) (s:MS):E5 [hi8 (o.getD 0),u8 (o.getD 0)] (C9 o (opE 1 [] s))=Dn o s:=by simp [Dn,Ec,opE,E5,C9]
theorem QA (x:List Int) (s:MS):(E5 x s).ms=s.ms + x.length:=by simp [E5,MS.ms];omega
structure Ref (s:MS) (b:List Int):Prop where
 code:s.bad=false→b=Du s.later s.b
 ok:OKm s
 len:b.length≤s.b.length
structure Jmp (s:MS) (b:List Int) (q p:Nat):Prop where
 same:s.bad=false→q=p
 here:q + 1 < b.length
 there:p + 1 < s.b.length
structure JUp (s:MS) (b:List Int) (s':MS) (b':List Int):Prop where
 len:b.length≤b'.length
 up:s.b.length≤s'.b.length
 bad:s'.bad=false→s.bad=false
theorem JUp.refl (s:MS) (b:List Int):JUp s b s b:=⟨Nat.le_refl _,Nat.le_refl _,id⟩
theorem JUp.trans {s1 s2 s3:MS} {b1 b2 b3:List Int} (h:JUp s1 b1 s2 b2) (k:JUp s2 b2 s3 b3):JUp s1 b1 s3 b3:=⟨Nat.le_trans h.len k.len,Nat.le_trans h.up k.up,fun e=>h.bad (k.bad e)⟩
theorem Jmp.up {s s':MS} {b b':List Int} {q p:Nat} (h:Jmp s b q p) (k:JUp s b s' b'):Jmp s' b' q p:=⟨fun e=>h.same (k.bad e),Nat.lt_of_lt_of_le h.here k.len,Nat.lt_of_lt_of_le h.there k.up⟩
theorem Ref.start:Ref ⟨[],false,[]⟩ []:=⟨fun _=>rfl,fun p hp=>by simp at hp,Nat.le_refl _⟩
section
variable {s:MS} {b:List Int} (h:Ref s b)
include s b h
theorem Ref.same (hb:s.bad=false):b.length=s.b.length:=by rw [h.code hb,MT]
theorem Ref.raw (x y:List Int) (hx:s.bad=false→y=x) (hl:y.length≤x.length):Ref (E5 x s) (b ++ y):=by
 refine ⟨fun hb=>?_,fun p hp=>?_,?_⟩
 ·have hb2:s.bad=false:=hb
  show b ++ y=Du s.later (s.b ++ x)
  rw [OH _ _ _ (fun p hp=>(h.ok p hp).1),h.code hb2,hx hb2]
 ·have:=h.ok p hp
  simp only [E5,List.length_append]
  omega
 ·have:=h.len
  simp only [E5,List.length_append]
  omega
end
theorem JUp.raw (s:MS) (b x y:List Int):JUp s b (E5 x s) (b ++ y):=⟨by simp,by simp [E5],id⟩
theorem Ref.num {s:MS} {b:List Int} (h:Ref s b) (o:Option Int):Ref (C9 o s) b:=
 ⟨fun hb=>h.code (by
  have h1:(s.bad || o.isNone)=false:=hb
  exact (Bool.or_eq_false_iff.1 h1).1),(Kq o s).2 h.ok,h.len⟩
theorem JUp.num (s:MS) (b:List Int) (o:Option Int):JUp s b (C9 o s) b:=⟨Nat.le_refl _,Nat.le_refl _,fun e=>(Bool.or_eq_false_iff.1 (show (s.bad || o.isNone)=false from e)).1⟩
theorem Ref.here {s:MS} {b:List Int} (h:Ref s b) {q p:Nat} (j:Jmp s b q p):Ref (Bq p s) ((b.set q (hi8 b.length)).set (q + 1) (u8 b.length)):=
 ⟨fun hb=>by
  have hb2:s.bad=false:=hb
  have e:=h.code hb2
  have hl:=h.same hb2
  show _=Du (s.later ++ [(p,s.b.length)]) s.b
  rw [RV,← e,hl,j.same hb2],(OG j.there).2 h.ok,by rw [List.length_set,List.length_set];exact h.len⟩
theorem JUp.here (s:MS) (b:List Int) (q p:Nat) (x y:Int):JUp s b (Bq p s) ((b.set q x).set (q + 1) y):=⟨by rw [List.length_set,List.length_set];exact Nat.le_refl _,Nat.le_refl _,id⟩
theorem Jmp.new {s:MS} {b:List Int} (h:Ref s b) (c:Int) (x:List Int):Jmp (AI c x s) (b ++ c :: (x ++ [0,0])) ((b ++ c :: (x ++ [0,0])).length - 2) (AI c x s).at_:=by
 refine ⟨fun hb=>?_,?_,Pd c x s⟩
 ·have e:=h.same hb
  simp only [MS.at_,AI,opE,List.length_append,List.length_cons,List.length_nil,e]
 ·simp only [List.length_append,List.length_cons,List.length_nil]
  omega
theorem Uk (m:Int):u8 (IntKind.i64.wrap (m + 1))=u8 (u8 m + 1):=by
 simp only [u8,IntKind.wrap,IntKind.bits,IntKind.signed]
 simp
 omega
theorem Ix (b off cap:Nat) (ts:List Au) (k:Nat) (w:World) (hl:ts.length≤100000) (hc:As w b off ts) (h1:k < ts.length) (hbe:0≤Ap ts k) :
  Calls Tryz.prog 52 #[.slice (some ⟨b,off,none⟩) ts.length cap,.int .i64 k] w fun e w'=>e=.returned (.int .i64 (Ap ts k))∧w=w':=by
 obtain⟨R,hR⟩:=Ex0 (Ap ts k)
 rw [← hR] at hbe ⊢
 unfold Ap at hR
 rw [if_pos h1] at hR
 have HR:=Lh hR
 clear hR
 obtain⟨len,hlen⟩:∃ len,ts.length=len:=⟨_,rfl⟩
 rw [hlen] at h1 hl HR ⊢
 have HL:=Lh hlen
 clear hlen
 go_in
 go_wp2
 go_loop [1,5] (fun a l=>∃ (j:Nat) (L:Int),j≤len∧L≤j * 100000 + 1∧0≤L∧Hid (R=beh len (ts.drop j) L j)∧a=.int .i64 j∧l=.int .i64 L) (fun a _=>len - (intOf a).toNat)
 case atStart=>exact ⟨k,1,by omega,by omega,by omega,HR,rfl,rfl⟩
 case round =>
  obtain⟨j,L,hj,hL,hL0,H,rfl,rfl⟩:=hrel
  by_cases h:0 < L
  ·have hjl:j < len:=by
    by_cases hjl:j < len
    ·exact hjl
    ·exfalso
     have:=H.out
     rw [List.drop_of_length_le (by rw [HL.out];omega),beh,if_neg (by omega)] at this
     omega
   obtain⟨x,hx⟩:∃ x,ts[j]? = some x:=⟨_,List.getElem?_eq_getElem (by rw [HL.out];exact hjl)⟩
   have hcj:=hc.kids hx
   have hs:beh len (ts.drop j) L j=if x.kids < 0∨x.kids > len then -1 else beh len (ts.drop (j + 1)) (L + (x.kids - 1)) (j + 1):=by
    rw [I8 hx,beh,if_neg (by omega)]
   have hkr:0≤x.kids∧x.kids≤len:=by
    by_cases hb:x.kids < 0∨x.kids > len
    ·exfalso
     have:=H.out
     rw [hs,if_pos hb] at this
     omega
    ·omega
   obtain⟨hk0,hk1⟩:=hkr
   have HS:=Lh hs
   clear hs hx hc
   go_wp2
   go_round
   case rel=>exact ⟨j + 1,L + (x.kids - 1),by omega,by omega,by omega,by rw [if_neg (by omega)] at HS;rw [← HS.out];exact H,by go_num,by go_num⟩
   case measure=>simp [intOf];omega
  ·have hs:beh len (ts.drop j) L j=j:=by
    cases ts.drop j <;> rw [beh,if_pos (by omega)]
   have HS:=Lh hs
   clear hs
   go_wp2
   go_ret
   exact ⟨De (by rw [H.out,HS.out]),rfl⟩
theorem P0 (tb toff c:Nat) (ts:List Au) (i:Nat) (w:World) (hl:ts.length≤100000) (hN:As w tb toff ts) (htb:tb < w.heap.size) (hi:i < ts.length) (hbi:0≤Ap ts i) :
  Calls Tryz.prog 112 #[.slice (some ⟨tb,toff,none⟩) ts.length c,.int .i64 i] w fun e w'=>∃ v,e=.returned v∧w'.ownsRow w.heap.size 3 1 v (Am ts i).length (AQ ((Am ts i).map (fun j:Nat=>(j:Int))))∧Below w.heap.size w w':=by
 obtain⟨x,hx⟩:∃ x,ts[i]? = some x:=⟨_,List.getElem?_eq_getElem hi⟩
 have hneg:¬ Ap ts i < 0:=by omega
 have hck:=hN.kids hx
 have hz:∃ z,(Bc ts.length ts)[i]? = some (some z):=by
  rw [BV] at hneg
  rcases hz:(Bc ts.length ts)[i]? with _ | _ | z
  ·rw [hz] at hneg;simp only at hneg;omega
  ·rw [hz] at hneg;simp only at hneg;omega
  ·exact ⟨z,rfl⟩
 obtain⟨z,hz⟩:=hz
 obtain⟨hk0,hk1,hadv⟩:=EJ hx hz
 have hkids:Am ts i=BL ts x.kids.toNat (i + 1):=by
  unfold Am
  rw [if_neg hneg,List.getD_eq_getElem?_getD,hx]
  rfl
 rw [hkids]
 obtain⟨K,hK⟩:=Int.eq_ofNat_of_zero_le hk0
 rw [hK] at hck hadv hk1 ⊢
 rw [Int.toNat_natCast] at hadv ⊢
 have hT2:∀ wx,Below w.heap.size w wx→As wx tb toff ts:=fun wx h=>hN.below h htb
 have hbd:=fun (k:Nat) (wx:World) (hx:As wx tb toff ts) (h1:k < ts.length) (h2:0≤Ap ts k)=>Ix tb toff c ts k wx hl hx h1 h2
 obtain⟨len,hlen⟩:∃ len,ts.length=len:=⟨_,rfl⟩
 rw [hlen] at hl hi hk1 hadv ⊢
 simp only [hlen] at hbd
 obtain⟨HL,HA,HBD,HT⟩:=Hd4 hlen hadv hbd hT2
 clear hadv hlen hK hx hkids hz hbd hT2 hN hneg
 have hiI:(i:Int) < len:=by omega
 go_in
 go_wp2_with fail
 go_loopw [5,6,7] (fun v a k wr=>∃ (j:Nat) (V:Int),j≤K∧k=.int .i64 j∧a=.int .i64 V∧Hid (V=Cn (adv (Bc len ts) j (i + 1)))∧wr.ownsRow w.heap.size 3 1 v j (AQ ((BL ts j (i + 1)).map (fun j:Nat=>(j:Int))))∧Below w.heap.size w wr)
  (fun _ _ k _=>K - (intOf k).toNat)
 case atStart=>exact ⟨0,(i:Int) + 1,by omega,rfl,rfl,by simp [adv,Cn,Hid],World.ownsRow_nil _ _ _ _,Below.refl _ _⟩
 case round =>
  obtain⟨j,V,hjK,rfl,rfl,HV,hown,hbel⟩:=hrel
  obtain⟨A5,c5,rfl⟩:=AJ hown
  have hcw:wr.cell? ⟨tb,toff + i * 7 + 6,none⟩=some (.int .i64 K):=(hbel.cell (p:=⟨tb,toff + i * 7 + 6,none⟩) htb).trans hck
  obtain⟨HO,HBE⟩:=Hd2 hown hbel
  have hzz:=hbel.size
  clear hown hbel
  have hsome:∃ q,adv (Bc len ts) j (i + 1)=some q:=by
   cases h:adv (Bc len ts) j (i + 1) with
   | some q=>exact ⟨q,rfl⟩
   | none =>
    have:=Eg ts j K (i + 1) hjK (by rw [HL.out];exact h)
    rw [HL.out,HA.out] at this
    cases this
  obtain⟨q,hq⟩:=hsome
  have hVq:V=q:=by rw [HV.out,hq];rfl
  subst hVq
  have hql:=Ib (len:=ts.length) (l:=ts) j (i + 1) q (by rw [HL.out];omega) (by rw [HL.out];exact hq)
  rw [HL.out] at hql
  by_cases hlt:j < K
  ·have hqlt:q < len:=by
    have h1:=EY ts j (i + 1) q (by rw [HL.out];exact hq)
    by_cases h2:q < len
    ·exact h2
    ·rw [HL.out,if_neg h2] at h1
     cases h3:adv (Bc len ts) (j + 1) (i + 1) with
     | some z=>rw [h3] at h1;simp only [Cn] at h1;omega
     | none =>
      have:=Eg ts (j + 1) K (i + 1) (by omega) (by rw [HL.out];exact h3)
      rw [HL.out,HA.out] at this
      cases this
   have hnext:=EY ts j (i + 1) q (by rw [HL.out];exact hq)
   rw [HL.out,if_pos hqlt] at hnext
   have hstep:=Ew ts j (i + 1) q (by rw [HL.out];exact hq)
   have hbq:0≤Ap ts q:=by
    cases h3:adv (Bc len ts) (j + 1) (i + 1) with
    | some z=>rw [h3] at hnext;simp only [Cn] at hnext;omega
    | none =>
     have:=Eg ts (j + 1) K (i + 1) (by omega) (by rw [HL.out];exact h3)
     rw [HL.out,HA.out] at this
     cases this
   obtain⟨HN,HS⟩:=Hd2 hnext hstep
   clear hq hnext hstep
   obtain⟨hq1,hq2⟩:=hql
   go_wp2_with (at_builtin;go_loud (refine Cb T4 rfl _ _ rfl w.heap.size wr [.int .i64 q] rfl _ _ _ rfl HO.out rfl rfl (by simp [Value.oneCell']) (by unfold maxLen;omega) (by omega) hzz ?_;intro v2 w2 hown2 hg2;obtain⟨A6,c6,rfl⟩:=AJ hown2;have QB:=Lh (Below.of_own HBE.out HO.out hg2 (Nat.le_refl _) hzz);have QO:=Lh hown2;clear hown2 hg2))
   refine (HBD.out q _ (HT.out _ QB.out) hqlt hbq).mono ?_
   rintro e w3 ⟨rfl,rfl⟩
   go_wp2_with fail
   go_roundw
   case rel =>
    refine ⟨j + 1,Ap ts q,by omega,by go_num,rfl,HN.out.symm,?_,QB.out⟩
    have h:=QO.out
    rw [HS.out,List.map_append]
    have e:AQ ((BL ts j (i + 1)).map (fun j:Nat=>(j:Int)) ++ List.map (fun j:Nat=>(j:Int)) [q])=AQ ((BL ts j (i + 1)).map (fun j:Nat=>(j:Int))) ++ [.int .i64 (q:Int)]:=by simp [AQ]
    rw [e]
    exact h
   case measure=>(simp [intOf];try omega)
  ·have hjK2:j=K:=by omega
   subst hjK2
   clear hq
   go_wp2_with fail
   go_ret
   exact ⟨_,rfl,by rw [CZ];exact HO.out,HBE.out⟩
def DN:List Au→Int→Int
 | [],s=>s
 | x :: r,s=>if s≤16777216 then DN r (s + (x.text.size:Int)) else s
theorem IL:∀ ts s,s≤DN ts s
 | [],s=>by unfold DN;omega
 | x :: r,s=>by
  unfold DN
  split
  ·have:=IL r (s + (x.text.size:Int));omega
  ·omega
theorem LO:∀ ts s,0≤s→DN ts s≤16777216→∀ x∈ts,(x.text.size:Int)≤16777216
 | [],s,_,_,x,h=>by simp at h
 | y :: r,s,h0,hs,x,h=>by
  unfold DN at hs
  split at hs
  ·rcases List.mem_cons.1 h with rfl | h
   ·have:=IL r (s + (x.text.size:Int));omega
   ·exact LO r (s + (y.text.size:Int)) (by omega) hs x h
  ·omega
theorem OA:∀ ts s,(∀ x∈ts,x.text.size≤4611686018427387904)→s≤281474976710656→DN ts s≤4611967493404098560
 | [],s,_,h=>by unfold DN;omega
 | y :: r,s,ht,h=>by
  unfold DN
  split
  ·have hy:=ht y (List.mem_cons_self ..)
   cases r with
   | nil=>unfold DN;omega
   | cons z r =>
    by_cases hs:s + (y.text.size:Int)≤16777216
    ·exact OA (z :: r) _ (fun x hx=>ht x (List.mem_cons_of_mem _ hx)) (by omega)
    ·unfold DN;rw [if_neg hs];omega
  ·omega
theorem LT (A:Option Addr) (ts:List Au) (c:Nat) (w:World) (hl:ts.length≤281474976710656) (hT:Bv w A ts) (htx:∀ x∈ts,x.text.size≤4611686018427387904) :
  Calls Tryz.prog 99 #[.slice A ts.length c] w fun e w'=>e=.returned (.int .i64 (DN ts ts.length))∧w=w':=by
 obtain⟨len,hlen⟩:∃ len,ts.length=len:=⟨_,rfl⟩
 obtain⟨R,hR⟩:=Ex0 (DN ts ts.length)
 rw [← hR]
 rw [hlen] at hR hl ⊢
 have hcell:∀ i x,ts[i]? = some x→∃ b off,A=some ⟨b,off,none⟩∧w.cell? ⟨b,off + i * 7 + 4,none⟩=some (.string x.text):=by
  intro i x hx
  rcases hT with rfl | ⟨tb,toff,h1,h2,h3⟩
  ·simp at hx
  ·exact ⟨tb,toff,h1,h3.text hx⟩
 obtain⟨HR,HL,HC,HTX⟩:=Hd4 hR hlen hcell htx
 clear hR hlen hcell hT htx
 by_cases hA:A=none
 ·subst hA
  have h0:len=0:=by
   rcases Nat.eq_zero_or_pos len with h | h
   ·exact h
   ·obtain⟨b,off,e,_⟩:=HC.out 0 _ (List.getElem?_eq_getElem (by rw [HL.out];exact h))
    cases e
  subst h0
  have hR0:R=0:=by
   have:ts=[]:=List.length_eq_zero_iff.1 HL.out
   rw [HR.out,this];rfl
  have HR0:=Lh hR0
  clear hR0
  go_in
  go_wp2
  go_loop [3,4] (fun s i=>s=.int .i64 0∧i=.int .i64 0) (fun _ _=>0)
  case atStart=>exact ⟨rfl,rfl⟩
  case round =>
   obtain⟨rfl,rfl⟩:=hrel
   go_wp2
   go_ret
   exact ⟨De HR0.out.symm,rfl⟩
 ·obtain⟨a,rfl⟩:=Option.ne_none_iff_exists'.1 hA
  obtain⟨b,off,e,he⟩:∃ b off e,a=⟨b,off,e⟩:=⟨_,_,_,rfl⟩
  by_cases hlen0:len=0
  ·subst hlen0
   have hR0:R=0:=by
    have:ts=[]:=List.length_eq_zero_iff.1 HL.out
    rw [HR.out,this];rfl
   have HR0:=Lh hR0
   clear hR0
   go_in
   go_wp2
   go_loop [3,4] (fun s i=>s=.int .i64 0∧i=.int .i64 0) (fun _ _=>0)
   case atStart=>exact ⟨rfl,rfl⟩
   case round =>
    obtain⟨rfl,rfl⟩:=hrel
    go_wp2
    go_ret
    exact ⟨De HR0.out.symm,rfl⟩
  ·obtain⟨b2,off2,e2,hdrop⟩:=HC.out 0 _ (List.getElem?_eq_getElem (by rw [HL.out];omega))
   clear hdrop
   injection e2 with e2
   subst e2
   clear he hA hlen0
   clear b off e
   have hcell:∀ i x,ts[i]? = some x→w.cell? ⟨b2,off2 + i * 7 + 4,none⟩=some (.string x.text):=by
    intro i x hx
    obtain⟨b,off,e,h⟩:=HC.out i x hx
    injection e with e
    injection e with e1 e2
    subst e1 e2
    exact h
   clear HC
   have HC:=Lh hcell
   clear hcell
   go_in
   go_wp2
   go_loop [3,4] (fun s i=>∃ (j:Nat) (S:Int),j≤len∧0≤S∧S≤4611967493404098560∧Hid (R=DN (ts.drop j) S)∧s=.int .i64 S∧i=.int .i64 j) (fun _ i=>len - (intOf i).toNat)
   case atStart=>exact ⟨0,len,by omega,by omega,by omega,HR,rfl,rfl⟩
   case round =>
    obtain⟨j,S,hj,hS0,hS1,H,rfl,rfl⟩:=hrel
    by_cases hjl:j < len
    ·obtain⟨x,hx⟩:∃ x,ts[j]? = some x:=⟨_,List.getElem?_eq_getElem (by rw [HL.out];exact hjl)⟩
     have hs:R=if S≤16777216 then DN (ts.drop (j + 1)) (S + (x.text.size:Int)) else S:=by rw [H.out,I8 hx,DN]
     have hsz:=HTX.out x (List.mem_of_getElem? hx)
     have hcj:=HC.out j x hx
     have HS:=Lh hs
     clear hs hx
     by_cases h1:S≤16777216
     ·go_wp2
      go_round
      case rel=>exact ⟨j + 1,S + (x.text.size:Int),by omega,by omega,by omega,by rw [if_pos h1] at HS;exact HS,by go_num,by go_num⟩
      case measure=>simp [intOf];omega
     ·go_wp2
      go_ret
      exact ⟨De (by rw [HS.out,if_neg (by omega)]),rfl⟩
    ·have hs:R=S:=by
      rw [H.out,List.drop_of_length_le (by rw [HL.out];omega),DN]
     have HS:=Lh hs
     clear hs
     go_wp2
     go_ret
     exact ⟨De HS.out.symm,rfl⟩
theorem KQ (n:Int) (w:World):Calls Tryz.prog 24 #[.int .i64 n] w fun e w'=>e=.returned (.bool (decide (16777216 < n)))∧w=w':=by
 go_in
 go_wp2
 go_ret
 all_goals exact ⟨by simp,rfl⟩
theorem NH (on:Int) (SA TA:Option Addr) (slots:List Int) (sc tc:Nat) (when_:Bool) (ts:List Au) (w:World) (hl:slots.length≤281474976710656) (ht:ts.length≤281474976710656) (hT:Bv w TA ts) (htx:∀ x∈ts,x.text.size≤4611686018427387904) :
  Calls Tryz.prog 38 #[.agg #[.int .i64 on,.slice SA slots.length sc,.bool when_,.slice TA ts.length tc]] w fun e w'=>e=.returned (.int .i64 ((slots.length:Int) + DN ts ts.length))∧Below w.heap.size w w':=by
 obtain⟨W,hW⟩:=Ex0 (w.alloc (.cells #[.int .i64 on,.slice SA slots.length sc,.bool when_,.slice TA ts.length tc] 25))
 have hBW:Below w.heap.size w W:=by rw [hW];exact (Below.refl _ _).alloc (Nat.le_refl _) _
 have hb0:Blk W w.heap.size 25 #[.int .i64 on,.slice SA slots.length sc,.bool when_,.slice TA ts.length tc]:=by rw [hW];exact Blk.new _ _ _
 obtain⟨R,hR⟩:=Ex0 (DN ts ts.length)
 have hR0:0≤R:=by rw [hR];have:=IL ts ts.length;omega
 have hR1:R≤4611967493404098560:=by rw [hR];exact OA ts ts.length htx (by omega)
 have hc:=fun (w':World) (h:Bv w' TA ts)=>LT TA ts tc w' ht h htx
 simp only [← hR] at hc ⊢
 obtain⟨n,hn⟩:∃ n,slots.length=n:=⟨_,rfl⟩
 obtain⟨m,hm⟩:∃ m,ts.length=m:=⟨_,rfl⟩
 rw [hn] at hb0 hW hl ⊢
 rw [hm] at hc hb0 hW ⊢
 have hT0:=fun (w':World) (h:Below w.heap.size w w')=>hT.below h
 obtain⟨HC,HT,HBW,HB0,HW⟩:=Hd5 hc hT0 hBW hb0 hW
 clear hc hT0 hT hBW hb0 hW ht hR htx hn hm
 have hwi:IntKind.i64.wrap ((n:Int) + R)=(n:Int) + R:=by rw [IntKind.wrap_i64];(try unfold wrap64);omega
 have hbd:Below w.heap.size w (w.alloc (.cells #[.int .i64 on,.slice SA n sc,.bool when_,.slice TA m tc] 25)).drew:=by rw [← HW.out];exact HBW.out.drew
 have c1:(w.alloc (.cells #[.int .i64 on,.slice SA n sc,.bool when_,.slice TA m tc] 25)).cell? ⟨w.heap.size,1,none⟩=some (.slice SA n sc):=by rw [← HW.out];exact HB0.out.cell 1
 have c3:(w.alloc (.cells #[.int .i64 on,.slice SA n sc,.bool when_,.slice TA m tc] 25)).cell? ⟨w.heap.size,3,none⟩=some (.slice TA m tc):=by rw [← HW.out];exact HB0.out.cell 3
 have HBD:=Lh hbd
 clear hbd
 go_in
 go_wp2_with fail
 go_region_held3 (fun w'=>w'.cell? ⟨w.heap.size,1,none⟩=some (.slice SA n sc)∧w'.cell? ⟨w.heap.size,3,none⟩=some (.slice TA m tc)) (first | exact ⟨c1,c3⟩ | go_keep) ((first | (go_at_call 99;refine (HC.out _ (HT.out _ HBD.out)).mono ?_;rintro e w5 ⟨rfl,rfl⟩)))
 all_goals go_wp2_with fail
 go_ret
 exact ⟨rfl,HBD.out⟩
def Gy:List ByteArray→Int→Int
 | [],s=>s
 | x :: r,s=>if s≤16777216 then Gy r (s + (x.size:Int)) else s
theorem OI:∀ ts s,s≤Gy ts s
 | [],s=>by unfold Gy;omega
 | x :: r,s=>by
  unfold Gy
  split
  ·have:=OI r (s + (x.size:Int));omega
  ·omega
theorem Ss {l:List ByteArray} {j:Nat} {x:ByteArray} (h:l[j]? = some x):l.drop j=x :: l.drop (j + 1):=by
 obtain⟨hlt,e⟩:=List.getElem?_eq_some_iff.1 h
 rw [List.drop_eq_getElem_cons hlt,e]
theorem Mv (A:Option Addr) (l:List ByteArray) (c:Nat) (w:World) (hl:l.length≤281474976710656) (hT:BE w A l) (htx:∀ x∈l,x.size≤4611686018427387904) :
  Calls Tryz.prog 39 #[.slice A l.length c] w fun e w'=>e=.returned (.int .i64 (Gy l l.length))∧w=w':=by
 obtain⟨len,hlen⟩:∃ len,l.length=len:=⟨_,rfl⟩
 obtain⟨R,hR⟩:=Ex0 (Gy l l.length)
 rw [← hR]
 rw [hlen] at hR hl ⊢
 have hcell:∀ i x,l[i]? = some x→∃ b off,A=some ⟨b,off,none⟩∧w.cell? ⟨b,off + i,none⟩=some (.string x):=by
  intro i x hx
  obtain⟨b,off,h1,h2,h3⟩:=hT i x hx
  exact ⟨b,off,h1,h3⟩
 obtain⟨HR,HL,HC,HTX⟩:=Hd4 hR hlen hcell htx
 clear hR hlen hcell hT htx
 by_cases hA:len=0
 ·subst hA
  have hR0:R=0:=by
   have:l=[]:=List.length_eq_zero_iff.1 HL.out
   rw [HR.out,this];rfl
  have HR0:=Lh hR0
  clear hR0
  go_in
  go_wp2
  go_loop [3,4] (fun s i=>s=.int .i64 0∧i=.int .i64 0) (fun _ _=>0)
  case atStart=>exact ⟨rfl,rfl⟩
  case round =>
   obtain⟨rfl,rfl⟩:=hrel
   go_wp2
   go_ret
   exact ⟨De HR0.out.symm,rfl⟩
 ·obtain⟨b2,off2,rfl,hdrop⟩:=HC.out 0 _ (List.getElem?_eq_getElem (by rw [HL.out];omega))
  clear hdrop hA
  have hcell:∀ i x,l[i]? = some x→w.cell? ⟨b2,off2 + i,none⟩=some (.string x):=by
   intro i x hx
   obtain⟨b,off,e,h⟩:=HC.out i x hx
   injection e with e
   injection e with e1 e2
   subst e1 e2
   exact h
  clear HC
  have HC:=Lh hcell
  clear hcell
  go_in
  go_wp2
  go_loop [3,4] (fun s i=>∃ (j:Nat) (S:Int),j≤len∧0≤S∧S≤4611967493404098560∧Hid (R=Gy (l.drop j) S)∧s=.int .i64 S∧i=.int .i64 j) (fun _ i=>len - (intOf i).toNat)
  case atStart=>exact ⟨0,len,by omega,by omega,by omega,HR,rfl,rfl⟩
  case round =>
   obtain⟨j,S,hj,hS0,hS1,H,rfl,rfl⟩:=hrel
   by_cases hjl:j < len
   ·obtain⟨x,hx⟩:∃ x,l[j]? = some x:=⟨_,List.getElem?_eq_getElem (by rw [HL.out];exact hjl)⟩
    have hs:R=if S≤16777216 then Gy (l.drop (j + 1)) (S + (x.size:Int)) else S:=by rw [H.out,Ss hx,Gy]
    have hsz:=HTX.out x (List.mem_of_getElem? hx)
    have hcj:=HC.out j x hx
    have HS:=Lh hs
    clear hs hx
    by_cases h1:S≤16777216
    ·go_wp2
     go_round
     case rel=>exact ⟨j + 1,S + (x.size:Int),by omega,by omega,by omega,by rw [if_pos h1] at HS;exact HS,by go_num,by go_num⟩
     case measure=>simp [intOf];omega
    ·go_wp2
     go_ret
     exact ⟨De (by rw [HS.out,if_neg (by omega)]),rfl⟩
   ·have hs:R=S:=by
     rw [H.out,List.drop_of_length_le (by rw [HL.out];omega),Gy]
    have HS:=Lh hs
    clear hs
    go_wp2
    go_ret
    exact ⟨De HS.out.symm,rfl⟩
theorem D2 {R:World→Prop} {b:Bool} (h:b=false) {e:Ending} {w:World} (hh:e=.returned (.bool false)∧R w):e=.returned (.bool b)∧R w:=by rw [h];exact hh
theorem Ue (on:Int) (SA TA:Option Addr) (slots:List Int) (sc tc:Nat) (when_:Bool) (ts:List Au) (w:World) (hT:Bv w TA ts) (hS:AV w SA slots) (htxt:∀ y∈ts,y.text.size≤1099511627776) :
  Calls Tryz.prog 44 #[.agg #[.int .i64 on,.slice SA slots.length sc,.bool when_,.slice TA ts.length tc]] w fun e w'=>e=.returned (.bool (Bg on slots when_ ts))∧Below w.heap.size w w':=by
 by_cases h0:0≤on
 case neg =>
  refine (FT on SA TA slots.length sc ts.length tc when_ w (.inl (by omega))).mono fun e w' hh=>D2 (R:=fun w'=>Below w.heap.size w w') ?_ hh
  unfold Bg;simp [h0]
 by_cases h1:on≤4
 case neg =>
  refine (FT on SA TA slots.length sc ts.length tc when_ w (.inr (.inl ⟨h0,by omega⟩))).mono fun e w' hh=>D2 (R:=fun w'=>Below w.heap.size w w') ?_ hh
  unfold Bg;simp [h1]
 by_cases h2:slots.length≤32
 case neg =>
  refine (FT on SA TA slots.length sc ts.length tc when_ w (.inr (.inr (.inl ⟨h0,h1,by omega⟩)))).mono fun e w' hh=>D2 (R:=fun w'=>Below w.heap.size w w') ?_ hh
  unfold Bg;simp [h2]
 by_cases h3:ts.length≤2000
 case neg =>
  refine (FT on SA TA slots.length sc ts.length tc when_ w (.inr (.inr (.inr ⟨h0,h1,h2,by omega⟩)))).mono fun e w' hh=>D2 (R:=fun w'=>Below w.heap.size w w') ?_ hh
  unfold Bg;simp [h3]
 have hE:Bg on slots when_ ts=(CI when_ ts && !(DS when_ ts).bad && decide ((DS when_ ts).slots=slots)):=by
  unfold Bg;simp [h0,h1,h2,h3]
 rw [hE]
 rcases hT with hnil | ⟨tb,toff,rfl,htb,hn⟩
 ·subst hnil
  have hb:∀ k,Ap [] k = -1:=fun k=>by unfold Ap;simp
  have hw:CI when_ []=false:=by
   unfold CI
   rw [hb]
   simp
  rw [hw]
  cases when_ with
  | false=>exact Gz on SA TA slots.length sc tc w h0 h1 h2
  | true=>exact Hj on SA TA slots.length sc tc w h0 h1 h2
 by_cases hpos:0 < ts.length
 case neg =>
  have hnil:ts=[]:=List.length_eq_zero_iff.1 (by omega)
  subst hnil
  have hb:∀ k,Ap [] k = -1:=fun k=>by unfold Ap;simp
  have hw:CI when_ []=false:=by
   unfold CI
   rw [hb]
   simp
  rw [hw]
  cases when_ with
  | false=>exact Gz on SA _ slots.length sc tc w h0 h1 h2
  | true=>exact Hj on SA _ slots.length sc tc w h0 h1 h2
 have hlen:∀ (k:Nat) (s:LSt),k < ts.length→0≤Ap ts k→s.slots=[3,4]→((sbM ts (ts.length + 1)).2 k s).slots.length≤1099511627776:=fun k s hk hb hs=>by
  have h5:=Jf hb
  have hbk:k < (Ap ts k).toNat:=by
   rw [BV] at hb ⊢
   rcases hz:(Bc ts.length ts)[k]? with _ | _ | z <;> rw [hz] at hb <;> simp only at hb ⊢
   ·omega
   ·omega
   ·have:=Dv hz;omega
  have:=(DW ts (ts.length + 1)).2 k s hb hbk (by rw [hs];simp only [List.length_cons,List.length_nil];omega)
  omega
 cases when_ with
 | false =>
  have hwb:CI false ts=decide (Ap ts 0=ts.length):=by
   unfold CI CU
   simp
  rw [hwb]
  by_cases hb:Ap ts 0=ts.length
  case neg =>
   refine (Mp on SA slots sc tb toff tc ts w h0 h1 h2 h3 htb hn hS htxt hpos hb).mono fun e w' hh=>D2 (R:=fun w'=>Below w.heap.size w w') ?_ hh
   simp [hb]
  have hl2:DS false ts=(sbM ts (ts.length + 1)).2 0 Bn:=by
   have e1:Eh false ts=Bn:=rfl
   unfold DS
   rw [e1]
   rfl
  rw [hl2]
  cases hbad:((sbM ts (ts.length + 1)).2 0 Bn).bad with
  | true =>
   refine (LH on SA slots sc tb toff tc ts w h0 h1 h2 h3 htb hn hS htxt hpos hb hbad).mono fun e w' hh=>D2 (R:=fun w'=>Below w.heap.size w w') ?_ hh
   simp
  | false =>
   have e:(decide (Ap ts 0=ts.length) && !false && decide (((sbM ts (ts.length + 1)).2 0 Bn).slots=slots))=decide (((sbM ts (ts.length + 1)).2 0 Bn).slots=slots):=by simp [hb]
   rw [e]
   exact Kb on SA slots sc tb toff tc ts w h0 h1 h2 h3 htb hn hS htxt hpos hb hbad (hlen 0 Bn hpos (by rw [hb];omega) rfl)
 | true =>
  by_cases hneg:Ap ts 0 < 0
  ·refine (Mc on SA slots sc tb toff tc ts w h0 h1 h2 h3 htb hn hS htxt hpos hneg).mono fun e w' hh=>D2 (R:=fun w'=>Below w.heap.size w w') ?_ hh
   have:CI true ts=false:=by
    unfold CI CU
    have:¬ 0≤Ap ts 0:=by omega
    simp [this]
   rw [this];rfl
  obtain⟨m,hm⟩:=Int.eq_ofNat_of_zero_le (Int.not_lt.1 hneg)
  have hbo:CU true ts=m:=by unfold CU;rw [if_pos rfl];exact hm
  have hwb:CI true ts=decide (Ap ts m=ts.length):=by
   unfold CI
   rw [hbo]
   simp
  rw [hwb]
  by_cases hb:Ap ts m=ts.length
  case neg =>
   refine (Np on SA slots sc tb toff tc ts w h0 h1 h2 h3 htb hn hS htxt hpos m hm hb).mono fun e w' hh=>D2 (R:=fun w'=>Below w.heap.size w w') ?_ hh
   simp [hb]
  have hml:m < ts.length:=by
   by_cases h:m < ts.length
   ·exact h
   ·have e:Ap ts m = -1:=by unfold Ap;rw [if_neg h]
    rw [e] at hb;omega
  have hl1:Eh true ts=AD ts 0 2 Bn:=by unfold Eh;rw [if_pos rfl]
  have hl2:DS true ts=if (AD ts 0 2 Bn).bad=true then AD ts 0 2 Bn else (sbM ts (ts.length + 1)).2 m (AD ts 0 2 Bn):=by
   unfold DS
   rw [hl1,hbo]
   rfl
  rw [hl2]
  cases hv1:(AD ts 0 2 Bn).bad with
  | true =>
   rw [if_pos rfl]
   refine (Lg on SA slots sc tb toff tc ts w h0 h1 h2 h3 htb hn hS htxt hpos m hm hml hb hv1).mono fun e w' hh=>D2 (R:=fun w'=>Below w.heap.size w w') ?_ hh
   rw [hv1];simp
  | false =>
   rw [if_neg (by decide)]
   cases hbad:((sbM ts (ts.length + 1)).2 m (AD ts 0 2 Bn)).bad with
   | true =>
    refine (LV on SA slots sc tb toff tc ts w h0 h1 h2 h3 htb hn hS htxt hpos m hm hml hb hv1 hbad).mono fun e w' hh=>D2 (R:=fun w'=>Below w.heap.size w w') ?_ hh
    simp
   | false =>
    have e:(decide (Ap ts m=ts.length) && !false && decide (((sbM ts (ts.length + 1)).2 m (AD ts 0 2 Bn)).slots=slots))=decide (((sbM ts (ts.length + 1)).2 m (AD ts 0 2 Bn)).slots=slots):=by simp [hb]
    rw [e]
    exact Lx on SA slots sc tb toff tc ts w h0 h1 h2 h3 htb hn hS htxt hpos m hm hml hb hv1 hbad (hlen m _ hml (by rw [hb];omega) rfl)



structure Ins where
 at_:Int
 op:Int
 a:Int
 b:Int
 c:Int
def Ins.cells (x:Ins):Array Value:=#[.int .i64 x.at_,.int .u8 x.op,.int .i64 x.a,.int .i64 x.b,.int .i64 x.c]
structure MW (w:World) (A:Option Addr) (l:List Int):Prop where
 byte:∀ x∈l,0≤x∧x≤255
 at_:∀ k x,l[k]? = some x→∃ b off,A=some ⟨b,off,none⟩∧b < w.heap.size∧w.cell? ⟨b,off + k,none⟩=some (.int .u8 x)
theorem MW.below {w w':World} {A:Option Addr} {l:List Int} (h:MW w A l) (hb:Below w.heap.size w w'):MW w' A l:=
 ⟨h.byte,fun k x hk=>by
  obtain⟨b,off,h1,h2,h3⟩:=h.at_ k x hk
  exact ⟨b,off,h1,Nat.lt_of_lt_of_le h2 hb.size,(hb.cell (p:=⟨b,_,none⟩) h2).trans h3⟩⟩






theorem Hy {w:World} {e:TypeId} {base n c:Nat} {A:Option Addr} {xs:List Value} (h:w.ownsRow base e 1 (.slice A n c) n xs):∀ k v,xs[k]? = some v→∃ b,A=some ⟨b,0,none⟩∧base≤b∧b < w.heap.size∧w.cell? ⟨b,k,none⟩=some v:=by
 intro k v hk
 have h1:=h.1
 simp only [Nat.mul_one] at h1
 have hlt:=(List.getElem?_eq_some_iff.1 hk).1
 rcases h.2 with ⟨h2,h3⟩ | ⟨g,cap,cur,h2,h3,h4,_⟩
 ·omega
 ·injection h2 with h2 _ _
  subst h2
  refine ⟨g,rfl,h3,(h.lt g rfl).2,?_⟩
  have:=h.cells rfl k v hk
  rw [← this]
  congr 1
  unfold Addr.add
  cases k <;> simp
section
variable {w0 w w':World} {wb tb toff cap:Nat} {ts:List Au} {c at_:Int} {x:Au} {nb lb lx sb K:Nat} {cells:List Int} {S S':Int}
end
theorem PN {ts:List Au} {i:Nat} {x:Au} (hx:ts[i]? = some x) (hbe:0≤Ap ts i):∃ K:Nat,x.kids=K∧(Am ts i).length=K:=by
 have hg:ts.getD i AF=x:=by rw [List.getD_eq_getElem?_getD,hx];rfl
 rw [BV] at hbe
 rcases hz:(Bc ts.length ts)[i]? with _ | _ | z <;> rw [hz] at hbe <;> simp only at hbe
 ·omega
 ·omega
 ·have hk:=EJ hx hz
  refine ⟨x.kids.toNat,by omega,?_⟩
  unfold Am
  rw [BV,hz,if_neg (by simp only;omega),CZ,hg]
section
variable {w0 w:World} {wb tb toff cap:Nat} {ts:List Au} {c atp:Int} {x:Au} {nb lb lx sb K:Nat} {cells:List Int} {S:Int}
end
end Go.Proofs.YtmpcbaflcogmmaaGreatDoor
