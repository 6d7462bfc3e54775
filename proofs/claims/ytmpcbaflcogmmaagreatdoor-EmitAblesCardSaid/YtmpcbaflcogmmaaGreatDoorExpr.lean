/- CheckM StmtM FitM GasM Expr -/
import Derived.Deep.RegionWith
import Derived.Deep.RegionHeld3
import Derived.Deep.DeepCutAuto
import Derived.Test.YtmpcbaflcogmmaaGreatDoorEqB
import Derived.Test.YtmpcbaflcogmmaaGreatDoorKinds
import Derived.Test.YtmpcbaflcogmmaaGreatDoorKinds12
import Derived.Test.YtmpcbaflcogmmaaGreatDoorLook
import Derived.Test.YtmpcbaflcogmmaaGreatDoorSerial3
import Derived.Test.YtmpcbaflcogmmaaGreatDoorTree
namespace Go.Proofs.YtmpcbaflcogmmaaGreatDoor
open Go.RowKit
set_option linter.all false
set_option maxHeartbeats 1600000
set_option maxRecDepth 100000
abbrev ER:=Int × Int × Bool
def AA (r:ER) (kind:Int):Int × Bool:=(r.2.1,r.2.2 || !(r.1 == kind))
def Bp (l:List B8) (n:Int):Option B8:=if n < 0 then none else l[n.toNat]?
section
variable (rec:Nat→Bool→ER) (ts:List Au)
def AW:List (Nat × Int)→Int→Int→Bool→Int × Bool
 | [],high,_,bad=>(high,bad)
 | (kid,arg) :: r,high,values,bad =>
  let y:=ts.getD kid AF
  if arg = -1 then AW r high values ((bad || !(y.op == 51 && y.kids == 0 && decide (0≤y.n) && decide (y.n≤3))) || !(AO y 0 y.n 0))
  else if arg = -2 then AW r high values ((bad || !(y.op == 52 && y.kids == 0 && CV y.text)) || !(AO y 0 0 0))
  else AW r (max high (values + (AA (rec kid bad) arg).1)) (values + 1) (AA (rec kid bad) arg).2
def Cu (i:Nat) (kids:List Nat) (s:B8):Int × Bool:=
 let x:=ts.getD i AF
 if kids.length=s.args.length∧AO x s.tell x.n 0=true then AW rec ts (kids.zip s.args) 0 0 false else (0,true)
def Bd (i:Nat) (kids:List Nat):ER:=
 let x:=ts.getD i AF
 let many:=if x.op=34∨x.op=35 then 1 else 2
 if (34≤x.op∧x.op≤48)∧kids.length=many∧AO x (AG x.op).2 0 0=true then
  let first:Int × Int × Bool:=
   if x.op=38∨x.op=39 then ((rec (kids.getD 0 0) false).1,(rec (kids.getD 0 0) false).2.1,(rec (kids.getD 0 0) false).2.2 || !((rec (kids.getD 0 0) false).1 != 6))
   else ((AG x.op).1,(AA (rec (kids.getD 0 0) false) (AG x.op).1).1,(AA (rec (kids.getD 0 0) false) (AG x.op).1).2)
  if many=2∧first.2.2=false then
   let w:=AA (rec (kids.getD 1 0) false) first.1
   ((AG x.op).2,max first.2.1 (if x.op≠37∧x.op≠36 then w.1 + 1 else w.1),w.2)
  else ((AG x.op).2,first.2.1,first.2.2)
 else (0,0,true)
def BW (slots:List Int) (seen:Int→Option Value) (i:Nat) (bad:Bool):ER:=
 let x:=ts.getD i AF
 let kids:=Am ts i
 if bad=true then (0,0,true)
 else if x.op=30 then (1,1,!(decide (0≤x.n) && decide (kids.length=0)) || !(AO x 1 x.n 0))
 else if x.op=31∨x.op=32 then (2,1,!(decide (kids.length=0)) || !(AO x 2 0 0))
 else if x.op=33 then
  if (seen x.n).isSome=true∧0≤x.n∧x.n < 1048576∧kids.length=0 then (slots.getD x.n.toNat 0,1,!(AO x (slots.getD x.n.toNat 0) x.n 0)) else (0,0,true)
 else if x.op=49 then
  match Bp BU x.n with
  | none=>(0,0,true)
  | some s=>if kids.length=1∧AO x s.tell x.n 0=true then (s.tell,(AA (rec (kids.getD 0 0) false) (s.args.getD 0 0)).1,(AA (rec (kids.getD 0 0) false) (s.args.getD 0 0)).2) else (0,0,true)
 else if x.op=50 then
  match Bp Bz x.n with
  | none=>(0,0,true)
  | some s=>(s.tell,max 1 (Cu rec ts i kids s).1,(Cu rec ts i kids s).2)
 else Bd rec ts i kids
end
def BR (ts:List Au) (slots:List Int) (seen:Int→Option Value):Nat→Nat→Bool→ER
 | 0,_,_=>(0,0,true)
 | f + 1,i,bad=>BW (BR ts slots seen f) ts slots seen i bad
theorem Eu (rec:Nat→Bool→ER) (ts:List Au) (H:Int) (hH:0≤H) (hr:∀ i b,0≤(rec i b).2.1∧(rec i b).2.1≤H):∀ (l:List (Nat × Int)) (high values:Int) (bad:Bool),0≤high→high≤H + values→0≤values →
  0≤(AW rec ts l high values bad).1∧(AW rec ts l high values bad).1≤H + values + l.length
 | [],high,values,bad,h1,h2,_=>by simp only [AW,List.length_nil];omega
 | (kid,arg) :: r,high,values,bad,h1,h2,h3=>by
  have hk:=hr kid bad
  simp only [AW,List.length_cons]
  split
  ·have:=Eu rec ts H hH hr r high values ((bad || !((ts.getD kid AF).op == 51 && (ts.getD kid AF).kids == 0 && decide (0≤(ts.getD kid AF).n) && decide ((ts.getD kid AF).n≤3))) || !(AO (ts.getD kid AF) 0 (ts.getD kid AF).n 0)) h1 h2 h3
   omega
  ·split
   ·have:=Eu rec ts H hH hr r high values ((bad || !((ts.getD kid AF).op == 52 && (ts.getD kid AF).kids == 0 && CV (ts.getD kid AF).text)) || !(AO (ts.getD kid AF) 0 0 0)) h1 h2 h3
    omega
   ·have hw:(AA (rec kid bad) arg).1=(rec kid bad).2.1:=rfl
    have:=Eu rec ts H hH hr r (max high (values + (AA (rec kid bad) arg).1)) (values + 1) (AA (rec kid bad) arg).2 (by omega) (by omega) (by omega)
    omega
theorem CA {l:List B8} {n:Int} {s:B8} (h:Bp l n=some s):0≤n∧n.toNat < l.length∧l[n.toNat]? = some s∧s∈l:=by
 unfold Bp at h
 split at h
 ·cases h
 ·exact ⟨by omega,(List.getElem?_eq_some_iff.1 h).1,h,List.mem_of_getElem? h⟩
theorem Ie {s:B8} (h:s∈Bz):s.args.length≤2:=by
 have:∀ s∈Bz,s.args.length≤2:=by simp [Bz]
 exact this s h
theorem Iu {s:B8} (h:s∈Bu):s.args.length≤2:=by
 have:∀ s∈Bu,s.args.length≤2:=by simp [Bu]
 exact this s h
theorem JG {s:B8} (h:s∈BU):s.args.length=1:=by
 have:∀ s∈BU,s.args.length=1:=by simp [BU]
 exact this s h
section
variable (rec:Nat→Bool→ER) (ts:List Au) (H:Int) (hH:0≤H) (hr:∀ i b,0≤(rec i b).2.1∧(rec i b).2.1≤H)
include rec ts H hH hr
theorem Q7 (i:Nat) (kids:List Nat) (s:B8) (hs:s.args.length≤2) :
  0≤(Cu rec ts i kids s).1∧(Cu rec ts i kids s).1≤H + 2:=by
 unfold Cu
 simp only
 split
 ·rename_i h
  have:=Eu rec ts H hH hr (kids.zip s.args) 0 0 false (by omega) (by omega) (by omega)
  have hl:(kids.zip s.args).length≤2:=by rw [List.length_zip];omega
  omega
 ·simp only;omega
theorem Ql (slots:List Int) (seen:Int→Option Value) (i:Nat) (bad:Bool) :
  0≤(BW rec ts slots seen i bad).2.1∧(BW rec ts slots seen i bad).2.1≤H + 2:=by
 unfold BW
 simp only
 split
 ·simp only;omega
 split
 ·simp only;omega
 split
 ·simp only;omega
 split
 ·split <;> simp only <;> omega
 split
 ·split
  ·simp only;omega
  ·split
   ·have:=hr ((Am ts i).getD 0 0) false
    simp only [AA];omega
   ·simp only;omega
 split
 ·split
  ·simp only;omega
  ·rename_i s hs
   have:=Q7 rec ts H hH hr i (Am ts i) s (Ie (CA hs).2.2.2)
   simp only;omega
 ·unfold Bd
  simp only
  have h0:=hr ((Am ts i).getD 0 0) false
  have h1:=hr ((Am ts i).getD 1 0) false
  generalize (if (ts.getD i AF).op=34∨(ts.getD i AF).op=35 then 1 else 2)=many
  split
  ·by_cases hq:(ts.getD i AF).op=38∨(ts.getD i AF).op=39
   ·simp only [hq,if_true]
    split
    ·simp only [AA]
     split <;> omega
    ·simp only;omega
   ·simp only [hq,if_false]
    split
    ·simp only [AA]
     split <;> omega
    ·simp only [AA];omega
  ·simp only;omega
end
theorem Ik (ts:List Au) (slots:List Int) (seen:Int→Option Value):∀ (f i:Nat) (bad:Bool),0≤(BR ts slots seen f i bad).2.1∧(BR ts slots seen f i bad).2.1≤2 * f
 | 0,i,bad=>by simp [BR]
 | f + 1,i,bad=>by
  have:=Ql (BR ts slots seen f) ts (2 * f) (by omega) (fun i b=>Ik ts slots seen f i b) slots seen i bad
  rw [BR]
  omega
def QC:Option Value→Bool
 | some (.bool b)=>b
 | _=>false
noncomputable def AE (slot:Int) (b:Bool) (l:List Int) (s:LSt):LSt:=
 if s.bad=true then s
 else if slot=s.slots.length then ⟨s.slots ++ l,upd CB s.seen (s.slots.length:Int) (some (.bool b)),false⟩
 else { s with bad:=true }
noncomputable def forget (n:Int) (s:LSt):LSt:={ s with seen:=upd CB s.seen n none }
noncomputable def Cr (r:Int × Bool) (s:LSt):LSt:={ s with bad:=r.2 || !(decide (r.1≤256)) }
noncomputable def FI (s:LSt):LSt:={ s with bad:=true }
section
variable (ts:List Au)
noncomputable def Dl (s:LSt) (i:Nat) (b:Bool):ER:=BR ts s.slots s.seen ts.length i b
noncomputable def AD (i:Nat) (kind:Int) (s:LSt):LSt:=Cr (AA (Dl ts s i s.bad) kind) s
section
variable (recS recB:Nat→LSt→LSt)
noncomputable def AS:Nat→List Nat→LSt→LSt
 | _,[],s=>s
 | i,k :: r,s=>AS (i + 1) r (if s.bad=true then s else if i=1∧(ts.getD k AF).op=13 then recS k s else recB k s)
noncomputable def Bl:List Nat→List Int→LSt→LSt
 | [],own,s=>own.foldl (fun s n=>forget n s) s
 | k :: r,own,s=>if s.bad=true then s else Bl r (if (ts.getD k AF).op=11 then own ++ [(ts.getD k AF).n] else own) (recS k s)
noncomputable def CW (i:Nat) (s:LSt):LSt:=
 let x:=ts.getD i AF
 if x.op=10∧AO x 0 0 0=true then Bl ts recS (Am ts i) [] s else FI s
noncomputable def DL (i:Nat) (s:LSt):LSt:=
 let x:=ts.getD i AF
 let kids:=Am ts i
 if x.op=11 then
  if kids.length=1∧AO x 0 x.n 0=true then
   AE x.n true [(Dl ts s (kids.getD 0 0) false).1] (Cr ((Dl ts s (kids.getD 0 0) false).2.1,(Dl ts s (kids.getD 0 0) false).2.2) s)
  else FI s
 else if x.op=12 then
  if kids.length=1∧(0≤x.n∧x.n < 1048576∧QC (s.seen x.n)=true)∧AO x 0 x.n 0=true then AD ts (kids.getD 0 0) (s.slots.getD x.n.toNat 0) s else FI s
 else if x.op=13 then
  if (kids.length=2∨kids.length=3)∧AO x 0 0 0=true then AS ts recS recB 0 (kids.drop 1) (AD ts (kids.getD 0 0) 2 s) else FI s
 else if x.op=14 then
  if kids.length=1∧(0≤x.n∧x.n≤255)∧AO x 0 x.n x.m=true then forget x.m (AS ts recS recB 0 kids (AE x.m false [1] s)) else FI s
 else if x.op=15 then
  if kids.length=2∧(0≤x.n∧wrap64 (x.m - 1)=x.n)∧AO x 0 x.n x.m=true then forget x.n (AS ts recS recB 0 (kids.drop 1) (AE x.n false [3,6,1] (AD ts (kids.getD 0 0) 6 s))) else FI s
 else if x.op=16 then
  if (kids.length=2∨kids.length=3)∧AO x 0 x.n 0=true then
   let s1:=forget x.n (AS ts recS recB 0 ((kids.drop 1).take 1) (AE x.n false [3] (AD ts (kids.getD 0 0) 6 s)))
   if kids.length=3∧s1.bad=false then recB (kids.getD 2 0) s1 else s1
  else FI s
 else if x.op=17∨x.op=18 then { s with bad:=!(decide (kids.length=0)) || !(AO x 0 0 0) }
 else if x.op=19 then
  match Bp Bu x.n with
  | none=>FI s
  | some sg=>Cr (Cu (Dl ts s) ts i kids sg) s
 else FI s
end
noncomputable def sbM:Nat→(Nat→LSt→LSt) × (Nat→LSt→LSt)
 | 0=>(fun _ s=>FI s,fun _ s=>FI s)
 | f + 1=>(DL ts (sbM f).1 (sbM f).2,CW ts (sbM f).1)
structure Ci (s:LSt):Prop where
 key:∀ n,(s.seen n).isSome=true→0≤n→n < s.slots.length
 val:∀ n v,s.seen n=some v→∃ b,v=.bool b
end
theorem Ci.bad {s:LSt} (h:Ci s) (b:Bool):Ci { s with bad:=b }:=⟨h.key,h.val⟩
theorem Fp (f:Int→Option Value) (x y:Int) (v:Option Value):upd CB f x v y=if y=x then v else f y:=by
 unfold upd
 have:CB.eqb y x=decide (y=x):=by show (y == x)=_;rw [Bool.eq_iff_iff];simp
 rw [this]
 by_cases h:y=x <;> simp [h]
section
variable {s:LSt} (h:Ci s)
include s h
theorem Ci.forget (n:Int):Ci (forget n s):=by
 constructor
 ·intro m hm h0
  simp only [Go.Proofs.YtmpcbaflcogmmaaGreatDoor.forget,Fp] at hm ⊢
  split at hm
  ·cases hm
  ·exact h.key m hm h0
 ·intro m v hv
  simp only [Go.Proofs.YtmpcbaflcogmmaaGreatDoor.forget,Fp] at hv
  split at hv
  ·cases hv
  ·exact h.val m v hv
theorem Ci.declare (slot:Int) (b:Bool) (l:List Int) (hl:l≠[]):Ci (AE slot b l s):=by
 unfold AE
 split
 ·exact h
 ·split
  ·have hp:0 < l.length:=List.length_pos_iff.2 hl
   constructor
   ·intro m hm h0
    simp only [Fp,List.length_append] at hm ⊢
    split at hm
    ·omega
    ·have:=h.key m hm h0;omega
   ·intro m v hv
    simp only [Fp] at hv
    split at hv
    ·cases hv;exact ⟨b,rfl⟩
    ·exact h.val m v hv
  ·exact h.bad true
theorem Ci.value (ts:List Au) (i:Nat) (kind:Int):Ci (AD ts i kind s):=h.bad _
theorem Ci.high (r:Int × Bool):Ci (Cr r s):=h.bad _
end
section
variable (ts:List Au) (recS recB:Nat→LSt→LSt) (hS:∀ i s,Ci s→Ci (recS i s)) (hB:∀ i s,Ci s→Ci (recB i s))
include hS hB
theorem Gg:∀ (l:List Nat) (i:Nat) (s:LSt),Ci s→Ci (AS ts recS recB i l s)
 | [],i,s,h=>h
 | k :: r,i,s,h=>by
  rw [AS]
  refine Gg r _ _ ?_
  split
  ·exact h
  ·split
   ·exact hS k s h
   ·exact hB k s h
omit hB in
theorem EZ:∀ (l:List Nat) (own:List Int) (s:LSt),Ci s→Ci (Bl ts recS l own s)
 | [],[],s,h=>h
 | [],n :: o,s,h=>by
  have:=EZ [] o (forget n s) (h.forget n)
  simpa only [Bl,List.foldl_cons] using this
 | k :: r,own,s,h=>by
  rw [Bl]
  split
  ·exact h
  ·exact EZ r _ _ (hS k s h)
omit hB in
theorem O6 (i:Nat) (s:LSt) (h:Ci s):Ci (CW ts recS i s):=by
 unfold CW
 simp only
 split
 ·exact EZ ts recS hS _ _ _ h
 ·exact h.bad true
theorem Qv (i:Nat) (s:LSt) (h:Ci s):Ci (DL ts recS recB i s):=by
 have hb:=Gg ts recS recB hS hB
 have h1:∀ n,[n]≠([]:List Int):=by simp
 unfold DL
 simp only
 split
 ·split
  ·exact (h.high _).declare _ _ _ (by simp)
  ·exact h.bad true
 split
 ·split
  ·exact h.value ts _ _
  ·exact h.bad true
 split
 ·split
  ·exact hb _ _ _ (h.value ts _ _)
  ·exact h.bad true
 split
 ·split
  ·exact (hb _ _ _ (h.declare _ _ _ (by simp))).forget _
  ·exact h.bad true
 split
 ·split
  ·exact (hb _ _ _ ((h.value ts _ _).declare _ _ _ (by simp))).forget _
  ·exact h.bad true
 split
 ·split
  ·split
   ·exact hB _ _ ((hb _ _ _ ((h.value ts _ _).declare _ _ _ (by simp))).forget _)
   ·exact (hb _ _ _ ((h.value ts _ _).declare _ _ _ (by simp))).forget _
  ·exact h.bad true
 split
 ·exact h.bad _
 split
 ·split
  ·exact h.bad true
  ·exact h.high _
 ·exact h.bad true
end
theorem Fy (ts:List Au):∀ f,(∀ i s,Ci s→Ci ((sbM ts f).1 i s))∧(∀ i s,Ci s→Ci ((sbM ts f).2 i s))
 | 0=>⟨fun _ _ h=>h.bad true,fun _ _ h=>h.bad true⟩
 | f + 1=>⟨Qv ts _ _ (Fy ts f).1 (Fy ts f).2,O6 ts _ (Fy ts f).1⟩
def Cj (ts:List Au):Nat→Nat→List Nat→Prop
 | p,q,[]=>p=q
 | p,q,k :: r=>k=p∧0≤Ap ts p∧p < (Ap ts p).toNat∧Cj ts (Ap ts p).toNat q r
theorem Cj.le {ts:List Au}:∀ {l:List Nat} {p q:Nat},Cj ts p q l→p≤q
 | [],p,q,h=>by simp only [Cj] at h;omega
 | k :: r,p,q,h=>by
  have:=Cj.le h.2.2.2
  have:=h.2.2.1
  omega
theorem G8 (ts:List Au):∀ (c p q:Nat),adv (Bc ts.length ts) c p=some q→Cj ts p q (BL ts c p)
 | 0,p,q,h=>by simp only [adv,Option.some.injEq] at h;exact h
 | c + 1,p,q,h=>by
  simp only [adv] at h
  rcases hz:(Bc ts.length ts)[p]? with _ | _ | z <;> rw [hz] at h <;> simp only at h
  ·cases h
  ·cases h
  ·have hp:=Dv hz
   have hb:Ap ts p=(p:Int) + z:=by rw [BV,hz]
   simp only [BL]
   refine ⟨rfl,by omega,by omega,?_⟩
   rw [hb,show ((p:Int) + z).toNat=p + z by omega]
   exact G8 ts c _ _ h
theorem Ca {ts:List Au} {i:Nat} (h:0≤Ap ts i):Cj ts (i + 1) (Ap ts i).toNat (Am ts i):=by
 unfold Am
 rw [if_neg (by omega)]
 rw [BV] at h ⊢
 rcases hz:(Bc ts.length ts)[i]? with _ | _ | z <;> rw [hz] at h <;> simp only at h ⊢
 ·omega
 ·omega
 ·have hi:i < ts.length:=by have:=Dv hz;omega
  have hx:ts[i]? = some (ts.getD i AF):=by rw [List.getD_eq_getElem?_getD,List.getElem?_eq_getElem hi];rfl
  have hk:=EJ hx hz
  rw [show ((i:Int) + z).toNat=i + z by omega]
  exact G8 ts _ _ _ hk.2.2
theorem B7 (slot:Int) (b:Bool) (l:List Int) (s:LSt):(AE slot b l s).slots.length≤s.slots.length + l.length:=by
 unfold AE
 split
 ·omega
 ·split
  ·simp
  ·simp
theorem Ep:∀ (own:List Int) (s:LSt),(own.foldl (fun s n=>forget n s) s).slots=s.slots
 | [],_=>rfl
 | n :: o,s=>by rw [List.foldl_cons,Ep o];rfl
def Is (ts:List Au) (r:Nat→LSt→LSt):Prop:=∀ i s,0≤Ap ts i→i < (Ap ts i).toNat→s.slots.length≤2 + 3 * i→(r i s).slots.length≤2 + 3 * (Ap ts i).toNat
section
variable (ts:List Au) (recS recB:Nat→LSt→LSt) (hS:Is ts recS) (hB:Is ts recB)
include hS hB
theorem E1:∀ (l:List Nat) (i p q:Nat) (s:LSt),Cj ts p q l→s.slots.length≤2 + 3 * p→(AS ts recS recB i l s).slots.length≤2 + 3 * q
 | [],i,p,q,s,hc,h=>by simp only [Cj] at hc;subst hc;exact h
 | k :: r,i,p,q,s,hc,h=>by
  obtain⟨rfl,h1,h2,h3⟩:=hc
  rw [AS]
  refine E1 r _ _ _ _ h3 ?_
  split
  ·omega
  ·split
   ·exact hS k s h1 h2 h
   ·exact hB k s h1 h2 h
omit hB in
theorem Hm:∀ (l:List Nat) (own:List Int) (p q:Nat) (s:LSt),Cj ts p q l→s.slots.length≤2 + 3 * p→(Bl ts recS l own s).slots.length≤2 + 3 * q
 | [],own,p,q,s,hc,h=>by simp only [Cj] at hc;subst hc;rw [Bl,Ep];exact h
 | k :: r,own,p,q,s,hc,h=>by
  have hle:=Cj.le hc
  obtain⟨rfl,h1,h2,h3⟩:=hc
  rw [Bl]
  split
  ·omega
  ·exact Hm r _ _ _ _ h3 (hS k s h1 h2 h)
omit hB in
theorem PH:Is ts (CW ts recS):=by
 intro i s h0 h1 h
 have hc:=Ca h0
 unfold CW
 simp only
 split
 ·exact Hm ts recS hS _ _ _ _ _ hc (by omega)
 ·show s.slots.length≤_;omega
theorem R9:Is ts (DL ts recS recB):=by
 intro i s h0 h1 h
 have hc:=Ca h0
 have hle:=Cj.le hc
 have hb:=E1 ts recS recB hS hB
 have hbad:(FI s).slots.length≤2 + 3 * (Ap ts i).toNat:=by show s.slots.length≤_;omega
 have hv:∀ k kd,(AD ts k kd s).slots=s.slots:=fun _ _=>rfl
 have hf:∀ n s,(forget n s).slots=s.slots:=fun _ _=>rfl
 have hh:∀ r s,(Cr r s).slots=s.slots:=fun _ _=>rfl
 unfold DL
 simp only
 split
 ·split
  ·refine Nat.le_trans (B7 _ _ _ _) ?_
   rw [hh];simp;omega
  ·exact hbad
 split
 ·split
  ·rw [hv];omega
  ·exact hbad
 split
 ·split
  ·rename_i hk
   match hl:Am ts i,hc with
   | [],_=>rw [hl] at hk;simp at hk
   | k :: r,hc =>
    obtain⟨rfl,g1,g2,g3⟩:=hc
    exact hb _ _ _ _ _ g3 (by rw [hv];omega)
  ·exact hbad
 split
 ·split
  ·rw [hf]
   exact hb _ _ _ _ _ hc (Nat.le_trans (B7 _ _ _ _) (by simp;omega))
  ·exact hbad
 split
 ·split
  ·rename_i hk
   rw [hf]
   match hl:Am ts i,hc with
   | [],_=>rw [hl] at hk;simp at hk
   | k :: r,hc =>
    obtain⟨rfl,g1,g2,g3⟩:=hc
    exact hb _ _ _ _ _ g3 (Nat.le_trans (B7 _ _ _ _) (by rw [hv];simp;omega))
  ·exact hbad
 split
 ·split
  ·rename_i hk
   match hl:Am ts i,hc with
   | [],_=>rw [hl] at hk;simp at hk
   | [_],_=>rw [hl] at hk;simp at hk
   | k :: k1 :: r,hc =>
    obtain⟨rfl,g1,g2,rfl,g3,g4,g5⟩:=hc
    have hle2:=Cj.le g5
    have hm:∀ s',s'.slots=s.slots→(AS ts recS recB 0 ((((i + 1) :: (Ap ts (i + 1)).toNat :: r).drop 1).take 1) (AE (ts.getD i AF).n false [3] s')).slots.length≤2 + 3 * (Ap ts (Ap ts (i + 1)).toNat).toNat:=fun s' hs' =>
     hb _ _ (Ap ts (i + 1)).toNat _ _ ⟨rfl,g3,g4,rfl⟩ (Nat.le_trans (B7 _ _ _ _) (by rw [hs'];simp;omega))
    split
    ·rename_i h3
     rcases r with _ | ⟨k2,r2⟩
     ·exact absurd h3.1 (by simp)
     ·have hm:=hm
      obtain⟨rfl,g6,g7,g8⟩:=g5
      have:=Cj.le g8
      exact Nat.le_trans (hB _ _ g6 g7 (by rw [hf];exact hm _ (hv _ _))) (by simp;omega)
    ·rw [hf];exact Nat.le_trans (hm _ (hv _ _)) (by omega)
  ·exact hbad
 split
 ·show s.slots.length≤_;omega
 split
 ·split
  ·exact hbad
  ·rw [hh];omega
 ·exact hbad
end
theorem DW (ts:List Au):∀ f,Is ts (sbM ts f).1∧Is ts (sbM ts f).2
 | 0=>⟨fun i s h0 h1 h=>by show s.slots.length≤_;omega,fun i s h0 h1 h=>by show s.slots.length≤_;omega⟩
 | f + 1=>⟨R9 ts _ _ (DW ts f).1 (DW ts f).2,PH ts _ (DW ts f).1⟩
def Bb (x:Au) (n:Nat):Bool:=
 if x.op=10 then true
 else if x.op=11∨x.op=12 then n == 1
 else if x.op=13 then n == 2 || n == 3
 else if x.op=14 then n == 1 && decide (0≤x.n) && decide (x.n≤255)
 else if x.op=15 then n == 2
 else if x.op=16 then n == 2 || n == 3
 else if x.op=17∨x.op=18 then n == 0
 else if x.op=19 then match Bp Bu x.n with | none=>false | some s=>n == s.args.length
 else if x.op=30∨x.op=31∨x.op=32∨x.op=33 then n == 0
 else if x.op=34∨x.op=35 then n == 1
 else if x.op=49 then n == 1 && (Bp BU x.n).isSome
 else if x.op=50 then match Bp Bz x.n with | none=>false | some s=>n == s.args.length
 else if x.op=51∨x.op=52 then n == 0
 else if 36≤x.op∧x.op≤48 then n == 2
 else false
def Fit (ts:List Au):Nat→Nat→Prop
 | 0,_=>True
 | f + 1,i=>Bb (ts.getD i AF) (Am ts i).length=true∧∀ k∈Am ts i,Fit ts f k
section
variable {ts:List Au}
theorem Fit.le:∀ {f g i:Nat},Fit ts f i→g≤f→Fit ts g i
 | _,0,_,_,_=>trivial
 | 0,g + 1,_,_,h=>absurd h (by omega)
 | f + 1,g + 1,i,hf,h=>⟨hf.1,fun k hk=>(hf.2 k hk).le (by omega)⟩
theorem Dz (slots:List Int) (seen:Int→Option Value) (f i:Nat):(BR ts slots seen f i true).2.2=true:=by
 cases f with
 | zero=>rfl
 | succ f=>simp [BR,BW]
theorem ND {α β:Type}:∀ {l:List α} {m:List β} {x:α},x∈l→l.length=m.length→∃ y,(x,y)∈l.zip m
 | [],m,x,h,_=>by simp at h
 | a :: l,[],x,h,e=>by simp at e
 | a :: l,b :: m,x,h,e=>by
  rcases List.mem_cons.1 h with rfl | h
  ·exact ⟨b,by simp⟩
  ·obtain⟨y,hy⟩:=ND (m:=m) h (by simpa using e)
   exact ⟨y,by simp [hy]⟩
section
variable {rec:Nat→Bool→ER} (hrec:∀ i,(rec i true).2.2=true) (f:Nat) (hfit:∀ i,(rec i false).2.2=false→Fit ts f i)
include hrec
theorem Co:∀ (l:List (Nat × Int)) (high values:Int),(AW rec ts l high values true).2=true
 | [],_,_=>rfl
 | (kid,arg) :: r,high,values=>by
  simp only [AW]
  split
  ·simp only [Bool.true_or];exact Co r _ _
  ·split
   ·simp only [Bool.true_or];exact Co r _ _
   ·simp only [AA,hrec,Bool.true_or];exact Co r _ _
include hfit
theorem ED:∀ (l:List (Nat × Int)) (high values:Int),(AW rec ts l high values false).2=false→∀ k u,(k,u)∈l→(Am ts k).length=0∧(ts.getD k AF).op=51∨(Am ts k).length=0∧(ts.getD k AF).op=52∨Fit ts f k
 | [],_,_,_,k,u,h=>by simp at h
 | (kid,arg) :: r,high,values,hb,k,u,h=>by
  have hleaf:∀ {y:Int},(ts.getD kid AF).kids=0→(Am ts kid).length=0:=fun {_} h=>by
   unfold Am
   split
   ·rfl
   ·rw [CZ,h];rfl
  simp only [AW] at hb
  split at hb
  ·rename_i ha
   generalize hc:(false || !((ts.getD kid AF).op == 51 && (ts.getD kid AF).kids == 0 && decide (0≤(ts.getD kid AF).n) && decide ((ts.getD kid AF).n≤3)) || !(AO (ts.getD kid AF) 0 (ts.getD kid AF).n 0))=c at hb
   cases c with
   | true=>rw [Co hrec] at hb;cases hb
   | false =>
    simp only [Bool.or_eq_false_iff,Bool.not_eq_false',Bool.and_eq_true,beq_iff_eq,decide_eq_true_eq] at hc
    rcases List.mem_cons.1 h with h | h
    ·cases h;exact .inl ⟨hleaf (y:=0) hc.1.2.1.1.2,hc.1.2.1.1.1⟩
    ·exact ED r _ _ hb k u h
  ·split at hb
   ·generalize hc:(false || !((ts.getD kid AF).op == 52 && (ts.getD kid AF).kids == 0 && CV (ts.getD kid AF).text) || !(AO (ts.getD kid AF) 0 0 0))=c at hb
    cases c with
    | true=>rw [Co hrec] at hb;cases hb
    | false =>
     simp only [Bool.or_eq_false_iff,Bool.not_eq_false',Bool.and_eq_true,beq_iff_eq] at hc
     rcases List.mem_cons.1 h with h | h
     ·cases h;exact .inr (.inl ⟨hleaf (y:=0) hc.1.2.1.2,hc.1.2.1.1⟩)
     ·exact ED r _ _ hb k u h
   ·generalize hc:(AA (rec kid false) arg).2=c at hb
    cases c with
    | true=>rw [Co hrec] at hb;cases hb
    | false =>
     simp only [AA,Bool.or_eq_false_iff] at hc
     rcases List.mem_cons.1 h with h | h
     ·cases h;exact .inr (.inr (hfit _ hc.1))
     ·exact ED r _ _ hb k u h
omit hrec hfit in
theorem Pu {k:Nat} (h:(Am ts k).length=0) (hop:(ts.getD k AF).op=51∨(ts.getD k AF).op=52):Fit ts f k:=by
 cases f with
 | zero=>trivial
 | succ f =>
  refine ⟨?_,fun j hj=>?_⟩
  ·rw [h];unfold Bb
   rcases hop with h | h <;> rw [h] <;> rfl
  ·rw [List.length_eq_zero_iff.1 h] at hj;simp at hj
theorem MB {i:Nat} {s:B8} (h:(Cu rec ts i (Am ts i) s).2=false):(Am ts i).length=s.args.length∧∀ k∈Am ts i,Fit ts f k:=by
 unfold Cu at h
 simp only at h
 split at h
 ·rename_i hc
  refine ⟨hc.1,fun k hk=>?_⟩
  obtain⟨u,hu⟩:=ND hk hc.1
  rcases ED hrec f hfit _ _ _ h k u hu with ⟨h1,h2⟩ | ⟨h1,h2⟩ | h
  ·exact Pu f h1 (.inl h2)
  ·exact Pu f h1 (.inr h2)
  ·exact h
 ·cases h
omit hrec in
theorem Md {i:Nat} (h:(Bd rec ts i (Am ts i)).2.2=false):Bb (ts.getD i AF) (Am ts i).length=true∧∀ k∈Am ts i,Fit ts f k:=by
 unfold Bd at h
 simp only at h
 by_cases hm:(ts.getD i AF).op=34∨(ts.getD i AF).op=35
 ·simp only [hm,if_true] at h
  split at h
  ·rename_i hc
   obtain⟨hr,hl,-⟩:=hc
   match hk:Am ts i,hl with
   | [a],_ =>
    rw [hk] at h
    have h1:¬ ((1:Nat)=2):=by omega
    simp only [h1,false_and,if_false] at h
    refine ⟨?_,fun k hk=>?_⟩
    ·unfold Bb
     rcases hm with h | h <;> rw [h] <;> rfl
    ·rw [List.mem_singleton] at hk
     subst hk
     have hq:¬ ((ts.getD i AF).op=38∨(ts.getD i AF).op=39):=by omega
     simp only [hq,if_false,AA,Bool.or_eq_false_iff] at h
     exact hfit _ h.1
  ·cases h
 ·simp only [hm,if_false] at h
  split at h
  ·rename_i hc
   obtain⟨hr,hl,-⟩:=hc
   match hk:Am ts i,hl with
   | [a,b],_ =>
    rw [hk] at h
    simp only [true_and] at h
    have e0:([a,b]:List Nat).getD 0 0=a:=rfl
    have e1:([a,b]:List Nat).getD 1 0=b:=rfl
    rw [e0,e1] at h
    have hab:(rec a false).2.2=false∧(rec b false).2.2=false:=by
     by_cases q:(ts.getD i AF).op=38∨(ts.getD i AF).op=39
     ·simp only [q,if_true] at h
      split at h
      ·rename_i hf
       exact ⟨(Bool.or_eq_false_iff.1 hf).1,(Bool.or_eq_false_iff.1 h).1⟩
      ·rename_i hf
       exact absurd h hf
     ·simp only [q,if_false] at h
      split at h
      ·rename_i hf
       exact ⟨(Bool.or_eq_false_iff.1 hf).1,(Bool.or_eq_false_iff.1 h).1⟩
      ·rename_i hf
       exact absurd h hf
    obtain⟨h1,h2⟩:=hab
    refine ⟨?_,fun k hk=>?_⟩
    ·unfold Bb
     have n1:¬ (ts.getD i AF).op=10:=by omega
     have n2:¬ ((ts.getD i AF).op=11∨(ts.getD i AF).op=12):=by omega
     have n3:¬ (ts.getD i AF).op=13:=by omega
     have n4:¬ (ts.getD i AF).op=14:=by omega
     have n5:¬ (ts.getD i AF).op=15:=by omega
     have n6:¬ (ts.getD i AF).op=16:=by omega
     have n7:¬ ((ts.getD i AF).op=17∨(ts.getD i AF).op=18):=by omega
     have n8:¬ (ts.getD i AF).op=19:=by omega
     have n9:¬ ((ts.getD i AF).op=30∨(ts.getD i AF).op=31∨(ts.getD i AF).op=32∨(ts.getD i AF).op=33):=by omega
     have n10:¬ (ts.getD i AF).op=49:=by omega
     have n11:¬ (ts.getD i AF).op=50:=by omega
     have n12:¬ ((ts.getD i AF).op=51∨(ts.getD i AF).op=52):=by omega
     have n13:36≤(ts.getD i AF).op∧(ts.getD i AF).op≤48:=by omega
     rw [if_neg n1,if_neg n2,if_neg n3,if_neg n4,if_neg n5,if_neg n6,if_neg n7,if_neg n8,if_neg n9,if_neg hm,if_neg n10,if_neg n11,if_neg n12,if_pos n13]
     rfl
    ·simp only [List.mem_cons,List.not_mem_nil,or_false] at hk
     rcases hk with rfl | rfl
     ·exact hfit _ h1
     ·exact hfit _ h2
  ·cases h
end
theorem FC (slots:List Int) (seen:Int→Option Value):∀ (f i:Nat),(BR ts slots seen f i false).2.2=false→Fit ts f i
 | 0,_,_=>trivial
 | f + 1,i,h=>by
  have ih:=FC slots seen f
  have ht:=Dz (ts:=ts) slots seen f
  have h0:∀ P:Prop,(Am ts i).length=0→∀ k∈Am ts i,P:=fun P h k hk=>by rw [List.length_eq_zero_iff.1 h] at hk;simp at hk
  rw [BR] at h
  generalize BR ts slots seen f=rec at h ih ht
  show _∧_
  unfold BW at h
  simp only [Bool.false_eq_true,if_false] at h
  split at h
  ·rename_i q
   simp only [Bool.or_eq_false_iff,Bool.not_eq_false',Bool.and_eq_true,decide_eq_true_eq] at h
   refine ⟨by unfold Bb;rw [q,h.1.2];rfl,fun k hk=>h0 _ h.1.2 k hk⟩
  split at h
  ·rename_i q
   simp only [Bool.or_eq_false_iff,Bool.not_eq_false',decide_eq_true_eq] at h
   refine ⟨by unfold Bb;rw [h.1];rcases q with q | q <;> rw [q] <;> rfl,fun k hk=>h0 _ h.1 k hk⟩
  split at h
  ·rename_i q
   split at h
   ·rename_i hc
    refine ⟨by unfold Bb;rw [hc.2.2.2,q];rfl,fun k hk=>h0 _ hc.2.2.2 k hk⟩
   ·cases h
  split at h
  ·rename_i q
   split at h
   ·cases h
   ·rename_i s hs
    split at h
    ·rename_i hc
     refine ⟨by unfold Bb;rw [hc.1,q,hs];rfl,fun k hk=>?_⟩
     simp only [AA,Bool.or_eq_false_iff] at h
     match hk2:Am ts i,hc.1 with
     | [a],_ =>
      rw [hk2] at hk h
      rw [List.mem_singleton] at hk
      subst hk
      exact ih _ h.1
    ·cases h
  split at h
  ·rename_i q
   split at h
   ·cases h
   ·rename_i s hs
    have:=MB ht f ih h
    refine ⟨by unfold Bb;rw [q,hs,this.1];simp,this.2⟩
  ·exact Md f ih h
def MN (ts:List Au) (f:Nat) (r:Nat→LSt→LSt):Prop:=∀ i s,(r i s).bad=false→Fit ts f i
section
variable {recS recB:Nat→LSt→LSt} {f:Nat} (hS:MN ts f recS) (hB:MN ts f recB)
include hS hB
theorem JC:∀ (l:List Nat) (i:Nat) (s:LSt),(AS ts recS recB i l s).bad=false→s.bad=false∧∀ k∈l,Fit ts f k
 | [],i,s,h=>⟨h,fun k hk=>by simp at hk⟩
 | k :: r,i,s,h=>by
  rw [AS] at h
  have ih:=JC r _ _ h
  obtain⟨h1,h2⟩:=ih
  split at h1
  ·rename_i hb;rw [hb] at h1;cases h1
  ·rename_i hb
   refine ⟨by simpa using hb,fun j hj=>?_⟩
   rcases List.mem_cons.1 hj with rfl | hj
   ·split at h1
    ·exact hS _ _ h1
    ·exact hB _ _ h1
   ·exact h2 j hj
omit hB in
theorem Fu:∀ (l:List Nat) (own:List Int) (s:LSt),(Bl ts recS l own s).bad=false→s.bad=false∧∀ k∈l,Fit ts f k
 | [],[],s,h=>⟨h,fun k hk=>by simp at hk⟩
 | [],n :: o,s,h=>by
  have:=Fu [] o (forget n s) (by simpa only [Bl,List.foldl_cons] using h)
  exact ⟨this.1,fun k hk=>by simp at hk⟩
 | k :: r,own,s,h=>by
  rw [Bl] at h
  split at h
  ·rename_i hb;rw [hb] at h;cases h
  ·rename_i hb
   obtain⟨h1,h2⟩:=Fu r _ _ h
   refine ⟨by simpa using hb,fun j hj=>?_⟩
   rcases List.mem_cons.1 hj with rfl | hj
   ·exact hS _ _ h1
   ·exact h2 j hj
omit hB in
theorem Q8:MN ts (f + 1) (CW ts recS):=by
 intro i s h
 unfold CW at h
 simp only at h
 split at h
 ·rename_i hc
  refine ⟨by unfold Bb;rw [if_pos hc.1],(Fu hS _ _ _ h).2⟩
 ·cases h
theorem Rr (hf:f≤ts.length):MN ts (f + 1) (DL ts recS recB):=by
 intro i s h
 have h0:∀ P:Prop,(Am ts i).length=0→∀ k∈Am ts i,P:=fun P h k hk=>by rw [List.length_eq_zero_iff.1 h] at hk;simp at hk
 have hE:∀ {s:LSt} {k:Nat},(Dl ts s k false).2.2=false→Fit ts f k:=fun h=>(FC _ _ _ _ h).le hf
 have hV:∀ {s:LSt} {k:Nat} {kd:Int},s.bad=false→(AD ts k kd s).bad=false→Fit ts f k:=fun hb h=>by
  unfold AD Cr at h
  rw [hb] at h
  simp only [AA,Bool.or_eq_false_iff] at h
  exact hE h.1.1
 have hVb:∀ {s:LSt} {k:Nat} {kd:Int},(AD ts k kd s).bad=false→s.bad=false:=fun {s k kd} h=>by
  unfold AD Cr at h
  simp only [AA,Bool.or_eq_false_iff] at h
  cases hb:s.bad with
  | false=>rfl
  | true=>have h1:=h.1.1;rw [hb] at h1;unfold Dl at h1;rw [Dz] at h1;cases h1
 have hD:∀ {n:Int} {b:Bool} {l:List Int} {s:LSt},(AE n b l s).bad=false→s.bad=false:=fun {n b l s} h=>by
  unfold AE at h
  split at h
  ·exact h
  ·rename_i hb;simpa using hb
 have hb:=fun l i s h=>JC (ts:=ts) hS hB l i s h
 show _∧_
 unfold DL at h
 simp only at h
 split at h
 ·rename_i q
  split at h
  ·rename_i hc
   have h1:=hD h
   simp only [Cr,Bool.or_eq_false_iff] at h1
   refine ⟨by unfold Bb;rw [hc.1,q];rfl,fun k hk=>?_⟩
   match hk2:Am ts i,hc.1 with
   | [a],_=>rw [hk2] at hk h1;rw [List.mem_singleton] at hk;subst hk;exact hE h1.1
  ·cases h
 split at h
 ·rename_i q
  split at h
  ·rename_i hc
   refine ⟨by unfold Bb;rw [hc.1,q];rfl,fun k hk=>?_⟩
   match hk2:Am ts i,hc.1 with
   | [a],_=>rw [hk2] at hk h;rw [List.mem_singleton] at hk;subst hk;exact hV (hVb h) h
  ·cases h
 split at h
 ·rename_i q
  split at h
  ·rename_i hc
   have h1:=hb _ _ _ h
   refine ⟨by unfold Bb;rw [q];rcases hc.1 with e | e <;> rw [e] <;> rfl,fun k hk=>?_⟩
   match hk2:Am ts i,hc.1 with
   | a :: r,_ =>
    rw [hk2] at hk h1
    rcases List.mem_cons.1 hk with rfl | hk
    ·exact hV (hVb h1.1) h1.1
    ·exact h1.2 k (by simpa using hk)
   | [],hl=>simp at hl
  ·cases h
 split at h
 ·rename_i q
  split at h
  ·rename_i hc
   have h1:=hb _ _ _ h
   refine ⟨by unfold Bb;rw [q,hc.1];simpa using hc.2.1,h1.2⟩
  ·cases h
 split at h
 ·rename_i q
  split at h
  ·rename_i hc
   have h1:=hb _ _ _ h
   refine ⟨by unfold Bb;rw [q,hc.1];rfl,fun k hk=>?_⟩
   match hk2:Am ts i,hc.1 with
   | a :: r,_ =>
    rw [hk2] at hk h1
    rcases List.mem_cons.1 hk with rfl | hk
    ·exact hV (hVb (hD h1.1)) (hD h1.1)
    ·exact h1.2 k (by simpa using hk)
  ·cases h
 split at h
 ·rename_i q
  split at h
  ·rename_i hc
   have har:Bb (ts.getD i AF) (Am ts i).length=true:=by unfold Bb;rw [q];rcases hc.1 with e | e <;> rw [e] <;> rfl
   refine ⟨har,?_⟩
   have key:∀ l,(forget (ts.getD i AF).n (AS ts recS recB 0 l (AE (ts.getD i AF).n false [3] (AD ts ((Am ts i).getD 0 0) 6 s)))).bad=false→Fit ts f ((Am ts i).getD 0 0)∧∀ k∈l,Fit ts f k:=fun l h=>by
    have h1:=hb _ _ _ (show (AS ts recS recB 0 l _).bad=false from h)
    exact ⟨hV (hVb (hD h1.1)) (hD h1.1),h1.2⟩
   match hk2:Am ts i,hc.1 with
   | [a,b],_ =>
    rw [hk2] at h key
    rw [if_neg (by simp)] at h
    obtain⟨k1,k2⟩:=key _ h
    intro k hk
    simp only [List.mem_cons,List.not_mem_nil,or_false] at hk
    rcases hk with rfl | rfl
    ·exact k1
    ·exact k2 _ (by simp)
   | [a,b,d],_ =>
    rw [hk2] at h key
    by_cases hb2:(forget (ts.getD i AF).n (AS ts recS recB 0 (List.take 1 (List.drop 1 [a,b,d])) (AE (ts.getD i AF).n false [3] (AD ts ([a,b,d].getD 0 0) 6 s)))).bad=false
    ·rw [if_pos ⟨rfl,hb2⟩] at h
     obtain⟨k1,k2⟩:=key _ hb2
     intro k hk
     simp only [List.mem_cons,List.not_mem_nil,or_false] at hk
     rcases hk with rfl | rfl | rfl
     ·exact k1
     ·exact k2 _ (by simp)
     ·exact hB _ _ h
    ·rw [if_neg (by simp only [not_and];exact fun _=>hb2)] at h
     exact absurd h hb2
   | [],hl=>simp at hl
   | [_],hl=>simp at hl
   | _ :: _ :: _ :: _ :: _,hl=>simp at hl
  ·cases h
 split at h
 ·rename_i q
  simp only [Bool.or_eq_false_iff,Bool.not_eq_false',decide_eq_true_eq] at h
  refine ⟨by unfold Bb;rw [h.1];rcases q with q | q <;> rw [q] <;> rfl,fun k hk=>h0 _ h.1 k hk⟩
 split at h
 ·rename_i q
  split at h
  ·cases h
  ·rename_i sg hs
   simp only [Cr,Bool.or_eq_false_iff] at h
   have:=MB (ts:=ts) (rec:=Dl ts s) (fun j=>Dz _ _ _ _) f (fun j hj=>hE hj) h.1
   refine ⟨by unfold Bb;rw [q,hs,this.1];simp,this.2⟩
 ·cases h
end
theorem GN (ts:List Au):∀ f,f≤ts.length + 1→MN ts f (sbM ts f).1∧MN ts f (sbM ts f).2
 | 0,_=>⟨fun _ _ _=>trivial,fun _ _ _=>trivial⟩
 | f + 1,h=>⟨Rr (GN ts f (by omega)).1 (GN ts f (by omega)).2 (by omega),Q8 (GN ts f (by omega)).1⟩
end
def Uy:Int:=4611686018427387904
def PY (a b:Int):Int:=if Uy - a < b then Uy else a + b
def KS (a:Int):Prop:=0≤a∧a≤Uy
theorem SM {a b:Int} (_ha:KS a) (_hb:0≤b):KS (PY a b):=by
 unfold PY KS at *;split <;> constructor <;> omega
theorem Ro {a a' b b':Int} (h1:a≤a') (h2:b≤b') (_ha:KS a') (_hb:0≤b'):PY a b≤PY a' b':=by
 unfold PY KS Uy at *;split <;> split <;> omega
def Fz:List Int→List Int→Prop
 | [],[]=>True
 | a :: l,b :: m=>a≤b∧Fz l m
 | _,_=>False
theorem Fz.length:∀ {l m:List Int},Fz l m→l.length=m.length
 | [],[],_=>rfl
 | a :: l,b :: m,h=>by simp [Fz.length h.2]
theorem Fz.getD:∀ {l m:List Int} (i:Nat),Fz l m→l.getD i 0≤m.getD i 0
 | [],[],_,_=>by simp
 | a :: l,b :: m,0,h=>h.1
 | a :: l,b :: m,i + 1,h=>by
  have:=Fz.getD i h.2
  simpa using this
theorem Fz.map {α:Type} {f g:α→Int}:∀ (l:List α),(∀ x∈l,f x≤g x)→Fz (l.map f) (l.map g)
 | [],_=>trivial
 | x :: l,h=>⟨h x (by simp),Fz.map l fun y hy=>h y (by simp [hy])⟩
theorem Fz.foldl:∀ {l m:List Int} {a b:Int},Fz l m→a≤b→KS b→(∀ x∈m,KS x)→l.foldl PY a≤m.foldl PY b
 | [],[],_,_,_,h,_,_=>h
 | x :: l,y :: m,a,b,h,hab,hb,hm=>by
  rw [List.foldl_cons,List.foldl_cons]
  have hy:=hm y (by simp)
  exact Fz.foldl h.2 (Ro hab h.1 hb hy.1) (SM hb hy.1) fun z hz=>hm z (by simp [hz])
theorem Fit.fuel {ts:List Au}:∀ {f g i:Nat},Fit ts f i→ts.length≤i + f→i < ts.length→Fit ts g i
 | _,0,_,_,_,_=>trivial
 | 0,g + 1,i,_,h1,h2=>absurd h2 (by omega)
 | f + 1,g + 1,i,h,h1,_=>⟨h.1,fun k hk=>by
  have:=AU hk
  exact (h.2 k hk).fuel (by omega) (by omega)⟩
def EW (B kb tb toff cap:Nat) (ts:List Au) (slots:List Int) (seen:Int→Option Value) (r:Bool→ER) (i:Nat):Prop:=
 ∀ (bad:Bool) (w:World),LK w B kb (.slice (some ⟨tb,toff,none⟩) ts.length cap) ⟨slots,seen,bad⟩→As w tb toff ts →
  Calls Tryz.prog 193 #[.pointer (some ⟨kb,0,none⟩),.int .i64 i] w fun e w'=>e=.returned (.tuple #[.int .i8 (r bad).1,.int .i64 (r bad).2.1]) ∧
   LK w' B kb (.slice (some ⟨tb,toff,none⟩) ts.length cap) ⟨slots,seen,(r bad).2.2⟩∧Frm B [144] w w'
theorem FV (B kb tb toff cap:Nat) (ts:List Au) (slots:List Int) (seen:Int→Option Value) (r:Bool→ER) (i:Nat) (kind:Int) (bad:Bool) (w:World)
  (he:EW B kb tb toff cap ts slots seen r i) (h:LK w B kb (.slice (some ⟨tb,toff,none⟩) ts.length cap) ⟨slots,seen,bad⟩) (hn:As w tb toff ts) :
  Calls Tryz.prog 140 #[.pointer (some ⟨kb,0,none⟩),.int .i64 i,.int .i8 kind] w fun e w'=>e=.returned (.int .i64 (AA (r bad) kind).1) ∧
   LK w' B kb (.slice (some ⟨tb,toff,none⟩) ts.length cap) ⟨slots,seen,(AA (r bad) kind).2⟩∧Frm B [144] w w':=by
 go_in
 go_wp2_with fail
 refine (he bad w h hn).mono ?_
 rintro e w1 ⟨rfl,h1,hb1⟩
 go_wp2_with fail
 refine (CD B kb _ _ _ _ h1).mono ?_
 rintro e w2 ⟨rfl,h2,hb2⟩
 go_wp2_with fail
 go_ret
 exact ⟨rfl,h2,hb1.trans hb2⟩
theorem QE {a b:Int}:(if a < b then b else a)=max a b:=by split <;> omega
section
variable {rec:Nat→Bool→ER} {ts:List Au} {l:List (Nat × Int)} {k j:Nat} {u high values:Int} {bad b:Bool} {y:Au} {R:Int × Bool}
theorem Mh (hR:R=AW rec ts (l.drop k) high values bad) (hd:l.drop k=(j,u) :: l.drop (k + 1)) (hy:ts.getD j AF=y) (hu:u = -1)
  (hq:(y.op == 51 && y.kids == 0 && decide (0≤y.n) && decide (y.n≤3))=b):R=AW rec ts (l.drop (k + 1)) high values ((bad || !b) || !(AO y 0 y.n 0)):=by
 rw [hR,hd,AW,if_pos hu]
 simp only [hy,hq]
theorem Mw (hR:R=AW rec ts (l.drop k) high values bad) (hd:l.drop k=(j,u) :: l.drop (k + 1)) (hy:ts.getD j AF=y) (hu:u = -2)
  (hq:(y.op == 52 && y.kids == 0 && CV y.text)=b):R=AW rec ts (l.drop (k + 1)) high values ((bad || !b) || !(AO y 0 0 0)):=by
 rw [hR,hd,AW,if_neg (by omega),if_pos hu]
 simp only [hy,hq]
theorem KV (hR:R=AW rec ts (l.drop k) high values bad) (hd:l.drop k=(j,u) :: l.drop (k + 1)) (h1:u≠-1) (h2:u≠-2) :
  R=AW rec ts (l.drop (k + 1)) (max high (values + (AA (rec j bad) u).1)) (values + 1) (AA (rec j bad) u).2:=by
 rw [hR,hd,AW,if_neg h1,if_neg h2]
end
theorem Pg (B kb tb toff cap:Nat) (ts:List Au) (slots:List Int) (seen:Int→Option Value) (rec:Nat→Bool→ER) (H:Int) (hH:0≤H) (hH2:H≤1000000) (hr:∀ i b,0≤(rec i b).2.1∧(rec i b).2.1≤H)
  (i:Nat) (x:Au) (kids:List Nat) (s:B8) (g:Nat) (kv:Value) (base:Nat) (w:World) (hx:ts[i]? = some x) (hl:ts.length≤100000)
  (htxt:∀ y∈ts,y.text.size≤1099511627776)
  (he:∀ j∈kids,j < ts.length∧EW B kb tb toff cap ts slots seen (rec j) j) (hs:s.args.length≤2) (hga:Blk w g 118 (s.args.map (Value.int .i8)).toArray)
  (hkv:w.ownsRow base 3 1 kv kids.length (kids.map fun j:Nat=>Value.int .i64 j))
  (h:LK w B kb (.slice (some ⟨tb,toff,none⟩) ts.length cap) ⟨slots,seen,false⟩) (hn:As w tb toff ts) (htb:tb < B) :
  Calls Tryz.prog 201 #[.pointer (some ⟨kb,0,none⟩),.int .i64 i,kv,.agg (s.cells g).toArray] w fun e w'=>e=.returned (.int .i64 (Cu rec ts i kids s).1) ∧
   LK w' B kb (.slice (some ⟨tb,toff,none⟩) ts.length cap) ⟨slots,seen,(Cu rec ts i kids s).2⟩∧Frm B [144] w w':=by
 obtain⟨F,hF⟩:∃ F,s.fn=.func (Fn.func F) #[] #[]:=⟨_,rfl⟩
 have hcs:(s.cells g).toArray=#[.string s.name,.slice (some ⟨g,0,none⟩) s.args.length s.args.length,.int .i8 s.tell,.func (Fn.func F) #[] #[]]:=by simp [B8.cells,hF]
 rw [hcs]
 have hi:i < ts.length:=(List.getElem?_eq_some_iff.1 hx).1
 obtain⟨hBk,hks⟩:=h.size
 have hbox:=Blk.new w 244 #[.string s.name,.slice (some ⟨g,0,none⟩) s.args.length s.args.length,.int .i8 s.tell,.func (Fn.func F) #[] #[]]
 have hgd:(ts.getD i AF)=x:=by rw [List.getD_eq_getElem?_getD,hx];rfl
 have hfb:Frm B [144] w (w.alloc (.cells #[.string s.name,.slice (some ⟨g,0,none⟩) s.args.length s.args.length,.int .i8 s.tell,.func (Fn.func F) #[] #[]] 244)):=(Frm.refl _ _ _).alloc (by omega) _
 obtain⟨nk,hnk⟩:∃ nk,kids.length=nk:=⟨_,rfl⟩
 have hkv2:∃ A c,kv=.slice A nk c∧(0 < nk→∃ gk,A=some ⟨gk,0,none⟩∧w.ownsRow base 3 1 (.slice (some ⟨gk,0,none⟩) nk c) nk (kids.map fun j:Nat=>Value.int .i64 j)):=by
  rw [hnk] at hkv
  rcases hkv.2 with ⟨h1,h2⟩ | ⟨g',cp,cu,h1,_⟩
  ·exact ⟨none,0,by rw [h1,h2],fun h=>absurd h (by omega)⟩
  ·exact ⟨_,_,h1,fun _=>⟨g',rfl,by rw [← h1];exact hkv⟩⟩
 obtain⟨A,c,rfl,hown⟩:=hkv2
 clear hkv
 obtain⟨HH,HB,HF,HO,HE,HR,HX,HG,HT⟩:=Hd9 h hbox hfb hown he hr hx hga htxt
 obtain⟨la,hla⟩:∃ la,s.args.length=la:=⟨_,rfl⟩
 by_cases hlen:nk=la
 ·subst hlen
  by_cases hlike:AO x s.tell x.n 0=true
  ·obtain⟨R,hR⟩:=Ex0 (Cu rec ts i kids s)
   rw [← hR]
   have hR2:R=AW rec ts (kids.zip s.args) 0 0 false:=by rw [hR];unfold Cu;simp only [hgd];rw [if_pos ⟨by rw [hnk,hla],hlike⟩]
   obtain⟨HR2,HL,HK,HA⟩:=Hd4 hR2 hlike hnk hla
   rw [hla] at hs ⊢
   simp only [hla] at HB HF
   have hd2:(nk:Int) == (nk:Int):=by simp
   clear h hbox hfb hown he hr hx hga htxt hR hR2 hlike hnk hla hgd hcs hF
   go_in
   go_wp2_with fail
   refine A8 (by kernel_rfl) (by kernel_rfl) ?_
   go_wp2_with (first | (go_at_call 139;refine (BQ B kb _ _ _ _ (HH.out.alloc _).drew).mono ?_;rintro e w1 ⟨rfl,h1,f1⟩;have hbx:=f1.blk HB.out.drew (by simp);have hc1:=hbx.cell 1;have hc2:=hbx.cell 2;have hk0:=h1.cells.1;have hn1:=f1.nodes (HF.out.nodes hn htb) htb;have hcn:=hn1.n HX.out;have H1:=Lh h1;have F1:=Lh f1;have N1:=Lh hn1;clear h1 f1 hn1) | (go_at_call 141;refine (Cl B kb tb toff cap ts _ _ i x _ _ _ _ HL.out H1.out HX.out N1.out hl).mono ?_;rintro e w2 ⟨rfl,h2,f2⟩))
   refine AX.normal ?_
   have fw2:Frm B [144] w w2:=(HF.out.drew.trans F1.out).trans f2
   have hbx2:=f2.blk hbx (by simp)
   obtain⟨H2,FW,HB2⟩:=Hd3 h2 fw2 hbx2
   clear hbx hbx2 hc1 hc2 hk0 hcn h2 f2 fw2 H1 F1 N1 HB HF
   have hbk:w.heap.size < w2.heap.size:=HB2.out.lt
   go_wp2_with fail
   go_loopw [9,10,11,12,13,41] (fun hv vv _ _ _ iv wr=>∃ (k:Nat) (high values:Int) (bad:Bool),k≤nk∧iv=.int .i64 k∧hv=.int .i64 high∧vv=.int .i64 values∧Hid (R=AW rec ts ((kids.zip s.args).drop k) high values bad) ∧
     0≤high∧high≤H + values∧0≤values∧values≤k∧LK wr B kb (.slice (some ⟨tb,toff,none⟩) ts.length cap) ⟨slots,seen,bad⟩∧Frm B [144] w wr∧Blk wr w.heap.size 244 #[.string s.name,.slice (some ⟨g,0,none⟩) nk nk,.int .i8 s.tell,.func (Fn.func F) #[] #[]])
    (fun _ _ _ _ _ iv _=>nk - (intOf iv).toNat)
   case atStart=>exact ⟨0,0,0,false,by omega,rfl,rfl,rfl,HR2.out,by omega,by omega,by omega,by omega,H2.out,FW.out,HB2.out⟩
   case round =>
    obtain⟨k,high,values,bad,hk,rfl,rfl,rfl,HC,hh0,hh1,hv0,hv1,hlk,hfr,hbx⟩:=hrel
    by_cases hlt:k < nk
    ·obtain⟨gk,rfl,hown⟩:=HO.out (by omega)
     obtain⟨j,hj⟩:∃ j,kids[k]? = some j:=⟨_,List.getElem?_eq_getElem (by rw [HK.out];exact hlt)⟩
     obtain⟨u,hu⟩:∃ u,s.args[k]? = some u:=⟨_,List.getElem?_eq_getElem (by rw [HA.out];exact hlt)⟩
     have hjm:j∈kids:=List.mem_of_getElem? hj
     obtain⟨hjl,hej⟩:=HE.out j hjm
     obtain⟨y,hy⟩:∃ y,ts[j]? = some y:=⟨_,List.getElem?_eq_getElem hjl⟩
     have hown2:=hfr.own hown (by simp)
     have hnr:=hfr.nodes hn htb
     have hga2:=hfr.blk HG.out (by simp)
     have hck:wr.cell? ⟨gk,k,none⟩=some (.int .i64 j):=by
      rw [hown2.cellAt k (by omega)]
      simp [hj]
     have hcu:wr.cell? ⟨g,k,none⟩=some (.int .i8 u):=by
      rw [hga2.cell k]
      simp [hu]
     obtain⟨d0,d1,d2,d3,d4,d5,d6⟩:=hnr.all hy
     have hb1:=hbx.cell 1
     have hk0:=hlk.cells.1
     obtain⟨hBk2,hks2⟩:=hlk.size
     have hz1:w.heap.size < wr.heap.size:=hbx.lt
     have hz2:g < wr.heap.size:=hga2.lt
     have hz3:gk < wr.heap.size:=World.block_lt_of_cell? wr _ hck
     have hz4:tb < wr.heap.size:=World.block_lt_of_cell? wr _ d0
     have hdrop:(kids.zip s.args).drop k=(j,u) :: (kids.zip s.args).drop (k + 1):=by
      have h1:(kids.zip s.args)[k]? = some (j,u):=by rw [List.getElem?_zip_eq_some];exact ⟨hj,hu⟩
      obtain⟨h2,h3⟩:=List.getElem?_eq_some_iff.1 h1
      rw [List.drop_eq_getElem_cons h2,h3]
     have hgj:ts.getD j AF=y:=by rw [List.getD_eq_getElem?_getD,hy];rfl
     have hlk2:∀ o,LK (wr.alloc o) B kb (.slice (some ⟨tb,toff,none⟩) ts.length cap) ⟨slots,seen,bad⟩:=fun o=>hlk.alloc o
     have hnr2:∀ o,As (wr.alloc o) tb toff ts:=fun o=>hnr.below ((Below.refl _ _).alloc (by omega) _) htb
     have hby:∀ o,Blk (wr.alloc o) w.heap.size 244 #[.string s.name,.slice (some ⟨g,0,none⟩) nk nk,.int .i8 s.tell,.func (Fn.func F) #[] #[]]:=fun o=>hbx.alloc o
     have hfr2:∀ o,Frm B [144] w (wr.alloc o):=fun o=>hfr.alloc (by omega) _
     obtain⟨HD,HGJ,HY,HJ,HLK,HNR,HBY,HFR,HGA⟩:=Hd9 hdrop hgj hy hej hlk2 hnr2 hby hfr2 hga2
     have hyt:=HT.out y (List.mem_of_getElem? hy)
     clear hdrop hgj hy hej hlk2 hnr2 hby hfr2 hj hu hlk hfr hbx hnr hga2 hown2 hown hjm
     by_cases hu1:u = -1
     ·have hub:(u == -1)=true:=by simp [hu1]
      have HU:=Lh hu1
      clear hu1
      go_wp2_with (first | (go_at_call 139;refine (CD B kb _ ⟨slots,seen,bad⟩ _ _ (HLK.out _)).mono ?_;rintro e w3 ⟨rfl,h3,f3⟩;have cn:=(f3.blk (Blk.new wr _ _) (by decide)).cell 2;have H3:=Lh h3;have F3:=Lh f3;clear h3 f3) | (go_at_call 141;refine (EV B kb tb toff cap ts _ j y _ _ _ _ H3.out HY.out (F3.out.nodes (HNR.out _) htb) hl).mono ?_;rintro e w4 ⟨rfl,h4,f4⟩))
      all_goals
       go_roundw
       case rel =>
        refine ⟨k + 1,high,values,_,by omega,by go_num,rfl,rfl,Mh (b:=_) HC.out HD.out HGJ.out HU.out ?_,hh0,hh1,hv0,by omega,h4,((HFR.out _).trans F3.out).trans f4,f4.blk (F3.out.blk (HBY.out _) (by decide)) (by decide)⟩
        rcases Int.lt_or_le y.n 0 with hp | hp
        ·first | (exfalso;omega) | simp [*,Int.not_le.2 hp]
        ·first | (exfalso;omega) | simp [*]
       case measure=>(simp [intOf];try omega)
     ·have hub:(u == -1)=false:=by simp [hu1]
      by_cases hu2:u = -2
      ·have hub2:(u == -2)=true:=by simp [hu2]
       have HU:=Lh hu2
       clear hu1 hu2
       go_wp2_with (first | (go_at_call 247;refine (Sg y.text _ hyt).mono ?_;rintro e w5 ⟨rfl,rfl⟩) | (go_at_call 139;refine (CD B kb _ ⟨slots,seen,bad⟩ _ _ (HLK.out _)).mono ?_;rintro e w3 ⟨rfl,h3,f3⟩;have H3:=Lh h3;have F3:=Lh f3;clear h3 f3) | (go_at_call 141;refine (EV B kb tb toff cap ts _ j y _ _ _ _ H3.out HY.out (F3.out.nodes (HNR.out _) htb) hl).mono ?_;rintro e w4 ⟨rfl,h4,f4⟩))
       all_goals
        go_roundw
        case rel =>
         refine ⟨k + 1,high,values,_,by omega,by go_num,rfl,rfl,Mw (b:=_) HC.out HD.out HGJ.out HU.out ?_,hh0,hh1,hv0,by omega,h4,((HFR.out _).trans F3.out).trans f4,f4.blk (F3.out.blk (HBY.out _) (by decide)) (by decide)⟩
         simp [*]
        case measure=>(simp [intOf];try omega)
      ·have hub2:(u == -2)=false:=by simp [hu2]
       obtain⟨HU1,HU2⟩:=Hd2 hu1 hu2
       have hw:=HR.out j bad
       have hw1:(AA (rec j bad) u).1=(rec j bad).2.1:=rfl
       rw [← hw1] at hw
       obtain⟨hw2,hw3⟩:=hw
       clear hu1 hu2 hw1
       go_wp2_with (first | (go_at_call 140;refine (FV B kb tb toff cap ts slots seen (rec j) j u bad _ HJ.out (HLK.out _) (HNR.out _)).mono ?_;rintro e w3 ⟨rfl,h3,f3⟩))
       go_roundw
       case rel =>
        refine ⟨k + 1,max high (values + (AA (rec j bad) u).1),values + 1,_,by omega,by go_num,by rw [QE],rfl,KV HC.out HD.out HU1.out HU2.out,by omega,by omega,by omega,by omega,h3,(HFR.out _).trans f3,f3.blk (HBY.out _) (by decide)⟩
       case measure=>(simp [intOf];try omega)
    ·have hkn:k=nk:=by omega
     have hfin:R=(high,bad):=by
      rw [HC.out,List.drop_of_length_le (by rw [List.length_zip,HK.out,HA.out];omega),AW]
     have HFin:=Lh hfin
     clear hfin
     go_wp2_with fail
     go_ret
     exact ⟨De (by rw [HFin.out]),by rw [HFin.out];exact hlk,hfr⟩
  ·have hcf:Cu rec ts i kids s=(0,true):=by unfold Cu;simp only [hgd];rw [if_neg (fun h=>hlike h.2)]
   rw [hcf]
   have hlf:AO x s.tell x.n 0=false:=by simpa using hlike
   obtain⟨HL,HK,HA⟩:=Hd3 hlf hnk hla
   rw [hla] at hs ⊢
   simp only [hla] at HB HF
   have hd2:(nk:Int) == (nk:Int):=by simp
   clear h hbox hfb hown he hr hx hga htxt hlike hnk hla hgd hcs hF hcf hlf
   go_in
   go_wp2_with fail
   refine A8 (by kernel_rfl) (by kernel_rfl) ?_
   go_wp2_with (first | (go_at_call 139;refine (BQ B kb _ _ _ _ (HH.out.alloc _).drew).mono ?_;rintro e w1 ⟨rfl,h1,f1⟩;have hbx:=f1.blk HB.out.drew (by simp);have hc1:=hbx.cell 1;have hc2:=hbx.cell 2;have hk0:=h1.cells.1;have hn1:=f1.nodes (HF.out.nodes hn htb) htb;have hcn:=hn1.n HX.out;have H1:=Lh h1;have F1:=Lh f1;have N1:=Lh hn1;clear h1 f1 hn1) | (go_at_call 141;refine (DI B kb tb toff cap ts _ _ i x _ _ _ _ _ HL.out H1.out HX.out N1.out hl).mono ?_;rintro e w2 ⟨rfl,h2,f2⟩))
   refine AX.normal ?_
   go_wp2
   go_ret
   exact ⟨rfl,h2,(HF.out.drew.trans F1.out).trans f2⟩
 ·have hcf:Cu rec ts i kids s=(0,true):=by unfold Cu;simp [hnk,hla,hlen]
  rw [hcf,hla]
  simp only [hla] at HB HF
  have hlb:((nk:Int) == (la:Int))=false:=by simp;omega
  clear hcf hgd hcs hF h hbox hfb hown he hr hx hga htxt hnk hla
  have HL:=Lh hlen
  clear hlen
  go_in
  go_wp2_with fail
  refine A8 (by kernel_rfl) (by kernel_rfl) ?_
  go_wp2_with (first | (go_at_call 139;refine (Dq B kb _ _ _ _ _ (HH.out.alloc _).drew).mono ?_;rintro e w1 ⟨rfl,h1,f1⟩))
  refine AX.normal ?_
  go_wp2
  go_ret
  exact ⟨rfl,h1,HF.out.drew.trans f1⟩
end Go.Proofs.YtmpcbaflcogmmaaGreatDoor
