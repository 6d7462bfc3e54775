/- Serial Serial2 Texts Serial3 -/
import Derived.Orders
import Derived.StillTail
import Derived.WalkKit
import Derived.Deep.RegionHeld
import Derived.Test.YtmpcbaflcogmmaaGreatDoorKinds
namespace Go.Proofs.YtmpcbaflcogmmaaGreatDoor
open Go.RowKit
set_option linter.all false
def AX (Q:Exit→Act→World→Prop):Exit→Act→World→Prop
 | .normal,a,w=>Q .normal a w
 | _,_,_=>False
section
variable {Q:Exit→Act→World→Prop}
include Q
theorem AX.lets:¬ LetsOut (AX Q):=fun ⟨_,_,h⟩=>h
theorem AX.imp:∀ (e:Exit) (a:Act) (w:World),AX Q e a w→Q e a w:=fun e a w h=>by
 cases e <;> first | exact h | exact (h:False).elim
end
def AN {α:Type} (P:Program) (s:Sem α):Prop:=∀ w v w',s.run P w=.ok v w'→w'=w∧∀ u,s.run P u=.ok v u
def Dw {α:Type} (P:Program) (s:Sem α):Prop:=∀ w v w',s.run P w=.ok v w'→w'=w
section
variable {α β:Type} {P:Program}
theorem AN.pure (v:α):AN P (Pure.pure v:Sem α):=fun w v' w' h=>by
 simp at h;obtain⟨rfl,rfl⟩:=h;exact ⟨rfl,fun _=>rfl⟩
theorem AN.halt (h:Halt):AN P (Sem.halt h:Sem α):=fun w v w' hh=>by simp at hh
theorem AN.never {s:Sem α} (h:∀ w v w',s.run P w≠.ok v w'):AN P s:=fun w v w' hh=>absurd hh (h w v w')
theorem AN.program:AN P Go.program:=fun w v w' h=>by
 simp [Go.program,Sem.run] at h;obtain⟨rfl,rfl⟩:=h;exact ⟨rfl,fun _=>rfl⟩
theorem AN.bind {s:Sem α} {f:α→Sem β} (hs:AN P s) (hf:∀ x,AN P (f x)):AN P (s >>= f):=fun w v w' h=>by
 rw [Sem.run_bind] at h
 cases h1:s.run P w with
 | halt x y=>rw [h1] at h;simp [Result.andThen] at h
 | ok x y =>
  rw [h1] at h
  simp only [Result.andThen_ok] at h
  obtain⟨rfl,h2⟩:=hs w x y h1
  obtain⟨rfl,h3⟩:=hf x _ v w' h
  exact ⟨rfl,fun u=>by rw [Sem.run_bind,h2 u,Result.andThen_ok,h3 u]⟩
theorem AN.read {s:Sem α} (h:AN P s):Dw P s:=fun w v w' hh=>(h w v w' hh).1
theorem Dw.bind {s:Sem α} {f:α→Sem β} (hs:Dw P s) (hf:∀ x,Dw P (f x)):Dw P (s >>= f):=fun w v w' h=>by
 rw [Sem.run_bind] at h
 cases h1:s.run P w with
 | halt x y=>rw [h1] at h;simp [Result.andThen] at h
 | ok x y =>
  rw [h1] at h
  simp only [Result.andThen_ok] at h
  have h2:=hs w x y h1
  subst h2
  exact hf x _ v w' h
theorem AN.stuck (m:String):AN P (Go.stuck m:Sem α):=.halt _
theorem AN.unsupported (d:Unsupported):AN P (Go.unsupported d:Sem α):=.halt _
def Dh {α:Type} (P:Program) (s:Sem α):Prop:=∀ w v w',s.run P w≠.ok v w'
theorem Dh.halt (h:Halt):Dh P (Sem.halt h:Sem α):=fun w v w' hh=>by simp at hh
theorem Dh.bind {s:Sem α} {f:α→Sem β} (hf:∀ x,Dh P (f x)):Dh P (s >>= f):=fun w v w' h=>by
 rw [Sem.run_bind] at h
 cases h1:s.run P w with
 | halt x y=>rw [h1] at h;simp [Result.andThen] at h
 | ok x y=>rw [h1] at h;simp only [Result.andThen_ok] at h;exact hf x y v w' h
theorem Dh.runtimePanic (e:RuntimeError):Dh P (Go.runtimePanic e:Sem α):=by
 unfold Go.runtimePanic
 refine .bind fun p=>?_
 simp only
 cases e
 case typeAssertion=>exact .bind fun _=>.bind fun _=>.halt _
 case panicNil=>exact .bind fun _=>.bind fun _=>.halt _
 all_goals exact .halt _
theorem Dh.boundsPanic (k:IntKind) (x y:Int) (c:BoundsCode):Dh P (Go.boundsPanic k x y c:Sem α):=by
 unfold Go.boundsPanic
 dsimp only
 split <;> exact .bind fun _=>.runtimePanic _
theorem AN.ite {c:Prop} [Decidable c] {x y:Sem α} (hx:AN P x) (hy:AN P y):AN P (if c then x else y):=by
 split
 ·exact hx
 ·exact hy
theorem AN.typeInfo (t:TypeId):AN P (Go.typeInfo t):=by
 unfold Go.typeInfo
 refine .bind .program fun p=>?_
 split
 ·exact .pure _
 ·exact .stuck _
theorem AN.underlying (t:TypeId):AN P (Go.underlying t):=by
 unfold Go.underlying
 refine .bind .program fun p=>?_
 split
 ·exact .pure _
 ·exact .stuck _
theorem AN.sizeOf (t:TypeId):AN P (Go.sizeOf t):=.bind (.typeInfo t) fun _=>.pure _
theorem AN.asBool (v:Value):AN P (Go.asBool v):=by
 unfold Go.asBool;split
 ·exact .pure _
 ·exact .stuck _
theorem AN.asIntOf (v:Value):AN P (Go.asIntOf v):=by
 unfold Go.asIntOf;split
 ·exact .pure _
 ·exact .unsupported _
 ·exact .stuck _
theorem AN.sureAddr (v:Value):AN P (Instr.sureAddr v):=by
 unfold Instr.sureAddr;split
 ·exact .pure _
 ·exact .stuck _
theorem AN.indexAt (t:TypeId) (x ix:Value):AN P (Instr.indexAt t x ix):=by
 unfold Instr.indexAt
 refine .bind (.asIntOf _) fun ki=>?_
 obtain⟨k,i⟩:=ki
 dsimp only
 have tail:∀ r:Option Addr × Nat × TypeId,AN P (do
   let d ← Go.underlying t
   match r.1 with
   | some a =>
    if 0≤i∧i < (r.2.1:Int) then do
     let z ← Go.sizeOf r.2.2
     Pure.pure (Value.pointer (some (a.add (i.toNat * z))))
    else if (decide (r.2.1≤1) && (match d with | .array ..=>true | _=>false))=true then Go.unsupported (Unsupported.noEntry "op/indexAddr.an index out of range at an array of length 0 or 1 (ledger 616)")
    else Go.boundsPanic k i r.2.1 .index
   | none=>Go.boundsPanic k i 0 .index):=fun r=>.bind (.underlying _) fun d=>by
  cases r.1 with
  | some a=>exact .ite (.bind (.sizeOf _) fun _=>.pure _) (.ite (.unsupported _) (.never (Dh.boundsPanic _ _ _ _)))
  | none=>exact .never (Dh.boundsPanic _ _ _ _)
 refine .bind (.underlying _) fun d=>?_
 split
 ·exact .bind (.sureAddr _) fun _=>.bind (.pure _) tail
 ·exact .bind (.pure _) tail
 ·exact .bind (.stuck _) tail
theorem AN.sliceBound (x:Value) (y:Nat) (code:BoundsCode):AN P (Instr.sliceBound x y code):=by
 unfold Instr.sliceBound
 refine .bind (.asIntOf _) fun ki=>?_
 obtain⟨k,i⟩:=ki
 exact .ite (.pure _) (.never (Dh.boundsPanic _ _ _ _))
theorem AN.sliceBounds (b:Bool) (len cap:Nat) (lo hi mx:Option Value):AN P (Instr.sliceBounds b len cap lo hi mx):=by
 unfold Instr.sliceBounds
 cases mx with
 | none =>
  refine .bind (.pure _) fun m=>?_
  cases hi with
  | none =>
   refine .bind (.pure _) fun h=>?_
   cases lo with
   | none=>exact .bind (.pure _) fun _=>.pure _
   | some v=>exact .bind (.sliceBound _ _ _) fun _=>.pure _
  | some u =>
   refine .bind (.sliceBound _ _ _) fun h=>?_
   cases lo with
   | none=>exact .bind (.pure _) fun _=>.pure _
   | some v=>exact .bind (.sliceBound _ _ _) fun _=>.pure _
 | some z =>
  refine .bind (.sliceBound _ _ _) fun m=>?_
  cases hi with
  | none =>
   refine .bind (.stuck _) fun h=>?_
   cases lo with
   | none=>exact .bind (.pure _) fun _=>.pure _
   | some v=>exact .bind (.sliceBound _ _ _) fun _=>.pure _
  | some u =>
   refine .bind (.sliceBound _ _ _) fun h=>?_
   cases lo with
   | none=>exact .bind (.pure _) fun _=>.pure _
   | some v=>exact .bind (.sliceBound _ _ _) fun _=>.pure _
theorem AN.sliceAt {t e:TypeId} (ht:P.underlying t=some (.slice e)) (x:Value) (lo hi mx:Option Value):AN P (Instr.sliceAt t x lo hi mx):=by
 have key:∀ (f:TypeDesc→Sem Value),AN P (f (.slice e))→AN P (Go.underlying t >>= f):=fun f hf w v w' hr=>by
  rw [Sem.run_bind,run_underlying ht,Result.andThen_ok] at hr
  obtain⟨h1,h2⟩:=hf w v w' hr
  exact ⟨h1,fun u=>by rw [Sem.run_bind,run_underlying ht,Result.andThen_ok,h2 u]⟩
 unfold Instr.sliceAt
 refine key _ ?_
 simp only
 unfold Instr.slice
 refine key _ ?_
 cases x <;> simp only <;> first
  | exact .stuck _
  | exact .bind (.sliceBounds _ _ _ _ _ _) fun _=>.bind (.sizeOf _) fun _=>.pure _
theorem AN.unary (op:UnOp) (x:Value):AN P (Op.unary op x):=by
 unfold Op.unary
 split <;> first
  | exact .pure _
  | exact .unsupported _
  | exact .stuck _
  | (unfold Op.intArith;repeat' (first | exact .pure _ | exact .stuck _ | split))
  | (unfold Op.intBits;repeat' (first | exact .pure _ | exact .stuck _ | split))
theorem AN.extract (t:Value) (i:Nat):AN P (Instr.extract t i):=by
 unfold Instr.extract
 repeat' (first | exact .pure _ | exact .stuck _ | split)
theorem AN.isAgg (t:TypeId):AN P (Go.isAgg t):=by
 unfold Go.isAgg
 refine .bind (.underlying _) fun d=>?_
 split <;> exact .pure _
theorem AN.part (t:TypeId) (cs:Array Value) (off:Nat):AN P (Go.part t cs off):=by
 unfold Go.part
 refine .bind (AN.isAgg _) fun b=>?_
 split
 ·exact .bind (.sizeOf _) fun _=>.pure _
 ·split
  ·exact .pure _
  ·exact .stuck _
theorem AN.followBlind:∀ (l:List FieldStep) (t:TypeId) (x:Option Value),AN P (Go.followBlind l t x)
 | [],t,x=>.pure _
 | s :: rest,t,x=>by
  unfold Go.followBlind
  refine .bind (.underlying _) fun d=>?_
  split
  ·split
   ·split
    ·exact .pure _
    ·exact followBlind rest _ _
    ·exact .stuck _
    ·exact .pure _
    ·exact .bind (.part _ _ _) fun _=>followBlind rest _ _
    ·exact .stuck _
    ·exact followBlind rest _ _
   ·exact .stuck _
  ·exact .stuck _
theorem AN.nilAhead:∀ (n:Nat) (t:TypeId) (v:Value) (name:String),AN P (Go.nilAhead n t v name)
 | 0,_,_,_=>.pure _
 | n + 1,t,v,name=>by
  unfold Go.nilAhead
  refine .bind (.typeInfo _) fun i=>?_
  split
  ·refine .bind (.followBlind _ _ _) fun r=>?_
   split
   ·exact .pure _
   ·split
    ·exact nilAhead n _ _ _
    ·exact .pure _
    ·exact .stuck _
    ·exact .pure _
    ·exact .pure _
    ·refine .bind (.underlying _) fun d=>?_
     split <;> exact .pure _
  ·exact .stuck _
def OD (P:Program) (s:Sem Next):Prop:=∀ w n w',s.run P w=.ok n w'→∃ v,n=.value v
theorem OD.pure (v:Value):OD P (Pure.pure (Next.value v):Sem Next):=fun w n w' h=>by
 simp at h;exact ⟨v,h.1.symm⟩
theorem OD.never {s:Sem Next} (h:Dh P s):OD P s:=fun w v w' hh=>absurd hh (h w v w')
theorem OD.bind {γ:Type} {s:Sem γ} {f:γ→Sem Next} (hf:∀ x,OD P (f x)):OD P (s >>= f):=fun w v w' h=>by
 rw [Sem.run_bind] at h
 cases h1:s.run P w with
 | halt x y=>rw [h1] at h;simp [Result.andThen] at h
 | ok x y=>rw [h1] at h;simp only [Result.andThen_ok] at h;exact hf x y v w' h
def TK (P:Program) (c:Call):Bool:=
 (match c.callee with | .builtin .len=>true | _=>false) && match c.argTypes[0]? with
  | some t=>(match P.underlying t with | some (.slice _)=>true | some .string=>true | _=>false)
  | none=>false
theorem Oc {c:Call} (h:TK P c=true) (ty:TypeId) (args:Array Value):c.callee=.builtin .len∧AN P (Builtin.len_ c.argTypes ty args):=by
 simp only [TK,Bool.and_eq_true] at h
 obtain⟨h1,h2⟩:=h
 refine ⟨?_,?_⟩
 ·cases hc:c.callee <;> rw [hc] at h1 <;> try (exact absurd h1 Bool.false_ne_true)
  rename_i b
  cases b <;> first | rfl | (exact absurd h1 Bool.false_ne_true)
 ·cases ht:c.argTypes[0]? with
  | none=>rw [ht] at h2;cases h2
  | some t =>
   rw [ht] at h2
   simp only at h2
   unfold Builtin.len_
   rw [ht]
   cases args[0]? with
   | none=>exact .stuck _
   | some x =>
    simp only
    have hd:(∃ e,P.underlying t=some (.slice e))∨P.underlying t=some .string:=by
     split at h2
     ·rename_i e he;exact .inl ⟨e,he⟩
     ·rename_i he;exact .inr he
     ·cases h2
    have key:∀ d (f:TypeDesc→Sem Value),P.underlying t=some d→AN P (f d)→AN P (Go.underlying t >>= f):=fun d f hd hf w v w' hr=>by
     rw [Sem.run_bind,run_underlying hd,Result.andThen_ok] at hr
     obtain⟨h1,h2⟩:=hf w v w' hr
     exact ⟨h1,fun u=>by rw [Sem.run_bind,run_underlying hd,Result.andThen_ok,h2 u]⟩
    rcases hd with ⟨e,hd⟩ | hd
    ·refine key _ _ hd ?_
     cases x <;> first | exact .pure _ | exact .stuck _
    ·refine key _ _ hd ?_
     cases x <;> first | exact .pure _ | exact .stuck _
def GC (P:Program):Op→Bool
 | .move _ | .assign _ | .pick .. | .unOp .. | .extract ..=>true
 | .indexAddr .. | .nilCheck _=>true
 | .call c=>TK P c
 | .slice t _ _ _ _=>match P.underlying t with | some (.slice _)=>true | _=>false
 | .fieldAddr s _ f=>match P.underlying s with
  | some (.struct fields)=>match fields[f]? with
   | some fl=>match P.info? fl.type with
    | some i=>i.size != 0
    | none=>false
   | none=>false
  | _=>false
 | _=>false
theorem AN.fieldAt {s:TypeId} {f:Nat} {fields:Array Field} {fl:Field} {i:TypeInfo} (h1:P.underlying s=some (.struct fields)) (h2:fields[f]? = some fl) (h3:P.info? fl.type=some i) (h4:i.size≠0) (v:Value):AN P (Instr.fieldAt s v f):=by
 intro w u w' h
 cases v with
 | pointer a =>
  cases a with
  | some a =>
   have hr:∀ w,(Instr.fieldAt s (.pointer (some a)) f).run P w=.ok (.pointer (some (a.add fl.offset))) w:=fun w=>by
    simp [Instr.fieldAt,Instr.sureAddr,fieldPlace,Go.sizeOf,Go.typeInfo,run_underlying h1,h2,h3,h4,Go.program,Sem.run]
   rw [hr w] at h
   injection h with h5 h6
   subst h5 h6
   exact ⟨rfl,hr⟩
  | none=>simp [Instr.fieldAt,Instr.sureAddr,run_underlying h1,h2,Go.stuck] at h
 | _=>simp [Instr.fieldAt,Instr.sureAddr,run_underlying h1,h2,Go.stuck] at h
theorem EH {o:Oper} (h:GC P o.op=true) (ρ:Operand→Value) (w:World) (n:Next) (w':World) (hr:(execOp ρ o).run P w=.ok n w') :
  ∃ v,n=.value v∧w'=w∧∀ u,(execOp ρ o).run P u=.ok (.value v) u:=by
 have lift:∀ s:Sem Value,AN P s→(do let x ← s;Pure.pure (Next.value x):Sem Next).run P w=.ok n w'→∃ v,n=.value v∧w'=w∧∀ u,(do let x ← s;Pure.pure (Next.value x):Sem Next).run P u=.ok (.value v) u:=by
  intro s hs hr
  rw [Sem.run_bind] at hr
  cases h1:s.run P w with
  | halt x y=>rw [h1] at hr;simp [Result.andThen] at hr
  | ok x y =>
   rw [h1] at hr
   simp only [Result.andThen_ok,Sem.run_pure] at hr
   injection hr with h2 h3
   obtain⟨rfl,h4⟩:=hs w x y h1
   exact ⟨x,h2.symm,h3.symm,fun u=>by rw [Sem.run_bind,h4 u];rfl⟩
 cases hop:o.op <;> rw [hop] at h <;> simp only [GC] at h <;> try (exact absurd h Bool.false_ne_true)
 case move x =>
  simp only [execOp,hop,Sem.run_pure] at hr ⊢
  injection hr with h1 h2
  exact ⟨_,h1.symm,h2.symm,fun _=>rfl⟩
 case assign x =>
  simp only [execOp,hop,Sem.run_pure] at hr ⊢
  injection hr with h1 h2
  exact ⟨_,h1.symm,h2.symm,fun _=>rfl⟩
 case pick c a b =>
  simp only [execOp,hop] at hr ⊢
  rw [Sem.run_bind] at hr
  cases h1:(Go.asBool (ρ c)).run P w with
  | halt x y=>rw [h1] at hr;simp [Result.andThen] at hr
  | ok x y =>
   obtain⟨rfl,h4⟩:=AN.asBool (ρ c) w x y h1
   rw [h1] at hr
   simp only [Result.andThen_ok,Sem.run_pure] at hr
   injection hr with h2 h3
   exact ⟨_,h2.symm,h3.symm,fun u=>by rw [Sem.run_bind,h4 u];rfl⟩
 case nilCheck x =>
  simp only [execOp,hop] at hr ⊢
  have fin:AN P (execOp ρ o):=by
   simp only [execOp,hop]
   split
   ·exact .never (Dh.runtimePanic _)
   ·exact .never (Dh.runtimePanic _)
   ·exact .never (Dh.runtimePanic _)
   ·split
    ·exact .never (Dh.runtimePanic _)
    ·refine .bind .program fun p=>?_
     refine .bind (.nilAhead _ _ _ _) fun r=>?_
     split
     ·exact .bind (.unsupported _) fun _=>.pure _
     ·exact .pure _
    ·exact .pure _
   ·exact .pure _
  have val:OD P (execOp ρ o):=by
   simp only [execOp,hop]
   split
   ·exact .never (Dh.runtimePanic _)
   ·exact .never (Dh.runtimePanic _)
   ·exact .never (Dh.runtimePanic _)
   ·split
    ·exact .never (Dh.runtimePanic _)
    ·refine .bind fun p=>?_
     refine .bind fun r=>?_
     split
     ·exact .bind fun _=>.pure _
     ·exact .pure _
    ·exact .pure _
   ·exact .pure _
  simp only [execOp,hop] at fin val
  obtain⟨h1,h2⟩:=fin w n w' hr
  obtain⟨v,rfl⟩:=val w n w' hr
  exact ⟨v,rfl,h1,h2⟩
 case call c =>
  obtain⟨h1,h2⟩:=Oc h o.type (c.args.map ρ)
  have e:execOp ρ o=(do let x ← Builtin.len_ c.argTypes o.type (c.args.map ρ);Pure.pure (Next.value x):Sem Next):=by
   simp only [execOp,hop,resolve,h1]
   rfl
  rw [e] at hr ⊢
  exact lift _ h2 hr
 case unOp op t x=>simp only [execOp,hop] at hr ⊢;exact lift _ (.unary _ _) hr
 case extract t i=>simp only [execOp,hop] at hr ⊢;exact lift _ (.extract _ _) hr
 case indexAddr t x i=>simp only [execOp,hop] at hr ⊢;exact lift _ (.indexAt _ _ _) hr
 case slice t x lo hi mx =>
  simp only [execOp,hop] at hr ⊢
  split at h
  ·rename_i e he
   exact lift _ (.sliceAt he _ _ _ _) hr
  ·cases h
 case fieldAddr s x f =>
  simp only [execOp,hop] at hr ⊢
  split at h
  ·rename_i fields h1
   split at h
   ·rename_i fl h2
    split at h
    ·rename_i i h3
     exact lift _ (.fieldAt h1 h2 h3 (by simpa using h) _) hr
    ·cases h
   ·cases h
  ·cases h
theorem Dw.load (a:Addr) (m:Mode):Dw P (Go.load a m):=by
 intro w v w' h
 unfold Go.load at h
 rw [Sem.run] at h
 split at h
 ·simp [Sem.run] at h;exact h.2.symm
 ·split at h
  ·simp [Sem.run] at h;exact h.2.symm
  ·cases h
theorem Dw.cells (a:Addr):∀ (n i:Nat) (acc:Array Value),Dw P (loadCellsFrom a i n acc)
 | 0,_,_=>(AN.pure _).read
 | n + 1,i,acc=>.bind (.load _ _) fun v=>Dw.cells a n (i + 1) (acc.push v)
theorem Dw.loadVar (t:TypeId) (a:Addr):Dw P (Go.loadVar t a):=by
 unfold Go.loadVar
 refine .bind (AN.isAgg t).read fun b=>?_
 split
 ·exact .bind (AN.sizeOf t).read fun _=>.bind (.cells a _ _ _) fun _=>(AN.pure _).read
 ·exact .load _ _
def FN (P:Program):Op→Bool
 | .load ..=>true
 | o=>GC P o
theorem Ju {o:Oper} (h:FN P o.op=true) (ρ:Operand→Value) (w:World) (n:Next) (w':World) (hr:(execOp ρ o).run P w=.ok n w'):(∃ v,n=.value v)∧w'=w:=by
 by_cases hp:GC P o.op=true
 ·obtain⟨v,h1,h2,_⟩:=EH hp ρ w n w' hr
  exact ⟨⟨v,h1⟩,h2⟩
 ·cases hop:o.op <;> rw [hop] at h hp <;> first | (exact absurd h hp) | skip
  case load t x =>
   simp only [execOp,hop] at hr
   rw [Sem.run_bind] at hr
   have hrd:Dw P (Instr.loadAt t (ρ x)):=.bind (AN.sureAddr _).read fun _=>.loadVar _ _
   cases h1:(Instr.loadAt t (ρ x)).run P w with
   | halt q y=>rw [h1] at hr;simp [Result.andThen] at hr
   | ok q y =>
    rw [h1] at hr
    simp only [Result.andThen_ok,Sem.run_pure] at hr
    injection hr with h2 h3
    exact ⟨⟨q,h2.symm⟩,h3.symm.trans (hrd w q y h1)⟩
/-! the walk in the order of the text, over a list of places -/
variable {ops:Array Oper}
def JD (P:Program) (ops:Array Oper) (Q:Exit→Act→World→Prop) (K:Act→World→Prop):List Nat→Act→World→Prop
 | []=>K
 | i :: r=>wpOp P ops (AX Q) i (JD P ops Q K r)
variable {Q:Exit→Act→World→Prop} {K:Act→World→Prop}
theorem QS {i:Nat} {o:Oper} (hi:ops[i]? = some o) {p:Act→Prop} (hd:∀ a d,p { a with defers:=d :: a.defers }→p a) {a:Act} {w:World} (h:wpOp P ops (AX Q) i (fun a' _=>p a') a w):∃ v,p (a.put o.dst v):=by
 unfold wpOp at h
 simp only [hi] at h
 split at h
 ·rcases h with h | ⟨_,h⟩
  ·unfold Oper.wp at h
   cases hr:(execOp a.eval o).run P w with
   | halt x y=>rw [hr] at h;cases x <;> simp [Oper.upon,AX] at h
   | ok n y =>
    rw [hr] at h
    cases n <;> simp only [Oper.upon] at h
    case value v=>exact ⟨v,h⟩
    case skip=>exact ⟨undef,h⟩
    case defer d=>exact ⟨undef,hd _ d (by have e:=Act.put_defers a o.dst undef d;exact e▸h)⟩
    case enter f args =>
     obtain⟨e,w',fr,hR,_⟩:=h []
     cases e with
     | returned v=>exact ⟨v,hR⟩
     | panicked c=>exact absurd hR id
     | outgrown=>exact absurd hR AX.lets
    case row r args =>
     obtain⟨v,w',hR,_⟩:=h default []
     exact ⟨v,hR⟩
  ·exact absurd h AX.lets
 ·exact ⟨undef,h⟩
theorem K8 {i:Nat} {o:Oper} (hi:ops[i]? = some o) {v:Value} {a:Act} {w:World} (hy:Yields P ops o v a) (h:wpOp P ops (AX Q) i K a w):K (a.put o.dst v) w:=by
 unfold wpOp at h
 simp only [hi] at h
 rcases hy with ⟨h1,h2⟩ | ⟨h1,rfl⟩
 ·rw [if_pos h1] at h
  rcases h with h | ⟨_,h⟩
  ·unfold Oper.wp at h
   rw [h2 w] at h
   exact h
  ·exact absurd h AX.lets
 ·rw [if_neg (by simp [h1])] at h
  exact h
theorem IQ {i j:Nat} {oi oj:Oper} (hi:ops[i]? = some oi) (hj:ops[j]? = some oj) (hpure:GC P oi.op=true) (hap:oi.apart ops oj=true) (hsi:∀ cs b,oi.op≠.select cs b) {a:Act} {w:World}
  (h:wpOp P ops (AX Q) j (wpOp P ops (AX Q) i K) a w):∃ v,Yields P ops oi v a:=by
 obtain⟨_,_,h3⟩:=Oper.apart_spec hap
 have hp:wpOp P ops (AX Q) j (fun a' _=>∃ v,Yields P ops oi v a') a w:=by
  refine wpOp_mono (fun a' w' hh=>?_) h
  unfold wpOp at hh
  simp only [hi] at hh
  split at hh
  ·rename_i hw
   rcases hh with hh | ⟨_,hh⟩
   ·unfold Oper.wp at hh
    cases hr:(execOp a'.eval oi).run P w' with
    | halt x y=>rw [hr] at hh;cases x <;> simp [Oper.upon,AX] at hh
    | ok n y =>
     obtain⟨v,_,_,h4⟩:=EH hpure _ _ _ _ hr
     exact ⟨v,.inl ⟨hw,h4⟩⟩
   ·exact absurd hh AX.lets
  ·rename_i hw
   exact ⟨undef,.inr ⟨by simpa using hw,rfl⟩⟩
 obtain⟨u,v,hy⟩:=QS hj (p:=fun a'=>∃ v,Yields P ops oi v a') (fun a d ⟨v,hy⟩=>⟨v,hy.of_same rfl rfl⟩) hp
 exact ⟨v,hy.of_same (execOp_put oi hsi a oj.dst u h3).symm (wanted_put oi a oj.dst u h3).symm⟩
theorem Rt {i j:Nat} {oi oj:Oper} {v:Value} (hi:ops[i]? = some oi) (hj:ops[j]? = some oj) (hap:oi.apart ops oj=true) (hsi:∀ cs b,oi.op≠.select cs b) (hsj:∀ cs b,oj.op≠.select cs b) {a:Act} {w:World}
  (hy:Yields P ops oi v a) (h:wpOp P ops (AX Q) j (wpOp P ops (AX Q) i K) a w):wpOp P ops (AX Q) j K (a.put oi.dst v) w:=by
 obtain⟨h1,h2,h3⟩:=Oper.apart_spec hap
 have keep:∀ (a:Act),Yields P ops oi v a→∀ u,Yields P ops oi v (a.put oj.dst u):=fun a hy u =>
  hy.of_same (execOp_put oi hsi a oj.dst u h3) (wanted_put oi a oj.dst u h3)
 have keepD:∀ d,Yields P ops oi v { a with defers:=d :: a.defers }:=fun d=>hy.of_same rfl rfl
 have go:∀ u w',wpOp P ops (AX Q) i K (a.put oj.dst u) w'→K ((a.put oi.dst v).put oj.dst u) w':=fun u w' hh=>by
  have:=K8 hi (keep a hy u) hh
  rwa [← Act.put_comm a v u h2] at this
 unfold wpOp
 simp only [hj]
 rw [wanted_put oj a oi.dst v h1]
 unfold wpOp at h
 simp only [hj] at h
 split
 ·rename_i hw
  rw [if_pos hw] at h
  rcases h with h | ⟨_,h⟩
  ·refine .inl ?_
   unfold Oper.wp at *
   rw [execOp_put oj hsj a oi.dst v h1]
   generalize (execOp a.eval oj).run P w=r at *
   cases r with
   | halt x y=>cases x <;> simp [Oper.upon,AX] at h
   | ok n y =>
    cases n <;> simp only [Oper.upon] at h ⊢
    case value u=>exact go u y h
    case skip=>exact go _ y h
    case defer d =>
     have:=K8 hi (keep _ (keepD d) undef) h
     rw [← Act.put_comm _ v undef h2,← Act.put_defers] at this
     exact this
    case enter f args =>
     refine Calls.mono h fun e w'' he=>?_
     cases e with
     | returned u=>exact go u w'' he
     | panicked c=>exact absurd he id
     | outgrown=>exact he
    case row r args=>exact Rows.mono h fun u w'' he=>go u w'' he
  ·exact absurd h AX.lets
 ·rename_i hw
  rw [if_neg hw] at h
  exact go _ _ h
def T9 (P:Program) (ops:Array Oper) (x y:Oper):Bool:=x.apart ops y && y.apart ops x && (GC P x.op || GC P y.op || (FN P x.op && FN P y.op))
theorem Fr {i:Nat} {o:Oper} (hi:ops[i]? = some o) (hr:FN P o.op=true) {a:Act} {w:World} (h:wpOp P ops (AX Q) i K a w) :
  ∃ v,K (a.put o.dst v) w∧((Region.wanted o (yielded ops a.tmps)=true∧(execOp a.eval o).run P w=.ok (.value v) w)∨(Region.wanted o (yielded ops a.tmps)=false∧v=undef)):=by
 unfold wpOp at h
 simp only [hi] at h
 split at h
 ·rename_i hw
  rcases h with h | ⟨_,h⟩
  ·unfold Oper.wp at h
   cases hrun:(execOp a.eval o).run P w with
   | halt x y=>rw [hrun] at h;cases x <;> simp [Oper.upon,AX] at h
   | ok n y =>
    obtain⟨⟨v,rfl⟩,rfl⟩:=Ju hr _ _ _ _ hrun
    rw [hrun] at h
    exact ⟨v,h,.inl ⟨hw,rfl⟩⟩
  ·exact absurd h AX.lets
 ·rename_i hw
  exact ⟨undef,h,.inr ⟨by simpa using hw,rfl⟩⟩
theorem EI {i:Nat} {o:Oper} (hi:ops[i]? = some o) {a:Act} {w:World} {v:Value}
  (hv:(Region.wanted o (yielded ops a.tmps)=true∧(execOp a.eval o).run P w=.ok (.value v) w)∨(Region.wanted o (yielded ops a.tmps)=false∧v=undef)) (h:K (a.put o.dst v) w):wpOp P ops (AX Q) i K a w:=by
 unfold wpOp
 simp only [hi]
 rcases hv with ⟨h1,h2⟩ | ⟨h1,rfl⟩
 ·rw [if_pos h1]
  exact .inl (by unfold Oper.wp;rw [h2];exact h)
 ·rw [if_neg (by simp [h1])]
  exact h
theorem Vw {i j:Nat} {oi oj:Oper} (hi:ops[i]? = some oi) (hj:ops[j]? = some oj) (hc:T9 P ops oi oj=true) (hsi:∀ cs b,oi.op≠.select cs b) (hsj:∀ cs b,oj.op≠.select cs b) {a:Act} {w:World}
  (h:wpOp P ops (AX Q) i (wpOp P ops (AX Q) j K) a w):wpOp P ops (AX Q) j (wpOp P ops (AX Q) i K) a w:=by
 simp only [T9,Bool.and_eq_true,Bool.or_eq_true] at hc
 obtain⟨⟨ha,hb⟩,hc⟩:=hc
 rcases hc with (hc | hc) | ⟨hc1,hc2⟩
 ·-- the first is pure
  obtain⟨v,hk,hv⟩:=Fr hi (by unfold FN;split <;> first | rfl | exact hc) h
  have hy:Yields P ops oi v a:=by
   rcases hv with ⟨h1,h2⟩ | hv
   ·obtain⟨u,h3,_,h4⟩:=EH hc _ _ _ _ h2
    injection h3 with h3
    subst h3
    exact .inl ⟨h1,h4⟩
   ·exact .inr hv
  exact wpOp_mono (fun a' w' ⟨hy',hk'⟩=>hy'.wpOp hi hk') (wpOp_put hj ha hsi hsj (fun c a w h=>h) hy hk)
 ·-- the second is pure
  obtain⟨v,hy⟩:=IQ hj hi hc hb hsj h
  exact hy.wpOp hj (Rt hj hi hb hsj hsi hy h)
 ·-- both only read
  obtain⟨v,hk,hv⟩:=Fr hi hc1 h
  obtain⟨u,hk2,hu⟩:=Fr hj hc2 hk
  obtain⟨h1,h2,h3⟩:=Oper.apart_spec ha
  rw [wanted_put oj a oi.dst v h1,execOp_put oj hsj a oi.dst v h1] at hu
  refine EI hj hu ?_
  refine EI hi (v:=v) ?_ ?_
  ·rw [wanted_put oi a oj.dst u h3,execOp_put oi hsi a oj.dst u h3]
   exact hv
  ·rw [← Act.put_comm a v u h2]
   exact hk2
def U1 (ops:Array Oper) (listed:Array Bool):Prop:=∀ i o,ops[i]? = some o→listed.getD i false=true→∀ e∈o.after,Region.binds .any e=true→listed.getD e.on false=true
def left (ops:Array Oper) (listed:Array Bool):List Nat:=(List.range ops.size).filter fun i=>!listed.getD i false
theorem OU {listed:Array Bool} (hs:listed.size=ops.size) {i:Nat} {s t:List Nat} (h:left ops listed=s ++ i :: t):left ops (listed.setIfInBounds i true)=s ++ t∧(∀ k∈s,k < i):=by
 have hp:(left ops listed).Pairwise (· < ·):=List.Pairwise.filter _ List.pairwise_lt_range
 rw [h,List.pairwise_append] at hp
 obtain⟨h1,h2,h3⟩:=hp
 rw [List.pairwise_cons] at h2
 have hi:i < ops.size:=by
  have:i∈left ops listed:=by rw [h];simp
  unfold left at this
  rw [List.mem_filter,List.mem_range] at this
  exact this.1
 refine ⟨?_,fun k hk=>h3 k hk i (by simp)⟩
 have e:left ops (listed.setIfInBounds i true)=(left ops listed).filter (fun k=>k != i):=by
  unfold left
  rw [List.filter_filter]
  refine List.filter_congr fun k hk=>?_
  rw [List.mem_range] at hk
  by_cases hki:k=i
  ·subst hki
   simp [Array.getD_eq_getD_getElem?,hs,hk]
  ·simp [Array.getD_eq_getD_getElem?,Array.getElem?_setIfInBounds_ne (Ne.symm hki),hki]
 rw [e,h,List.filter_append,List.filter_cons]
 have es:s.filter (fun k=>k != i)=s:=List.filter_eq_self.2 fun k hk=>by have:=h3 k hk i (by simp);simp;omega
 have et:t.filter (fun k=>k != i)=t:=List.filter_eq_self.2 fun k hk=>by have:=h2.1 k hk;simp;omega
 rw [es,et]
 simp
theorem Hs:∀ (l:List Oper) (k:Nat) (a:Act) (w:World),(∀ j,l[j]? = ops[k + j]?)→wpList P ops (AX Q) l a w→JD P ops Q (Q .normal) (List.range' k l.length) a w
 | [],k,a,w,_,h=>h
 | o :: l,k,a,w,hl,h=>by
  have h0:ops[k]? = some o:=by simpa using (hl 0).symm
  rw [List.length_cons,List.range'_succ]
  unfold JD wpOp
  simp only [h0]
  unfold wpList at h
  have hm:∀ a w,wpList P ops (AX Q) l a w→JD P ops Q (Q .normal) (List.range' (k + 1) l.length) a w:=fun a w h =>
   Hs l (k + 1) a w (fun j=>by have:=hl (j + 1);simpa [Nat.add_assoc,Nat.add_comm 1 j] using this) h
  split at h
  ·rename_i hw
   rw [if_pos hw]
   exact h.imp (Oper.wp_mono hm) id
  ·rename_i hw
   rw [if_neg hw]
   exact hm _ _ h
theorem AX.normal {a:Act} {w:World} (h:Q .normal a w):AX Q .normal a w:=h
end
def UpS {α:Type} (P:Program) (s:Sem α):Prop:=∀ w v w',s.run P w=.ok v w'→w'=w∧∀ o,s.run P (w.alloc o)=.ok v (w.alloc o)
def GF {α:Type} (P:Program) (s:Sem α):Prop:=∀ w v w',s.run P w=.ok v w'→∃ o,w'=w.alloc o
section
variable {α β:Type} {P:Program}
theorem AN.up {s:Sem α} (h:AN P s):UpS P s:=fun w v w' hh=>by
 obtain⟨h1,h2⟩:=h w v w' hh
 exact ⟨h1,fun o=>h2 _⟩
theorem UpS.bind {s:Sem α} {f:α→Sem β} (hs:UpS P s) (hf:∀ x,UpS P (f x)):UpS P (s >>= f):=fun w v w' h=>by
 rw [Sem.run_bind] at h
 cases h1:s.run P w with
 | halt x y=>rw [h1] at h;simp [Result.andThen] at h
 | ok x y =>
  rw [h1] at h
  simp only [Result.andThen_ok] at h
  obtain⟨rfl,h2⟩:=hs w x y h1
  obtain⟨rfl,h3⟩:=hf x _ v w' h
  exact ⟨rfl,fun o=>by rw [Sem.run_bind,h2 o,Result.andThen_ok,h3 o]⟩
theorem U3 {w:World} {i:Nat} {x:Obj} (h:w.heap[i]? = some x) (o:Obj):(w.alloc o).heap[i]? = some x:=
 (Below.heap_alloc w o i (Array.getElem?_eq_some_iff.1 h).1).trans h
theorem Un {w:World} {p:Program} {at_:Addr} {u:TypeId} {k:Addr} {m:Bool} {r} (h:w.seen p at_ u k m=.ok r) (o:Obj):(w.alloc o).seen p at_ u k m=.ok r:=by
 by_cases hb:at_.block < w.heap.size
 ·have e:(w.alloc o).heap[at_.block]? = w.heap[at_.block]?:=Below.heap_alloc w o _ hb
  unfold World.seen at h ⊢
  rw [e]
  exact h
 ·exfalso
  have e:w.heap[at_.block]? = none:=Array.getElem?_eq_none (by omega)
  unfold World.seen at h
  rw [e] at h
  simp only [bind,Except.bind] at h
  repeat' split at h
  all_goals first | (cases h;done) | skip
theorem PS {w:World} {p:Program} {a:Addr} {m:Bool} {r} (h:w.farLoad p a m=.ok r) (o:Obj):(w.alloc o).cell? a=none∧(w.alloc o).farLoad p a m=.ok r:=by
 unfold World.farLoad at h
 split at h
 ·rename_i at_ u hv
  have hv2:=U3 hv o
  refine ⟨by unfold World.cell?;rw [hv2],?_⟩
  unfold World.farLoad
  rw [hv2]
  simp only
  split at h
  ·rename_i r2 hr
   injection h with h
   subst h
   unfold World.viewLoad at hr ⊢
   simp only [bind,Except.bind] at hr ⊢
   split at hr
   ·cases hr
   ·rename_i x hx
    rw [Un hx o]
    simp only
    rw [hr]
  ·cases h
 ·cases h
theorem UpS.load (a:Addr) (m:Mode):UpS P (Go.load a m):=by
 intro w v w' h
 unfold Go.load at h ⊢
 rw [Sem.run] at h
 cases hc:w.cell? a with
 | some x =>
  rw [hc] at h
  simp only [Sem.run] at h
  injection h with h1 h2
  subst h1 h2
  refine ⟨rfl,fun o=>?_⟩
  rw [Sem.run,World.cell?_alloc_some w a o (by rw [hc];rfl),hc]
  rfl
 | none =>
  rw [hc] at h
  simp only at h
  split at h
  ·rename_i x y hf
   simp only [Sem.run] at h
   injection h with h1 h2
   subst h1 h2
   refine ⟨rfl,fun o=>?_⟩
   obtain⟨e1,e2⟩:=PS hf o
   rw [Sem.run,e1]
   simp only
   rw [e2]
   rfl
  ·cases h
theorem UpS.cells (a:Addr):∀ (n i:Nat) (acc:Array Value),UpS P (loadCellsFrom a i n acc)
 | 0,_,_=>(AN.pure _).up
 | n + 1,i,acc=>.bind (.load _ _) fun v=>UpS.cells a n (i + 1) (acc.push v)
theorem UpS.loadVar (t:TypeId) (a:Addr):UpS P (Go.loadVar t a):=by
 unfold Go.loadVar
 refine .bind (AN.isAgg t).up fun b=>?_
 split
 ·exact .bind (AN.sizeOf t).up fun _=>.bind (.cells a _ _ _) fun _=>(AN.pure _).up
 ·exact .load _ _
theorem GF.bind {s:Sem α} {f:α→Sem β} (hs:AN P s) (hf:∀ x,GF P (f x)):GF P (s >>= f):=fun w v w' h=>by
 rw [Sem.run_bind] at h
 cases h1:s.run P w with
 | halt x y=>rw [h1] at h;simp [Result.andThen] at h
 | ok x y =>
  rw [h1] at h
  simp only [Result.andThen_ok] at h
  obtain⟨rfl,_⟩:=hs w x y h1
  exact hf x _ v w' h
theorem GF.after {s:Sem α} {f:α→Sem β} (hs:GF P s) (hf:∀ x,AN P (f x)):GF P (s >>= f):=fun w v w' h=>by
 rw [Sem.run_bind] at h
 cases h1:s.run P w with
 | halt x y=>rw [h1] at h;simp [Result.andThen] at h
 | ok x y =>
  rw [h1] at h
  simp only [Result.andThen_ok] at h
  obtain⟨o,rfl⟩:=hs w x y h1
  obtain⟨rfl,_⟩:=hf x _ v w' h
  exact ⟨o,rfl⟩
theorem GF.halt (h:Halt):GF P (Sem.halt h:Sem α):=fun w v w' hh=>by simp at hh
theorem GF.row (e:TypeId) (cs:Array Value):GF P (newRow e cs):=by
 intro w v w' h
 unfold newRow newObj at h
 simp [Sem.run] at h
 exact ⟨_,h.2.symm⟩
theorem AN.zeroValue (t:TypeId):AN P (Go.zeroValue t):=by
 unfold Go.zeroValue
 refine .bind (.typeInfo t) fun i=>?_
 split
 ·exact .pure _
 ·first | exact .halt _ | exact .stuck _ | exact .unsupported _
theorem GF.buildSlice (t:TypeId) (len:Nat) (parts:Array (Nat × Value)):GF P (Instr.buildSlice t len parts):=by
 unfold Instr.buildSlice
 refine .bind (.underlying t) fun x=>?_
 split
 ·rename_i elem
  refine .bind (.sizeOf _) fun size=>?_
  dsimp only
  have tail:∀ zero:Array Value,GF P (match Instr.fill (fun i=>some (i * size,size)) ((Array.range (len * size)).map fun x=>zero[x % zero.size]!) parts.toList with
    | some cells=>do
     let a ← newRow elem cells
     pure (Value.slice (some a) len len)
    | x=>stuck "buildSlice: a part of the wrong size"):=by
   intro zero
   split
   ·exact .after (.row _ _) fun _=>.pure _
   ·exact .halt _
  split
  ·refine .bind (.unsupported _) fun _=>?_
   split
   ·exact .bind (.pure _) tail
   ·exact .bind (.zeroValue _) fun _=>.bind (.pure _) tail
  ·split
   ·exact .bind (.pure _) tail
   ·exact .bind (.zeroValue _) fun _=>.bind (.pure _) tail
 ·exact .halt _
theorem GF.alloc (t:TypeId):GF P (Instr.alloc t true (.tuple #[])):=by
 unfold Instr.alloc
 refine .bind (.zeroValue _) fun z=>?_
 exact .after (.row _ _) fun _=>.pure _
def Sv:Op→Bool
 | .buildSlice ..=>true
 | .alloc ..=>true
 | _=>false
theorem Sj {o:Oper} (h:FN P o.op=true) (ρ:Operand→Value) (w:World) (n:Next) (w':World) (hr:(execOp ρ o).run P w=.ok n w'):∀ ob,(execOp ρ o).run P (w.alloc ob)=.ok n (w.alloc ob):=by
 by_cases hp:GC P o.op=true
 ·obtain⟨v,h1,h2,h3⟩:=EH hp ρ w n w' hr
  intro ob
  rw [h3,h1]
 ·cases hop:o.op <;> rw [hop] at h hp <;> first | (exact absurd h hp) | skip
  case load t x =>
   simp only [execOp,hop] at hr ⊢
   have hu:UpS P (Instr.loadAt t (ρ x) >>= fun v=>Pure.pure (Next.value v)):=.bind (.bind (AN.sureAddr _).up fun _=>.loadVar _ _) fun _=>(AN.pure _).up
   exact (hu w n w' hr).2
theorem RM {o:Oper} (h:Sv o.op=true) (ρ:Operand→Value) (w:World) (n:Next) (w':World) (hr:(execOp ρ o).run P w=.ok n w'):(∃ v,n=.value v)∧∃ ob,w'=w.alloc ob:=by
 cases hop:o.op <;> rw [hop] at h <;> first | (cases h;done) | skip
 case buildSlice t len parts =>
  simp only [execOp,hop] at hr
  rw [Sem.run_bind] at hr
  cases h1:(Instr.buildSlice t len (parts.map fun (i,x)=>(i,ρ x))).run P w with
  | halt q y=>rw [h1] at hr;simp [Result.andThen] at hr
  | ok q y =>
   rw [h1] at hr
   simp only [Result.andThen_ok,Sem.run_pure] at hr
   injection hr with h2 h3
   obtain⟨ob,hob⟩:=GF.buildSlice _ _ _ w q y h1
   exact ⟨⟨q,h2.symm⟩,ob,by rw [← h3,hob]⟩
 case alloc t =>
  simp only [execOp,hop] at hr
  rw [Sem.run_bind] at hr
  cases h1:(Instr.alloc t true (.tuple #[])).run P w with
  | halt q y=>rw [h1] at hr;simp [Result.andThen] at hr
  | ok q y =>
   rw [h1] at hr
   simp only [Result.andThen_ok,Sem.run_pure] at hr
   injection hr with h2 h3
   obtain⟨ob,hob⟩:=GF.alloc _ w q y h1
   exact ⟨⟨q,h2.symm⟩,ob,by rw [← h3,hob]⟩
variable {ops:Array Oper} {Q:Exit→Act→World→Prop} {K:Act→World→Prop}
def TP (P:Program) (ops:Array Oper) (x y:Oper):Bool:=T9 P ops x y || (x.apart ops y && y.apart ops x && FN P x.op && Sv y.op)
theorem P7 {i:Nat} {o:Oper} (hi:ops[i]? = some o) (hr:Sv o.op=true) {a:Act} {w:World} (h:wpOp P ops (AX Q) i K a w) :
  (∃ v ob,K (a.put o.dst v) (w.alloc ob)∧Region.wanted o (yielded ops a.tmps)=true∧(execOp a.eval o).run P w=.ok (.value v) (w.alloc ob))∨(K (a.put o.dst undef) w∧Region.wanted o (yielded ops a.tmps)=false):=by
 unfold wpOp at h
 simp only [hi] at h
 split at h
 ·rename_i hw
  rcases h with h | ⟨_,h⟩
  ·unfold Oper.wp at h
   cases hrun:(execOp a.eval o).run P w with
   | halt x y=>rw [hrun] at h;cases x <;> simp [Oper.upon,AX] at h
   | ok n y =>
    obtain⟨⟨v,rfl⟩,ob,rfl⟩:=RM hr _ _ _ _ hrun
    rw [hrun] at h
    exact .inl ⟨v,ob,h,hw,rfl⟩
  ·exact absurd h AX.lets
 ·rename_i hw
  exact .inr ⟨h,by simpa using hw⟩
theorem Vf {i j:Nat} {oi oj:Oper} (hi:ops[i]? = some oi) (hj:ops[j]? = some oj) (hc:TP P ops oi oj=true) (hsi:∀ cs b,oi.op≠.select cs b) (hsj:∀ cs b,oj.op≠.select cs b) {a:Act} {w:World}
  (h:wpOp P ops (AX Q) i (wpOp P ops (AX Q) j K) a w):wpOp P ops (AX Q) j (wpOp P ops (AX Q) i K) a w:=by
 simp only [TP,Bool.or_eq_true,Bool.and_eq_true] at hc
 rcases hc with hc | ⟨⟨⟨ha,hb⟩,hc1⟩,hc2⟩
 ·exact Vw hi hj hc hsi hsj h
 ·obtain⟨h1,h2,h3⟩:=Oper.apart_spec ha
  obtain⟨v,hk,hv⟩:=Fr hi hc1 h
  rcases P7 hj hc2 hk with ⟨u,ob,hk2,hw2,hr2⟩ | ⟨hk2,hw2⟩
  ·rw [wanted_put oj a oi.dst v h1] at hw2
   rw [execOp_put oj hsj a oi.dst v h1] at hr2
   unfold wpOp
   simp only [hj]
   rw [if_pos hw2]
   refine .inl ?_
   unfold Oper.wp
   rw [hr2]
   show wpOp P ops (AX Q) i K (a.put oj.dst u) (w.alloc ob)
   refine EI hi (v:=v) ?_ ?_
   ·rw [wanted_put oi a oj.dst u h3,execOp_put oi hsi a oj.dst u h3]
    rcases hv with ⟨g1,g2⟩ | g
    ·exact .inl ⟨g1,Sj hc1 _ _ _ _ g2 ob⟩
    ·exact .inr g
   ·rw [← Act.put_comm a v u h2]
    exact hk2
  ·rw [wanted_put oj a oi.dst v h1] at hw2
   unfold wpOp
   simp only [hj]
   rw [if_neg (by simp [hw2])]
   refine EI hi (v:=v) ?_ ?_
   ·rw [wanted_put oi a oj.dst undef h3,execOp_put oi hsi a oj.dst undef h3]
    exact hv
   ·rw [← Act.put_comm a v undef h2]
    exact hk2
end
def BE (w:World) (A:Option Addr) (l:List ByteArray):Prop:=∀ k x,l[k]? = some x→∃ b off,A=some ⟨b,off,none⟩∧b < w.heap.size∧w.cell? ⟨b,off + k,none⟩=some (.string x)
theorem BE.below {w w':World} {A:Option Addr} {l:List ByteArray} (h:BE w A l) (hb:Below w.heap.size w w'):BE w' A l:=by
 intro k x hk
 obtain⟨b,off,h1,h2,h3⟩:=h k x hk
 exact ⟨b,off,h1,Nat.lt_of_lt_of_le h2 hb.size,(hb.cell (p:=⟨b,_,none⟩) h2).trans h3⟩
section
variable {α β:Type} {P:Program}
theorem Dw.pure (v:α):Dw P (Pure.pure v:Sem α):=(AN.pure v).read
theorem Dw.mapL {f:α→Sem β} (hf:∀ x,Dw P (f x)):∀ l:List α,Dw P (l.mapM f)
 | []=>by rw [List.mapM_nil];exact .pure _
 | x :: r=>by
  rw [List.mapM_cons]
  exact .bind (hf x) fun _=>.bind (Dw.mapL hf r) fun _=>.pure _
theorem Dw.mapA {f:α→Sem β} (hf:∀ x,Dw P (f x)) (l:Array α):Dw P (l.mapM f):=by
 rw [Array.mapM_eq_mapM_toList,map_eq_pure_bind]
 exact .bind (Dw.mapL hf _) fun _=>.pure _
theorem Dw.build (t:TypeId) (parts:Array (Nat × Value)):Dw P (Instr.build t parts):=by
 unfold Instr.build
 refine .bind (AN.zeroValue t).read fun z=>.bind (AN.underlying t).read fun u=>?_
 split
 ·refine .bind (.mapA (fun x=>.bind (AN.sizeOf _).read fun _=>.pure _) _) fun x=>?_
  split
  ·exact .pure _
  ·exact (AN.stuck _).read
 ·refine .bind (AN.sizeOf _).read fun x=>?_
  split
  ·exact .pure _
  ·exact (AN.stuck _).read
 ·exact (AN.stuck _).read
def QG (P:Program):Op→Bool
 | .build ..=>true
 | o=>FN P o
theorem P6 {o:Oper} (h:QG P o.op=true) (ρ:Operand→Value) (w:World) (n:Next) (w':World) (hr:(execOp ρ o).run P w=.ok n w'):(∃ v,n=.value v)∧w'=w:=by
 by_cases hp:FN P o.op=true
 ·exact Ju hp ρ w n w' hr
 ·cases hop:o.op <;> rw [hop] at h hp <;> first | (exact absurd h hp) | skip
  case build t parts =>
   simp only [execOp,hop] at hr
   rw [Sem.run_bind] at hr
   cases h1:(Instr.build t (parts.map fun (i,x)=>(i,ρ x))).run P w with
   | halt q y=>rw [h1] at hr;simp [Result.andThen] at hr
   | ok q y =>
    rw [h1] at hr
    simp only [Result.andThen_ok,Sem.run_pure] at hr
    injection hr with h2 h3
    exact ⟨⟨q,h2.symm⟩,h3.symm.trans (Dw.build _ _ w q y h1)⟩
variable {ops:Array Oper} {Q:Exit→Act→World→Prop} {K:Act→World→Prop}
def Pw (P:Program) (ops:Array Oper) (x y:Oper):Bool:=TP P ops x y || (x.apart ops y && y.apart ops x && QG P x.op && QG P y.op)
theorem LR {i:Nat} {o:Oper} (hi:ops[i]? = some o) (hr:QG P o.op=true) {a:Act} {w:World} (h:wpOp P ops (AX Q) i K a w) :
  ∃ v,K (a.put o.dst v) w∧((Region.wanted o (yielded ops a.tmps)=true∧(execOp a.eval o).run P w=.ok (.value v) w)∨(Region.wanted o (yielded ops a.tmps)=false∧v=undef)):=by
 unfold wpOp at h
 simp only [hi] at h
 split at h
 ·rename_i hw
  rcases h with h | ⟨_,h⟩
  ·unfold Oper.wp at h
   cases hrun:(execOp a.eval o).run P w with
   | halt x y=>rw [hrun] at h;cases x <;> simp [Oper.upon,AX] at h
   | ok n y =>
    obtain⟨⟨v,rfl⟩,rfl⟩:=P6 hr _ _ _ _ hrun
    rw [hrun] at h
    exact ⟨v,h,.inl ⟨hw,rfl⟩⟩
  ·exact absurd h AX.lets
 ·rename_i hw
  exact ⟨undef,h,.inr ⟨by simpa using hw,rfl⟩⟩
theorem Vj {i j:Nat} {oi oj:Oper} (hi:ops[i]? = some oi) (hj:ops[j]? = some oj) (hc:Pw P ops oi oj=true) (hsi:∀ cs b,oi.op≠.select cs b) (hsj:∀ cs b,oj.op≠.select cs b) {a:Act} {w:World}
  (h:wpOp P ops (AX Q) i (wpOp P ops (AX Q) j K) a w):wpOp P ops (AX Q) j (wpOp P ops (AX Q) i K) a w:=by
 simp only [Pw,Bool.or_eq_true,Bool.and_eq_true] at hc
 rcases hc with hc | ⟨⟨⟨ha,hb⟩,hc1⟩,hc2⟩
 ·exact Vf hi hj hc hsi hsj h
 ·obtain⟨v,hk,hv⟩:=LR hi hc1 h
  obtain⟨u,hk2,hu⟩:=LR hj hc2 hk
  obtain⟨h1,h2,h3⟩:=Oper.apart_spec ha
  rw [wanted_put oj a oi.dst v h1,execOp_put oj hsj a oi.dst v h1] at hu
  refine EI hj hu ?_
  refine EI hi (v:=v) ?_ ?_
  ·rw [wanted_put oi a oj.dst u h3,execOp_put oi hsi a oj.dst u h3]
   exact hv
  ·rw [← Act.put_comm a v u h2]
   exact hk2
theorem I0 {i:Nat} {oi:Oper} (hi:ops[i]? = some oi) (hsel:∀ (j:Nat) (o:Oper) cs b,ops[j]? = some o→o.op≠.select cs b) (post:List Nat):∀ (pre:List Nat) (a:Act) (w:World),
  (∀ k∈pre,∃ ok,ops[k]? = some ok∧Pw P ops ok oi=true)→JD P ops Q K (pre ++ i :: post) a w→wpOp P ops (AX Q) i (JD P ops Q K (pre ++ post)) a w
 | [],a,w,_,h=>h
 | k :: pre,a,w,hp,h=>by
  obtain⟨ok,hk,hc⟩:=hp k (by simp)
  have h1:wpOp P ops (AX Q) k (wpOp P ops (AX Q) i (JD P ops Q K (pre ++ post))) a w:=
   wpOp_mono (fun a' w' hh=>I0 hi hsel post pre a' w' (fun k' hk'=>hp k' (by simp [hk'])) hh) h
  exact Vj hk hi hc (hsel k ok · · hk) (hsel i oi · · hi) h1
def Fm (P:Program) (ops:Array Oper) (B:Array Nat):Bool:=
 Region.noSelect ops && (List.range ops.size).all fun i=>match ops[i]? with
  | none=>true
  | some o=>(o.after.all fun e=>!Region.binds .any e || decide (e.on < i)) && (List.range i).all fun k =>
   if (B.getD i 0).testBit k then o.after.any fun e=>Region.binds .any e && decide (e.on < i) && (e.on == k || (decide (k < e.on) && (B.getD e.on 0).testBit k))
   else match ops[k]? with | none=>false | some ok=>Pw P ops ok o
theorem Hp {B:Array Nat} (hB:Fm P ops B=true) {i:Nat} {o:Oper} (hi:ops[i]? = some o):(∀ e∈o.after,Region.binds .any e=true→e.on < i)∧∀ k,k < i →
  ((B.getD i 0).testBit k=true∧∃ e∈o.after,Region.binds .any e=true∧e.on < i∧(e.on=k∨(k < e.on∧(B.getD e.on 0).testBit k=true)))∨((B.getD i 0).testBit k=false∧∃ ok,ops[k]? = some ok∧Pw P ops ok o=true):=by
 have hlt:=(Array.getElem?_eq_some_iff.1 hi).1
 simp only [Fm,Bool.and_eq_true,List.all_eq_true,List.mem_range] at hB
 have h:=hB.2 i hlt
 rw [hi] at h
 simp only [Bool.and_eq_true,List.all_eq_true,List.mem_range,Array.all_eq_true_iff_forall_mem] at h
 refine ⟨fun e he hb=>by have:=h.1 e he;simpa [hb] using this,fun k hk=>?_⟩
 have h2:=h.2 k hk
 split at h2
 ·rename_i hb
  rw [Array.any_eq_true'] at h2
  obtain⟨e,he,h3⟩:=h2
  simp only [Bool.and_eq_true,Bool.or_eq_true,decide_eq_true_eq,beq_iff_eq] at h3
  exact .inl ⟨hb,e,he,h3.1.1,h3.1.2,h3.2⟩
 ·rename_i hb
  cases hk2:ops[k]? with
  | none=>rw [hk2] at h2;cases h2
  | some ok=>rw [hk2] at h2;exact .inr ⟨by simpa using hb,ok,rfl,h2⟩
theorem Hf {B:Array Nat} (hB:Fm P ops B=true) {listed:Array Bool} (hd:U1 ops listed):∀ (n i:Nat) (o:Oper),i≤n→ops[i]? = some o→(∀ e∈o.after,Region.binds .any e=true→listed.getD e.on false=true) →
  ∀ k,k < i→(B.getD i 0).testBit k=true→listed.getD k false=true
 | 0,i,o,hn,_,_,k,hk,_=>by omega
 | n + 1,i,o,hn,hi,hall,k,hk,hb=>by
  rcases (Hp hB hi).2 k hk with ⟨_,e,he,hbi,hlt,h⟩ | ⟨hf,_⟩
  ·rcases h with rfl | ⟨hk2,hb2⟩
   ·exact hall e he hbi
   ·have hon:∃ o2,ops[e.on]? = some o2:=⟨_,Array.getElem?_eq_getElem (by have:=(Array.getElem?_eq_some_iff.1 hi).1;omega)⟩
    obtain⟨o2,ho2⟩:=hon
    exact Hf hB hd n e.on o2 (by omega) ho2 (hd e.on o2 ho2 (hall e he hbi)) k hk2 hb2
  ·rw [hb] at hf;cases hf
theorem JJ {B:Array Nat} (hB:Fm P ops B=true):∀ (fuel:Nat) (listed:Array Bool) (a:Act) (w:World),U1 ops listed→listed.size=ops.size→(left ops listed).length=fuel →
  JD P ops Q (Q .normal) (left ops listed) a w→wpAny P .any ops (AX Q) fuel listed a w:=by
 have hsel:∀ (j:Nat) (o:Oper) cs b,ops[j]? = some o→o.op≠.select cs b:=by
  intro j o cs b ho
  have:Region.noSelect ops=true:=by simp only [Fm,Bool.and_eq_true] at hB;exact hB.1
  exact Region.noSelect_spec this j o cs b ho
 have hready:∀ (listed:Array Bool),U1 ops listed→listed.size=ops.size→∀ i r,left ops listed=i :: r→i∈Region.ready .any ops listed:=by
  intro listed hd hs i r hl
  have hi:i∈left ops listed:=by rw [hl];simp
  have hmin:=(OU (ops:=ops) hs (s:=[]) (t:=r) hl)
  unfold left at hi
  rw [List.mem_filter,List.mem_range] at hi
  rw [mem_ready]
  obtain⟨o,ho⟩:∃ o,ops[i]? = some o:=⟨_,Array.getElem?_eq_getElem hi.1⟩
  refine ⟨?_,o,ho,fun e he hb=>?_⟩
  ·have h1:=hi.2
   rw [Array.getD_eq_getD_getElem?,Array.getElem?_eq_getElem (by omega)] at h1 ⊢
   simpa using h1
  ·have hlt:=(Hp hB ho).1 e he hb
   cases hc:listed.getD e.on false
   ·have hm:e.on∈left ops listed:=by
     unfold left
     rw [List.mem_filter,List.mem_range]
     exact ⟨by omega,by simp [hc]⟩
    have hp:(left ops listed).Pairwise (· < ·):=List.Pairwise.filter _ List.pairwise_lt_range
    rw [hl] at hm hp
    rw [List.pairwise_cons] at hp
    rcases List.mem_cons.1 hm with h | h
    ·omega
    ·have:=hp.1 _ h;omega
   ·rfl
 intro fuel
 induction fuel with
 | zero =>
  intro listed a w hd hs hl h
  have hnil:=List.eq_nil_of_length_eq_zero hl
  rw [hnil] at h
  refine ⟨?_,h⟩
  cases hr:Region.ready .any ops listed with
  | nil=>rfl
  | cons i r =>
   have hi:i∈Region.ready .any ops listed:=by rw [hr];simp
   rw [mem_ready] at hi
   obtain⟨h0,o,ho,_⟩:=hi
   have hm:i∈left ops listed:=by
    unfold left
    rw [List.mem_filter,List.mem_range]
    have hlt:=(Array.getElem?_eq_some_iff.1 ho).1
    refine ⟨hlt,?_⟩
    rw [Array.getD_eq_getD_getElem?,Array.getElem?_eq_getElem (by omega)] at h0 ⊢
    simpa using h0
   rw [hnil] at hm
   cases hm
 | succ fuel ih =>
  intro listed a w hd hs hl h
  refine ⟨fun hr=>?_,fun i hi=>?_⟩
  ·cases hl2:left ops listed with
   | nil=>rw [hl2] at hl;simp at hl
   | cons i r =>
    have:=hready listed hd hs i r hl2
    rw [hr] at this
    cases this
  ·rw [mem_ready] at hi
   obtain⟨h0,o,ho,hall⟩:=hi
   have hlt:=(Array.getElem?_eq_some_iff.1 ho).1
   have hm:i∈left ops listed:=by
    unfold left
    rw [List.mem_filter,List.mem_range]
    refine ⟨hlt,?_⟩
    rw [Array.getD_eq_getD_getElem?,Array.getElem?_eq_getElem (by omega)] at h0 ⊢
    simpa using h0
   obtain⟨s,t,hst⟩:=List.append_of_mem hm
   obtain⟨hset,hbefore⟩:=OU (ops:=ops) hs hst
   rw [hst] at h
   have hf:=I0 ho hsel t s a w (fun k hk=>by
    have hki:=hbefore k hk
    have hkl:listed.getD k false=false:=by
     have:k∈left ops listed:=by rw [hst];simp [hk]
     unfold left at this
     rw [List.mem_filter] at this
     simpa using this.2
    rcases (Hp hB ho).2 k hki with ⟨hb,_⟩ | ⟨_,h⟩
    ·have:=Hf hB hd i i o (Nat.le_refl _) ho hall k hki hb
     rw [hkl] at this
     cases this
    ·exact h) h
   refine wpOp_mono (fun a' w' hh=>ih _ a' w' ?_ (by simpa using hs) ?_ (by rw [hset];exact hh)) hf
   ·intro j oj hj hlj e he hb
    by_cases hji:i=j
    ·subst hji
     rw [ho] at hj
     injection hj with hj
     subst hj
     exact getD_set_true (hall e he hb)
    ·rw [getD_set_ne false hji] at hlj
     exact getD_set_true (hd j oj hj hlj e he hb)
   ·rw [hset]
    rw [hst] at hl
    simp at hl ⊢
    omega
theorem Iy {id:Nat} {l:List Oper} {a:Act} {w:World} (B:Array Nat) (hm:P.follows .mixedOrders=true) (hB:Fm P l.toArray B=true)
  (h:wpList P l.toArray (AX Q) l a w.drew):(Code.region id l.toArray true).wp P Q a w:=by
 refine Code.wp_mono AX.imp (wp_region_any hm ?_)
 have hleft:left l.toArray (Array.replicate l.toArray.size false)=List.range l.length:=by
  unfold left
  rw [List.filter_eq_self.2 fun k hk=>by simp [Array.getD_eq_getD_getElem?,Array.getElem?_replicate];split <;> simp]
  simp
 refine JJ hB _ _ _ _ ?_ (by simp) (by rw [hleft];simp) ?_
 ·intro i o ho hl
  simp [Array.getD_eq_getD_getElem?,Array.getElem?_replicate] at hl
  split at hl <;> simp at hl
 ·rw [hleft,List.range_eq_range']
  exact Hs l 0 a _ (fun j=>by simp) h
theorem A8 {id:Nat} {l:List Oper} {a:Act} {w:World} (hm:P.follows .mixedOrders=true) (hB:Fm P l.toArray (Region.before l.toArray)=true)
  (h:wpList P l.toArray (AX Q) l a w.drew):(Code.region id l.toArray true).wp P Q a w:=Iy _ hm hB h
end
end Go.Proofs.YtmpcbaflcogmmaaGreatDoor
