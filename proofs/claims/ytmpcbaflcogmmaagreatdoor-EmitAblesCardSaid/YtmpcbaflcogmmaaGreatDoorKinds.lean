/- Z0 Maps Node TreeP Kinds -/
import Derived.Lib.Hide
import Derived.Maps.Own
import Derived.Below
import Derived.WalkKit
import Derived.WalkSpells
import Derived.WalkLawsBesides
import Derived.BigQuiet
import Derived.Test.YtmpcbaflcogmmaaGreatDoorProg
namespace Go.Proofs.YtmpcbaflcogmmaaGreatDoor
open Go.RowKit
set_option linter.all false
set_option maxHeartbeats 400000
set_option maxRecDepth 100000
theorem Lh {p:Prop}(h:p):Hid p:=h
theorem Ex0.{u} {α:Sort u}(e:α):∃ x,x=e:=⟨_,rfl⟩
theorem Hd2 {p0 p1:Prop}(h0:p0)(h1:p1):Hid p0∧Hid p1:=⟨h0,h1⟩
theorem Hd3 {p0 p1 p2:Prop}(h0:p0)(h1:p1)(h2:p2):Hid p0∧Hid p1∧Hid p2:=⟨h0,h1,h2⟩
theorem Hd4 {p0 p1 p2 p3:Prop}(h0:p0)(h1:p1)(h2:p2)(h3:p3):Hid p0∧Hid p1∧Hid p2∧Hid p3:=⟨h0,h1,h2,h3⟩
theorem Hd5 {p0 p1 p2 p3 p4:Prop}(h0:p0)(h1:p1)(h2:p2)(h3:p3)(h4:p4):Hid p0∧Hid p1∧Hid p2∧Hid p3∧Hid p4:=⟨h0,h1,h2,h3,h4⟩
theorem Hd6 {p0 p1 p2 p3 p4 p5:Prop}(h0:p0)(h1:p1)(h2:p2)(h3:p3)(h4:p4)(h5:p5):Hid p0∧Hid p1∧Hid p2∧Hid p3∧Hid p4∧Hid p5:=⟨h0,h1,h2,h3,h4,h5⟩
theorem Hd7 {p0 p1 p2 p3 p4 p5 p6:Prop}(h0:p0)(h1:p1)(h2:p2)(h3:p3)(h4:p4)(h5:p5)(h6:p6):Hid p0∧Hid p1∧Hid p2∧Hid p3∧Hid p4∧Hid p5∧Hid p6:=⟨h0,h1,h2,h3,h4,h5,h6⟩
theorem Hd8 {p0 p1 p2 p3 p4 p5 p6 p7:Prop}(h0:p0)(h1:p1)(h2:p2)(h3:p3)(h4:p4)(h5:p5)(h6:p6)(h7:p7):Hid p0∧Hid p1∧Hid p2∧Hid p3∧Hid p4∧Hid p5∧Hid p6∧Hid p7:=⟨h0,h1,h2,h3,h4,h5,h6,h7⟩
theorem Hd9 {p0 p1 p2 p3 p4 p5 p6 p7 p8:Prop}(h0:p0)(h1:p1)(h2:p2)(h3:p3)(h4:p4)(h5:p5)(h6:p6)(h7:p7)(h8:p8):Hid p0∧Hid p1∧Hid p2∧Hid p3∧Hid p4∧Hid p5∧Hid p6∧Hid p7∧Hid p8:=⟨h0,h1,h2,h3,h4,h5,h6,h7,h8⟩
theorem Hd10 {p0 p1 p2 p3 p4 p5 p6 p7 p8 p9:Prop}(h0:p0)(h1:p1)(h2:p2)(h3:p3)(h4:p4)(h5:p5)(h6:p6)(h7:p7)(h8:p8)(h9:p9):Hid p0∧Hid p1∧Hid p2∧Hid p3∧Hid p4∧Hid p5∧Hid p6∧Hid p7∧Hid p8∧Hid p9:=⟨h0,h1,h2,h3,h4,h5,h6,h7,h8,h9⟩
theorem Hd11 {p0 p1 p2 p3 p4 p5 p6 p7 p8 p9 p10:Prop}(h0:p0)(h1:p1)(h2:p2)(h3:p3)(h4:p4)(h5:p5)(h6:p6)(h7:p7)(h8:p8)(h9:p9)(h10:p10):Hid p0∧Hid p1∧Hid p2∧Hid p3∧Hid p4∧Hid p5∧Hid p6∧Hid p7∧Hid p8∧Hid p9∧Hid p10:=⟨h0,h1,h2,h3,h4,h5,h6,h7,h8,h9,h10⟩
theorem Hd12 {p0 p1 p2 p3 p4 p5 p6 p7 p8 p9 p10 p11:Prop}(h0:p0)(h1:p1)(h2:p2)(h3:p3)(h4:p4)(h5:p5)(h6:p6)(h7:p7)(h8:p8)(h9:p9)(h10:p10)(h11:p11):Hid p0∧Hid p1∧Hid p2∧Hid p3∧Hid p4∧Hid p5∧Hid p6∧Hid p7∧Hid p8∧Hid p9∧Hid p10∧Hid p11:=⟨h0,h1,h2,h3,h4,h5,h6,h7,h8,h9,h10,h11⟩
theorem Hd15 {p0 p1 p2 p3 p4 p5 p6 p7 p8 p9 p10 p11 p12 p13 p14:Prop}(h0:p0)(h1:p1)(h2:p2)(h3:p3)(h4:p4)(h5:p5)(h6:p6)(h7:p7)(h8:p8)(h9:p9)(h10:p10)(h11:p11)(h12:p12)(h13:p13)(h14:p14):Hid p0∧Hid p1∧Hid p2∧Hid p3∧Hid p4∧Hid p5∧Hid p6∧Hid p7∧Hid p8∧Hid p9∧Hid p10∧Hid p11∧Hid p12∧Hid p13∧Hid p14:=⟨h0,h1,h2,h3,h4,h5,h6,h7,h8,h9,h10,h11,h12,h13,h14⟩
theorem Hd16 {p0 p1 p2 p3 p4 p5 p6 p7 p8 p9 p10 p11 p12 p13 p14 p15:Prop}(h0:p0)(h1:p1)(h2:p2)(h3:p3)(h4:p4)(h5:p5)(h6:p6)(h7:p7)(h8:p8)(h9:p9)(h10:p10)(h11:p11)(h12:p12)(h13:p13)(h14:p14)(h15:p15):Hid p0∧Hid p1∧Hid p2∧Hid p3∧Hid p4∧Hid p5∧Hid p6∧Hid p7∧Hid p8∧Hid p9∧Hid p10∧Hid p11∧Hid p12∧Hid p13∧Hid p14∧Hid p15:=⟨h0,h1,h2,h3,h4,h5,h6,h7,h8,h9,h10,h11,h12,h13,h14,h15⟩
theorem Hd24 {p0 p1 p2 p3 p4 p5 p6 p7 p8 p9 p10 p11 p12 p13 p14 p15 p16 p17 p18 p19 p20 p21 p22 p23:Prop}(h0:p0)(h1:p1)(h2:p2)(h3:p3)(h4:p4)(h5:p5)(h6:p6)(h7:p7)(h8:p8)(h9:p9)(h10:p10)(h11:p11)(h12:p12)(h13:p13)(h14:p14)(h15:p15)(h16:p16)(h17:p17)(h18:p18)(h19:p19)(h20:p20)(h21:p21)(h22:p22)(h23:p23):Hid p0∧Hid p1∧Hid p2∧Hid p3∧Hid p4∧Hid p5∧Hid p6∧Hid p7∧Hid p8∧Hid p9∧Hid p10∧Hid p11∧Hid p12∧Hid p13∧Hid p14∧Hid p15∧Hid p16∧Hid p17∧Hid p18∧Hid p19∧Hid p20∧Hid p21∧Hid p22∧Hid p23:=⟨h0,h1,h2,h3,h4,h5,h6,h7,h8,h9,h10,h11,h12,h13,h14,h15,h16,h17,h18,h19,h20,h21,h22,h23⟩
structure Mk (P:Program) (k:TypeId) (κ:Type) where
 desc:TypeDesc
 emb:κ→Value
 eqb:κ→κ→Bool
 und:P.underlying k=some desc
 eqb_iff:∀ a b,eqb a b=true↔a=b
 same:∀ a b,Instr.sameNow desc (emb a) (emb b)=some (eqb a b)
 bits:∀ a,Instr.sameBits 10000 (emb a) (emb a)=true
 plain:∀ e n v (w:World),(Instr.checkKey e (n + 1) k v).run P w=.ok () w
theorem GD {P:Program} {k:TypeId} {d:TypeDesc} (h:P.underlying k=some d) (hd:(∃ q,d=.int q)∨d=.string∨d=.bool) (e:Bool) (n:Nat) (v:Value) (w:World) :
  (Instr.checkKey e (n + 1) k v).run P w=.ok () w:=by
 rcases hd with ⟨q,rfl⟩ | rfl | rfl <;> simp [Instr.checkKey,run_underlying h]
def Qw (P:Program) (k:TypeId) (q:IntKind) (h:P.underlying k=some (.int q)):Mk P k Int where
 desc:=.int q
 emb n:=.int q n
 eqb a b:=a == b
 und:=h
 eqb_iff a b:=by simp
 same a b:=by simp [Instr.sameNow]
 bits a:=by simp [Instr.sameBits]
 plain e n v w:=GD h (.inl ⟨q,rfl⟩) e n v w
def Va (P:Program) (k:TypeId) (h:P.underlying k=some .string):Mk P k ByteArray where
 desc:=.string
 emb s:=.string s
 eqb a b:=a == b
 und:=h
 eqb_iff a b:=MapKept.bytes_beq a b
 same a b:=by simp [Instr.sameNow]
 bits a:=by simp [Instr.sameBits,MapKept.bytes_beq]
 plain e n v w:=GD h (.inr (.inl rfl)) e n v w
section
variable {P:Program} {k:TypeId} {κ:Type} (K:Mk P k κ)
def LQ (l:List (κ × Value)) (es:List MapEntry):Prop:=es.map (fun e=>(e.key,e.val))=l.map (fun p=>(K.emb p.1,p.2))
def IF (l:List (κ × Value)) (x:κ):Option Value:=(l.find? (fun p=>K.eqb x p.1)).map (·.2)
theorem Nu (x:κ):∀ (l:List (κ × Value)) (es:List MapEntry) (i:Nat),LQ K l es →
  Instr.findNow K.desc (K.emb x) es i=some ((l.findIdx? (fun p=>K.eqb x p.1)).bind fun j=>(l[j]?).map fun p=>(i + j,p.2)):=by
 intro l
 induction l with
 | nil=>intro es i h;cases es with
  | nil=>rfl
  | cons e r=>simp [LQ] at h
 | cons p l ih=>intro es i h;cases es with
  | nil=>simp [LQ] at h
  | cons e r =>
   simp only [LQ,List.map_cons,List.cons.injEq,Prod.mk.injEq] at h
   obtain⟨⟨h1,h2⟩,h3⟩:=h
   have:=ih r (i + 1) h3
   simp only [Instr.findNow,h1,K.same,h2]
   cases hb:K.eqb x p.1
   ·simp only [this,List.findIdx?_cons,hb]
    cases hf:List.findIdx? (fun p=>K.eqb x p.1) l <;> simp
    rename_i j
    rw [show i + 1 + j=i + (j + 1) by omega]
   ·simp [List.findIdx?_cons,hb]
def Fa (es:List MapEntry) (clock:Nat):Prop:=(es.map (·.born)).Nodup∧∀ x∈es,x.born < clock
theorem Fa.push {es:List MapEntry} {clock:Nat} (h:Fa es clock) (k v:Value):Fa (es ++ [{ key:=k,val:=v,born:=clock }]) (clock + 1):=by
 obtain⟨h1,h2⟩:=h
 refine ⟨?_,fun x hx=>?_⟩
 ·rw [List.map_append,List.nodup_append]
  refine ⟨h1,by simp,?_⟩
  intro a ha c hc
  simp only [List.map_cons,List.map_nil,List.mem_singleton] at hc
  obtain⟨p,hp,rfl⟩:=List.mem_map.1 ha
  have:=h2 p hp
  omega
 ·rcases List.mem_append.1 hx with hx | hx
  ·have:=h2 x hx;omega
  ·rw [List.mem_singleton.1 hx];exact Nat.lt_succ_self _
theorem Fa.sub {es es':List MapEntry} {clock:Nat} (h:Fa es clock) (hs:es'.Sublist es):Fa es' clock:=⟨h.1.sublist (hs.map _),fun x hx=>h.2 x (hs.mem hx)⟩
theorem Fa.alike {es es':List MapEntry} {clock:Nat} (h:Fa es clock) (hs:es'.map (·.born)=es.map (·.born)):Fa es' clock:=by
 refine ⟨by rw [hs];exact h.1,fun x hx=>?_⟩
 have:x.born∈es.map (·.born):=by rw [← hs];exact List.mem_map_of_mem hx
 obtain⟨y,hy,e⟩:=List.mem_map.1 this
 rw [← e]
 exact h.2 y hy
def MK (w:World) (b:Nat) (f:κ→Option Value):Prop:=
 ∃ (es:Array MapEntry) (clock:Nat) (l:List (κ × Value)),w.heap[b]? = some (.map es clock)∧LQ K l es.toList∧(l.map (·.1)).Nodup∧(∀ x,f x=IF K l x)∧Fa es.toList clock
def upd (f:κ→Option Value) (x:κ) (v:Option Value):κ→Option Value:=fun y=>if K.eqb y x then v else f y
theorem MK.lt {w:World} {b:Nat} {f:κ→Option Value} (h:MK K w b f):b < w.heap.size:=by
 obtain⟨es,clock,l,hb,_⟩:=h
 exact (Array.getElem?_eq_some_iff.1 hb).1
theorem MK.of_block {w w':World} {b:Nat} {f:κ→Option Value} (h:MK K w b f) (he:w'.heap[b]? = w.heap[b]?):MK K w' b f:=by
 obtain⟨es,clock,l,hb,r⟩:=h
 exact ⟨es,clock,l,he.trans hb,r⟩
theorem MK.alloc {w:World} {b:Nat} {f:κ→Option Value} (h:MK K w b f) (o:Obj):MK K (w.alloc o) b f:=h.of_block K (Below.heap_alloc w o b (h.lt K))
theorem MK.setCell {w:World} {b:Nat} {f:κ→Option Value} (h:MK K w b f) {a:Addr} (ha:b≠a.block) (u:Value):MK K (w.setCell a u) b f:=h.of_block K (Below.heap_setCell w a u b ha)
theorem MK.drew {w:World} {b:Nat} {f:κ→Option Value} (h:MK K w b f):MK K w.drew b f:=h
theorem MK.grown {w w':World} {b:Nat} {f:κ→Option Value} (h:MK K w b f) {row:Option Nat} (hg:w.grownBy w' row) (hne:some b≠row):MK K w' b f:=h.of_block K (hg.block b (h.lt K) hne)
theorem MK.congr {w:World} {b:Nat} {f g:κ→Option Value} (h:MK K w b f) (e:∀ x,f x=g x):MK K w b g:=by
 obtain⟨es,clock,l,h1,h2,h3,h4,h5⟩:=h
 exact ⟨es,clock,l,h1,h2,h3,fun x=>(e x).symm.trans (h4 x),h5⟩
theorem MK.made (w:World):MK K (w.alloc (.map #[] 0)) w.heap.size (fun _=>none):=
 ⟨#[],0,[],heap_alloc_new w _,by simp [LQ],by simp,fun _=>rfl,by simp [Fa]⟩
theorem DP {α:Type} (p:α→Bool):∀ l:List α,l.find? p=(l.findIdx? p).bind (l[·]?)
 | []=>rfl
 | a :: l=>by
  rw [List.find?_cons,List.findIdx?_cons]
  cases h:p a
  ·simp only [DP p l]
   cases List.findIdx? p l <;> simp
  ·simp
theorem Fl {w:World} {l:List (κ × Value)} {es:Array MapEntry} (x:κ) (h:LQ K l es.toList) :
  (Instr.findKey k (K.emb x) es.toList).run P w=.ok ((l.findIdx? (fun p=>K.eqb x p.1)).bind fun j=>(l[j]?).map fun p=>(j,p.2)) w:=by
 simp only [Instr.findKey,Sem.run_bind,run_underlying K.und,Result.andThen_ok,Nu K x l es.toList 0 h,Nat.zero_add]
 rfl
theorem DY {w:World} {b:Nat} {es:Array MapEntry} {c:Nat} (h:w.heap[b]? = some (.map es c)):(getObj b).run P w=.ok (.map es c) w:=by
 simp [getObj,Sem.run,h]
theorem MK.lookup {w:World} {b:Nat} {f:κ→Option Value} (h:MK K w b f) {t e:TypeId} (ht:P.underlying t=some (.map k e)) {z:Value} (hz:∀ w,(zeroValue e).run P w=.ok z w) (x:κ) (c:Bool) :
  (Instr.lookup t (.map (some b)) (K.emb x) c).run P w=.ok (if c then .tuple #[(f x).getD z,.bool (f x).isSome] else (f x).getD z) w:=by
 obtain⟨es,clock,l,hb,he,_,hf,_⟩:=h
 simp only [Instr.lookup,Sem.run_bind,run_underlying ht,Result.andThen_ok,DY hb,Sem.run_pure,K.plain,Fl K x he,hf,IF,DP]
 cases hi:List.findIdx? (fun p=>K.eqb x p.1) l with
 | none=>simp [hz]
 | some j =>
  simp only [Option.bind_some]
  cases hj:l[j]? with
  | none=>simp [hz]
  | some p=>simp
theorem Ga {w:World} {b:Nat} {es:Array MapEntry} {c:Nat} (h:w.heap[b]? = some (.map es c)) (o:Obj) :
  (setObj b o).run P w=.ok () { w with heap:=w.heap.setIfInBounds b o }:=by
 simp [setObj,Sem.run,h]
theorem DZ (w:World) (b:Nat) (o:Obj):w.grownBy { w with heap:=w.heap.setIfInBounds b o } (some b):=
 ⟨rfl,rfl,rfl,by simp,fun i _ hi=>by
  rw [Array.getElem?_setIfInBounds,if_neg (by rintro rfl;exact hi rfl)]⟩
theorem SF {w:World} (x:κ):(Instr.keyThatStays (K.emb x) (K.emb x)).run P w=.ok (K.emb x) w:=by
 simp [Instr.keyThatStays,K.bits]
theorem QD {l:List (κ × Value)} {es:List MapEntry} (h:LQ K l es) (j:Nat):(es[j]?).map (fun e=>(e.key,e.val))=(l[j]?).map (fun p=>(K.emb p.1,p.2)):=by
 have:=congrArg (·[j]?) h
 simpa using this
theorem T3 {l:List (κ × Value)} {x:κ} {j:Nat} (hj:l.findIdx? (fun p=>K.eqb x p.1)=some j) (v:Value) (y:κ) :
  IF K (l.modify j fun p=>(p.1,v)) y=if K.eqb y x then some v else IF K l y:=by
 induction l generalizing j with
 | nil=>simp at hj
 | cons p l ih =>
  rw [List.findIdx?_cons] at hj
  cases hb:K.eqb x p.1
  ·simp only [hb] at hj
   simp only [Bool.false_eq_true,if_false,Option.map_eq_some_iff] at hj
   obtain⟨i,hi,rfl⟩:=hj
   have:=ih hi
   simp only [IF,List.modify_succ_cons,List.find?_cons] at this ⊢
   cases hyp:K.eqb y p.1
   ·exact this
   ·have e:K.eqb y x=false:=by
     cases h:K.eqb y x
     ·rfl
     ·rw [(K.eqb_iff _ _).1 h,hb] at hyp;cases hyp
    simp [e]
  ·simp only [hb,if_true,Option.some.injEq] at hj
   subst hj
   have h1:=(K.eqb_iff _ _).1 hb
   simp only [IF,List.modify_zero_cons,List.find?_cons,h1]
   cases hyp:K.eqb y p.1 <;> simp
theorem R5 (l:List (κ × Value)) {x:κ} (hj:l.findIdx? (fun p=>K.eqb x p.1)=none) (v:Value) (y:κ) :
  IF K (l ++ [(x,v)]) y=if K.eqb y x then some v else IF K l y:=by
 simp only [IF,List.find?_append,List.find?_cons,List.find?_nil]
 cases hyp:K.eqb y x
 ·simp
 ·have:l.find? (fun p=>K.eqb y p.1)=none:=by rw [(K.eqb_iff _ _).1 hyp,DP,hj];rfl
  simp [this]
theorem Qd:∀ (l:List (κ × Value)) (x:κ) (j:Nat),l.findIdx? (fun p=>K.eqb x p.1)=some j→(l.map (·.1)).Nodup→∀ y,IF K (l.eraseIdx j) y=if K.eqb y x then none else IF K l y:=by
 intro l
 induction l with
 | nil=>intro x j hj;simp at hj
 | cons p l ih =>
  intro x j hj hn y
  rw [List.findIdx?_cons] at hj
  simp only [List.map_cons,List.nodup_cons] at hn
  cases hb:K.eqb x p.1
  ·simp only [hb,Bool.false_eq_true,if_false,Option.map_eq_some_iff] at hj
   obtain⟨i,hi,rfl⟩:=hj
   have:=ih x i hi hn.2 y
   simp only [IF,List.eraseIdx_cons_succ,List.find?_cons] at this ⊢
   cases hyp:K.eqb y p.1
   ·exact this
   ·have e:K.eqb y x=false:=by
     cases h:K.eqb y x
     ·rfl
     ·rw [(K.eqb_iff _ _).1 h,hb] at hyp;cases hyp
    simp [e]
  ·simp only [hb,if_true,Option.some.injEq] at hj
   subst hj
   have h1:=(K.eqb_iff _ _).1 hb
   simp only [IF,List.eraseIdx_cons_zero,List.find?_cons,h1]
   cases hyp:K.eqb y p.1
   ·simp
   ·have:l.find? (fun q=>K.eqb y q.1)=none:=by
     rw [List.find?_eq_none]
     intro q hq he
     have h2:=(K.eqb_iff _ _).1 he
     have h3:=(K.eqb_iff _ _).1 hyp
     exact hn.1 (by rw [← h3,h2];exact List.mem_map_of_mem hq)
    simp [this]
theorem MK.update {w:World} {b:Nat} {f:κ→Option Value} (h:MK K w b f) {t e:TypeId} (ht:P.underlying t=some (.map k e)) (x:κ) (v:Value) :
  ∃ w',(Instr.mapUpdate t (.map (some b)) (K.emb x) v).run P w=.ok () w'∧MK K w' b (upd K f x (some v))∧w.grownBy w' (some b):=by
 obtain⟨es,clock,l,hb,he,hn,hf,hst⟩:=h
 have hlt:=(Array.getElem?_eq_some_iff.1 hb).1
 simp only [Instr.mapUpdate,Sem.run_bind,run_underlying ht,Result.andThen_ok,DY hb,K.plain,Fl K x he]
 cases hi:List.findIdx? (fun p=>K.eqb x p.1) l with
 | none =>
  refine ⟨{ w with heap:=w.heap.setIfInBounds b (.map (es.push { key:=K.emb x,val:=v,born:=clock }) (clock + 1)) },by simp [Ga hb],⟨es.push { key:=K.emb x,val:=v,born:=clock },clock + 1,l ++ [(x,v)],by simp [hlt],?_,?_,?_,by rw [Array.toList_push];exact hst.push _ _⟩,DZ w b _⟩
  ·simpa [LQ] using he
  ·rw [List.map_append,List.nodup_append]
   refine ⟨hn,by simp,?_⟩
   intro a ha c hc
   simp only [List.map_cons,List.map_nil,List.mem_singleton] at hc
   subst hc
   rintro rfl
   rw [List.mem_map] at ha
   obtain⟨p,hp,rfl⟩:=ha
   rw [List.findIdx?_eq_none_iff] at hi
   have:=hi p hp
   rw [(K.eqb_iff _ _).2 rfl] at this
   cases this
  ·intro y
   rw [R5 K l hi]
   simp only [upd,hf]
 | some j =>
  have hj:j < l.length:=by
   have:=List.findIdx?_eq_some_iff_getElem.1 hi
   exact this.1
  have hp:l[j]? = some l[j]:=List.getElem?_eq_getElem hj
  have hx:K.eqb x l[j].1=true:=(List.findIdx?_eq_some_iff_getElem.1 hi).2.1
  have hx':=(K.eqb_iff _ _).1 hx
  have hk:(es[j]?).map (·.key)=some (K.emb x):=by
   have:=QD K he j
   rw [hp] at this
   rw [Array.getElem?_toList] at this
   cases h0:es[j]? with
   | none=>rw [h0] at this;simp at this
   | some e0=>rw [h0] at this;simp at this;simp [this.1,hx']
  refine ⟨{ w with heap:=w.heap.setIfInBounds b (.map (es.modify j fun e=>{ e with key:=K.emb x,val:=v }) clock) },?_,⟨es.modify j fun e=>{ e with key:=K.emb x,val:=v },clock,l.modify j fun p=>(p.1,v),by simp [hlt],?_,?_,?_,hst.alike (by
   apply List.ext_getElem?
   intro i
   simp only [Array.toList_modify,List.getElem?_map,List.getElem?_modify]
   by_cases hij:j=i
   ·subst hij
    cases h0:es.toList[j]? <;> simp
   ·simp [hij])⟩,DZ w b _⟩
  ·simp [hp,hk,SF K x,Ga hb]
  ·simp only [LQ,Array.toList_modify]
   apply List.ext_getElem?
   intro i
   have:=QD K he i
   rw [Array.getElem?_toList] at this
   simp only [List.getElem?_map,List.getElem?_modify,Array.getElem?_toList]
   by_cases hij:j=i
   ·subst hij
    cases h0:es[j]? with
    | none=>rw [h0,hp] at this;simp at this
    | some e0=>simp [hp,hx']
   ·simp [hij]
    simpa using this
  ·have:(l.modify j fun p=>(p.1,v)).map (·.1)=l.map (·.1):=by
    apply List.ext_getElem?
    intro i
    simp only [List.getElem?_map,List.getElem?_modify]
    by_cases hij:j=i
    ·subst hij;simp [hp]
    ·simp [hij]
   rw [this];exact hn
  ·intro y
   rw [T3 K hi]
   simp only [upd,hf]
theorem Et {α β:Type} (f:α→β):∀ (l:List α) (j:Nat),(l.eraseIdx j).map f=(l.map f).eraseIdx j
 | [],_=>rfl
 | _ :: _,0=>rfl
 | a :: l,j + 1=>by simp [List.eraseIdx_cons_succ,Et f l j]
theorem MK.delete {w:World} {b:Nat} {f:κ→Option Value} (h:MK K w b f) {t e:TypeId} (ht:P.underlying t=some (.map k e)) (x:κ) (ty:TypeId) :
  ∃ w',(Builtin.delete_ #[t,k] ty #[.map (some b),K.emb x]).run P w=.ok (.tuple #[]) w'∧MK K w' b (upd K f x none)∧w.grownBy w' (some b):=by
 obtain⟨es,clock,l,hb,he,hn,hf,hst⟩:=h
 have hlt:=(Array.getElem?_eq_some_iff.1 hb).1
 cases hi:List.findIdx? (fun p=>K.eqb x p.1) l with
 | none =>
  refine ⟨{ w with heap:=w.heap.setIfInBounds b (.map es clock) },?_,⟨es,clock,l,by simp [hlt],he,hn,?_,hst⟩,DZ w b _⟩
  ·simp [Builtin.delete_,run_underlying ht,DY hb,K.plain,Fl K x he,hi,Ga hb]
  ·intro y
   simp only [upd,hf]
   cases hyp:K.eqb y x
   ·simp
   ·have:=(K.eqb_iff _ _).1 hyp
    subst this
    simp [IF,DP,hi]
 | some j =>
  have hj:j < l.length:=by
   have:=List.findIdx?_eq_some_iff_getElem.1 hi
   exact this.1
  have hp:l[j]? = some l[j]:=List.getElem?_eq_getElem hj
  refine ⟨{ w with heap:=w.heap.setIfInBounds b (.map (es.eraseIdxIfInBounds j) clock) },?_,⟨es.eraseIdxIfInBounds j,clock,l.eraseIdx j,by simp [hlt],?_,?_,?_,hst.sub (by rw [Array.toList_eraseIdxIfInBounds];exact List.eraseIdx_sublist _ _)⟩,DZ w b _⟩
  ·simp [Builtin.delete_,run_underlying ht,DY hb,K.plain,Fl K x he,hi,hp,Ga hb]
  ·simp only [LQ,Array.toList_eraseIdxIfInBounds] at he ⊢
   rw [Et,Et,he]
  ·rw [Et]
   exact hn.sublist (List.eraseIdx_sublist _ _)
  ·intro y
   rw [Qd K l x j hi hn]
   simp only [upd,hf]
variable {w:World} {ops:Array Oper} {rest:List Oper} {o:Oper} {a:Act} {Q:Exit→Act→World→Prop}
end
structure Au where
 op:Int
 kind:Int
 n:Int
 m:Int
 text:ByteArray
 pos:Int
 kids:Int
def Au.cells (x:Au):List Value:=[.int .i8 x.op,.int .i8 x.kind,.int .i64 x.n,.int .i64 x.m,.string x.text,.int .i64 x.pos,.int .i64 x.kids]
def AF:Au:=⟨0,0,0,0,ByteArray.empty,0,0⟩
def As (w:World) (b off:Nat) (ts:List Au):Prop:=∀ i x,ts[i]? = some x→∀ j v,x.cells[j]? = some v→w.cell? ⟨b,off + i * 7 + j,none⟩=some v
section
variable {w w':World} {b off:Nat} {ts:List Au} {i:Nat} {x:Au}
theorem As.below {B:Nat} (h:As w b off ts) (hb:Below B w w') (hB:b < B):As w' b off ts:=
 fun i x hx j v hv=>(hb.cell (p:=⟨b,_,none⟩) hB).trans (h i x hx j v hv)
theorem As.op (h:As w b off ts) (hx:ts[i]? = some x):w.cell? ⟨b,off + i * 7,none⟩=some (.int .i8 x.op):=h i x hx 0 _ rfl
theorem As.kind (h:As w b off ts) (hx:ts[i]? = some x):w.cell? ⟨b,off + i * 7 + 1,none⟩=some (.int .i8 x.kind):=h i x hx 1 _ rfl
theorem As.n (h:As w b off ts) (hx:ts[i]? = some x):w.cell? ⟨b,off + i * 7 + 2,none⟩=some (.int .i64 x.n):=h i x hx 2 _ rfl
theorem As.m (h:As w b off ts) (hx:ts[i]? = some x):w.cell? ⟨b,off + i * 7 + 3,none⟩=some (.int .i64 x.m):=h i x hx 3 _ rfl
theorem As.text (h:As w b off ts) (hx:ts[i]? = some x):w.cell? ⟨b,off + i * 7 + 4,none⟩=some (.string x.text):=h i x hx 4 _ rfl
theorem As.pos (h:As w b off ts) (hx:ts[i]? = some x):w.cell? ⟨b,off + i * 7 + 5,none⟩=some (.int .i64 x.pos):=h i x hx 5 _ rfl
theorem As.kids (h:As w b off ts) (hx:ts[i]? = some x):w.cell? ⟨b,off + i * 7 + 6,none⟩=some (.int .i64 x.kids):=h i x hx 6 _ rfl
theorem As.all (h:As w b off ts) (hx:ts[i]? = some x):w.cell? ⟨b,off + i * 7,none⟩=some (.int .i8 x.op)∧w.cell? ⟨b,off + i * 7 + 1,none⟩=some (.int .i8 x.kind)∧w.cell? ⟨b,off + i * 7 + 2,none⟩=some (.int .i64 x.n) ∧
  w.cell? ⟨b,off + i * 7 + 3,none⟩=some (.int .i64 x.m)∧w.cell? ⟨b,off + i * 7 + 4,none⟩=some (.string x.text)∧w.cell? ⟨b,off + i * 7 + 5,none⟩=some (.int .i64 x.pos)∧w.cell? ⟨b,off + i * 7 + 6,none⟩=some (.int .i64 x.kids):=
 ⟨h.op hx,h.kind hx,h.n hx,h.m hx,h.text hx,h.pos hx,h.kids hx⟩
end
def Blk (w:World) (g:Nat) (t:TypeId) (cs:Array Value):Prop:=w.heap[g]? = some (.cells cs t (0,0))
section
variable {w w':World} {g:Nat} {t:TypeId} {cs:Array Value}
theorem Blk.lt (h:Blk w g t cs):g < w.heap.size:=(Array.getElem?_eq_some_iff.1 h).1
theorem Blk.cell (h:Blk w g t cs) (i:Nat):w.cell? ⟨g,i,none⟩=cs[i]?:=cell_of_row w g i cs t (0,0) h
theorem Blk.frozen (h:Blk w g t cs) (i:Nat):w.frozen? ⟨g,i,none⟩=false:=by
 unfold Blk at h
 simp [World.frozen?,h]
theorem Blk.new (w:World) (t:TypeId) (cs:Array Value):Blk (w.alloc (.cells cs t)) w.heap.size t cs:=heap_alloc_new w _
theorem Blk.drew (h:Blk w g t cs):Blk w.drew g t cs:=h
theorem Blk.drewN (h:Blk w g t cs) (n:Nat):Blk (w.drewN n) g t cs:=h
theorem Blk.alloc (h:Blk w g t cs) (o:Obj):Blk (w.alloc o) g t cs:=(Below.heap_alloc w o g h.lt).trans h
theorem Blk.set_ (h:Blk w g t cs) (i:Nat) (u:Value):Blk (w.setCell ⟨g,i,none⟩ u) g t (cs.setIfInBounds i u):=by
 unfold Blk at h ⊢
 simp [World.setCell,Array.getElem?_modify,h]
theorem Blk.far (h:Blk w g t cs) {p:Addr} (hp:g≠p.block) (u:Value):Blk (w.setCell p u) g t cs:=(Below.heap_setCell w p u g hp).trans h
theorem Blk.below {B:Nat} (h:Blk w g t cs) (hb:Below B w w') (hg:g < B):Blk w' g t cs:=(hb.block g hg).trans h
theorem Blk.grown {row:Option Nat} (h:Blk w g t cs) (hb:w.grownBy w' row) (hg:some g≠row):Blk w' g t cs:=(hb.block g h.lt hg).trans h
theorem Blk.ne_ {g':Nat} {t':TypeId} {cs':Array Value} (h:Blk w g t cs) (h':Blk w g' t' cs') (hne:t≠t'):g≠g':=by
 rintro rfl
 unfold Blk at h h'
 rw [h] at h'
 injection h' with h'
 injection h' with _ ht
 exact hne ht
theorem AR {base:Nat} {e:TypeId} {size n:Nat} {v:Value} {xs:List Value} (h:w.ownsRow base e size v n xs) (hg:Blk w g t cs) (hne:e≠t):v.ownBlock≠some g:=by
 rcases h.2 with ⟨rfl,_⟩ | ⟨g',cap,cur,rfl,_,hh,_⟩
 ·simp [Value.ownBlock]
 ·intro he
  have:g'=g:=by simpa [Value.ownBlock] using he
  subst this
  exact Blk.ne_ (t:=e) hh hg hne rfl
theorem Oi (w:World) {p:Addr} {row:Option Nat} (hr:row=some p.block) (u:Value):w.grownBy (w.setCell p u) row:=
 ⟨rfl,rfl,rfl,by simp [World.setCell],fun i _ hi=>Below.heap_setCell w p u i (fun e=>hi (by rw [hr,e]))⟩
theorem Bm {base:Nat} {e:TypeId} {size n:Nat} {v:Value} {xs:List Value} (h:w.ownsRow base e size v n xs) {p:Addr} (hne:v.ownBlock≠some p.block) (u:Value):(w.setCell p u).ownsRow base e size v n xs:=
 h.kept (Oi w rfl u) (.inr hne)
theorem MK.blk_ne {P:Program} {k:TypeId} {κ:Type} {K:Mk P k κ} {b:Nat} {f:κ→Option Value} (h:MK K w b f) (hg:Blk w g t cs):b≠g:=by
 rintro rfl
 obtain⟨es,clock,l,hb,_⟩:=h
 unfold Blk at hg
 rw [hb] at hg
 cases hg
theorem MK.own_ne {P:Program} {k:TypeId} {κ:Type} {K:Mk P k κ} {b:Nat} {f:κ→Option Value} (h:MK K w b f) {base:Nat} {e:TypeId} {size n:Nat} {v:Value} {xs:List Value} (ho:w.ownsRow base e size v n xs):v.ownBlock≠some b:=by
 rcases ho.2 with ⟨rfl,_⟩ | ⟨g',cap,cur,rfl,_,hh,_⟩
 ·simp [Value.ownBlock]
 ·intro he
  have:g'=b:=by simpa [Value.ownBlock] using he
  subst this
  exact MK.blk_ne h (g:=g') (t:=e) hh rfl
end
structure ElT (P:Program) (t e:TypeId) (size bytes:Nat):Prop where
 und:P.underlying t=some (.slice e)
 pos:0 < size
 info:∃ i z,P.info? e=some i∧i.zero=some z∧i.size=size∧i.bytes=bytes∧z.cells.size=size
theorem FH {w w':World} {o:Obj} {row:Option Nat} (h:(w.alloc o).grownBy w' row):w.grownBy w' row:=
 ⟨h.os,h.tape,h.output,Nat.le_trans (by simp) h.size,fun i hi hne=>(h.block i (by simp;omega) hne).trans (Below.heap_alloc w o i hi)⟩
theorem Cb {P:Program} {w:World} {ops:Array Oper} {rest:List Oper} {o:Oper} {a:Act} {Q:Exit→Act→World→Prop} {t e:TypeId} {size bytes:Nat} (E:ElT P t e size bytes) (hgd:o.guard=none) (s x:Operand)
  (ho:o.op=.call { callee:=.builtin .append,args:=#[s,x],argTypes:=#[t,t] })
  (base:Nat) (wr:World) (us:List Value) (hw:w=wr.alloc (.cells us.toArray e)) (v:Value) (n:Nat) (xs:List Value) (hs:a.eval s=v) (hown:wr.ownsRow base e size v n xs)
  (hx:a.eval x=.slice (some ⟨wr.heap.size,0,none⟩) 1 1) (hus:us.length=size) (h1:∀ u∈us,u.oneCell'=true)
  (h63:n + 1≤maxLen) (hbytes:(n + 1) * bytes≤140737488355328) (hbase:base≤wr.heap.size)
  (h:∀ v' w',w'.ownsRow base e size v' (n + 1) (xs ++ us)→wr.grownBy w' v.ownBlock→wpList P ops Q rest (a.put o.dst v') w'):wpList P ops Q (o :: rest) a w:=by
 subst hw
 obtain⟨i,z,hi,hz,hsz,hby,hzc⟩:=E.info
 refine wpList_append_own _ hgd s x t ho base e i z size bytes E.und hi hz hsz hby hzc E.pos v n xs hs (hown.alloc _) ⟨wr.heap.size,0,none⟩ 1 1 us hx (by omega) ?_ h1 h63 hbytes (by simp;omega) fun v' w' h2 h3 _=>h v' w' h2 (FH h3)
 intro j u hj
 have:(wr.alloc (.cells us.toArray e)).cell? ⟨wr.heap.size,j,none⟩=some u:=by
  rw [Blk.cell (Blk.new wr e us.toArray) j]
  simpa using hj
 rw [← this]
 congr 1
 unfold Addr.add
 split <;> simp_all
theorem Below.of_own {B base:Nat} {w0 wr w':World} {e:TypeId} {size n:Nat} {v:Value} {xs:List Value} (h:Below B w0 wr) (ho:wr.ownsRow base e size v n xs) (hg:wr.grownBy w' v.ownBlock) (hB:B≤base) (hs:B≤wr.heap.size):Below B w0 w':=
 h.grown hg hs fun k hk=>Nat.le_trans hB (ho.lt k hk).1
structure Frm (B:Nat) (T:List TypeId) (w w':World):Prop where
 below:Below B w w'
 kept:∀ (g:Nat) (cs:Array Value) (t:TypeId) (fr:Nat × Nat),w.heap[g]? = some (Obj.cells cs t fr)→t ∉ T→w'.heap[g]? = w.heap[g]?
section
variable {B:Nat} {T:List TypeId} {w w' a b c:World}
theorem Frm.refl (B:Nat) (T:List TypeId) (w:World):Frm B T w w:=⟨Below.refl _ _,fun _ _ _ _ _ _=>rfl⟩
theorem Frm.trans (h:Frm B T a b) (k:Frm B T b c):Frm B T a c:=
 ⟨h.below.trans k.below,fun g cs t fr hg ht=>(k.kept g cs t fr ((h.kept g cs t fr hg ht).trans hg) ht).trans (h.kept g cs t fr hg ht)⟩
theorem Frm.more {T':List TypeId} (h:Frm B T w w') (hT:∀ t,t∈T→t∈T'):Frm B T' w w':=⟨h.below,fun g cs t fr hg ht=>h.kept g cs t fr hg (fun x=>ht (hT t x))⟩
theorem Frm.size (h:Frm B T w w'):w.heap.size≤w'.heap.size:=h.below.size
theorem Frm.alloc (h:Frm B T a w) (hB:B≤w.heap.size) (o:Obj):Frm B T a (w.alloc o):=
 ⟨h.below.alloc hB o,fun g cs t fr hg ht=>by
  have h1:=h.kept g cs t fr hg ht
  have h2:g < w.heap.size:=(Array.getElem?_eq_some_iff.1 (h1.trans hg)).1
  rw [Below.heap_alloc w o g h2,h1]⟩
theorem Frm.drew (h:Frm B T a w):Frm B T a w.drew:=⟨h.below.drew,h.kept⟩
theorem Frm.drewN (h:Frm B T a w) (n:Nat):Frm B T a (w.drewN n):=⟨⟨h.below.os,h.below.tape,h.below.output,h.below.size,h.below.block⟩,h.kept⟩
theorem Frm.set_ (h:Frm B T a w) {g i:Nat} {t:TypeId} {cs:Array Value} (hg:Blk w g t cs) (hB:B≤g) (ht:t∈T) (u:Value):Frm B T a (w.setCell ⟨g,i,none⟩ u):=
 ⟨h.below.setCell hB u,fun g' cs' t' fr' hg' ht'=>by
  have h1:=h.kept g' cs' t' fr' hg' ht'
  rw [Below.heap_setCell w _ u g' ?_,h1]
  rintro rfl
  have h2:=(h1.trans hg').symm.trans hg
  injection h2 with h2
  injection h2 with _ h3
  exact ht' (h3▸ht)⟩
theorem Frm.of_below (h:Below w.heap.size w w') (hB:B≤w.heap.size):Frm B T w w':=
 ⟨h.mono hB,fun g _ _ _ hg _=>h.block g (Array.getElem?_eq_some_iff.1 hg).1⟩
theorem Frm.blk {g:Nat} {t:TypeId} {cs:Array Value} (h:Frm B T w w') (hg:Blk w g t cs) (ht:t ∉ T):Blk w' g t cs:=(h.kept g cs t (0,0) hg ht).trans hg
theorem Frm.own {base:Nat} {e:TypeId} {size n:Nat} {v:Value} {xs:List Value} (h:Frm B T w w') (ho:w.ownsRow base e size v n xs) (ht:e ∉ T):w'.ownsRow base e size v n xs:=by
 obtain⟨h1,h2⟩:=ho
 refine ⟨h1,?_⟩
 rcases h2 with h2 | ⟨g,cap,cur,hv,hg,hh,r⟩
 ·exact .inl h2
 ·exact .inr ⟨g,cap,cur,hv,hg,(h.kept g cur e (0,0) hh ht).trans hh,r⟩
theorem Frm.grown {base:Nat} {e:TypeId} {size n:Nat} {v:Value} {xs:List Value} (h:Frm B T a w) (ho:w.ownsRow base e size v n xs) (hg:w.grownBy w' v.ownBlock) (hB:B≤base) (hs:B≤w.heap.size) (ht:e∈T):Frm B T a w':=by
 refine ⟨Below.of_own h.below ho hg hB hs,fun g cs t fr hg' ht'=>?_⟩
 have h1:=h.kept g cs t fr hg' ht'
 rw [hg.block g (Array.getElem?_eq_some_iff.1 (h1.trans hg')).1 ?_,h1]
 rcases ho.2 with ⟨rfl,_⟩ | ⟨g',cap,cur,rfl,_,hh,_⟩
 ·simp [Value.ownBlock]
 ·simp only [Value.ownBlock,ne_eq,Option.some.injEq]
  rintro rfl
  have h2:=(h1.trans hg').symm.trans hh
  injection h2 with h2
  injection h2 with _ h3
  exact ht' (h3▸ht)
theorem Frm.map {P:Program} {k:TypeId} {κ:Type} {K:Mk P k κ} {m:Nat} {f:κ→Option Value} (h:Frm B T a w) (hm:MK K w m f) (hB:B≤m) (hg:w.grownBy w' (some m)) (hs:B≤w.heap.size):Frm B T a w':=by
 refine ⟨h.below.grown hg hs (fun k hk=>by injection hk with hk;omega),fun g cs t fr hg' ht'=>?_⟩
 have h1:=h.kept g cs t fr hg' ht'
 rw [hg.block g (Array.getElem?_eq_some_iff.1 (h1.trans hg')).1 ?_,h1]
 rintro e
 injection e with e
 subst e
 obtain⟨es,clock,l,hb,_⟩:=hm
 rw [h1,hg'] at hb
 cases hb
theorem Frm.nodes {b off:Nat} {ts:List Au} (h:Frm B T w w') (hn:As w b off ts) (hb:b < B):As w' b off ts:=hn.below h.below hb
end
def adv (S:List (Option Nat)):Nat→Nat→Option Nat
 | 0,p=>some p
 | c + 1,p=>match S[p]? with
  | some (some z)=>adv S c (p + z)
  | _=>none
def Bc (len:Nat):List Au→List (Option Nat)
 | []=>[]
 | x :: r=>(if x.kids < 0∨x.kids > len then none else (adv (Bc len r) x.kids.toNat 0).map (· + 1)) :: Bc len r
theorem Gl (len:Nat):∀ l,(Bc len l).length=l.length
 | []=>rfl
 | x :: r=>by simp [Bc,Gl len r]
theorem NY (a:Option Nat) (S:List (Option Nat)):∀ c p,adv (a :: S) c (p + 1)=(adv S c p).map (· + 1)
 | 0,p=>rfl
 | c + 1,p=>by
  simp only [adv,List.getElem?_cons_succ]
  rcases S[p]? with _ | _ | z
  ·rfl
  ·rfl
  ·simp only
   rw [show p + 1 + z=(p + z) + 1 by omega,NY a S c]
theorem Kt (S:List (Option Nat)):∀ a b p,adv S (a + b) p=(adv S a p).bind (adv S b)
 | 0,b,p=>by simp [adv]
 | a + 1,b,p=>by
  rw [show a + 1 + b=(a + b) + 1 by omega]
  simp only [adv]
  rcases S[p]? with _ | _ | z
  ·rfl
  ·rfl
  ·simp only;rw [Kt S a b]
theorem K6 (S:List (Option Nat)) (k:Nat):∀ c p,adv (S.drop k) c p=(adv S c (k + p)).map (· - k)
 | 0,p=>by simp [adv]
 | c + 1,p=>by
  simp only [adv,List.getElem?_drop]
  rcases S[k + p]? with _ | _ | z
  ·rfl
  ·rfl
  ·simp only;rw [K6 S k c,Nat.add_assoc]
theorem Eq (len:Nat):∀ (l:List Au) (k:Nat),Bc len (l.drop k)=(Bc len l).drop k
 | [],k=>by simp [Bc]
 | x :: r,0=>rfl
 | x :: r,k + 1=>by simp only [List.drop_succ_cons,Bc];exact Eq len r k
theorem Dv {len:Nat}:∀ {l:List Au} {i z:Nat},(Bc len l)[i]? = some (some z)→0 < z∧i + z≤l.length
 | [],i,z,h=>by simp [Bc] at h
 | x :: r,0,z,h=>by
  simp only [Bc,List.getElem?_cons_zero,Option.some.injEq] at h
  split at h
  ·cases h
  ·rw [Option.map_eq_some_iff] at h
   obtain⟨q,hq,rfl⟩:=h
   refine ⟨by omega,?_⟩
   have:∀ c p q,p≤r.length→adv (Bc len r) c p=some q→q≤r.length:=by
    intro c
    induction c with
    | zero=>intro p q hp h;simp [adv] at h;omega
    | succ c ih =>
     intro p q hp h
     simp only [adv] at h
     rcases hz:(Bc len r)[p]? with _ | _ | z <;> rw [hz] at h <;> simp only at h
     ·cases h
     ·cases h
     ·have:=Dv hz
      exact ih _ _ (by omega) h
   have:=this _ _ _ (Nat.zero_le _) hq
   simp only [List.length_cons];omega
 | x :: r,i + 1,z,h=>by
  simp only [Bc,List.getElem?_cons_succ] at h
  have:=Dv h
  simp only [List.length_cons];omega
theorem Ib {len:Nat} {l:List Au}:∀ (c p q:Nat),p≤l.length→adv (Bc len l) c p=some q→p + c≤q∧q≤l.length:=by
 intro c
 induction c with
 | zero=>intro p q hp h;simp [adv] at h;omega
 | succ c ih =>
  intro p q hp h
  simp only [adv] at h
  rcases hz:(Bc len l)[p]? with _ | _ | z <;> rw [hz] at h <;> simp only at h
  ·cases h
  ·cases h
  ·have:=Dv hz
   have:=ih _ _ (by omega) h
   omega
def beh (len:Nat):List Au→Int→Nat→Int
 | [],left,p=>if left≤0 then p else -1
 | x :: r,left,p=>if left≤0 then p else if x.kids < 0∨x.kids > len then -1 else beh len r (left + (x.kids - 1)) (p + 1)
theorem QK (len:Nat):∀ (l:List Au) (left p:Nat),beh len l left p=match adv (Bc len l) left 0 with | some q=>(p:Int) + q | none=>-1
 | [],0,p=>by simp [beh,adv]
 | [],left + 1,p=>by simp [beh,adv,Bc]
 | x :: r,0,p=>by simp [beh,adv]
 | x :: r,left + 1,p=>by
  have h0:¬ ((left + 1:Nat):Int)≤0:=by omega
  simp only [beh,if_neg h0,adv,Bc,List.getElem?_cons_zero]
  by_cases hk:x.kids < 0∨x.kids > len
  ·simp [hk]
  ·rw [if_neg hk,if_neg hk]
   obtain⟨c,hc⟩:=Int.eq_ofNat_of_zero_le (show 0≤x.kids by omega)
   rw [hc,show ((left + 1:Nat):Int) + ((c:Int) - 1)=((c + left:Nat):Int) by omega,QK len r (c + left) (p + 1),Int.toNat_natCast,Kt]
   cases hA:adv (Bc len r) c 0 with
   | none=>rfl
   | some q =>
    simp only [Option.bind_some,Option.map_some]
    rw [show 0 + (q + 1)=q + 1 by omega,NY]
    cases hB:adv (Bc len r) left q with
    | none=>rfl
    | some z=>simp only [Option.map_some];rw [show ((p + 1:Nat):Int) + (z:Int)=(p:Int) + ((z + 1:Nat):Int) by omega]
def Ap (ts:List Au) (i:Nat):Int:=if i < ts.length then beh ts.length (ts.drop i) 1 i else -1
theorem BV (ts:List Au) (i:Nat):Ap ts i=match (Bc ts.length ts)[i]? with | some (some z)=>(i:Int) + z | _=>-1:=by
 unfold Ap
 by_cases h:i < ts.length
 ·rw [if_pos h,show (1:Int)=((1:Nat):Int) from rfl,QK,Eq]
  simp only [adv,List.getElem?_drop,Nat.add_zero]
  rcases (Bc ts.length ts)[i]? with _ | _ | z <;> simp
 ·rw [if_neg h,List.getElem?_eq_none (by rw [Gl];omega)]
def V6 (ts:List Au) (i:Nat):Int:=Ap ts i
def BL (ts:List Au):Nat→Nat→List Nat
 | 0,_=>[]
 | c + 1,p=>p :: BL ts c (Ap ts p).toNat
def Am (ts:List Au) (i:Nat):List Nat:=if Ap ts i < 0 then [] else BL ts ((ts.getD i AF).kids.toNat) (i + 1)
theorem CZ (ts:List Au):∀ c p,(BL ts c p).length=c
 | 0,_=>rfl
 | c + 1,p=>by simp [BL,CZ ts c]
theorem Pa (ts:List Au):∀ (c p q:Nat),adv (Bc ts.length ts) c p=some q→∀ j∈BL ts c p,p≤j∧j < q∧q≤ts.length∧0≤Ap ts j∧(Ap ts j).toNat≤q:=by
 intro c
 induction c with
 | zero=>intro p q _ j hj;simp [BL] at hj
 | succ c ih =>
  intro p q h j hj
  simp only [adv] at h
  rcases hz:(Bc ts.length ts)[p]? with _ | _ | z <;> rw [hz] at h <;> simp only at h
  ·cases h
  ·cases h
  ·have hp:=Dv hz
   have hb:Ap ts p=(p:Int) + z:=by rw [BV,hz]
   have hq:=Ib _ _ _ (by omega) h
   simp only [BL,List.mem_cons] at hj
   rcases hj with rfl | hj
   ·rw [hb];omega
   ·rw [hb,show ((p:Int) + z).toNat=p + z by omega] at hj
    have:=ih _ _ h j hj
    omega
theorem EJ {ts:List Au} {i z:Nat} {x:Au} (hx:ts[i]? = some x) (h:(Bc ts.length ts)[i]? = some (some z)) :
  0≤x.kids∧x.kids≤ts.length∧adv (Bc ts.length ts) x.kids.toNat (i + 1)=some (i + z):=by
 have hi:=(List.getElem?_eq_some_iff.1 hx).1
 have hd:ts.drop i=x :: ts.drop (i + 1):=by
  rw [List.drop_eq_getElem_cons hi]
  rw [List.getElem?_eq_getElem hi] at hx
  injection hx with hx
  rw [hx]
 have h1:(Bc ts.length (ts.drop i))[0]? = some (some z):=by rw [Eq,List.getElem?_drop];exact h
 rw [hd] at h1
 simp only [Bc,List.getElem?_cons_zero,Option.some.injEq] at h1
 split at h1
 ·cases h1
 ·rename_i hk
  rw [Option.map_eq_some_iff] at h1
  obtain⟨q,hq,rfl⟩:=h1
  refine ⟨by omega,by omega,?_⟩
  rw [Eq,K6,Option.map_eq_some_iff] at hq
  obtain⟨q',hq',rfl⟩:=hq
  have:=Ib _ _ _ (by omega) hq'
  rw [Nat.add_zero] at hq'
  rw [hq']
  congr 1
  omega
theorem AU {ts:List Au} {i j:Nat} (h:j∈Am ts i):i < j∧j < ts.length∧0≤Ap ts j∧(j:Int) < Ap ts j:=by
 unfold Am at h
 split at h
 ·simp at h
 ·rename_i hb
  rw [BV] at hb
  rcases hz:(Bc ts.length ts)[i]? with _ | _ | z <;> rw [hz] at hb <;> simp only at hb
  ·omega
  ·omega
  ·have hi:i < ts.length:=by have:=Dv hz;omega
   have hx:ts[i]? = some (ts.getD i AF):=by rw [List.getD_eq_getElem?_getD,List.getElem?_eq_getElem hi];rfl
   have hk:=EJ hx hz
   have:=Pa ts _ _ _ hk.2.2 j h
   refine ⟨by omega,by omega,this.2.2.2.1,?_⟩
   rw [BV] at this ⊢
   rcases hz2:(Bc ts.length ts)[j]? with _ | _ | z2 <;> rw [hz2] at this <;> simp only at this ⊢
   ·omega
   ·omega
   ·have:=Dv hz2;omega
structure B8 where
 name:ByteArray
 args:List Int
 tell:Int
 many:Bool
def BU:List B8:=[
 ⟨⟨#[112,111,119,101,114]⟩,[3],1,false⟩,
 ⟨⟨#[104,101,97,108,116,104]⟩,[3],1,false⟩,
 ⟨⟨#[100,97,109,97,103,101]⟩,[3],1,false⟩,
 ⟨⟨#[109,97,114,107,115]⟩,[3],1,false⟩,
 ⟨⟨#[111,119,110,101,114]⟩,[3],4,false⟩,
 ⟨⟨#[112,108,97,99,101]⟩,[3],5,false⟩,
 ⟨⟨#[108,105,102,101]⟩,[4],1,false⟩,
 ⟨⟨#[101,110,101,114,103,121]⟩,[4],1,false⟩,
 ⟨⟨#[111,117,116]⟩,[4],2,false⟩,
 ⟨⟨#[115,105,122,101]⟩,[5],1,false⟩,
 ⟨⟨#[99,97,114,100,115]⟩,[5],6,true⟩,
 ⟨⟨#[104,111,108,100,101,114]⟩,[5],4,false⟩,
 ⟨⟨#[99,111,117,110,116]⟩,[6],1,false⟩]
def Bz:List B8:=[
 ⟨⟨#[110,101,120,116]⟩,[4],4,false⟩,
 ⟨⟨#[122,111,110,101]⟩,[4,-1],5,false⟩,
 ⟨⟨#[114,97,110,100,111,109]⟩,[1],1,false⟩,
 ⟨⟨#[116,111,112]⟩,[5],3,false⟩,
 ⟨⟨#[104,97,115]⟩,[6,3],2,true⟩,
 ⟨⟨#[105,115]⟩,[3,-2],2,false⟩,
 ⟨⟨#[97,98,115]⟩,[1],1,false⟩,
 ⟨⟨#[109,105,110]⟩,[1,1],1,false⟩,
 ⟨⟨#[109,97,120]⟩,[1,1],1,false⟩]
def Bu:List B8:=[
 ⟨⟨#[109,111,118,101]⟩,[3,5],0,false⟩,
 ⟨⟨#[112,117,116]⟩,[3,5],0,false⟩,
 ⟨⟨#[100,114,97,119]⟩,[4],0,false⟩,
 ⟨⟨#[104,105,116]⟩,[3,1],0,false⟩,
 ⟨⟨#[104,97,114,109]⟩,[4,1],0,false⟩,
 ⟨⟨#[103,97,105,110]⟩,[4,1],0,false⟩,
 ⟨⟨#[109,97,114,107]⟩,[3,1],0,false⟩,
 ⟨⟨#[103,114,111,119]⟩,[3,1],0,false⟩,
 ⟨⟨#[115,104,117,102,102,108,101]⟩,[5],0,true⟩]
def B8.fn (s:B8):Value:=.func (Fn.func (if s.many then 246 else 245)) #[] #[]
def B8.cells (s:B8) (g:Nat):List Value:=[.string s.name,.slice (some ⟨g,0,none⟩) s.args.length s.args.length,.int .i8 s.tell,s.fn]
def PM (w:World) (B b off:Nat) (s:B8):Prop:=
 ∃ g,B≤g∧g < w.heap.size∧(∀ j v,(s.cells g)[j]? = some v→w.cell? ⟨b,off + j,none⟩=some v)∧Blk w g 118 (s.args.map (Value.int .i8)).toArray
def D0 (w:World) (B b:Nat) (l:List B8):Prop:=B≤b∧b < w.heap.size∧∀ i s,l[i]? = some s→PM w B b (i * 4) s
theorem D0.below {w w':World} {B C b:Nat} {l:List B8} (h:D0 w B b l) (hb:Below C w w') (hC:w.heap.size≤C):D0 w' B b l:=by
 refine ⟨h.1,Nat.lt_of_lt_of_le h.2.1 hb.size,fun i s hs=>?_⟩
 obtain⟨g,h1,h2,h3,h4⟩:=h.2.2 i s hs
 exact ⟨g,h1,Nat.lt_of_lt_of_le h2 hb.size,fun j v hv=>(hb.cell (p:=⟨b,_,none⟩) (Nat.lt_of_lt_of_le h.2.1 hC)).trans (h3 j v hv),h4.below hb (Nat.lt_of_lt_of_le h2 hC)⟩
def DB (w:World):List Obj→World
 | []=>w
 | o :: os=>DB (w.alloc o) os
theorem DU:∀ (os:List Obj) (w:World),(DB w os).heap.size=w.heap.size + os.length
 | [],w=>rfl
 | o :: os,w=>by rw [DB,DU os];simp;omega
theorem LM:∀ (os:List Obj) (w:World) (i:Nat),i < w.heap.size→(DB w os).heap[i]? = w.heap[i]?
 | [],w,i,h=>rfl
 | o :: os,w,i,h=>by rw [DB,LM os _ i (by simp;omega),Below.heap_alloc w o i h]
theorem Ia:∀ (os:List Obj) (w:World) (i:Nat),(DB w os).heap[w.heap.size + i]? = os[i]?
 | [],w,i=>by simp [DB]
 | o :: os,w,0=>by
  rw [DB,LM os _ _ (by simp)]
  exact heap_alloc_new w o
 | o :: os,w,i + 1=>by
  have:=Ia os (w.alloc o) i
  rw [DB,List.getElem?_cons_succ,← this]
  congr 1
  simp;omega
theorem Ge:∀ (os:List Obj) (w:World) (B:Nat),B≤w.heap.size→Below B w (DB w os)
 | [],w,B,_=>Below.refl _ _
 | o :: os,w,B,h=>((Below.refl _ _).alloc h o).trans (Ge os _ B (by simp;omega))
def B8.argsObj (s:B8):Obj:=.cells (s.args.map (Value.int .i8)).toArray 118
def El (n:Nat):List B8→List Value
 | []=>[]
 | s :: l=>s.cells n ++ El (n + 1) l
def Di (w:World) (l:List B8):World:=(DB w (l.map B8.argsObj)).alloc (.cells (El w.heap.size l).toArray 244)
theorem Hc:∀ (l:List B8) (n i j:Nat) (s:B8) (v:Value),l[i]? = some s→(s.cells (n + i))[j]? = some v→(El n l)[i * 4 + j]? = some v
 | [],n,i,j,s,v,h,_=>by simp at h
 | s0 :: l,n,0,j,s,v,h,hv=>by
  simp only [List.getElem?_cons_zero,Option.some.injEq] at h
  subst h
  have hj:j < 4:=(List.getElem?_eq_some_iff.1 hv).1
  rw [El,Nat.zero_mul,Nat.zero_add,List.getElem?_append_left (by simpa [B8.cells] using hj)]
  exact hv
 | s0 :: l,n,i + 1,j,s,v,h,hv=>by
  have:=Hc l (n + 1) i j s v h (by rw [show n + 1 + i=n + (i + 1) by omega];exact hv)
  rw [El,List.getElem?_append_right (by simp [B8.cells];omega)]
  rw [← this]
  congr 1
  simp [B8.cells];omega
section
variable (w:World)
include w
theorem Ek (l:List B8):D0 (Di w l) w.heap.size (w.heap.size + l.length) l:=by
 have hsz:(DB w (l.map B8.argsObj)).heap.size=w.heap.size + l.length:=by rw [DU];simp
 refine ⟨by omega,by simp [Di,hsz],fun i s hs=>⟨w.heap.size + i,by omega,?_,fun j v hv=>?_,?_⟩⟩
 ·have:=(List.getElem?_eq_some_iff.1 hs).1
  simp [Di,hsz];omega
 ·have h1:=Blk.new (DB w (l.map B8.argsObj)) 244 (El w.heap.size l).toArray
  have h2:=h1.cell (i * 4 + j)
  rw [hsz] at h2
  unfold Di
  rw [h2,List.getElem?_toArray]
  exact Hc l w.heap.size i j s v hs hv
 ·have hi:=(List.getElem?_eq_some_iff.1 hs).1
  have h0:(Di w l).heap[w.heap.size + i]? = some s.argsObj:=by
   unfold Di
   rw [Below.heap_alloc _ _ _ (by rw [hsz];omega),Ia,List.getElem?_map,hs]
   rfl
  exact h0
theorem BO (l:List B8):Below w.heap.size w (Di w l):=
 (Ge _ w _ (Nat.le_refl _)).alloc (by rw [DU];omega) _
theorem NM:Calls Tryz.prog 200 #[] w fun e w'=>e=.returned (.slice (some ⟨w.heap.size + 9,0,none⟩) 9 9)∧w'=Di w Bu:=by
 go_in
 go_wp2
 go_ret
 exact ⟨rfl,rfl⟩
theorem QQ:Calls Tryz.prog 242 #[] w fun e w'=>e=.returned (.slice (some ⟨w.heap.size + 9,0,none⟩) 9 9)∧w'=Di w Bz:=by
 go_in
 go_wp2
 go_ret
 exact ⟨rfl,rfl⟩
theorem Qc:Calls Tryz.prog 241 #[] w fun e w'=>e=.returned (.slice (some ⟨w.heap.size + 13,0,none⟩) 13 13)∧w'=Di w BU:=by
 go_in
 go_wp2
 go_ret
 exact ⟨rfl,rfl⟩
end
end Go.Proofs.YtmpcbaflcogmmaaGreatDoor
