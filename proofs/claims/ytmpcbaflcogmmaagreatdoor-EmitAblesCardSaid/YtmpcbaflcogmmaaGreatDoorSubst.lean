/- ItoaS Subst -/
import Derived.Shelf.Strconv.Itoa3
import Derived.Ground.NamesProg
import Derived.Test.YtmpcbaflcogmmaaGreatDoorProg
import Derived.Test.YtmpcbaflcogmmaaGreatDoorKinds
import Derived.Test.YtmpcbaflcogmmaaGreatDoorSerial3
namespace Go.Proofs.YtmpcbaflcogmmaaGreatDoor
open Go.RowKit
open Go.Shelf
set_option linter.all false
def Rh:Go.Shelf.Ren:=⟨fun | 171 => 100 | 243 => 138 | 246 => 192 | 283 => 237 | 284 => 238 | 285 => 239 | 286 => 240 | 129 => 186 | 317 => 263 | 318 => 264 | 319 => 265 | 320 => 266 | 337 => 272 | 338 => 273 | n=>n,fun | 3 => 3 | 9 => 9 | 2 => 2 | 4 => 4 | 171 => 278 | 0=>0 | 53 => 167 | 37 => 34 | 5 => 5 | 173 => 280 | 212 => 300 | 51 => 229 | 20 => 20 | 213 => 301 | 46 => 201 | 232 => 306 | 233 => 307 | n=>n,fun | 17 => 0 | 18 => 1 | 19 => 2 | n=>n⟩
theorem Vp:Go.Proofs.LaysM.n171 Tryz.prog Rh:={
 mixed:=by kernel_rfl
 f129:=Tryz.func186.trans (congrArg some (by kernel_rfl))
 f171:=Tryz.func100.trans (congrArg some (by kernel_rfl))
 f243:=Tryz.func138.trans (congrArg some (by kernel_rfl))
 f246:=Tryz.func192.trans (congrArg some (by kernel_rfl))
 f283:=Tryz.func237.trans (congrArg some (by kernel_rfl))
 f284:=Tryz.func238.trans (congrArg some (by kernel_rfl))
 f285:=Tryz.func239.trans (congrArg some (by kernel_rfl))
 f286:=Tryz.func240.trans (congrArg some (by kernel_rfl))
 f317:=Tryz.func263.trans (congrArg some (by kernel_rfl))
 f318:=Tryz.func264.trans (congrArg some (by kernel_rfl))
 f319:=Tryz.func265.trans (congrArg some (by kernel_rfl))
 f320:=Tryz.func266.trans (congrArg some (by kernel_rfl))
 f337:=Tryz.func272.trans (congrArg some (by kernel_rfl))
 f338:=Tryz.func273.trans (congrArg some (by kernel_rfl))
 t0:=Tryz.underlying0
 a0:=Tryz.isAgg0
 z0:=Tryz.sizeOf0
 v0:=Tryz.zeroValue0
 t2:=Tryz.underlying2
 a2:=Tryz.isAgg2
 z2:=Tryz.sizeOf2
 v2:=Tryz.zeroValue2
 t3:=Tryz.underlying3
 a3:=Tryz.isAgg3
 z3:=Tryz.sizeOf3
 v3:=Tryz.zeroValue3
 t4:=Tryz.underlying4
 a4:=Tryz.isAgg4
 z4:=Tryz.sizeOf4
 v4:=Tryz.zeroValue4
 t5:=Tryz.underlying5
 a5:=Tryz.isAgg5
 z5:=Tryz.sizeOf5
 v5:=Tryz.zeroValue5
 t9:=Tryz.underlying9
 a9:=Tryz.isAgg9
 z9:=Tryz.sizeOf9
 v9:=Tryz.zeroValue9
 t20:=Tryz.underlying20
 a20:=Tryz.isAgg20
 z20:=Tryz.sizeOf20
 v20:=Tryz.zeroValue20
 t37:=Tryz.underlying34
 a37:=Tryz.isAgg34
 z37:=Tryz.sizeOf34
 v37:=Tryz.zeroValue34
 t46:=Tryz.underlying201
 a46:=Tryz.isAgg201
 z46:=Tryz.sizeOf201
 v46:=Tryz.zeroValue201
 t51:=Tryz.underlying229
 a51:=Tryz.isAgg229
 z51:=Tryz.sizeOf229
 v51:=Tryz.zeroValue229
 t53:=Tryz.underlying167
 a53:=Tryz.isAgg167
 z53:=Tryz.sizeOf167
 v53:=Tryz.zeroValue167
 t171:=Tryz.underlying278
 a171:=Tryz.isAgg278
 z171:=Tryz.sizeOf278
 v171:=Tryz.zeroValue278
 t173:=Tryz.underlying280
 a173:=Tryz.isAgg280
 z173:=Tryz.sizeOf280
 v173:=Tryz.zeroValue280
 t212:=Tryz.underlying300
 a212:=Tryz.isAgg300
 z212:=Tryz.sizeOf300
 v212:=Tryz.zeroValue300
 t213:=Tryz.underlying301
 a213:=Tryz.isAgg301
 z213:=Tryz.sizeOf301
 t232:=Tryz.underlying306
 a232:=Tryz.isAgg306
 z232:=Tryz.sizeOf306
 v232:=Tryz.zeroValue306
 t233:=Tryz.underlying307
 a233:=Tryz.isAgg307
 z233:=Tryz.sizeOf307
 v233:=Tryz.zeroValue307
 g17:=by kernel_rfl
 g18:=by kernel_rfl
 g19:=by kernel_rfl
 i0:=by kernel_rfl
 i2:=by kernel_rfl
 i3:=by kernel_rfl
 i4:=by kernel_rfl
 i5:=by kernel_rfl
 i9:=by kernel_rfl
 i20:=by kernel_rfl
 i37:=by kernel_rfl
 i46:=by kernel_rfl
 i51:=by kernel_rfl
 i53:=by kernel_rfl
 i171:=by kernel_rfl
 i173:=by kernel_rfl
 i212:=by kernel_rfl
 i232:=by kernel_rfl
 i233:=by kernel_rfl
 m17:=by kernel_rfl
 m18:=by kernel_rfl
 m19:=by kernel_rfl }
structure Kn where
 j:Nat
 d:Nat
 needs:List (Nat × Value)
 v:Value
def Ky (ks:List Kn) (j:Nat):Option Kn:=ks.find? (fun k=>k.j == j)
def Ra (ks:List Kn) (t:Nat):Option Kn:=ks.find? (fun k=>k.d == t)
def G0 (o:Oper) (k:Kn):Oper:={ o with op:=.move (.const k.v) }
def CR (ks:List Kn):Nat→List Oper→List Oper
 | _,[]=>[]
 | i,o :: r=>(match Ky ks i with | some k=>G0 o k | none=>o) :: CR ks (i + 1) r
def Sw (l:List Oper) (t:Nat):Bool:=l.all fun o=>o.dst != some t
def QH (l:List Oper) (j t:Nat):Bool:=(List.range l.length).all fun i=>i == j || (l[i]?).all fun o=>o.dst != some t
def G7 (l:List Oper) (ks:List Kn) (size:Nat):Bool:=
 ks.all fun k=>decide (k.d < size) && QH l k.j k.d && match l[k.j]? with
  | none=>false
  | some o=>o.guard.isNone && o.dst == some k.d && k.needs.all fun p=>match Ra ks p.1 with
   | none=>Sw l p.1
   | some k'=>o.after.any fun e=>e.on == k'.j && Region.binds .any e
def Uf (a:Act) (ks:List Kn) (t:Nat):Value:=match Ra ks t with
 | some k=>k.v
 | none=>a.eval (.tmp t)
def Iq (a:Act) (ks:List Kn):List (Nat × Value)→Prop
 | []=>True
 | p :: r=>Uf a ks p.1=p.2∧Iq a ks r
def N0 (a:Act) (ks:List Kn):List Kn→Prop
 | []=>True
 | k :: r=>Iq a ks k.needs∧N0 a ks r
def GZ (A:Act):List (Nat × Value)→Prop
 | []=>True
 | p :: r=>A.eval (.tmp p.1)=p.2∧GZ A r
def Nq (P:Program) (l:List Oper):List Kn→Prop
 | []=>True
 | k :: r=>(∀ (A:Act) (w:World),GZ A k.needs→(execOp A.eval (l.getD k.j default)).run P w=.ok (.value k.v) w)∧Nq P l r
section
variable {P:Program} {l:List Oper} {ks:List Kn} {a0:Act}
theorem Gi:∀ (l:List Oper) (i:Nat),(CR ks i l).length=l.length
 | [],_=>rfl
 | o :: r,i=>by simp [CR,Gi r]
theorem MG:∀ (l:List Oper) (i j:Nat),(CR ks i l)[j]? = (l[j]?).map fun o=>match Ky ks (i + j) with | some k=>G0 o k | none=>o
 | [],i,j=>by simp [CR]
 | o :: r,i,0=>by simp [CR]
 | o :: r,i,j + 1=>by
  simp only [CR,List.getElem?_cons_succ]
  rw [MG r (i + 1) j,show i + 1 + j=i + (j + 1) by omega]
theorem Lt (j:Nat):(CR ks 0 l).toArray[j]? = (l.toArray[j]?).map fun o=>match Ky ks j with | some k=>G0 o k | none=>o:=by
 rw [List.getElem?_toArray,List.getElem?_toArray,MG,Nat.zero_add]
theorem Rg (j:Nat):(((CR ks 0 l).toArray[j]?).bind (·.dst))=((l.toArray[j]?).bind (·.dst)):=by
 rw [Lt]
 cases l.toArray[j]? with
 | none=>rfl
 | some o =>
  show (match Ky ks j with | some k=>G0 o k | none=>o).dst=o.dst
  split <;> rfl
theorem Mf (t:Array Value):yielded (CR ks 0 l).toArray t=yielded l.toArray t:=by
 funext j
 unfold yielded
 rw [Rg]
theorem JI (md:Region.Mode) (listed:Array Bool):Region.ready md (CR ks 0 l).toArray listed=Region.ready md l.toArray listed:=by
 unfold Region.ready
 have hs:(CR ks 0 l).toArray.size=l.toArray.size:=by simp [Gi]
 rw [hs]
 congr 1
 funext i
 rw [Lt]
 cases l.toArray[i]? with
 | none=>rfl
 | some o =>
  simp only [Option.map_some]
  have:(match Ky ks i with | some k=>G0 o k | none=>o).after=o.after:=by split <;> rfl
  rw [this]
theorem Tc {j:Nat} {k:Kn} (h:Ky ks j=some k):k∈ks∧k.j=j:=by
 unfold Ky at h
 have h1:=List.find?_some h
 exact ⟨List.mem_of_find?_eq_some h,by simpa using h1⟩
theorem Th {t:Nat} {k:Kn} (h:Ra ks t=some k):k∈ks∧k.d=t:=by
 unfold Ra at h
 have h1:=List.find?_some h
 exact ⟨List.mem_of_find?_eq_some h,by simpa using h1⟩
theorem Ig {a:Act}:∀ {r:List Kn},N0 a ks r→∀ k∈r,Iq a ks k.needs
 | k' :: r,h,k,hk=>by
  rcases List.mem_cons.1 hk with rfl | hk
  ·exact h.1
  ·exact Ig h.2 k hk
theorem Ic:∀ {r:List Kn},Nq P l r→∀ k∈r,∀ (A:Act) (w:World),GZ A k.needs→(execOp A.eval (l.getD k.j default)).run P w=.ok (.value k.v) w
 | k' :: r,h,k,hk=>by
  rcases List.mem_cons.1 hk with rfl | hk
  ·exact h.1
  ·exact Ic h.2 k hk
theorem UE {o:Oper} {a:Act} {K:Act→World→Prop} {Q:Exit→Act→World→Prop} {r:Result Next} (h:o.upon P a K Q r):o.upon P a (fun a' w'=>K a' w'∧∃ v,a'.tmps=(a.put o.dst v).tmps) Q r:=by
 cases r with
 | ok n w' =>
  cases n with
  | value v=>exact ⟨h,v,rfl⟩
  | skip=>exact ⟨h,undef,rfl⟩
  | defer d=>exact ⟨h,undef,by unfold Act.put;cases o.dst <;> rfl⟩
  | enter f args =>
   refine Calls.mono h fun e w'' hh=>?_
   cases e with
   | returned v=>exact ⟨hh,v,rfl⟩
   | panicked c=>exact hh
   | outgrown=>exact hh
  | row row args=>exact Rows.mono h fun v w'' hh=>⟨hh,v,rfl⟩
  | _=>exact h
 | halt x y=>cases x <;> exact h
theorem Vl {o:Oper} {a:Act} {w:World} {K:Act→World→Prop} {Q:Exit→Act→World→Prop} (h:o.wp P a w K Q):o.wp P a w (fun a' w'=>K a' w'∧∃ v,a'.tmps=(a.put o.dst v).tmps) Q:=UE h
theorem Ub {a a':Act} {dst:Option Tmp} {v:Value} {t:Nat} (h:a'.tmps=(a.put dst v).tmps) (hne:dst≠some t):a'.eval (.tmp t)=a.eval (.tmp t):=by
 show a'.tmps.getD t undef=a.tmps.getD t undef
 rw [h]
 unfold Act.put
 cases dst with
 | none=>rfl
 | some d =>
  have:d≠t:=fun e=>hne (by rw [e])
  simp only [Array.getD_eq_getD_getElem?,Array.getElem?_setIfInBounds_ne this]
theorem SE {a a':Act} {dst:Option Tmp} {v:Value} (h:a'.tmps=(a.put dst v).tmps):a'.tmps.size=a.tmps.size:=by
 rw [h]
 unfold Act.put
 cases dst <;> simp
theorem Ty {a:Act} {d:Nat} {v:Value} (h:d < a.tmps.size):(a.put (some d) v).eval (.tmp d)=v:=by
 show ((a.put (some d) v).tmps).getD d undef=v
 unfold Act.put
 simp only [Array.getD_eq_getD_getElem?,Array.getElem?_setIfInBounds_self_of_lt h,Option.getD_some]
structure SJ (l:List Oper) (ks:List Kn) (a0:Act) (listed:Array Bool) (a:Act):Prop where
 size:a.tmps.size=a0.tmps.size
 old:∀ t,Sw l t=true→a.eval (.tmp t)=a0.eval (.tmp t)
 new:∀ k∈ks,listed.getD k.j false=true→a.eval (.tmp k.d)=k.v
 down:U1 l.toArray listed
 lsz:listed.size=l.toArray.size
theorem UB {t:Nat} (h:Sw l t=true) {i:Nat} {o:Oper} (hi:l.toArray[i]? = some o):o.dst≠some t:=by
 unfold Sw at h
 rw [List.all_eq_true] at h
 have:=h o (List.mem_of_getElem? (by simpa using hi))
 simpa using this
theorem Tp {j t:Nat} (h:QH l j t=true) {i:Nat} {o:Oper} (hi:l.toArray[i]? = some o) (hne:i≠j):o.dst≠some t:=by
 unfold QH at h
 rw [List.all_eq_true] at h
 have hi2:l[i]? = some o:=by simpa using hi
 have hlt:=(List.getElem?_eq_some_iff.1 hi2).1
 have h1:=h i (List.mem_range.2 hlt)
 rw [hi2] at h1
 simp only [Bool.or_eq_true,beq_iff_eq,Option.all_some,bne_iff_ne] at h1
 rcases h1 with h1 | h1
 ·exact absurd h1 hne
 ·exact h1
structure KSt (l:List Oper) (ks:List Kn) (size:Nat) (k:Kn) (o:Oper):Prop where
 at_:l.toArray[k.j]? = some o
 lt:k.d < size
 only:QH l k.j k.d=true
 grd:o.guard=none
 dst:o.dst=some k.d
 needs:∀ p∈k.needs,match Ra ks p.1 with
  | none=>Sw l p.1=true
  | some k'=>∃ e∈o.after,e.on=k'.j∧Region.binds .any e=true
theorem G6 {size:Nat} (h:G7 l ks size=true) (k:Kn) (hk:k∈ks):∃ o,KSt l ks size k o:=by
 unfold G7 at h
 rw [List.all_eq_true] at h
 have h1:=h k hk
 simp only [Bool.and_eq_true,decide_eq_true_eq] at h1
 obtain⟨⟨h2,h3⟩,h4⟩:=h1
 split at h4
 ·cases h4
 ·rename_i o ho
  simp only [Bool.and_eq_true,Option.isNone_iff_eq_none,beq_iff_eq,List.all_eq_true] at h4
  refine ⟨o,by simpa using ho,h2,h3,h4.1.1,h4.1.2,fun p hp=>?_⟩
  have h5:=h4.2 p hp
  split at h5
  ·rename_i hn
   exact h5
  ·rename_i k' hn
   rw [Array.any_eq_true'] at h5
   obtain⟨e,he,h6⟩:=h5
   simp only [Bool.and_eq_true,beq_iff_eq] at h6
   exact ⟨e,he,h6.1,h6.2⟩
theorem SS {md:Region.Mode} {listed:Array Bool} {i:Nat} (h:i∈Region.ready md l.toArray listed):listed.getD i true=false∧∃ o,l.toArray[i]? = some o∧∀ e∈o.after,Region.binds md e=true→listed.getD e.on false=true:=by
 unfold Region.ready at h
 rw [List.mem_filter] at h
 obtain⟨h1,h2⟩:=h
 simp only [Bool.and_eq_true,Bool.not_eq_true'] at h2
 refine ⟨h2.1,?_⟩
 cases ho:l.toArray[i]? with
 | none=>rw [ho] at h2;cases h2.2
 | some o =>
  rw [ho] at h2
  refine ⟨o,rfl,fun e he hb=>?_⟩
  have h3:=h2.2
  simp only [Option.map_some,Option.getD_some,Array.all_eq_true_iff_forall_mem] at h3
  have:=h3 e he
  simpa [hb] using this
theorem Hx {listed:Array Bool} {i k:Nat} (h:k≠i):(listed.setIfInBounds i true).getD k false=listed.getD k false:=by
 simp only [Array.getD_eq_getD_getElem?,Array.getElem?_setIfInBounds_ne (Ne.symm h)]
theorem QF {listed:Array Bool} {i k:Nat} (h:listed.getD k false=true):(listed.setIfInBounds i true).getD k false=true:=by
 by_cases hk:k=i
 ·subst hk
  have hlt:k < listed.size:=by
   by_cases hlt:k < listed.size
   ·exact hlt
   ·simp [Array.getD_eq_getD_getElem?,Array.getElem?_eq_none (Nat.le_of_not_lt hlt)] at h
  simp only [Array.getD_eq_getD_getElem?,Array.getElem?_setIfInBounds_self_of_lt hlt,Option.getD_some]
 ·rw [Hx hk];exact h
theorem SJ.step {size:Nat} (hs:G7 l ks size=true) {listed:Array Bool} {a a':Act} {v:Value} {i:Nat} {o:Oper} (h:SJ l ks a0 listed a) (hi:l.toArray[i]? = some o) (hr:∀ e∈o.after,Region.binds .any e=true→listed.getD e.on false=true)
  (ht:a'.tmps=(a.put o.dst v).tmps) (hk:∀ k∈ks,k.j=i→a'.eval (.tmp k.d)=k.v):SJ l ks a0 (listed.setIfInBounds i true) a':=by
 refine ⟨(SE ht).trans h.size,fun t hn=>(Ub ht (UB hn hi)).trans (h.old t hn),fun k hk2 hl=>?_,fun j oj hj hl e he hb=>?_,by simpa using h.lsz⟩
 ·by_cases hki:k.j=i
  ·exact hk k hk2 hki
  ·rw [Hx hki] at hl
   obtain⟨ok,hst⟩:=G6 hs k hk2
   exact (Ub ht (Tp hst.only hi (fun e=>hki e.symm))).trans (h.new k hk2 hl)
 ·by_cases hji:j=i
  ·subst hji
   rw [hi] at hj
   injection hj with hj
   subst hj
   exact QF (hr e he hb)
  ·rw [Hx hji] at hl
   exact QF (h.down j oj hj hl e he hb)
theorem If {size:Nat} {listed:Array Bool} {a:Act} {k:Kn} {o:Oper} (h:SJ l ks a0 listed a) (hr:∀ e∈o.after,Region.binds .any e=true→listed.getD e.on false=true) (hst:KSt l ks size k o):∀ (r:List (Nat × Value)),(∀ p∈r,p∈k.needs)→Iq a0 ks r→GZ a r
 | [],_,_=>trivial
 | p :: r,hm,hn=>by
  refine ⟨?_,If h hr hst r (fun q hq=>hm q (List.mem_cons_of_mem _ hq)) hn.2⟩
  have h1:=hst.needs p (hm p (List.mem_cons_self ..))
  have h2:=hn.1
  unfold Uf at h2
  cases hq:Ra ks p.1 with
  | none =>
   rw [hq] at h1 h2
   exact (h.old p.1 h1).trans h2
  | some k' =>
   rw [hq] at h1 h2
   obtain⟨e,he,h3,h4⟩:=h1
   obtain⟨h5,h6⟩:=Th hq
   have:=h.new k' h5 (by rw [← h3];exact hr e he h4)
   rw [h6] at this
   exact this.trans h2
theorem GS {Q:Exit→Act→World→Prop} (hs:G7 l ks a0.tmps.size=true) (hv:N0 a0 ks ks) (hr:Nq P l ks):∀ (fuel:Nat) (listed:Array Bool) (a:Act) (w:World),SJ l ks a0 listed a→wpAny P .any (CR ks 0 l).toArray (AX Q) fuel listed a w→wpAny P .any l.toArray (AX Q) fuel listed a w
 | 0,listed,a,w,_,h=>by
  unfold wpAny at h ⊢
  rw [JI] at h
  exact h
 | fuel + 1,listed,a,w,hI,h=>by
  unfold wpAny at h ⊢
  rw [JI] at h
  refine ⟨h.1,fun i hi=>?_⟩
  have h2:=h.2 i hi
  obtain⟨_,o,ho,hrd⟩:=SS hi
  unfold wpOp at h2 ⊢
  rw [Mf] at h2
  rw [Lt,ho] at h2
  simp only [Option.map_some] at h2
  simp only [ho]
  cases hk:Ky ks i with
  | none =>
   rw [hk] at h2
   simp only at h2
   have hno:∀ k∈ks,k.j=i→False:=fun k hk2 e=>by
    unfold Ky at hk
    rw [List.find?_eq_none] at hk
    exact hk k hk2 (by simpa using e)
   split at h2
   ·rename_i hw
    rw [if_pos hw]
    rcases h2 with h2 | ⟨_,h2⟩
    ·refine .inl (Oper.wp_mono (fun a' w' hh=>?_) (Vl h2))
     obtain⟨h3,v,h4⟩:=hh
     exact GS hs hv hr fuel _ a' w' (hI.step hs ho hrd h4 (fun k hk2 e=>(hno k hk2 e).elim)) h3
    ·exact absurd h2 AX.lets
   ·rename_i hw
    rw [if_neg hw]
    exact GS hs hv hr fuel _ _ w (hI.step hs ho hrd (v:=undef) rfl (fun k hk2 e=>(hno k hk2 e).elim)) h2
  | some k =>
   rw [hk] at h2
   simp only at h2
   obtain⟨hkm,hkj⟩:=Tc hk
   obtain⟨ok,hst⟩:=G6 hs k hkm
   have hok:ok=o:=by
    have:=hst.at_
    rw [hkj,ho] at this
    injection this with this
    exact this.symm
   subst hok
   have hw:∀ y,Region.wanted ok y=true:=fun y=>by unfold Region.wanted;rw [hst.grd]
   have hw2:∀ y,Region.wanted (G0 ok k) y=true:=fun y=>by unfold Region.wanted G0;rw [hst.grd]
   rw [if_pos (hw2 _)] at h2
   rw [if_pos (hw _)]
   have hrun:=Ic hr k hkm a w (If hI hrd hst k.needs (fun _ h=>h) (Ig hv k hkm))
   have hgo:l.getD k.j default=ok:=by
    have:=hst.at_
    rw [List.getElem?_toArray] at this
    rw [List.getD_eq_getElem?_getD,this]
    rfl
   rw [hgo] at hrun
   rcases h2 with h2 | ⟨_,h2⟩
   ·refine .inl ?_
    have hm:(execOp a.eval (G0 ok k)).run P w=.ok (.value k.v) w:=rfl
    unfold Oper.wp at h2 ⊢
    rw [hm] at h2
    rw [hrun]
    rw [Oper.upon_value] at h2 ⊢
    have hd:(G0 ok k).dst=ok.dst:=rfl
    rw [hd] at h2
    refine GS hs hv hr fuel _ _ w (hI.step hs ho hrd (v:=k.v) rfl (fun k2 hk2 e=>?_)) h2
    have hkk:k2.d=k.d∧k2.v=k.v∨True:=.inr trivial
    obtain⟨o2,hst2⟩:=G6 hs k2 hk2
    have ho2:o2=ok:=by
     have:=hst2.at_
     rw [e,ho] at this
     injection this with this
     exact this.symm
    subst ho2
    have hdd:k2.d=k.d:=by
     have:=hst2.dst.symm.trans hst.dst
     injection this
    rw [hst.dst,hdd]
    have hrun2:=Ic hr k2 hk2 a w (If hI hrd hst2 k2.needs (fun _ h=>h) (Ig hv k2 hk2))
    have hj2:k2.j=k.j:=by rw [e,hkj]
    rw [hj2,hgo,hrun] at hrun2
    injection hrun2 with h8 _
    injection h8 with h8
    rw [← h8]
    exact Ty (by rw [hI.size];exact hst.lt)
   ·exact absurd h2 AX.lets
theorem Gs {id:Nat} {a:Act} {w:World} {Q:Exit→Act→World→Prop} (ks:List Kn) (hm:P.follows .mixedOrders=true) (hs:G7 l ks a.tmps.size=true) (hv:N0 a ks ks) (hr:Nq P l ks)
  (hB:Fm P (CR ks 0 l).toArray (Region.before (CR ks 0 l).toArray)=true)
  (h:wpList P (CR ks 0 l).toArray (AX Q) (CR ks 0 l) a w.drew):(Code.region id l.toArray true).wp P Q a w:=by
 refine Code.wp_mono AX.imp (wp_region_any hm ?_)
 have hz:(CR ks 0 l).toArray.size=l.toArray.size:=by simp [Gi]
 have hl0:(CR ks 0 l).length=l.length:=Gi l 0
 have key:wpAny P .any (CR ks 0 l).toArray (AX Q) l.toArray.size (Array.replicate l.toArray.size false) a w.drew:=by
  rw [← hz]
  generalize CR ks 0 l=l' at hB h
  have hleft:left l'.toArray (Array.replicate l'.toArray.size false)=List.range l'.length:=by
   unfold left
   rw [List.filter_eq_self.2 fun k hk=>by simp [Array.getD_eq_getD_getElem?,Array.getElem?_replicate];split <;> simp]
   simp
  refine JJ hB _ _ _ _ ?_ (by simp) (by rw [hleft];simp) ?_
  ·intro i o ho hl
   simp [Array.getD_eq_getD_getElem?,Array.getElem?_replicate] at hl
   split at hl <;> simp at hl
  ·rw [hleft,List.range_eq_range']
   exact Hs l' 0 a _ (fun j=>by simp) h
 refine GS hs hv hr _ _ a _ ⟨rfl,fun _ _=>rfl,fun k hk hl=>?_,?_,by simp⟩ key
 ·exfalso
  simp [Array.getD_eq_getD_getElem?,Array.getElem?_replicate] at hl
  split at hl <;> simp at hl
 ·intro i o ho hl
  simp [Array.getD_eq_getD_getElem?,Array.getElem?_replicate] at hl
  split at hl <;> simp at hl
end
section
variable {P:Program} {o:Oper} {A:Act} {w:World}
theorem Fj {t:Nat} {v:Value} (ho:o.op=.move (.tmp t)) (h:A.eval (.tmp t)=v):(execOp A.eval o).run P w=.ok (.value v) w:=by
 unfold execOp
 rw [ho]
 simp only [h,Sem.run_pure]
theorem US {op:BinOp} {ty ty2:TypeId} {x y:Operand} {k:IntKind} {a b:Int} {r:Value} (ho:o.op=.binOp op ty x y ty2) (hx:A.eval x=.int k a) (hy:A.eval y=.int k b) (hr:(binOp op ty (.int k a) (.int k b)).run P w=.ok r w):(execOp A.eval o).run P w=.ok (.value r) w:=by
 unfold execOp
 rw [ho]
 have hg:eqGuard op ty x y (.int k a) (.int k b)=pure ():=by cases op <;> rfl
 simp only [hx,hy,hg,Sem.run_bind,Sem.run_pure,Result.andThen_ok,hr]
theorem GH {ty ty2:TypeId} {x y:Operand} {a b c:Int} (ho:o.op=.binOp .sub ty x y ty2) (hx:A.eval x=.int .i64 a) (hy:A.eval y=.int .i64 b) (hc:IntKind.i64.wrap (a - b)=c):(execOp A.eval o).run P w=.ok (.value (.int .i64 c)) w:=
 US ho hx hy (by subst hc;rfl)
end
end Go.Proofs.YtmpcbaflcogmmaaGreatDoor
