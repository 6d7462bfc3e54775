/- Sign Kinds12 -/
import Derived.Laws.EntriesVeiled
import Derived.Test.YtmpcbaflcogmmaaGreatDoorKinds
namespace Go.Proofs.YtmpcbaflcogmmaaGreatDoor
open Go.RowKit
set_option linter.all false
set_option maxHeartbeats 400000
set_option maxRecDepth 100000
theorem PM.all {w:World} {B b off:Nat} {s:B8} (h:PM w B b off s):∃ g,B≤g∧g < w.heap.size∧w.cell? ⟨b,off,none⟩=some (.string s.name)∧w.cell? ⟨b,off + 1,none⟩=some (.slice (some ⟨g,0,none⟩) s.args.length s.args.length) ∧
  w.cell? ⟨b,off + 2,none⟩=some (.int .i8 s.tell)∧w.cell? ⟨b,off + 3,none⟩=some s.fn∧Blk w g 118 (s.args.map (Value.int .i8)).toArray:=by
 obtain⟨g,h1,h2,h3,h4⟩:=h
 exact ⟨g,h1,h2,h3 0 _ rfl,h3 1 _ rfl,h3 2 _ rfl,h3 3 _ rfl,h4⟩
theorem Tn (b len cap:Nat) (n:Int) (w:World) (_hlen:len≤1000) (h:n < 0∨(len:Int)≤n) :
  Calls Tryz.prog 199 #[.slice (some ⟨b,0,none⟩) len cap,.int .i64 n] w fun e w'=>e=.returned (.tuple #[.agg #[.string ByteArray.empty,.slice none 0 0,.int .i8 0,.nilFunc],.bool false])∧Below w.heap.size w w':=by
 by_cases h0:n < 0
 ·go_in
  go_wp2
  exact bodyPost_ret (v:=.tuple #[.agg #[.string ByteArray.empty,.slice none 0 0,.int .i8 0,.nilFunc],.bool false]) (by simp [results,Tryz.results199,go_sem];rfl) rfl ⟨rfl,(Below.refl _ _).alloc (Nat.le_refl _) _⟩
 ·have h1:(len:Int)≤n:=by omega
  go_in
  go_wp2
  exact bodyPost_ret (v:=.tuple #[.agg #[.string ByteArray.empty,.slice none 0 0,.int .i8 0,.nilFunc],.bool false]) (by simp [results,Tryz.results199,go_sem];rfl) rfl ⟨rfl,(Below.refl _ _).alloc (Nat.le_refl _) _⟩
theorem UA (B b:Nat) (l:List B8) (cap:Nat) (n:Nat) (s:B8) (w:World) (_hlen:l.length≤1000) (h:D0 w B b l) (hs:l[n]? = some s) :
  Calls Tryz.prog 199 #[.slice (some ⟨b,0,none⟩) l.length cap,.int .i64 n] w fun e w'=>∃ g,e=.returned (.tuple #[.agg (s.cells g).toArray,.bool true])∧B≤g∧Blk w' g 118 (s.args.map (Value.int .i8)).toArray∧Below w.heap.size w w':=by
 obtain⟨g,h1,h2,c0,c1,c2,c3,h4⟩:=(h.2.2 n s hs).all
 have hn:=(List.getElem?_eq_some_iff.1 hs).1
 have hb:=h.2.1
 obtain⟨F,hF⟩:∃ F,s.fn=.func (Fn.func F) #[] #[]:=⟨_,rfl⟩
 rw [hF] at c3
 obtain⟨HF,H4⟩:=Hd2 hF h4
 clear hF h4 hs h
 go_in
 go_wp2
 refine bodyPost_ret (v:=.tuple #[.agg #[.string s.name,.slice (some ⟨g,0,none⟩) s.args.length s.args.length,.int .i8 s.tell,.func (Fn.func F) #[] #[]],.bool true]) (by simp [results,Tryz.results199,go_sem]) rfl
  ⟨g,by simp [B8.cells,HF.out],h1,?_⟩
 have hbel:∀ w',Below w.heap.size w w'→Blk w' g 118 (s.args.map (Value.int .i8)).toArray∧Below w.heap.size w w':=fun w' hb=>⟨H4.out.below hb h2,hb⟩
 refine hbel _ ?_
 repeat (first | exact (Below.refl _ _).alloc (Nat.le_refl _) _ | refine Below.setCell ?_ (Nat.le_refl _) _)
def B8.cells3 (s:B8) (g:Nat):List Value:=[.string s.name,.slice (some ⟨g,0,none⟩) s.args.length s.args.length,.int .i8 s.tell]
def U8 (w:World) (B b off:Nat) (s:B8):Prop:=
 ∃ g,B≤g∧g < w.heap.size∧(∀ j v,(s.cells3 g)[j]? = some v→w.cell? ⟨b,off + j,none⟩=some v)∧Blk w g 118 (s.args.map (Value.int .i8)).toArray
def G5 (w:World) (B b:Nat) (l:List B8):Prop:=B≤b∧b < w.heap.size∧∀ i s,l[i]? = some s→U8 w B b (i * 3) s
theorem G5.below {w w':World} {B C b:Nat} {l:List B8} (h:G5 w B b l) (hb:Below C w w') (hC:w.heap.size≤C):G5 w' B b l:=by
 refine ⟨h.1,Nat.lt_of_lt_of_le h.2.1 hb.size,fun i s hs=>?_⟩
 obtain⟨g,h1,h2,h3,h4⟩:=h.2.2 i s hs
 exact ⟨g,h1,Nat.lt_of_lt_of_le h2 hb.size,fun j v hv=>(hb.cell (p:=⟨b,_,none⟩) (Nat.lt_of_lt_of_le h.2.1 hC)).trans (h3 j v hv),h4.below hb (Nat.lt_of_lt_of_le h2 hC)⟩
def DC (n:Nat):List B8→List Value
 | []=>[]
 | s :: l=>s.cells3 n ++ DC (n + 1) l
def Ct (w:World) (l:List B8):World:=(DB w (l.map B8.argsObj)).alloc (.cells (DC w.heap.size l).toArray 288)
theorem GM:∀ (l:List B8) (n i j:Nat) (s:B8) (v:Value),l[i]? = some s→(s.cells3 (n + i))[j]? = some v→(DC n l)[i * 3 + j]? = some v
 | [],n,i,j,s,v,h,_=>by simp at h
 | s0 :: l,n,0,j,s,v,h,hv=>by
  simp only [List.getElem?_cons_zero,Option.some.injEq] at h
  subst h
  have hj:j < 3:=(List.getElem?_eq_some_iff.1 hv).1
  rw [DC,Nat.zero_mul,Nat.zero_add,List.getElem?_append_left (by simpa [B8.cells3] using hj)]
  exact hv
 | s0 :: l,n,i + 1,j,s,v,h,hv=>by
  have:=GM l (n + 1) i j s v h (by rw [show n + 1 + i=n + (i + 1) by omega];exact hv)
  rw [DC,List.getElem?_append_right (by simp [B8.cells3];omega)]
  rw [← this]
  congr 1
  simp [B8.cells3];omega
section
variable (w:World)
include w
theorem D7 (l:List B8):G5 (Ct w l) w.heap.size (w.heap.size + l.length) l:=by
 have hsz:(DB w (l.map B8.argsObj)).heap.size=w.heap.size + l.length:=by rw [DU];simp
 refine ⟨by omega,by simp [Ct,hsz],fun i s hs=>⟨w.heap.size + i,by omega,?_,fun j v hv=>?_,?_⟩⟩
 ·have:=(List.getElem?_eq_some_iff.1 hs).1
  simp [Ct,hsz];omega
 ·have h1:=Blk.new (DB w (l.map B8.argsObj)) 288 (DC w.heap.size l).toArray
  have h2:=h1.cell (i * 3 + j)
  rw [hsz] at h2
  unfold Ct
  rw [h2,List.getElem?_toArray]
  exact GM l w.heap.size i j s v hs hv
 ·have hi:=(List.getElem?_eq_some_iff.1 hs).1
  have h0:(Ct w l).heap[w.heap.size + i]? = some s.argsObj:=by
   unfold Ct
   rw [Below.heap_alloc _ _ _ (by rw [hsz];omega),Ia,List.getElem?_map,hs]
   rfl
  exact h0
theorem D8 (l:List B8):Below w.heap.size w (Ct w l):=
 (Ge _ w _ (Nat.le_refl _)).alloc (by rw [DU];omega) _
theorem LX:Calls Tryz.prog 269 #[] w fun e w'=>e=.returned (.slice (some ⟨w.heap.size + 9,0,none⟩) 9 9)∧w'=Ct w Bu:=by
 go_in
 go_wp2
 go_ret
 exact ⟨rfl,rfl⟩
theorem Oy:Calls Tryz.prog 268 #[] w fun e w'=>e=.returned (.slice (some ⟨w.heap.size + 9,0,none⟩) 9 9)∧w'=Ct w Bz:=by
 go_in
 go_wp2
 go_ret
 exact ⟨rfl,rfl⟩
theorem IG:Calls Tryz.prog 249 #[] w fun e w'=>e=.returned (.slice (some ⟨w.heap.size + 13,0,none⟩) 13 13)∧w'=Ct w BU:=by
 go_in
 go_wp2
 go_ret
 exact ⟨rfl,rfl⟩
end
def F9 (which:Int):List B8:=if which=0 then BU else if which=1 then Bz else Bu
theorem PO (which:Int) (w:World):Calls Tryz.prog 252 #[.int .i64 which] w fun e w'=>∃ b,e=.returned (.slice (some ⟨b,0,none⟩) (F9 which).length (F9 which).length)∧G5 w' w.heap.size b (F9 which)∧Below w.heap.size w w':=by
 have h1:=IG w
 have h2:=Oy w
 have h3:=LX w
 unfold F9
 obtain⟨H1,H2,H3⟩:=Hd3 h1 h2 h3
 clear h1 h2 h3
 by_cases q0:which=0
 ·subst q0
  rw [if_pos rfl]
  go_in
  go_wp2_with fail
  refine H1.out.mono ?_
  rintro e w1 ⟨rfl,rfl⟩
  go_wp2_with fail
  go_ret
  exact ⟨_,rfl,D7 w BU,D8 w BU⟩
 rw [if_neg q0]
 have s0:(which == 0)=false:=by simp [q0]
 by_cases q1:which=1
 ·subst q1
  rw [if_pos rfl]
  go_in
  go_wp2_with fail
  refine H2.out.mono ?_
  rintro e w1 ⟨rfl,rfl⟩
  go_wp2_with fail
  go_ret
  exact ⟨_,rfl,D7 w Bz,D8 w Bz⟩
 rw [if_neg q1]
 have s1:(which == 1)=false:=by simp [q1]
 go_in
 go_wp2_with fail
 refine H3.out.mono ?_
 rintro e w1 ⟨rfl,rfl⟩
 go_wp2_with fail
 go_ret
 exact ⟨_,rfl,D7 w Bu,D8 w Bu⟩
end Go.Proofs.YtmpcbaflcogmmaaGreatDoor
