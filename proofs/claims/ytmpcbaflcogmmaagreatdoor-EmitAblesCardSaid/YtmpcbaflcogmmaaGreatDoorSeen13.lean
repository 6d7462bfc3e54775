/- Seen13 -/
import Derived.Laws.OwnMore
import Derived.Test.YtmpcbaflcogmmaaGreatDoorLook13
namespace Go.Proofs.YtmpcbaflcogmmaaGreatDoor
open Go.RowKit
set_option linter.all false
set_option maxHeartbeats 2000000
set_option maxRecDepth 100000
def Da:List Vr→Int→Option Vr
 | [],_=>none
 | v :: r,n=>if v.slot=n then some v else Da r n
def Mb:Option Vr→Value
 | none=>.agg #[.string ByteArray.empty,.int .i64 0,.int .i8 0,.bool false]
 | some v=>.agg v.cells.toArray
theorem KW:∀ (l:List Vr) (i j:Nat) (v:Vr) (u:Value),l[i]? = some v→v.cells[j]? = some u→(Cq l)[i * 4 + j]? = some u
 | [],i,j,v,u,h,_=>by simp at h
 | v0 :: r,0,j,v,u,h,hu=>by
  simp only [List.getElem?_cons_zero,Option.some.injEq] at h
  subst h
  have hj:=(List.getElem?_eq_some_iff.1 hu).1
  rw [show Cq (v0 :: r)=v0.cells ++ Cq r by simp [Cq],Nat.zero_mul,Nat.zero_add,List.getElem?_append_left hj]
  exact hu
 | v0 :: r,i + 1,j,v,u,h,hu=>by
  have:=KW r i j v u (by simpa using h) hu
  rw [show Cq (v0 :: r)=v0.cells ++ Cq r by simp [Cq],List.getElem?_append_right (by simp [Vr.cells];omega)]
  rw [← this]
  congr 1
  simp [Vr.cells]
  omega
theorem Pj (l:List Vr):(Cq l).length=l.length * 4:=by
 induction l with
 | nil=>rfl
 | cons v r ih=>rw [show Cq (v :: r)=v.cells ++ Cq r by simp [Cq],List.length_append,ih];simp [Vr.cells];omega
theorem Dy (B kb:Nat) (tv:Value) (s:RS) (n:Int) (w:World) (h:RK w B kb tv s) (hl:s.vars.length≤100000) :
  Calls Tryz.prog 206 #[.pointer (some ⟨kb,0,none⟩),.int .i64 n] w fun e w'=>e=.returned (.tuple #[Mb (Da s.vars n),.bool (Da s.vars n).isSome])∧RK w' B kb tv s∧Below w.heap.size w w':=by
 have hR:=h
 obtain⟨sv,vv,h1,h3,h4,h5⟩:=h
 obtain⟨m,hm⟩:∃ m,s.vars.length=m:=⟨_,rfl⟩
 obtain⟨F,hF⟩:=Ex0 (Da s.vars n)
 rw [← hF]
 rw [hm] at h5 hl
 obtain⟨A2,c2,rfl⟩:=AJ h5
 have k2:=h3.cell 2
 have hks:=h3.lt
 have hcells:∀ i v,s.vars[i]? = some v→∃ g,A2=some ⟨g,0,none⟩∧g < w.heap.size∧w.cell? ⟨g,i * 4,none⟩=some (.string ByteArray.empty)∧w.cell? ⟨g,i * 4 + 1,none⟩=some (.int .i64 v.slot)∧w.cell? ⟨g,i * 4 + 2,none⟩=some (.int .i8 v.kind)∧w.cell? ⟨g,i * 4 + 3,none⟩=some (.bool v.let_):=by
  intro i v hv
  have hi:=(List.getElem?_eq_some_iff.1 hv).1
  rcases h5.2 with ⟨e,e2⟩ | ⟨g,cap,cur,e,_⟩
  ·omega
  ·injection e with e _ _
   subst e
   have hlt:=(h5.lt g rfl).2
   have hc:∀ j u,v.cells[j]? = some u→w.cell? ⟨g,i * 4 + j,none⟩=some u:=fun j u hu=>by
    have hj:=(List.getElem?_eq_some_iff.1 hu).1
    rw [h5.cellAt (i * 4 + j) (by simp [Vr.cells] at hj;omega)]
    exact KW s.vars i j v u hv hu
   exact ⟨g,rfl,hlt,hc 0 _ rfl,hc 1 _ rfl,hc 2 _ rfl,hc 3 _ rfl⟩
 obtain⟨HR,HC,HF,HM⟩:=Hd4 hR hcells hF hm
 clear hR hcells hF hm h3 h4 h5
 go_in
 go_wp2_with fail
 go_loop [6] (fun iv=>∃ j:Nat,j≤m∧iv=.int .i64 j∧Hid (F=Da (s.vars.drop j) n)) (fun iv=>m - (intOf iv).toNat)
 case atStart=>exact ⟨0,by omega,rfl,by rw [List.drop_zero];exact HF.out⟩
 case round =>
  obtain⟨j,hj,rfl,H⟩:=hrel
  by_cases hlt:j < m
  ·obtain⟨v,hv⟩:∃ v,s.vars[j]? = some v:=⟨_,List.getElem?_eq_getElem (by rw [HM.out];exact hlt)⟩
   obtain⟨g,rfl,hg,c0,c1,c2',c3⟩:=HC.out j v hv
   have hdrop:s.vars.drop j=v :: s.vars.drop (j + 1):=by
    obtain⟨h2,h3⟩:=List.getElem?_eq_some_iff.1 hv
    rw [List.drop_eq_getElem_cons h2,h3]
   have hH:=H.out
   rw [hdrop,Da] at hH
   clear hv hdrop
   obtain⟨vs,vk,vl⟩:=v
   simp only at c1 c2' c3 hH
   by_cases he:vs=n
   ·subst he
    rw [if_pos rfl] at hH
    have HH:=Lh hH
    clear hH
    go_wp2_with fail
    exact bodyPost_ret (v:=.tuple #[.agg #[.string ByteArray.empty,.int .i64 vs,.int .i8 vk,.bool vl],.bool true]) (by simp [results,Tryz.results206,go_sem]) rfl ⟨by rw [HH.out];rfl,HR.out.alloc _,(Below.refl _ _).alloc (Nat.le_refl _) _⟩
   ·rw [if_neg he] at hH
    have HH:=Lh hH
    have s1:(vs == n)=false:=by simp [he]
    clear hH
    go_wp2_with fail
    go_round
    case rel=>exact ⟨j + 1,by omega,by go_num,HH.out⟩
    case measure=>(simp [intOf];try omega)
  ·have hfin:F=none:=by rw [H.out,List.drop_of_length_le (by rw [HM.out];omega)];rfl
   have HFN:=Lh hfin
   clear hfin
   go_wp2_with fail
   exact bodyPost_ret (v:=.tuple #[.agg #[.string ByteArray.empty,.int .i64 0,.int .i8 0,.bool false],.bool false]) (by simp [results,Tryz.results206,go_sem];try rfl) rfl ⟨by rw [HFN.out];rfl,HR.out.alloc _,(Below.refl _ _).alloc (Nat.le_refl _) _⟩
end Go.Proofs.YtmpcbaflcogmmaaGreatDoor
