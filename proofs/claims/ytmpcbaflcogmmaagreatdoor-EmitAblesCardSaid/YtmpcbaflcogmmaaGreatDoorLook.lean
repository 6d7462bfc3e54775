/- Look -/
import Derived.Test.YtmpcbaflcogmmaaGreatDoorProg
import Derived.BigGuardPart
import Derived.Test.YtmpcbaflcogmmaaGreatDoorKinds
namespace Go.Proofs.YtmpcbaflcogmmaaGreatDoor
open Go.RowKit
set_option linter.all false
structure LSt where
 slots:List Int
 seen:Int→Option Value
 bad:Bool
def CB:Mk Tryz.prog 3 Int:=Qw Tryz.prog 3 .i64 Tryz.underlying3
def LK (w:World) (B kb:Nat) (tv:Value) (s:LSt):Prop:=
 ∃ sv mb,B≤kb∧B≤mb∧Blk w kb 144 #[tv,sv,.map (some mb),.bool s.bad]∧MK CB w mb s.seen∧w.ownsRow B 118 1 sv s.slots.length (s.slots.map (Value.int .i8))
def LSt.must (s:LSt) (x:Bool):LSt:={ s with bad:=s.bad || !x }
theorem LK.setBad {w:World} {B kb:Nat} {tv:Value} {s:LSt} (h:LK w B kb tv s) (x:Bool):LK (w.setCell ⟨kb,3,none⟩ (.bool x)) B kb tv { s with bad:=x }:=by
 obtain⟨sv,mb,h1,h2,h3,h4,h5⟩:=h
 refine ⟨sv,mb,h1,h2,h3.set_ 3 _,h4.setCell _ (h4.blk_ne h3) _,Bm h5 (AR h5 h3 (by decide)) _⟩
theorem CD (B kb:Nat) (tv:Value) (s:LSt) (x:Bool) (w:World) (h:LK w B kb tv s) :
  Calls Tryz.prog 139 #[.pointer (some ⟨kb,0,none⟩),.bool x] w fun e w'=>e=.returned (.bool (!(s.must x).bad))∧LK w' B kb tv (s.must x)∧Frm B [144] w w':=by
 have h0:=h.setBad (s.bad || !x)
 have hc:w.cell? ⟨kb,3,none⟩=some (.bool s.bad):=by obtain⟨sv,mb,h1,h2,h3,_⟩:=h;exact h3.cell 3
 have hf:w.frozen? ⟨kb,3,none⟩=false:=by obtain⟨sv,mb,h1,h2,h3,_⟩:=h;exact h3.frozen 3
 have hfr:∀ u,Frm B [144] w (w.setCell ⟨kb,3,none⟩ u):=by obtain⟨sv,mb,h1,h2,h3,_⟩:=h;exact fun u=>(Frm.refl _ _ _).set_ h3 h1 (by simp) u
 have HFr:=Lh hfr
 clear hfr
 have H:=Lh h0
 clear h0 h
 cases hb:s.bad <;> cases x <;> simp only [hb] at hc H
 all_goals
  have HB:=Lh hb
  clear hb
  go_in
  go_wp2
  go_ret
  exact ⟨by simp [LSt.must,HB.out],by simpa [LSt.must,HB.out] using H.out,HFr.out _⟩
section
variable {w:World} {B kb:Nat} {tv:Value} {s:LSt} (h:LK w B kb tv s)
include w B kb tv s h
theorem LK.size:B≤kb∧kb < w.heap.size:=by
 obtain⟨sv,mb,h1,h2,h3,_⟩:=h
 exact ⟨h1,h3.lt⟩
theorem LK.cells:w.cell? ⟨kb,0,none⟩=some tv∧w.cell? ⟨kb,3,none⟩=some (.bool s.bad):=by
 obtain⟨sv,mb,h1,h2,h3,_⟩:=h
 exact ⟨h3.cell 0,h3.cell 3⟩
theorem LK.alloc (o:Obj):LK (w.alloc o) B kb tv s:=by
 obtain⟨sv,mb,h1,h2,h3,h4,h5⟩:=h
 exact ⟨sv,mb,h1,h2,h3.alloc o,h4.alloc CB o,h5.alloc o⟩
theorem LK.drew:LK w.drew B kb tv s:=h
theorem LK.drewN (n:Nat):LK (w.drewN n) B kb tv s:=h
end
theorem LK.congr {w:World} {B kb:Nat} {tv:Value} {s s':LSt} (h:LK w B kb tv s) (h1:s'.slots=s.slots) (h2:s'.seen=s.seen) (h3:s'.bad=s.bad):LK w B kb tv s':=by
 cases s;cases s';subst h1;subst h2;subst h3;exact h
def AO (x:Au) (kind n m:Int):Bool:=x.kind == kind && x.n == n && x.m == m && decide (0≤x.pos) && (x.text.toList.isEmpty || x.op == 52)
theorem Tr {w w1:World} {B kb:Nat} {tv:Value} {s:LSt} {b q:Bool} (h1:LK w1 B kb tv (s.must b)) (hb:Frm B [144] w w1) (e:q=b) :
  Ending.returned (.bool (!(s.must b).bad))=.returned (.bool (!(s.must q).bad))∧LK w1 B kb tv (s.must q)∧Frm B [144] w w1:=by subst e;exact ⟨rfl,h1,hb⟩
theorem EV (B kb tb toff cap:Nat) (ts:List Au) (s:LSt) (i:Nat) (x:Au) (kind n m:Int) (w:World) (h:LK w B kb (.slice (some ⟨tb,toff,none⟩) ts.length cap) s)
  (hx:ts[i]? = some x) (hn:As w tb toff ts) (_hlt:ts.length≤100000) :
  Calls Tryz.prog 141 #[.pointer (some ⟨kb,0,none⟩),.int .i64 i,.int .i8 kind,.int .i64 n,.int .i64 m] w fun e w'=>e=.returned (.bool (!(s.must (AO x kind n m)).bad))∧LK w' B kb (.slice (some ⟨tb,toff,none⟩) ts.length cap) (s.must (AO x kind n m))∧Frm B [144] w w':=by
 have hi:i < ts.length:=(List.getElem?_eq_some_iff.1 hx).1
 obtain⟨c0,c1,c2,c3,c4,c5,c6⟩:=hn.all hx
 obtain⟨k0,k3⟩:=h.cells
 obtain⟨hB,hks⟩:=h.size
 have H:=Lh h
 clear h
 go_in
 go_wp2_with fail
 all_goals
  refine (CD B kb _ s _ _ (H.out.alloc _)).mono ?_
  rintro e w1 ⟨rfl,h1,hb1⟩
  go_wp2
  go_ret
  refine Tr h1 (((Frm.refl _ _ _).alloc (by omega) _).trans hb1) ?_
  rcases Int.lt_or_le x.pos 0 with hp | hp
  ·first | (exfalso;omega) | simp [AO, *,Int.not_le.2 hp]
  ·first | (exfalso;omega) | simp [AO, *]
section
variable (B kb:Nat) (tv:Value) (slots:List Int) (seen:Int→Option Value) (w:World)
theorem BQ (h:LK w B kb tv ⟨slots,seen,false⟩):Calls Tryz.prog 139 #[.pointer (some ⟨kb,0,none⟩),.bool true] w fun e w'=>e=.returned (.bool true)∧LK w' B kb tv ⟨slots,seen,false⟩∧Frm B [144] w w':=
 (CD B kb tv _ true w h).mono fun _ _ hh=>hh
theorem Dq (bad:Bool) (h:LK w B kb tv ⟨slots,seen,bad⟩):Calls Tryz.prog 139 #[.pointer (some ⟨kb,0,none⟩),.bool false] w fun e w'=>e=.returned (.bool false)∧LK w' B kb tv ⟨slots,seen,true⟩∧Frm B [144] w w':=
 (CD B kb tv _ false w h).mono fun _ _ hh=>by simpa [LSt.must] using hh
end
section
variable (B kb tb toff cap:Nat) (ts:List Au) (slots:List Int) (seen:Int→Option Value) (i:Nat) (x:Au) (kind n m:Int) (w:World)
theorem Cl (hy:AO x kind n m=true) (h:LK w B kb (.slice (some ⟨tb,toff,none⟩) ts.length cap) ⟨slots,seen,false⟩) (hx:ts[i]? = some x) (hn:As w tb toff ts) (hlt:ts.length≤100000) :
  Calls Tryz.prog 141 #[.pointer (some ⟨kb,0,none⟩),.int .i64 i,.int .i8 kind,.int .i64 n,.int .i64 m] w fun e w'=>e=.returned (.bool true)∧LK w' B kb (.slice (some ⟨tb,toff,none⟩) ts.length cap) ⟨slots,seen,false⟩∧Frm B [144] w w':=
 (EV B kb tb toff cap ts _ i x kind n m w h hx hn hlt).mono fun _ _ hh=>by simpa [LSt.must,hy] using hh
theorem DI (bad:Bool) (hy:AO x kind n m=false) (h:LK w B kb (.slice (some ⟨tb,toff,none⟩) ts.length cap) ⟨slots,seen,bad⟩) (hx:ts[i]? = some x) (hn:As w tb toff ts) (hlt:ts.length≤100000) :
  Calls Tryz.prog 141 #[.pointer (some ⟨kb,0,none⟩),.int .i64 i,.int .i8 kind,.int .i64 n,.int .i64 m] w fun e w'=>e=.returned (.bool false)∧LK w' B kb (.slice (some ⟨tb,toff,none⟩) ts.length cap) ⟨slots,seen,true⟩∧Frm B [144] w w':=
 (EV B kb tb toff cap ts _ i x kind n m w h hx hn hlt).mono fun _ _ hh=>by simpa [LSt.must,hy] using hh
end
end Go.Proofs.YtmpcbaflcogmmaaGreatDoor
