/- Package bound's walk: sides; what lies in memory in node. walk.node: its contract; its first lines. -/
import Derived.Test.YtggibiodeecljaaMTree9
import Derived.Test.YtggibiodeecljaaMAble0
import Derived.Deep.DeepCutAuto
import Derived.Test.YtggibiodeecljaaMBlock
import Derived.Deep.OwnRows
namespace Go.Proofs.Ytggibiodeecljaa
open Go.RowKit
theorem gvals_blk {w : World} {b : Nat} {t : TypeId} {l : List Int} (h : Blk w b t (gvals l).toArray) : CellsAt w b 0 (gvals l) := by
 intro k v hk
 rw [Nat.zero_add, h.cell k, ← hk]
 simp
theorem gone (w : World) (x : Int) : CellsAt (w.alloc (.cells #[.int .i64 x] 86)) w.heap.size 0 (gvals [x]) := gvals_blk (Blk.new w _ _)
set_option maxRecDepth 100000 in
set_option maxHeartbeats 800000 in
/-- node's closure 'sides'. -/
theorem sides_any (bx lb cl n : Nat) (block : Int) (l : List Int) (w : World) (hn : l.length = n) (hnl : n ≤ 100000) (hx : Blk w bx 145 #[.slice (some ⟨lb, 0, none⟩) n cl]) (hl : Blk w lb 86 (gvals l).toArray) (hb : IsGas block) :
  Calls Try.prog 86 #[.int .i64 block, .pointer (some ⟨bx, 0, none⟩)] w fun e w' => e = .returned (.int .i64 (gsides l block)) ∧ Below w.heap.size w w' := by
 have c0 := hx.cell 0
 have hz := hx.lt
 have hzl := hl.lt
 unfold gsides
 rw [hn]
 have HX := Lh hx
 have HL := Lh hl
 have HN := Lh hn
 have HB := Lh hb
 clear hx hl hn hb
 by_cases h3 : n < 3
 ·rw [if_pos h3]
  have h3I : (n : Int) < 3 := by omega
  go_enter Try.func86, Try.ntmps86
  go_wp2_with fail
  go_ret
  exact ⟨rfl, (Below.refl _ _).alloc (Nat.le_refl _) _⟩
 ·rw [if_neg h3]
  have h3I : (3 : Int) ≤ n := by omega
  have b0 := Blk.new w 86 #[.int .i64 block]
  have hadd := add_any w.heap.size (w.heap.size + 1) 0 1 1 block [1] ((w.alloc (.cells #[.int .i64 block] 86)).alloc (.cells #[.int .i64 1] 86)) rfl (by omega) (b0.alloc _)
   (by have := gone (w.alloc (.cells #[.int .i64 block] 86)) 1; simpa using this) (by omega) (by simp) HB.out (by intro x hx; simp at hx; subst hx; unfold IsGas maxB; omega)
  have HAD := Lh hadd
  clear hadd
  go_enter Try.func86, Try.ntmps86
  go_wp2_with fail
  refine HAD.out.mono ?_
  rintro e w1 ⟨rfl, hb1, hg1⟩
  have d0 := hb1.cell 0
  have x1 := gb_blk hg1 ((HX.out.alloc _).alloc _) (by intro e; injection e with e; omega)
  have l1 := gb_blk hg1 ((HL.out.alloc _).alloc _) (by intro e; injection e with e; omega)
  have e0 := x1.cell 0
  have e2 : w1.cell? ⟨lb, 2, none⟩ = some (.int .i64 (l.getD 2 0)) := by
   rw [l1.cell 2]
   have : l[2]? = some (l.getD 2 0) := by rw [List.getD_eq_getElem?_getD, List.getElem?_eq_getElem (by rw [HN.out]; omega)]; rfl
   simp only [gvals, List.getElem?_toArray, List.getElem?_map, this]
   rfl
  have hbel : Below w.heap.size w w1 := (((Below.refl _ _).alloc (Nat.le_refl _) _).alloc (by simp) _).grown hg1 (by simp; omega) (fun k hk => by injection hk with hk; omega)
  have HBE := Lh hbel
  clear hb1 x1 l1 hg1 hbel
  have hfo : ([1] : List Int).foldl gadd block = gadd block 1 := rfl
  rw [hfo] at d0
  obtain ⟨bl1, hbl1⟩ : ∃ b, b = gadd block 1 := ⟨_, rfl⟩
  rw [← hbl1] at d0
  have HBL := Lh hbl1
  clear hbl1 hfo
  go_wp2_with fail
  refine wp_region_text (by kernel_rfl) (by kernel_rfl) ?_
  go_wp2_with fail
  refine (greater_any bl1 (l.getD 2 0) _).mono ?_
  rintro e w2 ⟨rfl, rfl⟩
  go_wp2_with fail
  refine Only.normal ?_
  go_wp2_with fail
  go_ret
  exact ⟨by simp [HBL.out], HBE.out.drew⟩
/-- What lies in memory in walk.node. -/
structure GC (w0 : World) (wb tb toff cap : Nat) (ts : List Node) (c at_ : Int) (x : Node) (nb lb lx sb K : Nat) (cells : List Int) (S : Int) (w : World) : Prop where
 gr : w0.grownBy w (some wb)
 hwb : wb < w0.heap.size
 htb : tb < w0.heap.size
 hne : tb ≠ wb
 nodes : NodesAt w tb toff ts
 bw : Blk w wb 85 #[.slice (some ⟨tb, toff, none⟩) ts.length cap, .int .i64 at_, .int .i64 c]
 bn : Blk w nb 42 x.cells.toArray
 bl : Blk w lb 86 (gvals cells).toArray
 bx : Blk w lx 145 #[.slice (some ⟨lb, 0, none⟩) K K]
 bs : Blk w sb 86 #[.int .i64 S]
 len : cells.length = K
 o1 : w0.heap.size ≤ nb
 o2 : nb < lb
 o3 : lb < lx
 o4 : lx < sb
section
variable {w0 w w' : World} {wb tb toff cap : Nat} {ts : List Node} {c at_ : Int} {x : Node} {nb lb lx sb K : Nat} {cells : List Int} {S S' : Int}
/-- A step that turns at most one block, none of these. -/
theorem GC.other (h : GC w0 wb tb toff cap ts c at_ x nb lb lx sb K cells S w) {row : Option Nat} (hg : w.grownBy w' row) (hr : ∀ g, row = some g → w.heap.size ≤ g ∨ (sb < g)) : GC w0 wb tb toff cap ts c at_ x nb lb lx sb K cells S w' := by
 have h1 := h.bs.lt
 have h2 := h.gr.size
 have hbig : ∀ g, g ≤ sb → some g ≠ row := fun g hg e => by
  have := hr g e.symm
  omega
 have ho1 := h.o1
 have ho2 := h.o2
 have ho3 := h.o3
 have ho4 := h.o4
 have hw := h.hwb
 have ht := h.htb
 refine ⟨gb_trans h.gr hg (fun g e => .inr (by have := hr g e; omega)), h.hwb, h.htb, h.hne, ?_, h.bw.grown hg (hbig _ (by omega)), h.bn.grown hg (hbig _ (by omega)), h.bl.grown hg (hbig _ (by omega)), h.bx.grown hg (hbig _ (by omega)), h.bs.grown hg (hbig _ (by omega)), h.len, h.o1, h.o2, h.o3, h.o4⟩
 intro i y hy j v hv
 rw [← h.nodes i y hy j v hv]
 unfold World.cell?
 rw [hg.block tb (by omega) (hbig tb (by omega))]
theorem GC.alloc (h : GC w0 wb tb toff cap ts c at_ x nb lb lx sb K cells S w) (o : Obj) : GC w0 wb tb toff cap ts c at_ x nb lb lx sb K cells S (w.alloc o) := h.other (gb_alloc w o none) (fun g e => by cases e)
theorem GC.drew (h : GC w0 wb tb toff cap ts c at_ x nb lb lx sb K cells S w) : GC w0 wb tb toff cap ts c at_ x nb lb lx sb K cells S w.drew := h.other (gb_drew (gb_refl w none)) (fun g e => by cases e)
theorem GC.drewN (h : GC w0 wb tb toff cap ts c at_ x nb lb lx sb K cells S w) (n : Nat) : GC w0 wb tb toff cap ts c at_ x nb lb lx sb K cells S (w.drewN n) := h.other (row := none) ⟨rfl, rfl, rfl, Nat.le_refl _, fun _ _ _ => rfl⟩ (fun g e => by cases e)
/-- The sum turns. -/
theorem GC.sum (h : GC w0 wb tb toff cap ts c at_ x nb lb lx sb K cells S w) (hb : Blk w' sb 86 #[.int .i64 S']) (hg : w.grownBy w' (some sb)) : GC w0 wb tb toff cap ts c at_ x nb lb lx sb K cells S' w' := by
 have h1 := h.bs.lt
 have h2 := h.gr.size
 have ho1 := h.o1
 have ho2 := h.o2
 have ho3 := h.o3
 have ho4 := h.o4
 have hw := h.hwb
 have ht := h.htb
 have hbig : ∀ g, g < sb → some g ≠ some sb := fun g hg e => by injection e with e; omega
 refine ⟨gb_trans h.gr hg (fun g e => .inr (by injection e with e; omega)), h.hwb, h.htb, h.hne, ?_, h.bw.grown hg (hbig _ (by omega)), h.bn.grown hg (hbig _ (by omega)), h.bl.grown hg (hbig _ (by omega)), h.bx.grown hg (hbig _ (by omega)), hb, h.len, h.o1, h.o2, h.o3, h.o4⟩
 intro i y hy j v hv
 rw [← h.nodes i y hy j v hv]
 unfold World.cell?
 rw [hg.block tb (by omega) (hbig tb (by omega))]
theorem GC.setSum (h : GC w0 wb tb toff cap ts c at_ x nb lb lx sb K cells S w) (S' : Int) : GC w0 wb tb toff cap ts c at_ x nb lb lx sb K cells S' (w.setCell ⟨sb, 0, none⟩ (.int .i64 S')) :=
 h.sum (h.bs.set_ 0 _) (grownBy_set _ rfl _)
/-- One of the costs turns. -/
theorem GC.setCost (h : GC w0 wb tb toff cap ts c at_ x nb lb lx sb K cells S w) (k : Nat) (v : Int) : GC w0 wb tb toff cap ts c at_ x nb lb lx sb K (cells.set k v) S (w.setCell ⟨lb, k, none⟩ (.int .i64 v)) := by
 have h1 := h.bs.lt
 have h2 := h.gr.size
 have ho1 := h.o1
 have ho2 := h.o2
 have ho3 := h.o3
 have ho4 := h.o4
 have hw := h.hwb
 have ht := h.htb
 have hbl := h.bl.set_ k (.int .i64 v)
 have e : (gvals cells).toArray.setIfInBounds k (.int .i64 v) = (gvals (cells.set k v)).toArray := by
  rw [List.setIfInBounds_toArray]
  unfold gvals
  rw [List.map_set]
 rw [e] at hbl
 refine ⟨gb_trans h.gr (grownBy_set _ rfl _) (fun g e => .inr (by injection e with e; simp only at e; omega)), h.hwb, h.htb, h.hne, ?_, h.bw.far (by simp only; omega) _, h.bn.far (by simp only; omega) _, hbl, h.bx.far (by simp only; omega) _, h.bs.far (by simp only; omega) _, by rw [List.length_set]; exact h.len, h.o1, h.o2, h.o3, h.o4⟩
 intro i y hy j u hu
 rw [← h.nodes i y hy j u hu]
 unfold World.cell?
 rw [Below.heap_setCell w _ _ tb (by simp only; omega)]
/-- The walk's place turns, by a call below. -/
theorem GC.went (h : GC w0 wb tb toff cap ts c at_ x nb lb lx sb K cells S w) (a' : Int) (hb : Blk w' wb 85 #[.slice (some ⟨tb, toff, none⟩) ts.length cap, .int .i64 a', .int .i64 c]) (hg : w.grownBy w' (some wb)) : GC w0 wb tb toff cap ts c a' x nb lb lx sb K cells S w' := by
 have h1 := h.bs.lt
 have h2 := h.gr.size
 have ho1 := h.o1
 have ho2 := h.o2
 have ho3 := h.o3
 have ho4 := h.o4
 have hw := h.hwb
 have ht := h.htb
 have hbig : ∀ g, g ≠ wb → some g ≠ some wb := fun g hg e => hg (by injection e)
 exact ⟨gb_trans h.gr hg (fun g e => .inl (by injection e with e; exact e.symm)), h.hwb, h.htb, h.hne, gb_nodes hg h.nodes (by omega) h.hne, hb, h.bn.grown hg (hbig _ (by omega)), h.bl.grown hg (hbig _ (by omega)), h.bx.grown hg (hbig _ (by omega)), h.bs.grown hg (hbig _ (by omega)), h.len, h.o1, h.o2, h.o3, h.o4⟩
end
end Go.Proofs.Ytggibiodeecljaa
namespace Go.Proofs.Ytggibiodeecljaa
open Go.RowKit
/-- node at one place: what it answers (r). -/
def NodeAtW (wb tb toff cap : Nat) (ts : List Node) (c : Int) (r : Int) (i : Nat) : Prop :=
 ∀ w, Blk w wb 85 #[.slice (some ⟨tb, toff, none⟩) ts.length cap, .int .i64 i, .int .i64 c] → NodesAt w tb toff ts → tb < w.heap.size →
  Calls Try.prog 47 #[.pointer (some ⟨wb, 0, none⟩)] w fun e w' => e = .returned (.int .i64 r) ∧
   Blk w' wb 85 #[.slice (some ⟨tb, toff, none⟩) ts.length cap, .int .i64 (behind ts i), .int .i64 c] ∧ w.grownBy w' (some wb)
theorem infoGas : (Try.prog.info? 86).map (fun i => (i.zero, i.size, i.bytes)) = some (some (.int .i64 0), 1, 8) := by kernel_rfl
theorem made_gvals (K : Nat) : madeCells #[Value.int .i64 0] K = (gvals (List.replicate K 0)).toArray := by
 have := toList_madeCells_one (.int .i64 0) K
 rw [← Array.toArray_toList (xs := madeCells #[Value.int .i64 0] K), this]
 simp [gvals]
theorem kids_count {ts : List Node} {i : Nat} {x : Node} (hx : ts[i]? = some x) (hbe : 0 ≤ behind ts i) : ∃ K : Nat, x.kids = K ∧ (kidsOf ts i).length = K := by
 have hg : ts.getD i node0 = x := by rw [List.getD_eq_getElem?_getD, hx]; rfl
 rw [behind_eq] at hbe
 rcases hz : (sizes ts.length ts)[i]? with _ | _ | z <;> rw [hz] at hbe <;> simp only at hbe
 ·omega
 ·omega
 ·have hk := size_kids hx hz
  refine ⟨x.kids.toNat, by omega, ?_⟩
  unfold kidsOf
  rw [behind_eq, hz, if_neg (by simp only; omega), kidsFrom_length, hg]
theorem take_set_succ : ∀ (l : List Int) (k : Nat) (v : Int), k < l.length → (l.set k v).take (k + 1) = l.take k ++ [v]
 | [], k, v, h => by simp at h
 | a :: l, 0, v, _ => by simp
 | a :: l, k + 1, v, h => by simp [take_set_succ l k v (by simpa using h)]
/-- What stands in memory ahead of the loop. -/
theorem gc_start {w : World} {wb tb toff cap : Nat} {ts : List Node} {c : Int} {i K : Nat} {x : Node} (hw : Blk w wb 85 #[.slice (some ⟨tb, toff, none⟩) ts.length cap, .int .i64 i, .int .i64 c]) (hn : NodesAt w tb toff ts) (htb : tb < w.heap.size) (hne : tb ≠ wb)
  {o0 o1 : Obj} (h0 : o0 = .cells x.cells.toArray 42) (h1 : o1 = .cells (gvals (List.replicate K 0)).toArray 86) :
  GC w wb tb toff cap ts c (i + 1 : Nat) x w.heap.size (w.heap.size + 1) (w.heap.size + 1 + 1) (w.heap.size + 1 + 1 + 1) K (List.replicate K 0) 0
   (((((w.setCell ⟨wb, 1, none⟩ (.int .i64 ((i : Int) + 1))).alloc o0).alloc o1).alloc (.cells #[.slice (some ⟨w.heap.size + 1, 0, none⟩) K K] 145)).alloc (.cells #[.int .i64 0] 86)).drew := by
 subst h0 h1
 have hwb := hw.lt
 have hw2 := hw.set_ 1 (.int .i64 ((i : Int) + 1))
 have hg1 : w.grownBy (w.setCell ⟨wb, 1, none⟩ (.int .i64 ((i : Int) + 1))) (some wb) := grownBy_set _ rfl _
 have hn1 := gb_nodes hg1 hn htb hne
 generalize hW1 : w.setCell ⟨wb, 1, none⟩ (.int .i64 ((i : Int) + 1)) = W1 at *
 have hs1 : W1.heap.size = w.heap.size := by rw [← hW1]; simp [World.setCell]
 have r0 := Blk.new W1 42 x.cells.toArray
 have r1 := Blk.new (W1.alloc (.cells x.cells.toArray 42)) 86 (gvals (List.replicate K 0)).toArray
 have r2 := Blk.new ((W1.alloc (.cells x.cells.toArray 42)).alloc (.cells (gvals (List.replicate K 0)).toArray 86)) 145 #[.slice (some ⟨w.heap.size + 1, 0, none⟩) K K]
 have r3 := Blk.new (((W1.alloc (.cells x.cells.toArray 42)).alloc (.cells (gvals (List.replicate K 0)).toArray 86)).alloc (.cells #[.slice (some ⟨w.heap.size + 1, 0, none⟩) K K] 145)) 86 #[.int .i64 0]
 simp only [World.size_alloc, hs1] at r0 r1 r2 r3
 have hB : Below W1.heap.size W1 ((((W1.alloc (.cells x.cells.toArray 42)).alloc (.cells (gvals (List.replicate K 0)).toArray 86)).alloc (.cells #[.slice (some ⟨w.heap.size + 1, 0, none⟩) K K] 145)).alloc (.cells #[.int .i64 0] 86)).drew :=
  (((((Below.refl _ _).alloc (Nat.le_refl _) _).alloc (by simp) _).alloc (by simp; omega) _).alloc (by simp; omega) _).drew
 refine ⟨gb_trans hg1 (gb_below hB none) (fun g e => by cases e), hwb, htb, hne, hn1.below hB (by omega), ?_, (((r0.alloc _).alloc _).alloc _).drew, ((r1.alloc _).alloc _).drew, (r2.alloc _).drew, r3.drew, by simp, by omega, by omega, by omega, by omega⟩
 have : (#[Value.slice (some ⟨tb, toff, none⟩) ts.length cap, .int .i64 i, .int .i64 c] : Array Value).setIfInBounds 1 (.int .i64 ((i : Int) + 1)) = #[.slice (some ⟨tb, toff, none⟩) ts.length cap, .int .i64 ((i + 1 : Nat) : Int), .int .i64 c] := by simp
 rw [this] at hw2
 exact hw2.below hB (by omega)
section
variable {w0 w : World} {wb tb toff cap : Nat} {ts : List Node} {c atp : Int} {x : Node} {nb lb lx sb K : Nat} {cells : List Int} {S : Int}
theorem GC.at_ (h : GC w0 wb tb toff cap ts c atp x nb lb lx sb K cells S w) (k : Nat) (hk : k < K) : w.cell? ⟨lb, k, none⟩ = some (.int .i64 (cells.getD k 0)) := by
 rw [h.bl.cell k]
 have hl := h.len
 have : cells[k]? = some (cells.getD k 0) := by rw [List.getD_eq_getElem?_getD, List.getElem?_eq_getElem (by omega)]; rfl
 simp only [gvals, List.getElem?_toArray, List.getElem?_map, this]
 rfl
theorem GC.cells_ (h : GC w0 wb tb toff cap ts c atp x nb lb lx sb K cells S w) : w.cell? ⟨nb, 0, none⟩ = some (.int .i8 x.op) ∧ w.cell? ⟨nb, 2, none⟩ = some (.int .i64 x.n) ∧ w.cell? ⟨lx, 0, none⟩ = some (.slice (some ⟨lb, 0, none⟩) K K) ∧ w.cell? ⟨sb, 0, none⟩ = some (.int .i64 S) ∧ w.cell? ⟨wb, 2, none⟩ = some (.int .i64 c) :=
 ⟨h.bn.cell 0, h.bn.cell 2, h.bx.cell 0, h.bs.cell 0, h.bw.cell 2⟩
end
end Go.Proofs.Ytggibiodeecljaa
