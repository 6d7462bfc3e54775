/- walk.node: its contract; its first lines. -/
import Derived.Test.YtggibiodeecljaaWalk
import Derived.Test.YtggibiodeecljaaStmt3
import Derived.Deep.OwnRows
namespace Go.Proofs.Ytggibiodeecljaa
open Go.RowKit

/-- node at one place: what it answers (r). -/
def NodeAtW (wb tb toff cap : Nat) (ts : List Node) (c : Int) (r : Int) (i : Nat) : Prop :=
  ∀ w, Blk w wb 85 #[.slice (some ⟨tb, toff, none⟩) ts.length cap, .int .i64 i, .int .i64 c] → NodesAt w tb toff ts → tb < w.heap.size →
    Calls Try.prog 47 #[.pointer (some ⟨wb, 0, none⟩)] w fun e w' => e = .returned (.int .i64 r) ∧
      Blk w' wb 85 #[.slice (some ⟨tb, toff, none⟩) ts.length cap, .int .i64 (behind ts i), .int .i64 c] ∧ w.grownBy w' (some wb)

theorem infoGas : (Try.prog.info? 86).map (fun i => (i.zero, i.size, i.bytes)) = some (some (.int .i64 0), 1, 8) := by kernel_rfl
theorem made_gvals (K : Nat) : madeCells #[Value.int .i64 0] K = (gvals (List.replicate K 0)).toArray := by
  have := toList_madeCells_one (.int .i64 0) K
  rw [← Array.toArray_toList (xs := madeCells #[Value.int .i64 0] K), this]
  simp [gvals]

theorem kids_count {ts : List Node} {i : Nat} {x : Node} (hx : ts[i]? = some x) (hbe : 0 ≤ behind ts i) : ∃ K : Nat, x.kids = K ∧ (kidsOf ts i).length = K := by
  have hg : ts.getD i node0 = x := by rw [List.getD_eq_getElem?_getD, hx]; rfl
  rw [behind_eq] at hbe
  rcases hz : (sizes ts.length ts)[i]? with _ | _ | z <;> rw [hz] at hbe <;> simp only at hbe
  · omega
  · omega
  · have hk := size_kids hx hz
    refine ⟨x.kids.toNat, by omega, ?_⟩
    unfold kidsOf
    rw [behind_eq, hz, if_neg (by simp only; omega), kidsFrom_length, hg]
theorem take_set_succ : ∀ (l : List Int) (k : Nat) (v : Int), k < l.length → (l.set k v).take (k + 1) = l.take k ++ [v]
  | [], k, v, h => by simp at h
  | a :: l, 0, v, _ => by simp
  | a :: l, k + 1, v, h => by simp [take_set_succ l k v (by simpa using h)]
/-- What stands in memory ahead of the loop. -/
theorem gc_start {w : World} {wb tb toff cap : Nat} {ts : List Node} {c : Int} {i K : Nat} {x : Node} (hw : Blk w wb 85 #[.slice (some ⟨tb, toff, none⟩) ts.length cap, .int .i64 i, .int .i64 c]) (hn : NodesAt w tb toff ts) (htb : tb < w.heap.size) (hne : tb ≠ wb)
    {o0 o1 : Obj} (h0 : o0 = .cells x.cells.toArray 42) (h1 : o1 = .cells (gvals (List.replicate K 0)).toArray 86) :
    GC w wb tb toff cap ts c (i + 1 : Nat) x w.heap.size (w.heap.size + 1) (w.heap.size + 1 + 1) (w.heap.size + 1 + 1 + 1) K (List.replicate K 0) 0
      (((((w.setCell ⟨wb, 1, none⟩ (.int .i64 ((i : Int) + 1))).alloc o0).alloc o1).alloc (.cells #[.slice (some ⟨w.heap.size + 1, 0, none⟩) K K] 145)).alloc (.cells #[.int .i64 0] 86)).drew := by
  subst h0 h1
  have hwb := hw.lt
  have hw2 := hw.set_ 1 (.int .i64 ((i : Int) + 1))
  have hg1 : w.grownBy (w.setCell ⟨wb, 1, none⟩ (.int .i64 ((i : Int) + 1))) (some wb) := grownBy_set _ rfl _
  have hn1 := gb_nodes hg1 hn htb hne
  generalize hW1 : w.setCell ⟨wb, 1, none⟩ (.int .i64 ((i : Int) + 1)) = W1 at *
  have hs1 : W1.heap.size = w.heap.size := by rw [← hW1]; simp [World.setCell]
  have r0 := Blk.new W1 42 x.cells.toArray
  have r1 := Blk.new (W1.alloc (.cells x.cells.toArray 42)) 86 (gvals (List.replicate K 0)).toArray
  have r2 := Blk.new ((W1.alloc (.cells x.cells.toArray 42)).alloc (.cells (gvals (List.replicate K 0)).toArray 86)) 145 #[.slice (some ⟨w.heap.size + 1, 0, none⟩) K K]
  have r3 := Blk.new (((W1.alloc (.cells x.cells.toArray 42)).alloc (.cells (gvals (List.replicate K 0)).toArray 86)).alloc (.cells #[.slice (some ⟨w.heap.size + 1, 0, none⟩) K K] 145)) 86 #[.int .i64 0]
  simp only [World.size_alloc, hs1] at r0 r1 r2 r3
  have hB : Below W1.heap.size W1 ((((W1.alloc (.cells x.cells.toArray 42)).alloc (.cells (gvals (List.replicate K 0)).toArray 86)).alloc (.cells #[.slice (some ⟨w.heap.size + 1, 0, none⟩) K K] 145)).alloc (.cells #[.int .i64 0] 86)).drew :=
    (((((Below.refl _ _).alloc (Nat.le_refl _) _).alloc (by simp) _).alloc (by simp; omega) _).alloc (by simp; omega) _).drew
  refine ⟨gb_trans hg1 (gb_below hB none) (fun g e => by cases e), hwb, htb, hne, hn1.below hB (by omega), ?_, (((r0.alloc _).alloc _).alloc _).drew, ((r1.alloc _).alloc _).drew, (r2.alloc _).drew, r3.drew, by simp, by omega, by omega, by omega, by omega⟩
  have : (#[Value.slice (some ⟨tb, toff, none⟩) ts.length cap, .int .i64 i, .int .i64 c] : Array Value).setIfInBounds 1 (.int .i64 ((i : Int) + 1)) = #[.slice (some ⟨tb, toff, none⟩) ts.length cap, .int .i64 ((i + 1 : Nat) : Int), .int .i64 c] := by simp
  rw [this] at hw2
  exact hw2.below hB (by omega)

section
variable {w0 w : World} {wb tb toff cap : Nat} {ts : List Node} {c atp : Int} {x : Node} {nb lb lx sb K : Nat} {cells : List Int} {S : Int}
theorem GC.at_ (h : GC w0 wb tb toff cap ts c atp x nb lb lx sb K cells S w) (k : Nat) (hk : k < K) : w.cell? ⟨lb, k, none⟩ = some (.int .i64 (cells.getD k 0)) := by
  rw [h.bl.cell k]
  have hl := h.len
  have : cells[k]? = some (cells.getD k 0) := by rw [List.getD_eq_getElem?_getD, List.getElem?_eq_getElem (by omega)]; rfl
  simp only [gvals, List.getElem?_toArray, List.getElem?_map, this]
  rfl
theorem GC.cells_ (h : GC w0 wb tb toff cap ts c atp x nb lb lx sb K cells S w) : w.cell? ⟨nb, 0, none⟩ = some (.int .i8 x.op) ∧ w.cell? ⟨nb, 2, none⟩ = some (.int .i64 x.n) ∧ w.cell? ⟨lx, 0, none⟩ = some (.slice (some ⟨lb, 0, none⟩) K K) ∧ w.cell? ⟨sb, 0, none⟩ = some (.int .i64 S) ∧ w.cell? ⟨wb, 2, none⟩ = some (.int .i64 c) :=
  ⟨h.bn.cell 0, h.bn.cell 2, h.bx.cell 0, h.bs.cell 0, h.bw.cell 2⟩
end
end Go.Proofs.Ytggibiodeecljaa
