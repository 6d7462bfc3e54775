/- looker.stmt: what lies in memory behind its first lines; the closure 'many'. -/
import Derived.Test.YtggibiodeecljaaBlocks
import Derived.Deep.RegionHeld3
namespace Go.Proofs.Ytggibiodeecljaa
open Go.RowKit

theorem LK.grownInts {w w' : World} {B kb : Nat} {tv : Value} {s : LSt} (h : LK w B kb tv s) {base n : Nat} {v : Value} {xs : List Value} (ho : w.ownsRow base 3 1 v n xs) (hg : w.grownBy w' v.ownBlock) : LK w' B kb tv s := by
  obtain ⟨sv, mb, h1, h2, h3, h4, h5⟩ := h
  refine ⟨sv, mb, h1, h2, h3.grown hg (own_blk_ne ho h3 (by decide)).symm, h4.grown keyI hg (MK.own_ne h4 ho).symm, h5.kept hg ?_⟩
  rcases h5.2 with ⟨rfl, _⟩ | ⟨g', cp, cu, rfl, _, hh, _⟩
  · exact .inl rfl
  · right
    intro e
    exact own_blk_ne ho (g := g') (t := 40) (cs := cu) hh (by decide) e.symm
theorem Frm.grownNew {B base : Nat} {T : List TypeId} {a w w' : World} {e : TypeId} {size n : Nat} {v : Value} {xs : List Value} (h : Frm B T a w) (ho : w.ownsRow base e size v n xs) (hg : w.grownBy w' v.ownBlock) (hb : a.heap.size ≤ base) (hB : B ≤ a.heap.size) : Frm B T a w' := by
  refine ⟨Below.of_own h.below ho hg (by omega) (Nat.le_trans hB h.size), fun g cs t fr hg' ht' => ?_⟩
  have h0 : g < a.heap.size := (Array.getElem?_eq_some_iff.1 hg').1
  have h1 := h.kept g cs t fr hg' ht'
  rw [hg.block g (by have := h.size; omega) ?_, h1]
  intro e2
  have := ho.lt g e2.symm
  omega

/-- Behind the first lines of looker.stmt: the looker, its pointer's box, the node's copy, the kids' box. -/
structure StC (B kb tb toff cap : Nat) (ts : List Node) (i : Nat) (x : Node) (bk bn bq base n c : Nat) (A : Option Addr) (w0 : World) (s : LSt) (w : World) : Prop where
  lk : LK w B kb (.slice (some ⟨tb, toff, none⟩) ts.length cap) s
  fr : Frm B [132, 40] w0 w
  tbB : tb < B
  nodes : NodesAt w tb toff ts
  b1 : Blk w bk 129 #[.pointer (some ⟨kb, 0, none⟩)]
  b2 : Blk w bn 42 x.cells.toArray
  b3 : Blk w bq 153 #[.slice A n c]
  own : w.ownsRow base 3 1 (.slice A n c) n ((kidsOf ts i).map fun j : Nat => Value.int .i64 j)

section
variable {B kb tb toff cap : Nat} {ts : List Node} {i : Nat} {x : Node} {bk bn bq base n c : Nat} {A : Option Addr} {w0 w w' : World} {s s' : LSt}
theorem StC.alloc (h : StC B kb tb toff cap ts i x bk bn bq base n c A w0 s w) (o : Obj) : StC B kb tb toff cap ts i x bk bn bq base n c A w0 s (w.alloc o) := by
  have hB : B ≤ w.heap.size := by have := h.lk.size; omega
  exact ⟨h.lk.alloc o, h.fr.alloc hB o, h.tbB, h.nodes.below ((Below.refl w.heap.size w).alloc (Nat.le_refl _) o) (by have := h.lk.size; have := h.tbB; omega), h.b1.alloc o, h.b2.alloc o, h.b3.alloc o, h.own.alloc o⟩
theorem StC.drew (h : StC B kb tb toff cap ts i x bk bn bq base n c A w0 s w) : StC B kb tb toff cap ts i x bk bn bq base n c A w0 s w.drew :=
  ⟨h.lk.drew, h.fr.drew, h.tbB, h.nodes, h.b1.drew, h.b2.drew, h.b3.drew, h.own.drew⟩
theorem StC.step (h : StC B kb tb toff cap ts i x bk bn bq base n c A w0 s w) {T : List TypeId} (hT : ∀ t ∈ T, t = 132 ∨ t = 40) (hl : LK w' B kb (.slice (some ⟨tb, toff, none⟩) ts.length cap) s') (hf : Frm B T w w') :
    StC B kb tb toff cap ts i x bk bn bq base n c A w0 s' w' := by
  have hf2 : Frm B [132, 40] w w' := hf.more (fun t ht => by simpa using hT t ht)
  exact ⟨hl, h.fr.trans hf2, h.tbB, hf2.nodes h.nodes h.tbB, hf2.blk h.b1 (by decide), hf2.blk h.b2 (by decide), hf2.blk h.b3 (by decide), hf2.own h.own (by decide)⟩
end
end Go.Proofs.Ytggibiodeecljaa
