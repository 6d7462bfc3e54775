/- The bag of two answers' stacks: no two share a block. No program's function in sight. The bag of an answer's stacks, of another's and of what was handed in: each is owned, no two share a block. No program's function in sight. tableaulaw20.VerifyCodes: it answers true. -/
import Derived.Deep.RegionHeld3
import Derived.Deep.DeepCutAuto
import Derived.Test.YtabpheanbomibaaGreatDoorBag3
import Derived.Test.YtabpheanbomibaaGreatDoorSame20
import Derived.Test.YtabpheanbomibaaGreatDoorVer6
import Derived.Test.YtabpheanbomibaaGreatDoorVerS
import Derived.Test.YtabpheanbomibaaGreatDoorVerX
import Derived.Test.YtabpheanbomibaaGreatDoorWideB
namespace Go.Proofs.YtabpheanbomibaaGreatDoor
open Go.RowKit
set_option linter.unusedVariables false

def lstOf (x : ShE) : Lst := ⟨x.A, x.n, x.c⟩
def addL (L : List Lst) (x : Lst) : List Lst := if L.length < 400 then L ++ [x] else L
theorem addL_len {L : List Lst} {x : Lst} (h : L.length ≤ 400) : (addL L x).length ≤ 400 := by
  unfold addL
  split
  · rw [List.length_append]
    simp only [List.length_cons, List.length_nil]
    omega
  · exact h
theorem addL_mem {L : List Lst} {x y : Lst} (h : y ∈ addL L x) : y ∈ L ∨ y = x := by
  unfold addL at h
  split at h
  · rcases List.mem_append.1 h with h | h
    · exact .inl h
    · exact .inr (List.mem_singleton.1 h)
  · exact .inl h
def FarL (a b : Lst) : Prop := ∀ q, a.A = some q → b.A = some q → False
def ApartL (L : List Lst) : Prop := L.Pairwise FarL
theorem ApartL.add {L : List Lst} {x : Lst} (h : ApartL L) (hx : ∀ y ∈ L, FarL y x) : ApartL (addL L x) := by
  unfold addL
  split
  · exact List.pairwise_append.2 ⟨h, List.pairwise_singleton _ _, fun a ha b hb => by rw [List.mem_singleton.1 hb]; exact hx a ha⟩
  · exact h
theorem ApartL.lone {L : List Lst} (h : ApartL L) : LoneL L := by
  intro j k x y a hj hk hx hy
  obtain ⟨j1, rfl⟩ := List.getElem?_eq_some_iff.1 hj
  obtain ⟨k1, rfl⟩ := List.getElem?_eq_some_iff.1 hk
  have hp := List.pairwise_iff_getElem.1 h
  rcases Nat.lt_trichotomy j k with hlt | he | hlt
  · exact (hp j k j1 k1 hlt a hx hy).elim
  · exact he
  · exact (hp k j k1 j1 hlt a hy hx).elim
def bagL (lx ly : List ShE) : Nat → List Lst
  | 0 => []
  | i + 1 => match lx[i]?, ly[i]? with
    | some x, some y => addL (addL (bagL lx ly i) (lstOf x)) (lstOf y)
    | _, _ => bagL lx ly i
theorem bagL_succ {lx ly : List ShE} {i : Nat} {x y : ShE} (hx : lx[i]? = some x) (hy : ly[i]? = some y) : bagL lx ly (i + 1) = addL (addL (bagL lx ly i) (lstOf x)) (lstOf y) := by
  rw [bagL, hx, hy]
theorem bagL_len (lx ly : List ShE) : ∀ i, (bagL lx ly i).length ≤ 400
  | 0 => Nat.zero_le _
  | i + 1 => by
    rw [bagL]
    split
    · exact addL_len (addL_len (bagL_len lx ly i))
    · exact bagL_len lx ly i
theorem bagL_mem {lx ly : List ShE} {z : Lst} : ∀ {i : Nat}, z ∈ bagL lx ly i → ∃ j, j < i ∧ ((∃ x, lx[j]? = some x ∧ z = lstOf x) ∨ ∃ y, ly[j]? = some y ∧ z = lstOf y)
  | 0, h => by simp [bagL] at h
  | i + 1, h => by
    rw [bagL] at h
    split at h
    · rename_i x y hx hy
      rcases addL_mem h with h | h
      · rcases addL_mem h with h | h
        · obtain ⟨j, hj, r⟩ := bagL_mem h
          exact ⟨j, by omega, r⟩
        · exact ⟨i, by omega, .inl ⟨x, hx, h⟩⟩
      · exact ⟨i, by omega, .inr ⟨y, hy, h⟩⟩
    · obtain ⟨j, hj, r⟩ := bagL_mem h
      exact ⟨j, by omega, r⟩
theorem bagL_apart {lx ly : List ShE} (hx : ∀ (i j : Nat) x x', lx[i]? = some x → lx[j]? = some x' → i ≠ j → FarL (lstOf x) (lstOf x')) (hy : ∀ (i j : Nat) y y', ly[i]? = some y → ly[j]? = some y' → i ≠ j → FarL (lstOf y) (lstOf y'))
    (hxy : ∀ (i j : Nat) x y, lx[i]? = some x → ly[j]? = some y → FarL (lstOf x) (lstOf y)) : ∀ i, ApartL (bagL lx ly i)
  | 0 => List.Pairwise.nil
  | i + 1 => by
    have ih := bagL_apart hx hy hxy i
    rw [bagL]
    split
    · rename_i x y hxi hyi
      refine ApartL.add (ApartL.add ih fun z hz => ?_) fun z hz => ?_
      · obtain ⟨j, hj, ⟨x', h1, rfl⟩ | ⟨y', h1, rfl⟩⟩ := bagL_mem hz
        · exact hx j i x' x h1 hxi (by omega)
        · exact fun q h2 h3 => hxy i j x y' hxi h1 q h3 h2
      · rcases addL_mem hz with hz | hz
        · obtain ⟨j, hj, ⟨x', h1, rfl⟩ | ⟨y', h1, rfl⟩⟩ := bagL_mem hz
          · exact hxy j i x' y h1 hyi
          · exact hy j i y' y h1 hyi (by omega)
        · rw [hz]; exact hxy i i x y hxi hyi
    · exact ih
theorem FarL.block {x y : Lst} {B C : Nat} (hx : ∀ q, x.A = some q → q.block < C) (hy : ∀ q, y.A = some q → C ≤ q.block) : FarL x y := fun q h1 h2 => by
  have := hx q h1
  have := hy q h2
  omega
theorem loneS_far {l : List ShE} {L : List (Int × List Int)} (hl : LoneS l) (hlen : l.length = L.length) (hat : ∀ (i : Nat) x p, l[i]? = some x → L[i]? = some p → x.at_ = p.1) (hr : L.Pairwise (fun p q => p.1 < q.1)) :
    ∀ (i j : Nat) x x', l[i]? = some x → l[j]? = some x' → i ≠ j → FarL (lstOf x) (lstOf x') := by
  intro i j x x' hi hj hne q h1 h2
  have e := hl x (List.mem_of_getElem? hi) x' (List.mem_of_getElem? hj) q q h1 h2 rfl
  have hi1 : i < L.length := by rw [← hlen]; exact (List.getElem?_eq_some_iff.1 hi).1
  have hj1 : j < L.length := by rw [← hlen]; exact (List.getElem?_eq_some_iff.1 hj).1
  have a1 := hat i x _ hi (List.getElem?_eq_getElem hi1)
  have a2 := hat j x' _ hj (List.getElem?_eq_getElem hj1)
  have hp := List.pairwise_iff_getElem.1 hr
  rcases Nat.lt_or_gt_of_ne hne with h | h
  · have := hp i j hi1 hj1 h
    omega
  · have := hp j i hj1 hi1 h
    omega
end Go.Proofs.YtabpheanbomibaaGreatDoor
namespace Go.Proofs.YtabpheanbomibaaGreatDoor
open Go.RowKit
set_option linter.unusedVariables false

/-- The shapes that lie in a row, one by one. -/
def ShapesL (w : World) (B : Nat) (v : Value) (L : List (Int × List Int)) (l : List ShE) : Prop := w.ownsRow B 69 2 v l.length (shVals l) ∧ l.length = L.length ∧ (∀ (i : Nat) x p, l[i]? = some x → L[i]? = some p → ShapeAt w B x p) ∧ LoneS l
theorem ShapesL.frm {w w' : World} {B C : Nat} {T : List TypeId} {v : Value} {L : List (Int × List Int)} {l : List ShE} (h : ShapesL w B v L l) (hf : Frm C T w w') (h1 : 69 ∉ T) (h2 : 82 ∉ T) : ShapesL w' B v L l := by
  obtain ⟨q1, q2, q3, q4⟩ := h
  refine ⟨hf.own q1 h1, q2, fun i x p hx hp => ?_, q4⟩
  obtain ⟨r1, r2, r3⟩ := q3 i x p hx hp
  exact ⟨r1, r2, hf.own r3 h2⟩
theorem ShapesL.lst {w : World} {B : Nat} {v : Value} {L : List (Int × List Int)} {l : List ShE} (h : ShapesL w B v L l) (hd : ∀ p ∈ L, p.2.length ≤ 256) {i : Nat} {x : ShE} (hx : l[i]? = some x) :
    (lstOf x).n ≤ 256 ∧ (∀ q, (lstOf x).A = some q → B ≤ q.block ∧ q.block < w.heap.size) ∧ ∃ xs, Own8 w B (lstOf x) xs := by
  obtain ⟨_, hl, hs, _⟩ := h
  have hi := (List.getElem?_eq_some_iff.1 hx).1
  obtain ⟨p, hp⟩ : ∃ p, L[i]? = some p := ⟨_, List.getElem?_eq_getElem (by omega)⟩
  obtain ⟨_, r2, r3⟩ := hs i x p hx hp
  have hpm := hd p (List.mem_of_getElem? hp)
  have ho : Own8 w B (lstOf x) (p.2.map (Value.int .i8)) := by
    unfold Own8 Lst.val lstOf
    rw [r2]
    exact r3
  refine ⟨by show x.n ≤ 256; omega, fun q hq => ?_, _, ho⟩
  rcases own8_A ho with h | ⟨g, h, h1, h2, _⟩
  · rw [h] at hq; cases hq
  · rw [h] at hq
    injection hq with hq
    subst hq
    exact ⟨h1, h2⟩
theorem bagS_ok {W4 W5 w : World} {B C3 C4 sb ns c i : Nat} {vx vy : Value} {T : List (Int × List Int)} {lx ly : List ShE} {xs : List Value} {TT : List TypeId}
    (hx : ShapesL W4 C3 vx T lx) (hy : ShapesL W5 C4 vy T ly) (h4 : C4 = W4.heap.size) (hs : sb < C3) (hC : C3 ≤ C4) (hB : B ≤ sb) (hd : ∀ p ∈ T, p.2.length ≤ 256) (hr : T.Pairwise (fun p q => p.1 < q.1))
    (f4 : Frm 0 TT W4 w) (f5 : Frm 0 TT W5 w) (ht : 82 ∉ TT) (ho : Own8 w B ⟨some ⟨sb, 0, none⟩, ns, c⟩ xs) (hns : ns ≤ 16777216) :
    LoneL (addL (bagL lx ly i) ⟨some ⟨sb, 0, none⟩, ns, c⟩) ∧ (∀ x ∈ addL (bagL lx ly i) ⟨some ⟨sb, 0, none⟩, ns, c⟩, x.n ≤ 16777216) ∧ ∀ (k : Nat) (x : Lst), (addL (bagL lx ly i) ⟨some ⟨sb, 0, none⟩, ns, c⟩)[k]? = some x → ∃ xs, Own8 w B x xs := by
  have hm : ∀ z ∈ addL (bagL lx ly i) ⟨some ⟨sb, 0, none⟩, ns, c⟩, z.n ≤ 16777216 ∧ ∃ xs, Own8 w B z xs := by
    intro z hz
    rcases addL_mem hz with hz | hz
    · obtain ⟨j, _, ⟨x, h1, rfl⟩ | ⟨y, h1, rfl⟩⟩ := bagL_mem hz
      · obtain ⟨a, _, xs, o⟩ := hx.lst hd h1
        exact ⟨by omega, xs, own_base (f4.own o ht) (by omega)⟩
      · obtain ⟨a, _, xs, o⟩ := hy.lst hd h1
        exact ⟨by omega, xs, own_base (f5.own o ht) (by omega)⟩
    · subst hz
      exact ⟨hns, xs, ho⟩
  refine ⟨(ApartL.add (bagL_apart (loneS_far hx.2.2.2 hx.2.1 (fun i x p a b => (hx.2.2.1 i x p a b).1) hr) (loneS_far hy.2.2.2 hy.2.1 (fun i x p a b => (hy.2.2.1 i x p a b).1) hr) (fun i j x y h1 h2 => FarL.block (B := 0) (C := C4) (fun q hq => by have := ((hx.lst hd h1).2.1 q hq).2; omega) (fun q hq => ((hy.lst hd h2).2.1 q hq).1)) i) (fun z hz => ?_)).lone, fun z hz => (hm z hz).1, fun k z hk => (hm z (List.mem_of_getElem? hk)).2⟩
  intro q h1 h2
  injection h2 with h2
  subst h2
  obtain ⟨j, _, ⟨x, e1, rfl⟩ | ⟨y, e1, rfl⟩⟩ := bagL_mem hz
  · have := ((hx.lst hd e1).2.1 _ h1).1
    simp only at this
    omega
  · have := ((hy.lst hd e1).2.1 _ h1).1
    simp only at this
    omega
end Go.Proofs.YtabpheanbomibaaGreatDoor
namespace Go.Proofs.YtabpheanbomibaaGreatDoor
open Go.RowKit
set_option linter.unusedVariables false

/-- The job in its block. -/
structure JobAt (w : World) (B : Nat) (v0 v1 : Value) (i t : Int) (wx : World) : Prop where
  bel : Below B w wx
  blk : Blk wx B 25 #[v0, v1, .int .i64 i, .int .i64 t]
  size : B ≤ wx.heap.size
section
variable {w wx wy : World} {B : Nat} {v0 v1 : Value} {i t : Int}
theorem JobAt.below (h : JobAt w B v0 v1 i t wx) (hb : Below wx.heap.size wx wy) : JobAt w B v0 v1 i t wy := ⟨h.bel.trans (hb.mono h.size), h.blk.below hb h.blk.lt, Nat.le_trans h.size hb.size⟩
theorem JobAt.drew (h : JobAt w B v0 v1 i t wx) : JobAt w B v0 v1 i t wx.drew := ⟨h.bel.drew, h.blk.drew, h.size⟩
theorem JobAt.alloc (h : JobAt w B v0 v1 i t wx) (o : Obj) : JobAt w B v0 v1 i t (wx.alloc o) := h.below ((Below.refl _ _).alloc (Nat.le_refl _) o)
theorem JobAt.cells (h : JobAt w B v0 v1 i t wx) : wx.cell? ⟨B, 0, none⟩ = some v0 ∧ wx.cell? ⟨B, 1, none⟩ = some v1 ∧ wx.cell? ⟨B, 2, none⟩ = some (.int .i64 i) ∧ wx.cell? ⟨B, 3, none⟩ = some (.int .i64 t) := ⟨h.blk.cell 0, h.blk.cell 1, h.blk.cell 2, h.blk.cell 3⟩
end
theorem ShapesR.below {w w' : World} {B : Nat} {v : Value} {L : List (Int × List Int)} (h : ShapesR w B v L) (hb : Below w.heap.size w w') : ShapesR w' B v L := by
  obtain ⟨l, q1, q2, q3⟩ := h
  have hf : Frm 0 [] w w' := Frm.of_below hb (Nat.zero_le _)
  exact ⟨l, hf.own q1 (by simp), q2, fun i x p hx hp => (q3 i x p hx hp).frm hf (by simp)⟩
theorem own_setN {w : World} {C n c g i sz : Nat} {e : TypeId} {xs : List Value} {u : Value} (h : w.ownsRow C e sz (.slice (some ⟨g, 0, none⟩) n c) n xs) (hi : i < n * sz) : (w.setCell ⟨g, i, none⟩ u).ownsRow C e sz (.slice (some ⟨g, 0, none⟩) n c) n (xs.set i u) := by
  obtain ⟨h1, h2⟩ := h
  rcases h2 with ⟨h2, _⟩ | ⟨g', cap, cur, h2, h3, h4, h5, h6, h7, h8⟩
  · cases h2
  · injection h2 with e1 e2 e3
    injection e1 with e1
    injection e1 with e1
    subst e1 e3
    exact ⟨by simpa using h1, .inr ⟨g, c, cur.setIfInBounds i u, rfl, h3, Blk.set_ (t := e) h4 i u, h5, h6, by simpa using h7, by rw [Array.toList_setIfInBounds, List.take_set, h8]⟩⟩
/-- What of a row of shapes is not yet struck. -/
def RestX (w : World) (C i n : Nat) (A : Option Addr) (c : Nat) (lx : List ShE) : Prop := ∃ vals, w.ownsRow C 69 2 (.slice A n c) n vals ∧ ∀ j, i ≤ j → vals[j * 2]? = (shVals lx)[j * 2]? ∧ vals[j * 2 + 1]? = (shVals lx)[j * 2 + 1]?
theorem RestX.cells {w : World} {C i n c : Nat} {A : Option Addr} {lx : List ShE} {x : ShE} (h : RestX w C i n A c lx) (hx : lx[i]? = some x) : ∃ g, A = some ⟨g, 0, none⟩ ∧ C ≤ g ∧ g < w.heap.size ∧ w.cell? ⟨g, i * 2, none⟩ = some (.int .i64 x.at_) ∧ w.cell? ⟨g, i * 2 + 1, none⟩ = some (.slice x.A x.n x.c) ∧ w.frozen? ⟨g, i * 2, none⟩ = false ∧ w.frozen? ⟨g, i * 2 + 1, none⟩ = false ∧ ∃ cs, Blk w g 69 cs := by
  obtain ⟨vals, ho, hv⟩ := h
  obtain ⟨v1, v2⟩ := hv i (Nat.le_refl _)
  obtain ⟨s1, s2⟩ := shVals_at lx i x hx
  rw [s1] at v1
  rw [s2] at v2
  rcases ho.2 with ⟨e, hn⟩ | ⟨g, cap, cur, e, hB, hh, _⟩
  · have h5 := ho.1
    rw [hn, Nat.zero_mul] at h5
    rw [List.eq_nil_of_length_eq_zero h5] at v1
    simp at v1
  · injection e with e1 _ _
    have hb : Blk w g 69 cur := hh
    have hc := fun j u hj => ho.cells (g := g) (by unfold Value.ownBlock; rw [e1]) j u hj
    have ha : ∀ j, (⟨g, 0, none⟩ : Addr).add j = ⟨g, j, none⟩ := fun j => by by_cases hj0 : j = 0 <;> simp [Addr.add, hj0]
    exact ⟨g, e1, hB, hb.lt, by rw [← ha]; exact hc _ _ v1, by rw [← ha]; exact hc _ _ v2, hb.frozen _, hb.frozen _, cur, hb⟩
theorem RestX.strike {w : World} {C i n c g : Nat} {lx : List ShE} (h : RestX w C i n (some ⟨g, 0, none⟩) c lx) (hi : i < n) (u v : Value) : RestX ((w.setCell ⟨g, i * 2, none⟩ u).setCell ⟨g, i * 2 + 1, none⟩ v) C (i + 1) n (some ⟨g, 0, none⟩) c lx := by
  obtain ⟨vals, ho, hv⟩ := h
  refine ⟨(vals.set (i * 2) u).set (i * 2 + 1) v, own_setN (own_setN ho (by omega)) (by omega), fun j hj => ?_⟩
  obtain ⟨v1, v2⟩ := hv j (by omega)
  rw [List.getElem?_set_ne (by omega), List.getElem?_set_ne (by omega), List.getElem?_set_ne (by omega), List.getElem?_set_ne (by omega)]
  exact ⟨v1, v2⟩
theorem RestX.frm {w w' : World} {C B i n c : Nat} {A : Option Addr} {lx : List ShE} {T : List TypeId} (h : RestX w C i n A c lx) (hf : Frm B T w w') (ht : 69 ∉ T) : RestX w' C i n A c lx := by
  obtain ⟨vals, ho, hv⟩ := h
  exact ⟨vals, hf.own ho ht, hv⟩
def TBS : List TypeId := [66, 23, 69]
def TA : List TypeId := [5, 32, 66, 23, 69]
def TQ : List TypeId := [5, 32]
theorem Frm.base {B : Nat} {T : List TypeId} {a b : World} (h : Frm B T a b) : Frm 0 T a b := ⟨h.below.mono (Nat.zero_le _), h.kept⟩
theorem ShapesAt.frm {w w' : World} {B C : Nat} {T : List TypeId} {v : Value} {L : List (Int × List Int)} (h : ShapesAt w B v L) (hf : Frm C T w w') (h1 : 69 ∉ T) (h2 : 82 ∉ T) : ShapesAt w' B v L := by
  obtain ⟨l, q1, q2, q3, q4⟩ := h
  refine ⟨l, hf.own q1 h1, q2, fun i x p hx hp => ?_, q4⟩
  obtain ⟨r1, r2, r3⟩ := q3 i x p hx hp
  exact ⟨r1, r2, hf.own r3 h2⟩
theorem ShapesR.frm {w w' : World} {B C : Nat} {T : List TypeId} {v : Value} {L : List (Int × List Int)} (h : ShapesR w B v L) (hf : Frm C T w w') (h1 : 118 ∉ T) (h2 : 82 ∉ T) : ShapesR w' B v L := by
  obtain ⟨l, q1, q2, q3⟩ := h
  exact ⟨l, hf.own q1 h1, q2, fun i x p hx hp => (q3 i x p hx hp).frm hf h2⟩
/-- Written over: an addition, a truth value. -/
def turnB (x : Int) : Int := if x = 10 ∨ x = 2 then x + 1 else x
def turnL (b : List Int) (k : Nat) : List Int := ((b.take k).map turnB ++ b.drop k) ++ (List.range 64).map fun j => markB (b.length + j)
theorem turnL_zero (b : List Int) : turnL b 0 = wideB b := by simp [turnL, wideB]
theorem turnL_all (b : List Int) : turnL b b.length = wideB (b.map turnB) := by simp [turnL, wideB]
theorem turnL_get {b : List Int} {k : Nat} {x : Int} (h : b[k]? = some x) : (turnL b k)[k]? = some x := by
  have hk := (List.getElem?_eq_some_iff.1 h).1
  unfold turnL
  rw [List.getElem?_append_left (by simp; omega), List.getElem?_append_right (by simp; omega), List.length_map, List.length_take, Nat.min_eq_left (by omega), Nat.sub_self, List.getElem?_drop, Nat.add_zero]
  exact h
theorem turnL_succ {b : List Int} {k : Nat} {x : Int} (h : b[k]? = some x) : (turnL b k).set k (turnB x) = turnL b (k + 1) := by
  have hk := (List.getElem?_eq_some_iff.1 h).1
  have hx := (List.getElem?_eq_some_iff.1 h).2
  unfold turnL
  rw [List.set_append_left _ _ (by simp; omega), List.set_append_right _ _ (by simp; omega), List.length_map, List.length_take, Nat.min_eq_left (by omega), Nat.sub_self, List.drop_eq_getElem_cons hk, hx, List.set_cons_zero, List.take_add_one, h]
  simp
theorem turnL_stay {b : List Int} {k : Nat} {x : Int} (h : b[k]? = some x) (ht : turnB x = x) : turnL b (k + 1) = turnL b k := by
  rw [← turnL_succ h, ht]
  apply List.ext_getElem?
  intro j
  rw [List.getElem?_set]
  by_cases hj : k = j
  · subst hj
    rw [if_pos rfl, turnL_get h, if_pos (by have := (List.getElem?_eq_some_iff.1 (turnL_get h)).1; omega)]
  · rw [if_neg hj]
theorem turnB_byte {x : Int} (h : 0 ≤ x ∧ x ≤ 255) : 0 ≤ turnB x ∧ turnB x ≤ 255 := by
  unfold turnB
  split
  · omega
  · exact h
theorem bytes_set2 {l : List Int} {k : Nat} {v : Int} : ((byteVals l).toArray).setIfInBounds k (.int .u8 v) = (byteVals (l.set k v)).toArray := by
  unfold byteVals
  rw [List.setIfInBounds_toArray, List.map_set]
theorem codeV_bd {b slots : List Int} {ints texts : Int} (hb : ∀ x ∈ b, 0 ≤ x ∧ x ≤ 255) : (codeV b slots ints texts).1.length ≤ 65535 ∧ (∀ p ∈ (codeV b slots ints texts).1, p.2.length ≤ 256) ∧ (codeV b slots ints texts).1.Pairwise (fun p q => p.1 < q.1) := by
  rcases code_ways b slots ints texts hb with ⟨e0, a0, hc, _, _⟩ | ⟨l, v, hok, hc⟩
  · rw [hc]
    exact ⟨by simp, fun p hp => by simp at hp, List.Pairwise.nil⟩
  · rw [hc]
    refine ⟨?_, fun p hp => ?_, shapes_rise b.length v.stacks⟩
    · have h1 := (limits_pos hok.lim).1
      have h2 : (shapesV b.length v.stacks).length ≤ b.length := by
        unfold shapesV
        refine Nat.le_trans (List.length_filterMap_le _ _) ?_
        simp
      exact Nat.le_trans h2 h1
    · obtain ⟨m, hm⟩ := hok.ok
      exact hm.high _ _ (shapes_mem.1 hp).2.2
section
variable (w : World) (BA SA : Option Addr) (b slots : List Int) (bc sc : Nat) (ints texts : Int)
set_option maxRecDepth 100000 in
set_option maxHeartbeats 16000000 in
theorem codes20_any (hbt : BytesAt w BA b) (hS : SmallsAt w SA slots) (hbl : b.length ≤ 140737488355328) (hsl : slots.length ≤ 140737488355328) :
    Calls Tryz.prog 3 #[.agg #[.slice BA b.length bc, .slice SA slots.length sc, .int .i64 ints, .int .i64 texts]] w fun e w' => e = .returned (.bool true) ∧ Below w.heap.size w w' := by
  obtain ⟨B, hBe⟩ : ∃ B, w.heap.size = B := ⟨_, rfl⟩
  obtain ⟨n, hn⟩ : ∃ n, b.length = n := ⟨_, rfl⟩
  obtain ⟨ns, hns⟩ : ∃ n, slots.length = n := ⟨_, rfl⟩
  have hby := beyond20_any BA SA n bc ns sc ints texts
  have hb0 : Below B w w := Below.refl _ _
  rw [hBe, hn, hns]
  have HBY := Lib.hid hby
  have HBT := Lib.hid hbt
  have HSM := Lib.hid hS
  have HN := Lib.hid hn
  have HNS := Lib.hid hns
  rw [hn] at hbl
  rw [hns] at hsl
  clear hby hbt hS hn hns
  have hnq := neq_fault
  go_enter Tryz.func3, Tryz.ntmps3
  go_wp2_with fail
  refine (HBY.out _).mono ?_
  rintro e w1 ⟨rfl, hb1⟩
  have hjb := (Blk.new w 25 #[.slice BA n bc, .slice SA ns sc, .int .i64 ints, .int .i64 texts]).below hb1 (by simp)
  rw [hBe] at hjb
  have hB1 : Below B w w1 := (hb0.alloc (by omega) _).trans (hb1.mono (by simp; omega))
  by_cases hlong : (16777216 : Int) < n ∨ (16777216 : Int) < ns
  · have hq : (decide ((16777216 : Int) < n) || decide ((16777216 : Int) < ns)) = true := by simpa using hlong
    rw [hq]
    have HB1 := Lib.hid hB1
    clear hB1 hb1 hjb hq
    go_wp2_with fail
    go_ret
    exact ⟨rfl, HB1.out⟩
  have hq : (decide ((16777216 : Int) < n) || decide ((16777216 : Int) < ns)) = false := by simp only [Bool.or_eq_false_iff, decide_eq_false_iff_not]; omega
  rw [hq]
  have hja : JobAt w B (.slice BA n bc) (.slice SA ns sc) ints texts w1 := ⟨hB1, hjb, by have := hjb.lt; omega⟩
  have hn16 : n ≤ 16777216 := by omega
  have hns16 : ns ≤ 16777216 := by omega
  have HJ := Lib.hid hja
  obtain ⟨j0, j1, j2, j3⟩ := hja.cells
  have hwb := wideBytes_any BA b bc w1 (by rw [HN.out]; omega) (HBT.out.below (by rw [hBe]; exact hB1))
  rw [HN.out] at hwb
  have HWB := Lib.hid hwb
  clear hB1 hb1 hjb hq hja hwb
  go_wp2_with fail
  refine HWB.out.mono ?_
  rintro e w2 ⟨rfl, hbb, hb2⟩
  have hj2 := HJ.out.below hb2
  obtain ⟨bb, hbbe⟩ : ∃ bb, bb = w1.heap.size := ⟨_, rfl⟩
  have hBbb : B < bb := by rw [hbbe]; exact HJ.out.blk.lt
  rw [← hbbe] at hbb ⊢
  have hws := wideSmalls_any SA slots sc w2 (by rw [HNS.out]; omega) (HSM.out.below (by rw [hBe]; exact hj2.bel))
  rw [HNS.out] at hws
  obtain ⟨j0, j1, j2, j3⟩ := hj2.cells
  have HWS := Lib.hid hws
  have HJ2 := Lib.hid hj2
  have HBB := Lib.hid hbb
  have HBBE := Lib.hid hbbe
  clear hws hj2 hbb hb2 hbbe HWB HJ
  go_wp2_with fail
  refine HWS.out.mono ?_
  rintro e w3 ⟨rfl, hsb, hb3⟩
  have hj3 := HJ2.out.below hb3
  have hbb3 := HBB.out.below hb3 HBB.out.lt
  obtain ⟨sb, hsbe⟩ : ∃ sb, sb = w2.heap.size := ⟨_, rfl⟩
  have hBsb : bb < sb := by rw [hsbe]; exact HBB.out.lt
  rw [← hsbe] at hsb ⊢
  obtain ⟨j0, j1, j2, j3⟩ := hj3.cells
  have HJ3 := Lib.hid hj3
  have HBB3 := Lib.hid hbb3
  have HSB3 := Lib.hid hsb
  clear hj3 hbb3 hsb hb3 hsbe HWS HJ2 HBB
  have hbyte := HBT.out.byte
  have hcc := fun (wx : World) (hb3 : Blk wx bb 5 (byteVals (wideB b)).toArray) (hs3 : Blk wx sb 82 (smallVals (wideS slots)).toArray) => code_any wx (some ⟨bb, 0, none⟩) (some ⟨sb, 0, none⟩) b slots (n + 64) (ns + 64) ints texts (bytesAt_wide hbyte hb3) (by rw [HN.out]; omega) (by rw [HN.out]; omega) (by rw [HNS.out]; omega) (smallsAt_wide hs3)
  have hcr := fun (wx : World) (hx : Below B w wx) => code20_any wx BA SA b slots bc sc ints texts (HBT.out.below (by rw [hBe]; exact hx)) (by rw [HN.out]; omega) (by rw [HNS.out]; omega) (HSM.out.below (by rw [hBe]; exact hx))
  obtain ⟨d1, d2, d3⟩ := codeV_bd (b := b) (slots := slots) (ints := ints) (texts := texts) hbyte
  obtain ⟨T, hT⟩ : ∃ T, codeV b slots ints texts = T := ⟨_, rfl⟩
  simp only [hT, HN.out, HNS.out] at hcc hcr
  rw [hT] at d1 d2 d3
  have HCC := Lib.hid hcc
  have HCR := Lib.hid hcr
  have HT := Lib.hid hT
  have D2 := Lib.hid d2
  have D3 := Lib.hid d3
  clear hcc hcr hT hbyte d2 d3
  go_wp2_with fail
  refine (HCC.out _ HBB3.out HSB3.out).mono ?_
  rintro e w4 ⟨v4, rfl, hx4, _, hb4⟩
  obtain ⟨W4, hW4⟩ : ∃ W4, W4 = w4.alloc (.cells #[.int .i64 T.2.2.1, .int .i64 T.2.2.2, .int .i64 0, .int .i64 0] 32) := ⟨_, rfl⟩
  have ha4 : Below w4.heap.size w4 W4 := by rw [hW4]; exact (Below.refl _ _).alloc (Nat.le_refl _) _
  have hf4 : Blk W4 w4.heap.size 32 #[.int .i64 T.2.2.1, .int .i64 T.2.2.2, .int .i64 0, .int .i64 0] := by rw [hW4]; exact Blk.new _ _ _
  have hj4 := (HJ3.out.below hb4).below ha4
  have hb43 : Below w3.heap.size w3 W4 := hb4.trans (ha4.mono hb4.size)
  have hx4' := hx4.below ha4
  obtain ⟨fx, hfx⟩ : ∃ fx, fx = w4.heap.size := ⟨_, rfl⟩
  obtain ⟨C3, hC3⟩ : ∃ C3, C3 = w3.heap.size := ⟨_, rfl⟩
  have hsbC : sb < C3 := by rw [hC3]; exact HSB3.out.lt
  have hCf : C3 ≤ fx := by rw [hC3, hfx]; exact hb4.size
  rw [← hC3] at hx4'
  obtain ⟨lx, hlx⟩ : ∃ lx, ShapesL W4 C3 v4 T.1 lx := hx4'
  have HLX := Lib.hid hlx
  have HX4 := Lib.hid (show ShapesAt W4 C3 v4 T.1 from ⟨lx, hlx⟩)
  clear hlx
  have HF4 := Lib.hid hf4
  have HJ4 := Lib.hid hj4
  have HBB4 := Lib.hid (HBB3.out.below hb43 HBB3.out.lt)
  have HSB4 := Lib.hid (HSB3.out.below hb43 HSB3.out.lt)
  have HW4 := Lib.hid hW4
  have HFX := Lib.hid hfx
  have hfx4 : fx < W4.heap.size := by rw [hfx]; exact hf4.lt
  have hBfx : B < w4.heap.size := by rw [← hfx]; omega
  have hz4 : w4.heap.size < W4.heap.size := hf4.lt
  obtain ⟨_, _, j2, j3⟩ := ((HJ3.out.below hb4).alloc (.cells #[.int .i64 T.2.2.1, .int .i64 T.2.2.2, .int .i64 0, .int .i64 0] 32)).cells
  clear hfx
  clear hx4 hf4 hj4 hb4 hb43 ha4 HBB3 HSB3 HJ3 hW4 j0 j1
  go_wp2_with fail
  rw [← HW4.out]
  refine (HCC.out _ HBB4.out HSB4.out).mono ?_
  rintro e w5 ⟨v5, rfl, hx5, _, hb5⟩
  obtain ⟨W5, hW5⟩ : ∃ W5, W5 = w5.alloc (.cells #[.int .i64 T.2.2.1, .int .i64 T.2.2.2, .int .i64 0, .int .i64 0] 32) := ⟨_, rfl⟩
  have ha5 : Below w5.heap.size w5 W5 := by rw [hW5]; exact (Below.refl _ _).alloc (Nat.le_refl _) _
  have hf5 : Blk W5 w5.heap.size 32 #[.int .i64 T.2.2.1, .int .i64 T.2.2.2, .int .i64 0, .int .i64 0] := by rw [hW5]; exact Blk.new _ _ _
  have hb54 : Below W4.heap.size W4 W5 := hb5.trans (ha5.mono hb5.size)
  have hj5 := HJ4.out.below hb54
  have hx5' := hx5.below ha5
  obtain ⟨gx, hgx⟩ : ∃ gx, gx = w5.heap.size := ⟨_, rfl⟩
  obtain ⟨C4, hC4⟩ : ∃ C4, C4 = W4.heap.size := ⟨_, rfl⟩
  have hfC : fx < C4 := by rw [hC4]; exact hfx4
  have hCg : C4 ≤ gx := by rw [hC4, hgx]; exact hb5.size
  rw [← hC4] at hx5'
  obtain ⟨ly, hly⟩ : ∃ ly, ShapesL W5 C4 v5 T.1 ly := hx5'
  have HLY := Lib.hid hly
  have HB54 := Lib.hid hb54
  have HX5 := Lib.hid (show ShapesAt W5 C4 v5 T.1 from ⟨ly, hly⟩)
  clear hly
  have HX45 := Lib.hid (HX4.out.below hb54)
  have HF5 := Lib.hid hf5
  have HF45 := Lib.hid (HF4.out.below hb54 HF4.out.lt)
  have HJ5 := Lib.hid hj5
  have HBB5 := Lib.hid (HBB4.out.below hb54 HBB4.out.lt)
  have HSB5 := Lib.hid (HSB4.out.below hb54 HSB4.out.lt)
  have HW5 := Lib.hid hW5
  have HGX := Lib.hid hgx
  have hgx5 : gx < W5.heap.size := by rw [hgx]; exact hf5.lt
  have hBgx : B < w5.heap.size := by rw [← hgx]; omega
  have hz5 : w5.heap.size < W5.heap.size := hf5.lt
  obtain ⟨j0, j1, j2, j3⟩ := ((HJ4.out.below hb5).alloc (.cells #[.int .i64 T.2.2.1, .int .i64 T.2.2.2, .int .i64 0, .int .i64 0] 32)).cells
  clear hgx
  clear hx5 hf5 hj5 hb5 hb54 ha5 HBB4 HSB4 HJ4 hW5 HX4 HF4
  go_wp2_with fail
  rw [← HW5.out]
  refine (HCR.out _ HJ5.out.bel).mono ?_
  rintro e w6 ⟨v6, rfl, hr6, hb6⟩
  obtain ⟨W6, hW6⟩ : ∃ W6, W6 = w6.alloc (.cells #[.int .i64 T.2.2.1, .int .i64 T.2.2.2, .int .i64 0, .int .i64 0] 32) := ⟨_, rfl⟩
  have ha6 : Below w6.heap.size w6 W6 := by rw [hW6]; exact (Below.refl _ _).alloc (Nat.le_refl _) _
  have hb65 : Below W5.heap.size W5 W6 := hb6.trans (ha6.mono hb6.size)
  have hf6 : Blk W6 w6.heap.size 32 #[.int .i64 T.2.2.1, .int .i64 T.2.2.2, .int .i64 0, .int .i64 0] := by rw [hW6]; exact Blk.new _ _ _
  have hr6' : ShapesR W6 W5.heap.size v6 T.1 := by
    obtain ⟨l, q1, q2, q3⟩ := hr6
    have hf : Frm 0 [] w6 W6 := Frm.of_below ha6 (Nat.zero_le _)
    exact ⟨l, hf.own q1 (by simp), q2, fun i x p hx hp => (q3 i x p hx hp).frm hf (by simp)⟩
  have HB65 := Lib.hid hb65
  have HX6 := Lib.hid (HX45.out.below hb65)
  have HY6 := Lib.hid (HX5.out.below hb65)
  have HR6 := Lib.hid hr6'
  have HF46 := Lib.hid (HF45.out.below hb65 HF45.out.lt)
  have HF56 := Lib.hid (HF5.out.below hb65 HF5.out.lt)
  have HF6 := Lib.hid hf6
  have HJ6 := Lib.hid (HJ5.out.below hb65)
  have HBB6 := Lib.hid (HBB5.out.below hb65 HBB5.out.lt)
  have HSB6 := Lib.hid (HSB5.out.below hb65 HSB5.out.lt)
  have HW6 := Lib.hid hW6
  rw [hW6] at hf6
  have hz6 : w5.heap.size < w6.heap.size := by have := hb6.size; omega
  obtain ⟨f0, f1, f2, f3, _, _, _, _⟩ := ((show Blk (w6.alloc (.cells #[.int .i64 T.2.2.1, .int .i64 T.2.2.2, .int .i64 0, .int .i64 0] 32)) w4.heap.size 32 #[.int .i64 T.2.2.1, .int .i64 T.2.2.2, .int .i64 0, .int .i64 0] from by rw [← hW6]; exact HF46.out)).cells4
  obtain ⟨g0, g1, g2, g3, _, _, _, _⟩ := ((show Blk (w6.alloc (.cells #[.int .i64 T.2.2.1, .int .i64 T.2.2.2, .int .i64 0, .int .i64 0] 32)) w5.heap.size 32 #[.int .i64 T.2.2.1, .int .i64 T.2.2.2, .int .i64 0, .int .i64 0] from by rw [← hW6]; exact HF56.out)).cells4
  obtain ⟨h0, h1, h2, h3, _, _, _, _⟩ := hf6.cells4
  clear hr6 hr6' hb6 hb65 ha6 hf6 hW6 HX45 HX5 HF45 HF5 HJ5 HBB5 HSB5
  have hsx := fun wz (hz : Below W6.heap.size W6 wz) => same20_any wz C3 W5.heap.size v4 v6 T.1 (HX6.out.below hz) (HR6.out.below hz) (by omega) D2.out
  have hsy := fun wz (hz : Below W6.heap.size W6 wz) => same20_any wz C4 W5.heap.size v5 v6 T.1 (HY6.out.below hz) (HR6.out.below hz) (by omega) D2.out
  have HSX := Lib.hid hsx
  have HSY := Lib.hid hsy
  clear hsx hsy
  go_wp2_with fail
  rw [← HW6.out]
  refine (HSX.out _ (Below.refl _ _)).mono ?_
  rintro e w7 ⟨rfl, m7, rfl⟩
  have hb7 := below_drewNs (Below.refl W6.heap.size W6) m7
  have HB7 := Lib.hid hb7
  clear hb7
  go_wp2_with fail
  refine (HSY.out _ HB7.out).mono ?_
  rintro e w8 ⟨rfl, m8, rfl⟩
  have hb8 := below_drewNs HB7.out m8
  obtain ⟨W8, hW8⟩ : ∃ W8, W8 = (W6.drewN m7).drewN m8 := ⟨_, rfl⟩
  rw [← hW8] at hb8 ⊢
  have HB8 := Lib.hid hb8
  have hj8 := HJ6.out.below hb8
  obtain ⟨j0, j1, j2, j3⟩ := hj8.cells
  have HJ8 := Lib.hid hj8
  have hbb8 := HBB6.out.below hb8 HBB6.out.lt
  have hsb8 := HSB6.out.below hb8 HSB6.out.lt
  have hby8 := bytesAt_wide HBT.out.byte hbb8
  have heq := eqBytes_same (some ⟨bb, 0, none⟩) BA b (n + 64) bc W8 (by rw [HN.out]; omega) hby8 (HBT.out.below (by rw [hBe]; exact hj8.bel))
  have hes := fun (wz : World) (hz : Below W8.heap.size W8 wz) => eqSmalls_same (some ⟨sb, 0, none⟩) SA slots (ns + 64) sc wz (by rw [HNS.out]; omega) (smallsAt_wide (hsb8.below hz hsb8.lt)) (HSM.out.below (by rw [hBe]; exact hj8.bel.trans (hz.mono hj8.size)))
  have hspb := fun (wz : World) (hz : Below W8.heap.size W8 wz) => spareBytes_any bb b wz (by rw [HN.out]; omega) (hbb8.below hz hbb8.lt)
  have hsps := fun (wz : World) (hz : Below W8.heap.size W8 wz) => spareSmalls_any sb slots wz (by rw [HNS.out]; omega) (hsb8.below hz hsb8.lt)
  simp only [HN.out] at heq hspb
  simp only [HNS.out] at hes hsps
  have HEQ := Lib.hid heq
  have HES := Lib.hid hes
  have HSPB := Lib.hid hspb
  have HSPS := Lib.hid hsps
  have HBB8 := Lib.hid hbb8
  have HSB8 := Lib.hid hsb8
  clear hb8 hj8 hbb8 hsb8 hby8 heq hes hspb hsps hW8 f0 f1 f2 f3 g0 g1 g2 g3 h0 h1 h2 h3
  go_wp2_with fail
  refine HEQ.out.mono ?_
  rintro e w9 ⟨rfl, hb9⟩
  have HB9 := Lib.hid hb9
  have hj9 := HJ8.out.below hb9
  obtain ⟨j0, j1, j2, j3⟩ := hj9.cells
  clear hb9 hj9
  go_wp2_with fail
  refine (HSPB.out _ HB9.out).mono ?_
  rintro e w10 ⟨rfl, rfl⟩
  go_wp2_with fail
  refine (HES.out _ HB9.out).mono ?_
  rintro e w11 ⟨rfl, hb11⟩
  have hb118 := HB9.out.trans (hb11.mono HB9.out.size)
  have HB11 := Lib.hid hb118
  have hj11 := HJ8.out.below hb118
  obtain ⟨j0, j1, j2, j3⟩ := hj11.cells
  clear hb11 hb118 hj11
  go_wp2_with fail
  refine (HSPS.out _ HB11.out).mono ?_
  rintro e w12 ⟨rfl, rfl⟩
  obtain ⟨W11, hW11⟩ : ∃ W, W = w11 := ⟨_, rfl⟩
  have hbl0 : Blk w11 bb 5 (byteVals (turnL b 0)).toArray := by rw [turnL_zero]; exact HBB8.out.below HB11.out HBB8.out.lt
  have HBL0 := Lib.hid hbl0
  have HWE := Lib.hid hW11
  rw [← hW11] at HB11
  have hget : ∀ k, k < n → ∃ x, b[k]? = some x := fun k hk => ⟨_, List.getElem?_eq_getElem (by rw [HN.out]; exact hk)⟩
  have HGET := Lib.hid hget
  clear hbl0 hW11 hget
  go_wp2_with fail
  go_loopw [14] (fun v14 wr => ∃ k : Nat, k ≤ n ∧ v14 = .int .i64 k ∧ Blk wr bb 5 (byteVals (turnL b k)).toArray ∧ Frm B [5] W11 wr) (fun v14 _ => n - (intOf v14).toNat)
  case atStart => exact ⟨0, by omega, rfl, HBL0.out, by rw [HWE.out]; exact Frm.refl _ _ _⟩
  case round =>
    obtain ⟨k, hk, rfl, hbk, hfr⟩ := hrel
    by_cases hkn : k < n
    · obtain ⟨x, hx⟩ := HGET.out k hkn
      have hkI : (k : Int) < n := by omega
      have kc : wr.cell? ⟨bb, k, none⟩ = some (.int .u8 x) := by
        rw [hbk.cell]
        unfold byteVals
        rw [List.getElem?_toArray, List.getElem?_map, turnL_get hx]
        rfl
      have kz := hbk.frozen k
      have hnx := turnL_succ hx
      have HNX := Lib.hid hnx
      have HX := Lib.hid hx
      have HBL := Lib.hid hbk
      have HFR := Lib.hid hfr
      clear hbk hfr hnx hx
      by_cases h10 : x = 10
      · subst h10
        go_wp2_with fail
        go_roundw
        case rel =>
          have h := HBL.out.set_ k (.int .u8 11)
          rw [bytes_set2] at h
          have e : (turnL b k).set k 11 = turnL b (k + 1) := HNX.out
          rw [e] at h
          exact ⟨k + 1, by omega, by go_num, h, HFR.out.set_ (i := k) HBL.out (by omega) (by simp) _⟩
        case measure => (simp [intOf]; try omega)
      · by_cases h2 : x = 2
        · subst h2
          go_wp2_with fail
          go_roundw
          case rel =>
            have h := HBL.out.set_ k (.int .u8 3)
            rw [bytes_set2] at h
            have e : (turnL b k).set k 3 = turnL b (k + 1) := HNX.out
            rw [e] at h
            exact ⟨k + 1, by omega, by go_num, h, HFR.out.set_ (i := k) HBL.out (by omega) (by simp) _⟩
          case measure => (simp [intOf]; try omega)
        · have q1 : (x == 10) = false := by simpa using h10
          have q2 : (x == 2) = false := by simpa using h2
          have hst := turnL_stay HX.out (by unfold turnB; rw [if_neg (by omega)])
          have HST := Lib.hid hst
          clear hst
          go_wp2_with fail
          go_roundw
          case rel => exact ⟨k + 1, by omega, by go_num, by rw [HST.out]; exact HBL.out, HFR.out⟩
          case measure => (simp [intOf]; try omega)
    · have he : k = n := by omega
      subst he
      obtain ⟨b', hb'⟩ : ∃ b', b' = b.map turnB := ⟨_, rfl⟩
      have hn' : b'.length = k := by rw [hb', List.length_map, HN.out]
      have hbw : Blk wr bb 5 (byteVals (wideB b')).toArray := by
        have h := hbk
        rw [← HN.out, turnL_all, ← hb'] at h
        exact h
      have hby' : ∀ x ∈ b', 0 ≤ x ∧ x ≤ 255 := fun x hx => by
        rw [hb'] at hx
        obtain ⟨y, hy, rfl⟩ := List.mem_map.1 hx
        exact turnB_byte (HBT.out.byte y hy)
      have hsw : Blk wr sb 82 (smallVals (wideS slots)).toArray := hfr.blk (HSB8.out.below HB11.out HSB8.out.lt) (by decide)
      have hfw : Blk wr w4.heap.size 32 #[.int .i64 T.2.2.1, .int .i64 T.2.2.2, .int .i64 0, .int .i64 0] := hfr.blk ((HF46.out.below HB8.out HF46.out.lt).below HB11.out (by have h1 := HF46.out.lt; have h2 := HB8.out.size; omega)) (by decide)
      have hhw : Blk wr w6.heap.size 32 #[.int .i64 T.2.2.1, .int .i64 T.2.2.2, .int .i64 0, .int .i64 0] := hfr.blk ((HF6.out.below HB8.out HF6.out.lt).below HB11.out (by have h1 := HF6.out.lt; have h2 := HB8.out.size; omega)) (by decide)
      have hcc := code_any wr (some ⟨bb, 0, none⟩) (some ⟨sb, 0, none⟩) b' slots (k + 64) (ns + 64) ints texts (bytesAt_wide hby' hbw) (by rw [hn']; omega) (by rw [hn']; omega) (by rw [HNS.out]; omega) (smallsAt_wide hsw)
      obtain ⟨e1, e2, e3⟩ := codeV_bd (b := b') (slots := slots) (ints := ints) (texts := texts) hby'
      obtain ⟨T', hT'⟩ : ∃ T', codeV b' slots ints texts = T' := ⟨_, rfl⟩
      rw [hT', hn', HNS.out] at hcc
      rw [hT'] at e1 e2 e3
      have hj := (HJ8.out.below HB11.out)
      have hjw : Blk wr B 25 #[.slice BA k bc, .slice SA ns sc, .int .i64 ints, .int .i64 texts] := hfr.blk hj.blk (by decide)
      have hBwr : Below B w wr := hj.bel.trans hfr.below
      have j2 := hjw.cell 2
      have j3 := hjw.cell 3
      have HCC2 := Lib.hid hcc
      have HT2 := Lib.hid hT'
      have HN2 := Lib.hid hn'
      have HBY2 := Lib.hid hby'
      have E2 := Lib.hid e2
      have HBW := Lib.hid hbw
      have HSW := Lib.hid hsw
      have HFW := Lib.hid hfw
      have HHW := Lib.hid hhw
      have HJW := Lib.hid hjw
      have HBWR := Lib.hid hBwr
      have HFR2 := Lib.hid hfr
      clear hb' hn' hbw hby' hsw hfw hhw hcc hT' e2 e3 hj hjw hBwr hbk hfr j0 j1
      go_wp2_with fail
      refine HCC2.out.mono ?_
      rintro e w13 ⟨v13, rfl, hx13, _, hb13⟩
      have hf13 := HFW.out.below hb13 HFW.out.lt
      obtain ⟨y0, y1, y2, y3, u0, u1, u2, u3⟩ := hf13.cells4
      have hj13 := HJW.out.below hb13 HJW.out.lt
      obtain ⟨j0, j1, j2, j3⟩ := (show w13.cell? ⟨B, 0, none⟩ = some (.slice BA k bc) ∧ w13.cell? ⟨B, 1, none⟩ = some (.slice SA ns sc) ∧ w13.cell? ⟨B, 2, none⟩ = some (.int .i64 ints) ∧ w13.cell? ⟨B, 3, none⟩ = some (.int .i64 texts) from ⟨hj13.cell 0, hj13.cell 1, hj13.cell 2, hj13.cell 3⟩)
      have HX13 := Lib.hid hx13
      have HB13 := Lib.hid hb13
      have HF13 := Lib.hid hf13
      have HJ13 := Lib.hid hj13
      obtain ⟨Wf, hWf⟩ : ∃ Wf, Wf = (((w13.setCell ⟨w4.heap.size, 0, none⟩ (.int .i64 T'.2.2.1)).setCell ⟨w4.heap.size, 1, none⟩ (.int .i64 T'.2.2.2)).setCell ⟨w4.heap.size, 2, none⟩ (.int .i64 0)).setCell ⟨w4.heap.size, 3, none⟩ (.int .i64 0) := ⟨_, rfl⟩
      obtain ⟨pb, pf⟩ := put4_blk (a' := .int .i64 T'.2.2.1) (b' := .int .i64 T'.2.2.2) (c' := .int .i64 0) (d' := .int .i64 0) hf13 (Nat.le_of_lt hBfx)
      have pb2 : Blk Wf w4.heap.size 32 #[.int .i64 T'.2.2.1, .int .i64 T'.2.2.2, .int .i64 0, .int .i64 0] := by rw [hWf]; exact pb
      have pf2 : Frm B [32] w13 Wf := by rw [hWf]; exact pf
      have hBf : Below B w Wf := (HBWR.out.trans (hb13.mono (by have h := HJW.out.lt; omega))).trans pf2.below
      have hbf : Blk Wf bb 5 (byteVals (wideB b')).toArray := pf2.blk (HBW.out.below hb13 HBW.out.lt) (by decide)
      have hjf := pf2.blk hj13 (by decide)
      have hcp := cpB_any (some ⟨bb, 0, none⟩) b' k (k + 64) Wf.drew HN2.out (by omega) (bytesAt_wide HBY2.out (show Blk Wf.drew bb _ _ from hbf))
      have q1 : Wf.drew.cell? ⟨B, 1, none⟩ = some (.slice SA ns sc) := hjf.cell 1
      have q2 : Wf.drew.cell? ⟨B, 2, none⟩ = some (.int .i64 ints) := hjf.cell 2
      have q3 : Wf.drew.cell? ⟨B, 3, none⟩ = some (.int .i64 texts) := hjf.cell 3
      have hcr2 := fun (wz : World) (A : Option Addr) (c : Nat) (hz : Below B w wz) (ha : BytesAt wz A b') => code20_any wz A SA b' slots c sc ints texts ha (by rw [HN2.out]; omega) (by rw [HNS.out]; omega) (HSM.out.below (by rw [hBe]; exact hz))
      simp only [HT2.out, HN2.out, HNS.out] at hcr2
      have hne46 : w6.heap.size ≠ w4.heap.size := by have h1 := HFX.out; have h2 := HGX.out; omega
      have hhf : Blk Wf w6.heap.size 32 #[.int .i64 T.2.2.1, .int .i64 T.2.2.2, .int .i64 0, .int .i64 0] := by
        rw [hWf]
        exact ((((HHW.out.below hb13 HHW.out.lt).far (p := ⟨w4.heap.size, 0, none⟩) hne46 _).far (p := ⟨w4.heap.size, 1, none⟩) hne46 _).far (p := ⟨w4.heap.size, 2, none⟩) hne46 _).far (p := ⟨w4.heap.size, 3, none⟩) hne46 _
      have HHF := Lib.hid hhf
      clear hhf
      have HCP := Lib.hid hcp
      have HCR2 := Lib.hid hcr2
      have HWF := Lib.hid hWf
      have HPB := Lib.hid pb2
      have HPF := Lib.hid pf2
      have HBF := Lib.hid hBf
      have HJF := Lib.hid hjf
      have hBWf : B < Wf.heap.size := hjf.lt
      clear hx13 hb13 hf13 hj13 pb pf pb2 pf2 hBf hbf hjf hcp hcr2 hWf
      go_wp2_with fail
      rw [← HWF.out]
      go_region_held3 (fun w' => w'.cell? ⟨B, 1, none⟩ = some (.slice SA ns sc) ∧ w'.cell? ⟨B, 2, none⟩ = some (.int .i64 ints) ∧ w'.cell? ⟨B, 3, none⟩ = some (.int .i64 texts)) (first | with_reducible exact ⟨q1, q2, q3⟩ | with_reducible exact ⟨r1, r2, r3⟩ | with_reducible exact ⟨t1, t2, t3⟩ | with_reducible exact ⟨s1, s2, s3⟩) ((first | (go_at_call 15; go_loud (refine HCP.out.mono ?_; rintro e w19 ⟨vc, rfl, hoc, hbc⟩; obtain ⟨Ac, cc, rfl⟩ := own_form hoc; obtain ⟨qc1, qc2, qc3⟩ := own_byteV hoc HBY2.out; have hb19 : Below Wf.heap.size Wf w19 := (Below.refl _ _).drew.trans hbc; have hj19 := HJF.out.below hb19 HJF.out.lt; have r1 : w19.cell? ⟨B, 1, none⟩ = some (.slice SA ns sc) := hj19.cell 1; have r2 : w19.cell? ⟨B, 2, none⟩ = some (.int .i64 ints) := hj19.cell 2; have r3 : w19.cell? ⟨B, 3, none⟩ = some (.int .i64 texts) := hj19.cell 3; have HQC := Lib.hid qc1; have HB19 := Lib.hid hb19; clear hoc hbc hj19 qc1 qc2 qc3 hb19)) | (go_at_call 9; go_loud (refine (HCR2.out w19 Ac cc (HBF.out.trans (HB19.out.mono (Nat.le_of_lt hBWf))) HQC.out).mono ?_; rintro e w20 ⟨v20, rfl, hr20, hb20⟩; have hb20f := HB19.out.trans (hb20.mono HB19.out.size); have hj20 := HJF.out.below hb20f HJF.out.lt; have t1 : w20.cell? ⟨B, 1, none⟩ = some (.slice SA ns sc) := hj20.cell 1; have t2 : w20.cell? ⟨B, 2, none⟩ = some (.int .i64 ints) := hj20.cell 2; have t3 : w20.cell? ⟨B, 3, none⟩ = some (.int .i64 texts) := hj20.cell 3; have hh20 := HHF.out.below hb20f HHF.out.lt; obtain ⟨y0, y1, y2, y3, u0, u1, u2, u3⟩ := hh20.cells4; have hjs := (put4_blk (a' := .int .i64 T'.2.2.1) (b' := .int .i64 T'.2.2.2) (c' := .int .i64 0) (d' := .int .i64 0) hh20 (Nat.zero_le _)).2.blk hj20 (by decide); have s1 : ((((w20.setCell ⟨w6.heap.size, 0, none⟩ (.int .i64 T'.2.2.1)).setCell ⟨w6.heap.size, 1, none⟩ (.int .i64 T'.2.2.2)).setCell ⟨w6.heap.size, 2, none⟩ (.int .i64 0)).setCell ⟨w6.heap.size, 3, none⟩ (.int .i64 0)).cell? ⟨B, 1, none⟩ = some (.slice SA ns sc) := hjs.cell 1; have s2 : ((((w20.setCell ⟨w6.heap.size, 0, none⟩ (.int .i64 T'.2.2.1)).setCell ⟨w6.heap.size, 1, none⟩ (.int .i64 T'.2.2.2)).setCell ⟨w6.heap.size, 2, none⟩ (.int .i64 0)).setCell ⟨w6.heap.size, 3, none⟩ (.int .i64 0)).cell? ⟨B, 2, none⟩ = some (.int .i64 ints) := hjs.cell 2; have s3 : ((((w20.setCell ⟨w6.heap.size, 0, none⟩ (.int .i64 T'.2.2.1)).setCell ⟨w6.heap.size, 1, none⟩ (.int .i64 T'.2.2.2)).setCell ⟨w6.heap.size, 2, none⟩ (.int .i64 0)).setCell ⟨w6.heap.size, 3, none⟩ (.int .i64 0)).cell? ⟨B, 3, none⟩ = some (.int .i64 texts) := hjs.cell 3; have HR20 := Lib.hid hr20; have HB20 := Lib.hid hb20f; have HH20 := Lib.hid hh20; clear hr20 hb20 hb20f hj20 hh20 hjs))))
      obtain ⟨Wg, hWg⟩ : ∃ Wg, Wg = (((w20.setCell ⟨w6.heap.size, 0, none⟩ (.int .i64 T'.2.2.1)).setCell ⟨w6.heap.size, 1, none⟩ (.int .i64 T'.2.2.2)).setCell ⟨w6.heap.size, 2, none⟩ (.int .i64 0)).setCell ⟨w6.heap.size, 3, none⟩ (.int .i64 0) := ⟨_, rfl⟩
      obtain ⟨pb, pf⟩ := put4_blk (a' := .int .i64 T'.2.2.1) (b' := .int .i64 T'.2.2.2) (c' := .int .i64 0) (d' := .int .i64 0) HH20.out (show B ≤ w6.heap.size by omega)
      have pf2 : Frm B [32] w20 Wg := by rw [hWg]; exact pf
      have hfg : Blk Wg w4.heap.size 32 #[.int .i64 T'.2.2.1, .int .i64 T'.2.2.2, .int .i64 0, .int .i64 0] := by
        rw [hWg]
        exact ((((HPB.out.below HB20.out HPB.out.lt).far (p := ⟨w6.heap.size, 0, none⟩) (Ne.symm hne46) _).far (p := ⟨w6.heap.size, 1, none⟩) (Ne.symm hne46) _).far (p := ⟨w6.heap.size, 2, none⟩) (Ne.symm hne46) _).far (p := ⟨w6.heap.size, 3, none⟩) (Ne.symm hne46) _
      have hhg : Blk Wg w6.heap.size 32 #[.int .i64 T'.2.2.1, .int .i64 T'.2.2.2, .int .i64 0, .int .i64 0] := by rw [hWg]; exact pb
      have hf1 : Frm 0 TQ w13 Wg := ((HPF.out.base.more (by simp [TQ])).trans (Frm.of_below (T := TQ) HB20.out (Nat.zero_le _))).trans (pf2.base.more (by simp [TQ]))
      have hf2 : Frm 0 TQ W6 wr := ((Frm.of_below (T := TQ) HB8.out (Nat.zero_le _)).trans (Frm.of_below (T := TQ) HB11.out (Nat.zero_le _))).trans (HFR2.out.base.more (by simp [TQ]))
      have hf3 : Frm 0 TQ W6 Wg := (hf2.trans (Frm.of_below (T := TQ) HB13.out (Nat.zero_le _))).trans hf1
      have hsz := fun wz (hz : Below Wg.heap.size Wg wz) => same20_any wz wr.heap.size w19.heap.size v13 v20 T'.1 ((HX13.out.frm hf1 (by decide) (by decide)).below hz) ((HR20.out.frm pf2 (by decide) (by decide)).below hz) (by omega) E2.out
      have hsx := fun wz (hz : Below Wg.heap.size Wg wz) => same20_any wz C3 W5.heap.size v4 v6 T.1 ((HX6.out.frm hf3 (by decide) (by decide)).below hz) ((HR6.out.frm hf3 (by decide) (by decide)).below hz) (by omega) D2.out
      have hBg : Below B w Wg := (HBF.out.trans (HB20.out.mono (Nat.le_of_lt hBWf))).trans pf2.below
      obtain ⟨f0, f1, f2, f3, _, _, _, _⟩ := (show Blk ((((w20.setCell ⟨w6.heap.size, 0, none⟩ (.int .i64 T'.2.2.1)).setCell ⟨w6.heap.size, 1, none⟩ (.int .i64 T'.2.2.2)).setCell ⟨w6.heap.size, 2, none⟩ (.int .i64 0)).setCell ⟨w6.heap.size, 3, none⟩ (.int .i64 0)) w4.heap.size 32 #[.int .i64 T'.2.2.1, .int .i64 T'.2.2.2, .int .i64 0, .int .i64 0] from by rw [← hWg]; exact hfg).cells4
      obtain ⟨h0, h1, h2, h3, _, _, _, _⟩ := (show Blk ((((w20.setCell ⟨w6.heap.size, 0, none⟩ (.int .i64 T'.2.2.1)).setCell ⟨w6.heap.size, 1, none⟩ (.int .i64 T'.2.2.2)).setCell ⟨w6.heap.size, 2, none⟩ (.int .i64 0)).setCell ⟨w6.heap.size, 3, none⟩ (.int .i64 0)) w6.heap.size 32 #[.int .i64 T'.2.2.1, .int .i64 T'.2.2.2, .int .i64 0, .int .i64 0] from by rw [← hWg]; exact hhg).cells4
      have HSZ := Lib.hid hsz
      have HSX2 := Lib.hid hsx
      have HF3 := Lib.hid hf3
      have HBG := Lib.hid hBg
      have HWG := Lib.hid hWg
      clear pb pf pf2 hfg hhg hf1 hf2 hf3 hsz hsx hBg hWg q1 q2 q3 r1 r2 r3 t1 t2 t3 s1 s2 s3 y0 y1 y2 y3 u0 u1 u2 u3
      go_wp2_with fail
      rw [← HWG.out]
      refine (HSZ.out _ (Below.refl _ _)).mono ?_
      rintro e w21 ⟨rfl, m21, rfl⟩
      have hb21 := below_drewNs (Below.refl Wg.heap.size Wg) m21
      have HB21 := Lib.hid hb21
      clear hb21 f0 f1 f2 f3 h0 h1 h2 h3
      go_wp2_with fail
      refine (HSX2.out _ HB21.out).mono ?_
      rintro e w22 ⟨rfl, m22, rfl⟩
      have hb22 := below_drewNs HB21.out m22
      obtain ⟨Wh, hWh⟩ : ∃ Wh, Wh = (Wg.drewN m21).drewN m22 := ⟨_, rfl⟩
      rw [← hWh] at hb22 ⊢
      have HBH := Lib.hid hb22
      have hfall : Frm 0 TQ W6 Wh := HF3.out.trans (Frm.of_below hb22 (Nat.zero_le _))
      have hf56 : Frm 0 TQ W5 W6 := Frm.of_below HB65.out (Nat.zero_le _)
      have hf46 : Frm 0 TQ W4 W6 := (Frm.of_below HB54.out (Nat.zero_le _)).trans hf56
      obtain ⟨xo, xl, xs, xlo⟩ := HLX.out.frm (hf46.trans hfall) (by decide) (by decide)
      obtain ⟨yo, yl, ys, ylo⟩ := HLY.out.frm (hf56.trans hfall) (by decide) (by decide)
      obtain ⟨Ax, cx, rfl⟩ := own_form xo
      obtain ⟨Ay, cy, rfl⟩ := own_form yo
      obtain ⟨nx, hnx⟩ : ∃ nx, T.1.length = nx := ⟨_, rfl⟩
      rw [hnx] at xl yl d1
      rw [xl] at xo ⊢
      rw [yl] at yo ⊢
      obtain ⟨Wb, hWb⟩ : ∃ Wb, Wb = Wh.alloc (.cells (bagA (.slice none 0 0)) 66) := ⟨_, rfl⟩
      have hab : Below Wh.heap.size Wh Wb := by rw [hWb]; exact (Below.refl _ _).alloc (Nat.le_refl _) _
      have hbag0 : BagAt Wb B Wh.heap.size [] := ⟨none, 0, by rw [hWb]; exact Blk.new _ _ _, World.ownsRow_nil _ _ _ _⟩
      have hfb : Frm 0 [] Wh Wb := Frm.of_below hab (Nat.zero_le _)
      have hrx : RestX Wb C3 0 nx Ax cx lx := ⟨shVals lx, hfb.own xo (by simp), fun j _ => ⟨rfl, rfl⟩⟩
      have hry : Wb.ownsRow C4 69 2 (.slice Ay nx cy) nx (shVals ly) := hfb.own yo (by simp)
      have hBWh : B ≤ Wh.heap.size := by have h1 := hb22.size; have h2 := HBG.out.size; omega
      have hzb := hab.size
      unfold bagA at hWb
      have HBAG0 := Lib.hid hbag0
      have HRX := Lib.hid hrx
      have HRY := Lib.hid hry
      have HWB2 := Lib.hid hWb
      have HXL := Lib.hid xl
      have HYL := Lib.hid yl
      have HBH := Lib.hid hb22
      have HAB := Lib.hid hab
      clear hb22 hWh hfall hf56 hf46 xo xl xs xlo yo yl ys ylo hWb hab hbag0 hfb hrx hry
      go_wp2_with fail
      rw [← HWB2.out]
      go_loopw [18] (fun v18 wr => ∃ i : Nat, i ≤ nx ∧ v18 = .int .i64 i ∧ BagAt wr B Wh.heap.size (bagL lx ly i) ∧ RestX wr C3 i nx Ax cx lx ∧ wr.ownsRow C4 69 2 (.slice Ay nx cy) nx (shVals ly) ∧ Frm B TBS Wb wr) (fun v18 _ => nx - (intOf v18).toNat)
      case atStart => exact ⟨0, by omega, rfl, HBAG0.out, HRX.out, HRY.out, Frm.refl _ _ _⟩
      case round =>
        obtain ⟨i, hi, rfl, hbag, hrx, hry, hfr⟩ := hrel
        by_cases hin : i < nx
        · obtain ⟨x, hx⟩ : ∃ x, lx[i]? = some x := ⟨_, List.getElem?_eq_getElem (by rw [HXL.out]; exact hin)⟩
          obtain ⟨y, hy⟩ : ∃ y, ly[i]? = some y := ⟨_, List.getElem?_eq_getElem (by rw [HYL.out]; exact hin)⟩
          have hzr := hfr.size
          obtain ⟨gx, rfl, hCg, hgl, x0, x1, _, _, _⟩ := hrx.cells hx
          have hgx4 : gx < C4 := by rw [hC4]; exact (HLX.out.1.lt gx (by simp [Value.ownBlock])).2
          have hyR : RestX wr C4 i nx Ay cy ly := ⟨shVals ly, hry, fun _ _ => ⟨rfl, rfl⟩⟩
          have had := addSmalls_any Wh.heap.size B (bagL lx ly i) (lstOf x) wr hbag (bagL_len _ _ _) hBWh (by omega)
          have hbs := bagL_succ hx hy
          have HRX := Lib.hid hrx
          have HYR := Lib.hid hyR
          have HRY := Lib.hid hry
          have HAD := Lib.hid had
          have HFR := Lib.hid hfr
          have HBS := Lib.hid hbs
          have HX := Lib.hid hx
          have HY := Lib.hid hy
          obtain ⟨xat, xA, xn, xc, xh⟩ := x
          obtain ⟨yat, yA, yn, yc, yh⟩ := y
          simp only at x0 x1
          have hinI : (i : Int) < nx := by omega
          clear hbag hrx hry hfr hyR had hbs hx hy
          go_wp2_with fail
          refine HAD.out.mono ?_
          rintro e w30 ⟨rfl, hbag1, hf30⟩
          obtain ⟨gy, rfl, _, _, y0, y1, _, _, _⟩ := (HYR.out.frm hf30 (by decide)).cells HY.out
          simp only at y0 y1
          have had2 := addSmalls_any Wh.heap.size B _ (lstOf ⟨yat, yA, yn, yc, yh⟩) w30 hbag1 (by first | exact addL_len (bagL_len _ _ _) | (have h := addL_len (x := lstOf ⟨xat, xA, xn, xc, xh⟩) (bagL_len lx ly i); exact h)) hBWh (by have := hf30.size; omega)
          have HAD2 := Lib.hid had2
          have HF30 := Lib.hid hf30
          clear had2 hbag1 hf30
          go_wp2_with fail
          refine HAD2.out.mono ?_
          rintro e w31 ⟨rfl, hbag2, hf31⟩
          have hf01 := HF30.out.trans hf31
          have hrx31 := HRX.out.frm hf01 (by decide)
          obtain ⟨gx2, e2, _, _, x0, x1, z0, z1, cs, hgb⟩ := hrx31.cells HX.out
          injection e2 with e2
          injection e2 with e2
          subst e2
          have HBAG2 := Lib.hid hbag2
          have HF01 := Lib.hid hf01
          have HRX31 := Lib.hid hrx31
          have HGB := Lib.hid hgb
          clear hbag2 hf31 hf01 hrx31 hgb
          go_wp2_with fail
          go_roundw
          case rel =>
            have hfs := ((Frm.refl B [69] w31).set_ (i := i * 2) HGB.out (by omega) (by simp) (.int .i64 (-1))).set_ (i := i * 2 + 1) (HGB.out.set_ (i * 2) (.int .i64 (-1))) (by omega) (by simp) (.slice none 0 0)
            refine ⟨i + 1, by omega, by go_num, ?_, HRX31.out.strike hin _ _, ?_, ?_⟩
            · rw [HBS.out]
              exact HBAG2.out.frm hfs (by decide) (by decide)
            · have ho := HF01.out.own HRY.out (by decide)
              have hCy := (ho.lt gy (by simp [Value.ownBlock])).1
              have hne : (Value.slice (some (⟨gy, 0, none⟩ : Addr)) nx cy).ownBlock ≠ some gx := by
                intro e
                injection e with e
                have e2 : gy = gx := e
                omega
              exact own_setCell (own_setCell ho (p := ⟨gx, i * 2, none⟩) hne _) (p := ⟨gx, i * 2 + 1, none⟩) hne _
            · exact (HFR.out.trans (HF01.out.more (by simp [TB, TBS]))).trans (hfs.more (by simp [TBS]))
          case measure => (simp [intOf]; try omega)
        · have he : i = nx := by omega
          subst he
          have hzr := hfr.size
          have had := addSmalls_any Wh.heap.size B (bagL lx ly i) ⟨some ⟨sb, 0, none⟩, ns, ns + 64⟩ wr hbag (bagL_len _ _ _) hBWh (by omega)
          have HAD := Lib.hid had
          have HFR := Lib.hid hfr
          have HRY := Lib.hid hry
          clear hbag hrx hry hfr had
          go_wp2_with fail
          refine HAD.out.mono ?_
          rintro e w40 ⟨rfl, hbag4, hf40⟩
          have hf60 : Frm 0 TA W6 w40 := ((((HF3.out.more (by simp [TQ, TA])).trans (Frm.of_below (T := TA) HBH.out (Nat.zero_le _))).trans (Frm.of_below (T := TA) HAB.out (Nat.zero_le _))).trans (HFR.out.base.more (by simp [TBS, TA]))).trans (hf40.base.more (by simp [TB, TA]))
          have hf50 : Frm 0 TA W5 w40 := (Frm.of_below (T := TA) HB65.out (Nat.zero_le _)).trans hf60
          have hy40 : ShapesAt w40 C4 (.slice Ay i cy) T.1 := ⟨ly, by rw [HYL.out]; exact hf40.own HRY.out (by decide), by rw [HYL.out, hnx], fun q x p hx hp => (HLY.out.2.2.1 q x p hx hp).frm hf50 (by decide), HLY.out.2.2.2⟩
          have hsy := same20_any w40 C4 W5.heap.size (.slice Ay i cy) v6 T.1 hy40 (HR6.out.frm hf60 (by decide) (by decide)) (by omega) D2.out
          have HSY2 := Lib.hid hsy
          have HBAG4 := Lib.hid hbag4
          have HF60 := Lib.hid hf60
          have HF40 := Lib.hid hf40
          clear hbag4 hf40 hf60 hf50 hy40 hsy
          go_wp2_with fail
          refine HSY2.out.mono ?_
          rintro e w41 ⟨rfl, m41, rfl⟩
          obtain ⟨Wk, hWk⟩ : ∃ Wk, Wk = w40.drewN m41 := ⟨_, rfl⟩
          have hbk : Below w40.heap.size w40 Wk := by rw [hWk]; exact below_drewNs (Below.refl w40.heap.size w40) m41
          have hfk : Frm 0 TA w40 Wk := Frm.of_below hbk (Nat.zero_le _)
          have hf6k : Frm 0 TA W6 Wk := HF60.out.trans hfk
          have hf5k : Frm 0 TA W5 Wk := (Frm.of_below (T := TA) HB65.out (Nat.zero_le _)).trans hf6k
          have hf4k : Frm 0 TA W4 Wk := (Frm.of_below (T := TA) HB54.out (Nat.zero_le _)).trans hf5k
          obtain ⟨Ab, cb, hbgk, hogk⟩ := HBAG4.out.frm (Frm.of_below (T := []) (B := 0) hbk (Nat.zero_le _)) (by simp) (by simp)
          have hos : Own8 Wk B ⟨some ⟨sb, 0, none⟩, ns, ns + 64⟩ ((smallVals (wideS slots)).take (ns * 1)) := by
            have hl : (smallVals (wideS slots)).length = ns + 64 := by simp only [smallVals, List.length_map, wideS_len, HNS.out]
            have h0 : W6.ownsRow B 82 1 (.slice (some ⟨sb, 0, none⟩) ns (ns + 64)) ns ((smallVals (wideS slots)).take (ns * 1)) := ⟨by rw [List.length_take, hl]; omega, .inr ⟨sb, ns + 64, _, rfl, by omega, HSB6.out, by omega, by simp only [maxLen]; omega, by rw [List.size_toArray, hl]; omega, rfl⟩⟩
            exact hf6k.own h0 (by decide)
          obtain ⟨k1, k2, k3⟩ := bagS_ok (i := i) HLX.out HLY.out hC4 hsbC (by omega) (by omega) D2.out D3.out hf4k hf5k (by decide) hos (by omega)
          have hbel : Below B w w40 := ((((HBG.out.trans (HBH.out.mono (by have h1 := HBG.out.size; rw [hBe] at h1; exact h1))).trans (HAB.out.mono hBWh)).trans HFR.out.below).trans HF40.out.below)
          have hbelk : Below B w Wk := by rw [hWk]; exact below_drewNs hbel m41
          have hBk : B ≤ Wk.heap.size := by have h1 := hbelk.size; rw [hBe] at h1; exact h1
          have hap := apart_any Wk Wh.heap.size B _ cb Ab _ hbgk hogk rfl (by have h1 := addL_len (x := ⟨some ⟨sb, 0, none⟩, ns, ns + 64⟩) (bagL_len lx ly i); exact h1) hBk k2 k1 k3
          rw [← hWk]
          have HAP := Lib.hid hap
          have HBK := Lib.hid hbelk
          clear hbk hfk hf6k hf5k hf4k hbgk hogk hos k1 k2 k3 hbel hbelk hap hWk
          go_wp2_with fail
          refine HAP.out.mono ?_
          rintro e w42 ⟨rfl, hf42⟩
          have hb42 := HBK.out.trans hf42.below
          have HB42 := Lib.hid hb42
          clear hf42 hb42
          go_wp2_with fail
          refine (works20_any _).mono ?_
          rintro e wz ⟨rfl, hbz⟩
          have HBZ := Lib.hid hbz
          clear hbz
          go_wp2_with fail
          go_ret
          exact ⟨rfl, HB42.out.trans (HBZ.out.mono (by have h := HB42.out.size; rw [hBe] at h; exact h))⟩
end
end Go.Proofs.YtabpheanbomibaaGreatDoor
