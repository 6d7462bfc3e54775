/- The looker of package check: what its struct, its slots and its map hold; must, like. -/
import Derived.Test.YtggibiodeecljaaProg
import Derived.Test.YtggibiodeecljaaNode
import Derived.BigGuardPart
namespace Go.Proofs.Ytggibiodeecljaa
open Go.RowKit

structure LSt where
  slots : List Int
  seen : Int → Option Value
  bad : Bool

def keyI : KeyT Try.prog 3 Int := intKey Try.prog 3 .i64 Try.underlying3

/-- The looker at block kb, all that it owns from block B on. -/
def LK (w : World) (B kb : Nat) (tv : Value) (s : LSt) : Prop :=
  ∃ sv mb, B ≤ kb ∧ B ≤ mb ∧ Blk w kb 132 #[tv, sv, .map (some mb), .bool s.bad] ∧ MK keyI w mb s.seen ∧ w.ownsRow B 40 1 sv s.slots.length (s.slots.map (Value.int .i8))

def LSt.must (s : LSt) (x : Bool) : LSt := { s with bad := s.bad || !x }

theorem LK.setBad {w : World} {B kb : Nat} {tv : Value} {s : LSt} (h : LK w B kb tv s) (x : Bool) : LK (w.setCell ⟨kb, 3, none⟩ (.bool x)) B kb tv { s with bad := x } := by
  obtain ⟨sv, mb, h1, h2, h3, h4, h5⟩ := h
  refine ⟨sv, mb, h1, h2, h3.set_ 3 _, h4.setCell _ (h4.blk_ne h3) _, own_setCell h5 (own_blk_ne h5 h3 (by decide)) _⟩

theorem must_any (B kb : Nat) (tv : Value) (s : LSt) (x : Bool) (w : World) (h : LK w B kb tv s) :
    Calls Try.prog 111 #[.pointer (some ⟨kb, 0, none⟩), .bool x] w fun e w' => e = .returned (.bool (!(s.must x).bad)) ∧ LK w' B kb tv (s.must x) ∧ Frm B [132] w w' := by
  have h0 := h.setBad (s.bad || !x)
  have hc : w.cell? ⟨kb, 3, none⟩ = some (.bool s.bad) := by obtain ⟨sv, mb, h1, h2, h3, _⟩ := h; exact h3.cell 3
  have hf : w.frozen? ⟨kb, 3, none⟩ = false := by obtain ⟨sv, mb, h1, h2, h3, _⟩ := h; exact h3.frozen 3
  have hfr : ∀ u, Frm B [132] w (w.setCell ⟨kb, 3, none⟩ u) := by obtain ⟨sv, mb, h1, h2, h3, _⟩ := h; exact fun u => (Frm.refl _ _ _).set_ h3 h1 (by simp) u
  have HFr := Lib.hid hfr
  clear hfr
  have H := Lib.hid h0
  clear h0 h
  cases hb : s.bad <;> cases x <;> simp only [hb] at hc H
  all_goals
    have HB := Lib.hid hb
    clear hb
    go_enter Try.func111, Try.ntmps111
    go_wp2
    go_ret
    exact ⟨by simp [LSt.must, HB.out], by simpa [LSt.must, HB.out] using H.out, HFr.out _⟩

theorem LK.size {w : World} {B kb : Nat} {tv : Value} {s : LSt} (h : LK w B kb tv s) : B ≤ kb ∧ kb < w.heap.size := by
  obtain ⟨sv, mb, h1, h2, h3, _⟩ := h
  exact ⟨h1, h3.lt⟩
theorem LK.cells {w : World} {B kb : Nat} {tv : Value} {s : LSt} (h : LK w B kb tv s) : w.cell? ⟨kb, 0, none⟩ = some tv ∧ w.cell? ⟨kb, 3, none⟩ = some (.bool s.bad) := by
  obtain ⟨sv, mb, h1, h2, h3, _⟩ := h
  exact ⟨h3.cell 0, h3.cell 3⟩
theorem LK.alloc {w : World} {B kb : Nat} {tv : Value} {s : LSt} (h : LK w B kb tv s) (o : Obj) : LK (w.alloc o) B kb tv s := by
  obtain ⟨sv, mb, h1, h2, h3, h4, h5⟩ := h
  exact ⟨sv, mb, h1, h2, h3.alloc o, h4.alloc keyI o, h5.alloc o⟩
theorem LK.drew {w : World} {B kb : Nat} {tv : Value} {s : LSt} (h : LK w B kb tv s) : LK w.drew B kb tv s := h
theorem LK.drewN {w : World} {B kb : Nat} {tv : Value} {s : LSt} (h : LK w B kb tv s) (n : Nat) : LK (w.drewN n) B kb tv s := h
theorem LK.congr {w : World} {B kb : Nat} {tv : Value} {s s' : LSt} (h : LK w B kb tv s) (h1 : s'.slots = s.slots) (h2 : s'.seen = s.seen) (h3 : s'.bad = s.bad) : LK w B kb tv s' := by
  cases s; cases s'; subst h1; subst h2; subst h3; exact h

/-- What a node says is just this. -/
def likeB (x : Node) (kind n m : Int) : Bool := x.kind == kind && x.n == n && x.m == m && decide (0 ≤ x.pos) && (x.text.toList.isEmpty || x.op == 52)

theorem must_fin {w w1 : World} {B kb : Nat} {tv : Value} {s : LSt} {b q : Bool} (h1 : LK w1 B kb tv (s.must b)) (hb : Frm B [132] w w1) (e : q = b) :
    Ending.returned (.bool (!(s.must b).bad)) = .returned (.bool (!(s.must q).bad)) ∧ LK w1 B kb tv (s.must q) ∧ Frm B [132] w w1 := by subst e; exact ⟨rfl, h1, hb⟩

theorem like_any (B kb tb toff cap : Nat) (ts : List Node) (s : LSt) (i : Nat) (x : Node) (kind n m : Int) (w : World) (h : LK w B kb (.slice (some ⟨tb, toff, none⟩) ts.length cap) s)
    (hx : ts[i]? = some x) (hn : NodesAt w tb toff ts) (_hlt : ts.length ≤ 100000) :
    Calls Try.prog 113 #[.pointer (some ⟨kb, 0, none⟩), .int .i64 i, .int .i8 kind, .int .i64 n, .int .i64 m] w fun e w' => e = .returned (.bool (!(s.must (likeB x kind n m)).bad)) ∧ LK w' B kb (.slice (some ⟨tb, toff, none⟩) ts.length cap) (s.must (likeB x kind n m)) ∧ Frm B [132] w w' := by
  have hi : i < ts.length := (List.getElem?_eq_some_iff.1 hx).1
  obtain ⟨c0, c1, c2, c3, c4, c5, c6⟩ := hn.all hx
  obtain ⟨k0, k3⟩ := h.cells
  obtain ⟨hB, hks⟩ := h.size
  have H := Lib.hid h
  clear h
  go_enter Try.func113, Try.ntmps113
  go_wp2_with fail
  all_goals
    refine (must_any B kb _ s _ _ (H.out.alloc _)).mono ?_
    rintro e w1 ⟨rfl, h1, hb1⟩
    go_wp2
    go_ret
    refine must_fin h1 (((Frm.refl _ _ _).alloc (by omega) _).trans hb1) ?_
    rcases Int.lt_or_le x.pos 0 with hp | hp
    · first | (exfalso; omega) | simp [likeB, *, Int.not_le.2 hp]
    · first | (exfalso; omega) | simp [likeB, *]

section
variable (B kb : Nat) (tv : Value) (slots : List Int) (seen : Int → Option Value) (w : World)
theorem must_yes (h : LK w B kb tv ⟨slots, seen, false⟩) : Calls Try.prog 111 #[.pointer (some ⟨kb, 0, none⟩), .bool true] w fun e w' => e = .returned (.bool true) ∧ LK w' B kb tv ⟨slots, seen, false⟩ ∧ Frm B [132] w w' :=
  (must_any B kb tv _ true w h).mono fun _ _ hh => hh
theorem must_no (bad : Bool) (h : LK w B kb tv ⟨slots, seen, bad⟩) : Calls Try.prog 111 #[.pointer (some ⟨kb, 0, none⟩), .bool false] w fun e w' => e = .returned (.bool false) ∧ LK w' B kb tv ⟨slots, seen, true⟩ ∧ Frm B [132] w w' :=
  (must_any B kb tv _ false w h).mono fun _ _ hh => by simpa [LSt.must] using hh
end
section
variable (B kb tb toff cap : Nat) (ts : List Node) (slots : List Int) (seen : Int → Option Value) (i : Nat) (x : Node) (kind n m : Int) (w : World)
theorem like_yes (hy : likeB x kind n m = true) (h : LK w B kb (.slice (some ⟨tb, toff, none⟩) ts.length cap) ⟨slots, seen, false⟩) (hx : ts[i]? = some x) (hn : NodesAt w tb toff ts) (hlt : ts.length ≤ 100000) :
    Calls Try.prog 113 #[.pointer (some ⟨kb, 0, none⟩), .int .i64 i, .int .i8 kind, .int .i64 n, .int .i64 m] w fun e w' => e = .returned (.bool true) ∧ LK w' B kb (.slice (some ⟨tb, toff, none⟩) ts.length cap) ⟨slots, seen, false⟩ ∧ Frm B [132] w w' :=
  (like_any B kb tb toff cap ts _ i x kind n m w h hx hn hlt).mono fun _ _ hh => by simpa [LSt.must, hy] using hh
theorem like_no (bad : Bool) (hy : likeB x kind n m = false) (h : LK w B kb (.slice (some ⟨tb, toff, none⟩) ts.length cap) ⟨slots, seen, bad⟩) (hx : ts[i]? = some x) (hn : NodesAt w tb toff ts) (hlt : ts.length ≤ 100000) :
    Calls Try.prog 113 #[.pointer (some ⟨kb, 0, none⟩), .int .i64 i, .int .i8 kind, .int .i64 n, .int .i64 m] w fun e w' => e = .returned (.bool false) ∧ LK w' B kb (.slice (some ⟨tb, toff, none⟩) ts.length cap) ⟨slots, seen, true⟩ ∧ Frm B [132] w w' :=
  (like_any B kb tb toff cap ts _ i x kind n m w h hx hn hlt).mono fun _ _ hh => by simpa [LSt.must, hy] using hh
end
end Go.Proofs.Ytggibiodeecljaa
