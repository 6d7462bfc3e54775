/- looker.expr: one step, whatever the calls of itself answer. -/
import Derived.Test.YtggibiodeecljaaOper
namespace Go.Proofs.Ytggibiodeecljaa
open Go.RowKit

theorem LK.below {w w' : World} {B C kb : Nat} {tv : Value} {s : LSt} (h : LK w B kb tv s) (hb : Below C w w') (hC : w.heap.size ≤ C) : LK w' B kb tv s := by
  obtain ⟨sv, mb, h1, h2, h3, h4, h5⟩ := h
  refine ⟨sv, mb, h1, h2, h3.below hb (by have := h3.lt; omega), h4.of_block keyI (hb.block mb (by have := h4.lt keyI; omega)), ?_⟩
  obtain ⟨h6, h7⟩ := h5
  refine ⟨h6, ?_⟩
  rcases h7 with h7 | ⟨g, cap, cur, hv, hg, hh, r⟩
  · exact .inl h7
  · exact .inr ⟨g, cap, cur, hv, hg, (hb.block g (by have := (Array.getElem?_eq_some_iff.1 hh).1; omega)).trans hh, r⟩

theorem nat_beq0 (n : Nat) : (((n : Nat) : Int) == 0) = decide (n = 0) := by rw [Bool.eq_iff_iff]; simp

/-- The node's own copy in a new block, then its kids. -/
theorem kids_pre (B kb tb toff cap : Nat) (ts : List Node) (s : LSt) (i : Nat) (cs : Array Value) (w : World) (hl : ts.length ≤ 100000) (h : LK w B kb (.slice (some ⟨tb, toff, none⟩) ts.length cap) s)
    (hn : NodesAt w tb toff ts) (htb : tb < B) (hi : i < ts.length) (T : List TypeId) :
    Calls Try.prog 114 #[.slice (some ⟨tb, toff, none⟩) ts.length cap, .int .i64 i] (w.alloc (.cells cs 42)) fun e w1 => ∃ kv, e = .returned kv ∧
      w1.ownsRow (w.heap.size + 1) 3 1 kv (kidsOf ts i).length ((kidsOf ts i).map fun j : Nat => Value.int .i64 j) ∧ LK w1 B kb (.slice (some ⟨tb, toff, none⟩) ts.length cap) s ∧ Frm B T w w1 ∧ NodesAt w1 tb toff ts ∧ Blk w1 w.heap.size 42 cs := by
  obtain ⟨hB, hks⟩ := h.size
  have hn0 : NodesAt (w.alloc (.cells cs 42)) tb toff ts := hn.below ((Below.refl B _).alloc (by omega) _) htb
  refine (kids_any tb toff cap ts i _ hl hn0 (by simp; omega) hi).mono ?_
  rintro e w1 ⟨v, rfl, ho, hb⟩
  simp only [World.size_alloc] at ho hb
  exact ⟨v, rfl, ho, (h.alloc _).below hb (by simp), ((Frm.refl B T w).alloc (by omega) _).trans (Frm.of_below (by simpa using hb) (by simp; omega)), hn0.below hb (by omega), (Blk.new w _ cs).below hb (by omega)⟩

section
variable (B kb tb toff cap : Nat) (ts : List Node) (slots : List Int) (seen : Int → Option Value) (rec : Nat → Bool → ER)

set_option maxRecDepth 100000 in
set_option maxHeartbeats 800000 in
theorem expr_bad (i : Nat) (w : World) (h : LK w B kb (.slice (some ⟨tb, toff, none⟩) ts.length cap) ⟨slots, seen, true⟩) :
    Calls Try.prog 157 #[.pointer (some ⟨kb, 0, none⟩), .int .i64 i] w fun e w' => e = .returned (.tuple #[.int .i8 0, .int .i64 0]) ∧
      LK w' B kb (.slice (some ⟨tb, toff, none⟩) ts.length cap) ⟨slots, seen, true⟩ ∧ Frm B [132] w w' := by
  have k3 := h.cells.2
  have HH := Lib.hid h
  clear h
  go_enter Try.func157, Try.ntmps157
  go_wp2_with fail
  go_ret2
  exact ⟨rfl, HH.out, Frm.refl _ _ _⟩

set_option maxRecDepth 100000 in
set_option maxHeartbeats 800000 in
/-- A number. -/
theorem expr_num (i : Nat) (x : Node) (w : World) (hl : ts.length ≤ 100000) (hx : ts[i]? = some x) (h : LK w B kb (.slice (some ⟨tb, toff, none⟩) ts.length cap) ⟨slots, seen, false⟩) (hn : NodesAt w tb toff ts) (htb : tb < B)
    (hp : (x.op == 30) = true) :
    Calls Try.prog 157 #[.pointer (some ⟨kb, 0, none⟩), .int .i64 i] w fun e w' => e = .returned (.tuple #[.int .i8 1, .int .i64 1]) ∧
      LK w' B kb (.slice (some ⟨tb, toff, none⟩) ts.length cap) ⟨slots, seen, !(decide (0 ≤ x.n) && decide ((kidsOf ts i).length = 0)) || !(likeB x 1 x.n 0)⟩ ∧ Frm B [132] w w' := by
  have hi := (List.getElem?_eq_some_iff.1 hx).1
  obtain ⟨c0, c1, c2, c3, c4, c5, c6⟩ := hn.all hx
  obtain ⟨k0, k3⟩ := h.cells
  obtain ⟨hBk, hks⟩ := h.size
  obtain ⟨n, hnk⟩ : ∃ n, (kidsOf ts i).length = n := ⟨_, rfl⟩
  rw [hnk]
  have HH := Lib.hid h
  have HN := Lib.hid hn
  have HX := Lib.hid hx
  have HK := Lib.hid hnk
  clear h hn hx hnk
  obtain ⟨q, hq⟩ : ∃ q, (decide (0 ≤ x.n) && decide (n = 0)) = q := ⟨_, rfl⟩
  rw [hq]
  have HQ := Lib.hid hq
  clear hq
  go_enter Try.func157, Try.ntmps157
  go_wp2_with (first | (go_at_call 114; refine (kids_pre B kb tb toff cap ts _ i _ w hl HH.out HN.out htb hi [132]).mono ?_; rintro e w1 ⟨kv, rfl, hown, h1, f1, n1, b1⟩; rw [HK.out] at hown; obtain ⟨A, c, rfl, _⟩ := kids_form hown; have e0 := b1.cell 0; have e2 := b1.cell 2; have H1 := Lib.hid h1; have F1 := Lib.hid f1; have N1 := Lib.hid n1; have B1 := Lib.hid b1; clear h1 f1 n1 b1 hown) | (go_at_call 111; refine (must_any B kb _ ⟨slots, seen, false⟩ _ _ H1.out).mono ?_; rintro e w2 ⟨rfl, h2, f2⟩; have e22 := (f2.blk B1.out (by decide)).cell 2; have H2 := Lib.hid h2; have F2 := Lib.hid f2; clear h2 f2) | (go_at_call 113; refine (like_any B kb tb toff cap ts _ i x 1 x.n 0 _ H2.out HX.out (F2.out.nodes N1.out htb) hl).mono ?_; rintro e w3 ⟨rfl, h3, f3⟩))
  all_goals
    go_ret2
    refine ⟨rfl, ?_, (F1.out.trans F2.out).trans f3⟩
    refine h3.congr rfl rfl ?_
    rw [← HQ.out]
    simp [LSt.must, nat_beq0, *]

set_option maxRecDepth 100000 in
set_option maxHeartbeats 800000 in
/-- true, false. -/
theorem expr_truth (i : Nat) (x : Node) (w : World) (hl : ts.length ≤ 100000) (hx : ts[i]? = some x) (h : LK w B kb (.slice (some ⟨tb, toff, none⟩) ts.length cap) ⟨slots, seen, false⟩) (hn : NodesAt w tb toff ts) (htb : tb < B)
    (hp : (x.op == 30) = false) (hp2 : (x.op == 31) = true ∨ ((x.op == 31) = false ∧ (x.op == 32) = true)) :
    Calls Try.prog 157 #[.pointer (some ⟨kb, 0, none⟩), .int .i64 i] w fun e w' => e = .returned (.tuple #[.int .i8 2, .int .i64 1]) ∧
      LK w' B kb (.slice (some ⟨tb, toff, none⟩) ts.length cap) ⟨slots, seen, !(decide ((kidsOf ts i).length = 0)) || !(likeB x 2 0 0)⟩ ∧ Frm B [132] w w' := by
  have hi := (List.getElem?_eq_some_iff.1 hx).1
  obtain ⟨c0, c1, c2, c3, c4, c5, c6⟩ := hn.all hx
  obtain ⟨k0, k3⟩ := h.cells
  obtain ⟨hBk, hks⟩ := h.size
  obtain ⟨n, hnk⟩ : ∃ n, (kidsOf ts i).length = n := ⟨_, rfl⟩
  rw [hnk]
  have HH := Lib.hid h
  have HN := Lib.hid hn
  have HX := Lib.hid hx
  have HK := Lib.hid hnk
  clear h hn hx hnk
  rcases hp2 with hp2 | ⟨hp2, hp3⟩
  all_goals
    go_enter Try.func157, Try.ntmps157
    go_wp2_with (first | (go_at_call 114; refine (kids_pre B kb tb toff cap ts _ i _ w hl HH.out HN.out htb hi [132]).mono ?_; rintro e w1 ⟨kv, rfl, hown, h1, f1, n1, b1⟩; rw [HK.out] at hown; obtain ⟨A, c, rfl, _⟩ := kids_form hown; have e0 := b1.cell 0; have e2 := b1.cell 2; have H1 := Lib.hid h1; have F1 := Lib.hid f1; have N1 := Lib.hid n1; have B1 := Lib.hid b1; clear h1 f1 n1 b1 hown) | (go_at_call 111; refine (must_any B kb _ ⟨slots, seen, false⟩ _ _ H1.out).mono ?_; rintro e w2 ⟨rfl, h2, f2⟩; have e22 := (f2.blk B1.out (by decide)).cell 2; have H2 := Lib.hid h2; have F2 := Lib.hid f2; clear h2 f2) | (go_at_call 113; refine (like_any B kb tb toff cap ts _ i x 2 0 0 _ H2.out HX.out (F2.out.nodes N1.out htb) hl).mono ?_; rintro e w3 ⟨rfl, h3, f3⟩))
    go_ret2
    refine ⟨rfl, ?_, (F1.out.trans F2.out).trans f3⟩
    refine h3.congr rfl rfl ?_
    simp [LSt.must, nat_beq0]

end
end Go.Proofs.Ytggibiodeecljaa
