/- looker.expr at a call of a function. -/
import Derived.Test.YtggibiodeecljaaExpr4
namespace Go.Proofs.Ytggibiodeecljaa
open Go.RowKit
section
variable (B kb tb toff cap : Nat) (ts : List Node) (slots : List Int) (seen : Int → Option Value) (rec : Nat → Bool → ER)

set_option maxRecDepth 100000 in
set_option maxHeartbeats 3200000 in
/-- A function that is none. -/
theorem expr_nocall (i : Nat) (x : Node) (w : World) (hl : ts.length ≤ 100000) (hx : ts[i]? = some x) (h : LK w B kb (.slice (some ⟨tb, toff, none⟩) ts.length cap) ⟨slots, seen, false⟩) (hn : NodesAt w tb toff ts) (htb : tb < B)
    (p1 : (x.op == 30) = false) (p2 : (x.op == 31) = false) (p3 : (x.op == 32) = false) (p4 : (x.op == 33) = false) (p5 : (x.op == 49) = false) (p6 : (x.op == 50) = true) (hs : signOf funcsM x.n = none) :
    Calls Try.prog 157 #[.pointer (some ⟨kb, 0, none⟩), .int .i64 i] w fun e w' => e = .returned (.tuple #[.int .i8 0, .int .i64 0]) ∧
      LK w' B kb (.slice (some ⟨tb, toff, none⟩) ts.length cap) ⟨slots, seen, true⟩ ∧ Frm B [132] w w' := by
  have hi := (List.getElem?_eq_some_iff.1 hx).1
  obtain ⟨c0, c1, c2, c3, c4, c5, c6⟩ := hn.all hx
  obtain ⟨k0, k3⟩ := h.cells
  obtain ⟨hBk, hks⟩ := h.size
  have hout : x.n < 0 ∨ ((9 : Nat) : Int) ≤ x.n := by
    unfold signOf at hs
    split at hs
    · exact .inl (by omega)
    · rw [List.getElem?_eq_none_iff] at hs
      have : funcsM.length = 9 := rfl
      omega
  have HH := Lib.hid h
  have HN := Lib.hid hn
  have HX := Lib.hid hx
  have HO := Lib.hid hout
  clear h hn hx hs hout
  go_enter Try.func157, Try.ntmps157
  go_wp2_with (go_at_call 114; refine (kids_pre B kb tb toff cap ts _ i _ w hl HH.out HN.out htb hi [132]).mono ?_; rintro e w1 ⟨kv, rfl, hown, h1, f1, n1, b1⟩; obtain ⟨A, c, rfl, _⟩ := kids_form hown; have e0 := b1.cell 0; have e2 : w1.cell? ⟨w.heap.size, 2, none⟩ = some (.int .i64 x.n) := b1.cell 2; have H1 := Lib.hid h1; have F1 := Lib.hid f1; have N1 := Lib.hid n1; have B1 := Lib.hid b1; have hz1 := b1.lt; have hne1 : w.heap.size ≠ w1.heap.size := Nat.ne_of_lt hz1; clear h1 f1 n1 b1 hown)
  go_cut [13, 14] (fun s13 s14 wx => SignSlot w1 wx s13 s14 none)
  case first =>
    go_region_held3 (fun w' => w'.cell? ⟨w.heap.size, 2, none⟩ = some (.int .i64 x.n)) (first | exact e2 | exact hc3 | (rw [cell_far4 hne2]; exact hc3) | (rw [cell_far4 hne1]; exact hc3) | go_keep) ((first | (go_at_call 60; refine (funcs_cell _ (nb := w.heap.size) (by assumption)).mono ?_; rintro e w2 ⟨rfl, hsg, hbl, hz4, hc3⟩; obtain ⟨bc2, bf2⟩ := bcell hbl; have hz6 := hbl.size; (try simp only [World.size_alloc, drew_size] at bc2 bf2 hz6); (try have hz7 : w1.heap.size < w2.heap.size := hz6); have hne2 : w.heap.size ≠ w2.heap.size := Nat.ne_of_lt hz4) | (go_at_call 163; refine (sign_out_cell _ 9 9 x.n _ (by omega) HO.out (nb := w.heap.size) (by assumption)).mono ?_; rintro e w3 ⟨rfl, hbl2, hz2, hc3⟩; obtain ⟨bc3, bf3⟩ := bcell hbl2; have hz3 := hbl2.size; (try simp only [World.size_alloc] at hz3 bc3 bf3); have hne3 : w.heap.size ≠ w3.heap.size := Nat.ne_of_lt hz2)))
    · go_wp2_with fail
      go_meet
      have B2 := (Below.refl w1.heap.size w1).drew.trans hbl
      have B3 := B2.trans (hbl2.mono B2.size)
      exact ⟨_, rfl, B3.alloc B3.size _, B3.size, rfl⟩
    · go_wp2_with fail
      go_meet
      have B2 := (Below.refl w1.heap.size w1).drew.trans hbl
      have B3 := (B2.alloc B2.size _).trans (hbl2.mono (Nat.le_trans B2.size (by simp)))
      exact ⟨_, rfl, (((B3.setCell B2.size _).setCell B2.size _).setCell B2.size _).setCell B2.size _, B2.size, rfl⟩
    · go_wp2_with fail
      go_meet
      have B2 := ((Below.refl w1.heap.size w1).alloc (Nat.le_refl _) _).drew.trans (hbl.mono (by simp))
      have B3 := B2.trans (hbl2.mono B2.size)
      exact ⟨_, rfl, (((B3.setCell (Nat.le_refl _) _).setCell (Nat.le_refl _) _).setCell (Nat.le_refl _) _).setCell (Nat.le_refl _) _, Nat.le_refl _, rfl⟩
  case rest =>
    obtain ⟨sb, rfl, hbw, hsb, rfl⟩ := hcut
    have H2 := H1.out.below hbw (Nat.le_refl _)
    have F2 := F1.out.trans (Frm.of_below hbw (by have := H1.out.size; omega))
    have HL2 := Lib.hid H2
    have HF2 := Lib.hid F2
    clear H2 F2 hbw e0 e2
    go_wp2_with fail
    refine (must_no B kb _ slots seen _ false HL2.out).mono ?_
    rintro e w2 ⟨rfl, h2, f2⟩
    go_wp2_with fail
    go_ret2
    exact ⟨rfl, h2, HF2.out.trans f2⟩

end
end Go.Proofs.Ytggibiodeecljaa
