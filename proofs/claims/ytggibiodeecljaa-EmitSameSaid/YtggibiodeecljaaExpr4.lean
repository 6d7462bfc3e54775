/- looker.expr at a field and at a call. -/
import Derived.Test.YtggibiodeecljaaMExpr2
namespace Go.Proofs.Ytggibiodeecljaa
open Go.RowKit

theorem bcell {W w1 : World} (hb : Below W.heap.size W w1) : (∀ b o, b < W.heap.size → w1.cell? ⟨b, o, none⟩ = W.cell? ⟨b, o, none⟩) ∧ (∀ b o, b < W.heap.size → w1.frozen? ⟨b, o, none⟩ = W.frozen? ⟨b, o, none⟩) :=
  ⟨fun b o h => hb.cell (p := ⟨b, o, none⟩) h, fun b o h => hb.frozen (p := ⟨b, o, none⟩) h⟩

theorem drew_size (w : World) : w.drew.heap.size = w.heap.size := rfl
theorem cell_far4 {w : World} {b c i : Nat} (h : b ≠ c) (u0 u1 u2 u3 : Value) : ((((w.setCell ⟨c, 0, none⟩ u0).setCell ⟨c, 1, none⟩ u1).setCell ⟨c, 2, none⟩ u2).setCell ⟨c, 3, none⟩ u3).cell? ⟨b, i, none⟩ = w.cell? ⟨b, i, none⟩ := by
  have hk : ∀ (w : World) (j : Nat) (u : Value), (w.setCell ⟨c, j, none⟩ u).cell? ⟨b, i, none⟩ = w.cell? ⟨b, i, none⟩ := fun w j u => World.cell?_setCell_other w _ _ u (fun e => h ((Addr.mk.inj e).1.symm))
  rw [hk, hk, hk, hk]

theorem SignsAt.alloc {w : World} {B b : Nat} {l : List Sign} (h : SignsAt w B b l) (o : Obj) : SignsAt (w.alloc o) B b l := h.below ((Below.refl _ _).alloc (Nat.le_refl _) o) (Nat.le_refl _)

theorem SignsAt.cast {w : World} {B b b' : Nat} {l : List Sign} (h : SignsAt w B b l) (e : b = b') : SignsAt w B b' l := e ▸ h

/-- A table, beside what is known of a cell. -/
theorem fields_cell (w : World) {nb : Nat} {u : Value} (hc : w.cell? ⟨nb, 2, none⟩ = some u) : Calls Try.prog 58 #[] w fun e w' => e = .returned (.slice (some ⟨w.heap.size + 13, 0, none⟩) 13 13) ∧ SignsAt w' w.heap.size (w.heap.size + 13) fieldsM ∧ Below w.heap.size w w' ∧ nb < w'.heap.size ∧ w'.cell? ⟨nb, 2, none⟩ = some u := by
  refine (fields_any w).mono ?_
  rintro e w' ⟨rfl, rfl⟩
  exact ⟨rfl, tableWorld_signs w fieldsM, tableWorld_below w fieldsM, Nat.lt_of_lt_of_le (World.block_lt_of_cell? w _ hc) (tableWorld_below w fieldsM).size, ((tableWorld_below w fieldsM).cell (p := ⟨nb, 2, none⟩) (World.block_lt_of_cell? w _ hc)).trans hc⟩
theorem funcs_cell (w : World) {nb : Nat} {u : Value} (hc : w.cell? ⟨nb, 2, none⟩ = some u) : Calls Try.prog 60 #[] w fun e w' => e = .returned (.slice (some ⟨w.heap.size + 9, 0, none⟩) 9 9) ∧ SignsAt w' w.heap.size (w.heap.size + 9) funcsM ∧ Below w.heap.size w w' ∧ nb < w'.heap.size ∧ w'.cell? ⟨nb, 2, none⟩ = some u := by
  refine (funcs_any w).mono ?_
  rintro e w' ⟨rfl, rfl⟩
  exact ⟨rfl, tableWorld_signs w funcsM, tableWorld_below w funcsM, Nat.lt_of_lt_of_le (World.block_lt_of_cell? w _ hc) (tableWorld_below w funcsM).size, ((tableWorld_below w funcsM).cell (p := ⟨nb, 2, none⟩) (World.block_lt_of_cell? w _ hc)).trans hc⟩
theorem effects_cell (w : World) {nb : Nat} {u : Value} (hc : w.cell? ⟨nb, 2, none⟩ = some u) : Calls Try.prog 59 #[] w fun e w' => e = .returned (.slice (some ⟨w.heap.size + 9, 0, none⟩) 9 9) ∧ SignsAt w' w.heap.size (w.heap.size + 9) effectsM ∧ Below w.heap.size w w' ∧ nb < w'.heap.size ∧ w'.cell? ⟨nb, 2, none⟩ = some u := by
  refine (effects_any w).mono ?_
  rintro e w' ⟨rfl, rfl⟩
  exact ⟨rfl, tableWorld_signs w effectsM, tableWorld_below w effectsM, Nat.lt_of_lt_of_le (World.block_lt_of_cell? w _ hc) (tableWorld_below w effectsM).size, ((tableWorld_below w effectsM).cell (p := ⟨nb, 2, none⟩) (World.block_lt_of_cell? w _ hc)).trans hc⟩
theorem sign_out_cell (b len cap : Nat) (n : Int) (w : World) (hlen : len ≤ 1000) (h : n < 0 ∨ (len : Int) ≤ n) {nb : Nat} {u : Value} (hc : w.cell? ⟨nb, 2, none⟩ = some u) :
    Calls Try.prog 163 #[.slice (some ⟨b, 0, none⟩) len cap, .int .i64 n] w fun e w' => e = .returned (.tuple #[.agg #[.string ByteArray.empty, .slice none 0 0, .int .i8 0, .nilFunc], .bool false]) ∧ Below w.heap.size w w' ∧ nb < w'.heap.size ∧ w'.cell? ⟨nb, 2, none⟩ = some u := by
  refine (sign_out b len cap n w hlen h).mono ?_
  rintro e w' ⟨rfl, hb⟩
  exact ⟨rfl, hb, Nat.lt_of_lt_of_le (World.block_lt_of_cell? w _ hc) hb.size, (hb.cell (p := ⟨nb, 2, none⟩) (World.block_lt_of_cell? w _ hc)).trans hc⟩
theorem sign_in_cell (B b : Nat) (l : List Sign) (len cap : Nat) (n : Int) (s : Sign) (w : World) (hl : l.length = len) (hlen : len ≤ 1000) (h : SignsAt w B b l) (hn : 0 ≤ n) (hs : l[n.toNat]? = some s) (F : Nat) (hF : s.fn = .func (Fn.func F) #[] #[]) {nb : Nat} {u : Value} (hc : w.cell? ⟨nb, 2, none⟩ = some u) :
    Calls Try.prog 163 #[.slice (some ⟨b, 0, none⟩) len cap, .int .i64 n] w fun e w' => ∃ g, e = .returned (.tuple #[.agg #[.string s.name, .slice (some ⟨g, 0, none⟩) s.args.length s.args.length, .int .i8 s.tell, .func (Fn.func F) #[] #[]], .bool true]) ∧
      B ≤ g ∧ Blk w' g 40 (s.args.map (Value.int .i8)).toArray ∧ Below w.heap.size w w' ∧ nb < w'.heap.size ∧ w'.cell? ⟨nb, 2, none⟩ = some u := by
  obtain ⟨m, rfl⟩ := Int.eq_ofNat_of_zero_le hn
  subst hl
  refine (sign_in B b l cap m s w hlen h hs).mono ?_
  rintro e w' ⟨g, rfl, h1, h2, hb⟩
  exact ⟨g, by simp [Sign.cells, hF], h1, h2, hb, Nat.lt_of_lt_of_le (World.block_lt_of_cell? w _ hc) hb.size, (hb.cell (p := ⟨nb, 2, none⟩) (World.block_lt_of_cell? w _ hc)).trans hc⟩

theorem sign_lit {s : Sign} {F g : Nat} (hF : s.fn = .func (Fn.func F) #[] #[]) : (s.cells g).toArray = #[.string s.name, .slice (some ⟨g, 0, none⟩) s.args.length s.args.length, .int .i8 s.tell, .func (Fn.func F) #[] #[]] := by simp [Sign.cells, hF]
theorem sign_blk {w : World} {s : Sign} {F g sb : Nat} (hF : s.fn = .func (Fn.func F) #[] #[]) (h : Blk w sb 162 #[.string s.name, .slice (some ⟨g, 0, none⟩) s.args.length s.args.length, .int .i8 s.tell, .func (Fn.func F) #[] #[]]) : Blk w sb 162 (s.cells g).toArray := by rw [sign_lit hF]; exact h
theorem sign_blk4 {w : World} {s : Sign} {F g sb : Nat} {v0 v1 v2 v3 : Value} (hF : s.fn = .func (Fn.func F) #[] #[]) (h : Blk w sb 162 #[v0, v1, v2, v3]) :
    Blk ((((w.setCell ⟨sb, 0, none⟩ (.string s.name)).setCell ⟨sb, 1, none⟩ (.slice (some ⟨g, 0, none⟩) s.args.length s.args.length)).setCell ⟨sb, 2, none⟩ (.int .i8 s.tell)).setCell ⟨sb, 3, none⟩ (.func (Fn.func F) #[] #[])) sb 162 (s.cells g).toArray := by
  rw [sign_lit hF]
  have := (((h.set_ 0 (.string s.name)).set_ 1 (.slice (some ⟨g, 0, none⟩) s.args.length s.args.length)).set_ 2 (.int .i8 s.tell)).set_ 3 (.func (Fn.func F) #[] #[])
  simpa using this

/-- Behind 's, ok := sign(..)': what the two variables hold. -/
def SignSlot (w1 wx : World) (s11 s12 : Value) (o : Option Sign) : Prop :=
  ∃ sb, s11 = .pointer (some ⟨sb, 0, none⟩) ∧ Below w1.heap.size w1 wx ∧ w1.heap.size ≤ sb ∧ match o with
    | none => s12 = .bool false
    | some s => s12 = .bool true ∧ ∃ g, Blk wx sb 162 (s.cells g).toArray ∧ Blk wx g 40 (s.args.map (Value.int .i8)).toArray

section
variable (B kb tb toff cap : Nat) (ts : List Node) (slots : List Int) (seen : Int → Option Value) (rec : Nat → Bool → ER)

set_option maxRecDepth 100000 in
set_option maxHeartbeats 3200000 in
/-- A field that is none. -/
theorem expr_nofield (i : Nat) (x : Node) (w : World) (hl : ts.length ≤ 100000) (hx : ts[i]? = some x) (h : LK w B kb (.slice (some ⟨tb, toff, none⟩) ts.length cap) ⟨slots, seen, false⟩) (hn : NodesAt w tb toff ts) (htb : tb < B)
    (p1 : (x.op == 30) = false) (p2 : (x.op == 31) = false) (p3 : (x.op == 32) = false) (p4 : (x.op == 33) = false) (p5 : (x.op == 49) = true) (hs : signOf fieldsM x.n = none) :
    Calls Try.prog 157 #[.pointer (some ⟨kb, 0, none⟩), .int .i64 i] w fun e w' => e = .returned (.tuple #[.int .i8 0, .int .i64 0]) ∧
      LK w' B kb (.slice (some ⟨tb, toff, none⟩) ts.length cap) ⟨slots, seen, true⟩ ∧ Frm B [132] w w' := by
  have hi := (List.getElem?_eq_some_iff.1 hx).1
  obtain ⟨c0, c1, c2, c3, c4, c5, c6⟩ := hn.all hx
  obtain ⟨k0, k3⟩ := h.cells
  obtain ⟨hBk, hks⟩ := h.size
  have hout : x.n < 0 ∨ ((13 : Nat) : Int) ≤ x.n := by
    unfold signOf at hs
    split at hs
    · exact .inl (by omega)
    · rw [List.getElem?_eq_none_iff] at hs
      have : fieldsM.length = 13 := rfl
      omega
  have HH := Lib.hid h
  have HN := Lib.hid hn
  have HX := Lib.hid hx
  have HO := Lib.hid hout
  clear h hn hx hs hout
  go_enter Try.func157, Try.ntmps157
  go_wp2_with (go_at_call 114; refine (kids_pre B kb tb toff cap ts _ i _ w hl HH.out HN.out htb hi [132]).mono ?_; rintro e w1 ⟨kv, rfl, hown, h1, f1, n1, b1⟩; obtain ⟨A, c, rfl, _⟩ := kids_form hown; have e0 := b1.cell 0; have e2 : w1.cell? ⟨w.heap.size, 2, none⟩ = some (.int .i64 x.n) := b1.cell 2; have H1 := Lib.hid h1; have F1 := Lib.hid f1; have N1 := Lib.hid n1; have B1 := Lib.hid b1; have hz1 := b1.lt; have hne1 : w.heap.size ≠ w1.heap.size := Nat.ne_of_lt hz1; clear h1 f1 n1 b1 hown)
  go_cut [11, 12] (fun s11 s12 wx => SignSlot w1 wx s11 s12 none)
  case first =>
    go_region_held3 (fun w' => w'.cell? ⟨w.heap.size, 2, none⟩ = some (.int .i64 x.n)) (first | exact e2 | exact hc3 | (rw [cell_far4 hne2]; exact hc3) | (rw [cell_far4 hne1]; exact hc3) | go_keep) ((first | (go_at_call 58; refine (fields_cell _ (nb := w.heap.size) (by assumption)).mono ?_; rintro e w2 ⟨rfl, hsg, hbl, hz4, hc3⟩; obtain ⟨bc2, bf2⟩ := bcell hbl; have hz6 := hbl.size; (try simp only [World.size_alloc, drew_size] at bc2 bf2 hz6); (try have hz7 : w1.heap.size < w2.heap.size := hz6); have hne2 : w.heap.size ≠ w2.heap.size := Nat.ne_of_lt hz4) | (go_at_call 163; refine (sign_out_cell _ 13 13 x.n _ (by omega) HO.out (nb := w.heap.size) (by assumption)).mono ?_; rintro e w3 ⟨rfl, hbl2, hz2, hc3⟩; obtain ⟨bc3, bf3⟩ := bcell hbl2; have hz3 := hbl2.size; (try simp only [World.size_alloc] at hz3 bc3 bf3); have hne3 : w.heap.size ≠ w3.heap.size := Nat.ne_of_lt hz2)))
    · go_wp2_with fail
      go_meet
      have B2 := (Below.refl w1.heap.size w1).drew.trans hbl
      have B3 := B2.trans (hbl2.mono B2.size)
      exact ⟨_, rfl, B3.alloc B3.size _, B3.size, rfl⟩
    · go_wp2_with fail
      go_meet
      have B2 := (Below.refl w1.heap.size w1).drew.trans hbl
      have B3 := (B2.alloc B2.size _).trans (hbl2.mono (Nat.le_trans B2.size (by simp)))
      exact ⟨_, rfl, (((B3.setCell B2.size _).setCell B2.size _).setCell B2.size _).setCell B2.size _, B2.size, rfl⟩
    · go_wp2_with fail
      go_meet
      have B2 := ((Below.refl w1.heap.size w1).alloc (Nat.le_refl _) _).drew.trans (hbl.mono (by simp))
      have B3 := B2.trans (hbl2.mono B2.size)
      exact ⟨_, rfl, (((B3.setCell (Nat.le_refl _) _).setCell (Nat.le_refl _) _).setCell (Nat.le_refl _) _).setCell (Nat.le_refl _) _, Nat.le_refl _, rfl⟩
  case rest =>
    obtain ⟨sb, rfl, hbw, hsb, rfl⟩ := hcut
    have H2 := H1.out.below hbw (Nat.le_refl _)
    have F2 := F1.out.trans (Frm.of_below hbw (by have := H1.out.size; omega))
    have HL2 := Lib.hid H2
    have HF2 := Lib.hid F2
    clear H2 F2 hbw e0 e2
    go_wp2_with fail
    refine (must_no B kb _ slots seen _ false HL2.out).mono ?_
    rintro e w2 ⟨rfl, h2, f2⟩
    go_wp2_with fail
    go_ret2
    exact ⟨rfl, h2, HF2.out.trans f2⟩

end
end Go.Proofs.Ytggibiodeecljaa
