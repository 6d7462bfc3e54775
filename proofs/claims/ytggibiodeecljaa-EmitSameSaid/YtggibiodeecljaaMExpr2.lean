/- looker.expr: one step, whatever the calls of itself answer. looker.expr at a name; at an operator. -/
import Derived.Test.YtggibiodeecljaaOper
namespace Go.Proofs.Ytggibiodeecljaa
open Go.RowKit

theorem LK.below {w w' : World} {B C kb : Nat} {tv : Value} {s : LSt} (h : LK w B kb tv s) (hb : Below C w w') (hC : w.heap.size ≤ C) : LK w' B kb tv s := by
  obtain ⟨sv, mb, h1, h2, h3, h4, h5⟩ := h
  refine ⟨sv, mb, h1, h2, h3.below hb (by have := h3.lt; omega), h4.of_block keyI (hb.block mb (by have := h4.lt keyI; omega)), ?_⟩
  obtain ⟨h6, h7⟩ := h5
  refine ⟨h6, ?_⟩
  rcases h7 with h7 | ⟨g, cap, cur, hv, hg, hh, r⟩
  · exact .inl h7
  · exact .inr ⟨g, cap, cur, hv, hg, (hb.block g (by have := (Array.getElem?_eq_some_iff.1 hh).1; omega)).trans hh, r⟩

theorem nat_beq0 (n : Nat) : (((n : Nat) : Int) == 0) = decide (n = 0) := by rw [Bool.eq_iff_iff]; simp

/-- The node's own copy in a new block, then its kids. -/
theorem kids_pre (B kb tb toff cap : Nat) (ts : List Node) (s : LSt) (i : Nat) (cs : Array Value) (w : World) (hl : ts.length ≤ 100000) (h : LK w B kb (.slice (some ⟨tb, toff, none⟩) ts.length cap) s)
    (hn : NodesAt w tb toff ts) (htb : tb < B) (hi : i < ts.length) (T : List TypeId) :
    Calls Try.prog 114 #[.slice (some ⟨tb, toff, none⟩) ts.length cap, .int .i64 i] (w.alloc (.cells cs 42)) fun e w1 => ∃ kv, e = .returned kv ∧
      w1.ownsRow (w.heap.size + 1) 3 1 kv (kidsOf ts i).length ((kidsOf ts i).map fun j : Nat => Value.int .i64 j) ∧ LK w1 B kb (.slice (some ⟨tb, toff, none⟩) ts.length cap) s ∧ Frm B T w w1 ∧ NodesAt w1 tb toff ts ∧ Blk w1 w.heap.size 42 cs := by
  obtain ⟨hB, hks⟩ := h.size
  have hn0 : NodesAt (w.alloc (.cells cs 42)) tb toff ts := hn.below ((Below.refl B _).alloc (by omega) _) htb
  refine (kids_any tb toff cap ts i _ hl hn0 (by simp; omega) hi).mono ?_
  rintro e w1 ⟨v, rfl, ho, hb⟩
  simp only [World.size_alloc] at ho hb
  exact ⟨v, rfl, ho, (h.alloc _).below hb (by simp), ((Frm.refl B T w).alloc (by omega) _).trans (Frm.of_below (by simpa using hb) (by simp; omega)), hn0.below hb (by omega), (Blk.new w _ cs).below hb (by omega)⟩

section
variable (B kb tb toff cap : Nat) (ts : List Node) (slots : List Int) (seen : Int → Option Value) (rec : Nat → Bool → ER)

set_option maxRecDepth 100000 in
set_option maxHeartbeats 800000 in
theorem expr_bad (i : Nat) (w : World) (h : LK w B kb (.slice (some ⟨tb, toff, none⟩) ts.length cap) ⟨slots, seen, true⟩) :
    Calls Try.prog 157 #[.pointer (some ⟨kb, 0, none⟩), .int .i64 i] w fun e w' => e = .returned (.tuple #[.int .i8 0, .int .i64 0]) ∧
      LK w' B kb (.slice (some ⟨tb, toff, none⟩) ts.length cap) ⟨slots, seen, true⟩ ∧ Frm B [132] w w' := by
  have k3 := h.cells.2
  have HH := Lib.hid h
  clear h
  go_enter Try.func157, Try.ntmps157
  go_wp2_with fail
  go_ret2
  exact ⟨rfl, HH.out, Frm.refl _ _ _⟩

set_option maxRecDepth 100000 in
set_option maxHeartbeats 800000 in
/-- A number. -/
theorem expr_num (i : Nat) (x : Node) (w : World) (hl : ts.length ≤ 100000) (hx : ts[i]? = some x) (h : LK w B kb (.slice (some ⟨tb, toff, none⟩) ts.length cap) ⟨slots, seen, false⟩) (hn : NodesAt w tb toff ts) (htb : tb < B)
    (hp : (x.op == 30) = true) :
    Calls Try.prog 157 #[.pointer (some ⟨kb, 0, none⟩), .int .i64 i] w fun e w' => e = .returned (.tuple #[.int .i8 1, .int .i64 1]) ∧
      LK w' B kb (.slice (some ⟨tb, toff, none⟩) ts.length cap) ⟨slots, seen, !(decide (0 ≤ x.n) && decide ((kidsOf ts i).length = 0)) || !(likeB x 1 x.n 0)⟩ ∧ Frm B [132] w w' := by
  have hi := (List.getElem?_eq_some_iff.1 hx).1
  obtain ⟨c0, c1, c2, c3, c4, c5, c6⟩ := hn.all hx
  obtain ⟨k0, k3⟩ := h.cells
  obtain ⟨hBk, hks⟩ := h.size
  obtain ⟨n, hnk⟩ : ∃ n, (kidsOf ts i).length = n := ⟨_, rfl⟩
  rw [hnk]
  have HH := Lib.hid h
  have HN := Lib.hid hn
  have HX := Lib.hid hx
  have HK := Lib.hid hnk
  clear h hn hx hnk
  obtain ⟨q, hq⟩ : ∃ q, (decide (0 ≤ x.n) && decide (n = 0)) = q := ⟨_, rfl⟩
  rw [hq]
  have HQ := Lib.hid hq
  clear hq
  go_enter Try.func157, Try.ntmps157
  go_wp2_with (first | (go_at_call 114; refine (kids_pre B kb tb toff cap ts _ i _ w hl HH.out HN.out htb hi [132]).mono ?_; rintro e w1 ⟨kv, rfl, hown, h1, f1, n1, b1⟩; rw [HK.out] at hown; obtain ⟨A, c, rfl, _⟩ := kids_form hown; have e0 := b1.cell 0; have e2 := b1.cell 2; have H1 := Lib.hid h1; have F1 := Lib.hid f1; have N1 := Lib.hid n1; have B1 := Lib.hid b1; clear h1 f1 n1 b1 hown) | (go_at_call 111; refine (must_any B kb _ ⟨slots, seen, false⟩ _ _ H1.out).mono ?_; rintro e w2 ⟨rfl, h2, f2⟩; have e22 := (f2.blk B1.out (by decide)).cell 2; have H2 := Lib.hid h2; have F2 := Lib.hid f2; clear h2 f2) | (go_at_call 113; refine (like_any B kb tb toff cap ts _ i x 1 x.n 0 _ H2.out HX.out (F2.out.nodes N1.out htb) hl).mono ?_; rintro e w3 ⟨rfl, h3, f3⟩))
  all_goals
    go_ret2
    refine ⟨rfl, ?_, (F1.out.trans F2.out).trans f3⟩
    refine h3.congr rfl rfl ?_
    rw [← HQ.out]
    simp [LSt.must, nat_beq0, *]

set_option maxRecDepth 100000 in
set_option maxHeartbeats 800000 in
/-- true, false. -/
theorem expr_truth (i : Nat) (x : Node) (w : World) (hl : ts.length ≤ 100000) (hx : ts[i]? = some x) (h : LK w B kb (.slice (some ⟨tb, toff, none⟩) ts.length cap) ⟨slots, seen, false⟩) (hn : NodesAt w tb toff ts) (htb : tb < B)
    (hp : (x.op == 30) = false) (hp2 : (x.op == 31) = true ∨ ((x.op == 31) = false ∧ (x.op == 32) = true)) :
    Calls Try.prog 157 #[.pointer (some ⟨kb, 0, none⟩), .int .i64 i] w fun e w' => e = .returned (.tuple #[.int .i8 2, .int .i64 1]) ∧
      LK w' B kb (.slice (some ⟨tb, toff, none⟩) ts.length cap) ⟨slots, seen, !(decide ((kidsOf ts i).length = 0)) || !(likeB x 2 0 0)⟩ ∧ Frm B [132] w w' := by
  have hi := (List.getElem?_eq_some_iff.1 hx).1
  obtain ⟨c0, c1, c2, c3, c4, c5, c6⟩ := hn.all hx
  obtain ⟨k0, k3⟩ := h.cells
  obtain ⟨hBk, hks⟩ := h.size
  obtain ⟨n, hnk⟩ : ∃ n, (kidsOf ts i).length = n := ⟨_, rfl⟩
  rw [hnk]
  have HH := Lib.hid h
  have HN := Lib.hid hn
  have HX := Lib.hid hx
  have HK := Lib.hid hnk
  clear h hn hx hnk
  rcases hp2 with hp2 | ⟨hp2, hp3⟩
  all_goals
    go_enter Try.func157, Try.ntmps157
    go_wp2_with (first | (go_at_call 114; refine (kids_pre B kb tb toff cap ts _ i _ w hl HH.out HN.out htb hi [132]).mono ?_; rintro e w1 ⟨kv, rfl, hown, h1, f1, n1, b1⟩; rw [HK.out] at hown; obtain ⟨A, c, rfl, _⟩ := kids_form hown; have e0 := b1.cell 0; have e2 := b1.cell 2; have H1 := Lib.hid h1; have F1 := Lib.hid f1; have N1 := Lib.hid n1; have B1 := Lib.hid b1; clear h1 f1 n1 b1 hown) | (go_at_call 111; refine (must_any B kb _ ⟨slots, seen, false⟩ _ _ H1.out).mono ?_; rintro e w2 ⟨rfl, h2, f2⟩; have e22 := (f2.blk B1.out (by decide)).cell 2; have H2 := Lib.hid h2; have F2 := Lib.hid f2; clear h2 f2) | (go_at_call 113; refine (like_any B kb tb toff cap ts _ i x 2 0 0 _ H2.out HX.out (F2.out.nodes N1.out htb) hl).mono ?_; rintro e w3 ⟨rfl, h3, f3⟩))
    go_ret2
    refine ⟨rfl, ?_, (F1.out.trans F2.out).trans f3⟩
    refine h3.congr rfl rfl ?_
    simp [LSt.must, nat_beq0]

end
end Go.Proofs.Ytggibiodeecljaa
namespace Go.Proofs.Ytggibiodeecljaa
open Go.RowKit

theorem zero_bool (w : World) : (zeroValue 4).run Try.prog w = .ok (.bool false) w := by kernel_rfl

/-- The looker's map and slots. -/
theorem LK.parts {w : World} {B kb : Nat} {tv : Value} {s : LSt} (h : LK w B kb tv s) : ∃ sv mb, B ≤ mb ∧ w.cell? ⟨kb, 1, none⟩ = some sv ∧ w.cell? ⟨kb, 2, none⟩ = some (.map (some mb)) ∧ MK keyI w mb s.seen ∧ w.ownsRow B 40 1 sv s.slots.length (s.slots.map (Value.int .i8)) ∧
    Blk w kb 132 #[tv, sv, .map (some mb), .bool s.bad] := by
  obtain ⟨sv, mb, h1, h2, h3, h4, h5⟩ := h
  exact ⟨sv, mb, h2, h3.cell 1, h3.cell 2, h4, h5, h3⟩

theorem look_seen {w : World} {mb : Nat} {f : Int → Option Value} (h : MK keyI w mb f) (x : Int) (c : Bool) :
    (Instr.lookup 130 (.map (some mb)) (.int .i64 x) c).run Try.prog w = .ok (if c then .tuple #[(f x).getD (.bool false), .bool (f x).isSome] else (f x).getD (.bool false)) w :=
  h.lookup keyI Try.underlying130 zero_bool x c

section
variable (B kb tb toff cap : Nat) (ts : List Node) (slots : List Int) (seen : Int → Option Value) (rec : Nat → Bool → ER)

set_option maxRecDepth 100000 in
set_option maxHeartbeats 800000 in
/-- A name that is not seen. -/
theorem expr_noname (i : Nat) (x : Node) (w : World) (hl : ts.length ≤ 100000) (hx : ts[i]? = some x) (h : LK w B kb (.slice (some ⟨tb, toff, none⟩) ts.length cap) ⟨slots, seen, false⟩) (hn : NodesAt w tb toff ts) (htb : tb < B)
    (hp : x.op = 33) (hno : ¬ ((seen x.n).isSome = true ∧ 0 ≤ x.n ∧ x.n < 1048576 ∧ (kidsOf ts i).length = 0)) :
    Calls Try.prog 157 #[.pointer (some ⟨kb, 0, none⟩), .int .i64 i] w fun e w' => e = .returned (.tuple #[.int .i8 0, .int .i64 0]) ∧
      LK w' B kb (.slice (some ⟨tb, toff, none⟩) ts.length cap) ⟨slots, seen, true⟩ ∧ Frm B [132] w w' := by
  have hi := (List.getElem?_eq_some_iff.1 hx).1
  obtain ⟨c0, c1, c2, c3, c4, c5, c6⟩ := hn.all hx
  obtain ⟨k0, k3⟩ := h.cells
  obtain ⟨hBk, hks⟩ := h.size
  obtain ⟨n, hnk⟩ : ∃ n, (kidsOf ts i).length = n := ⟨_, rfl⟩
  rw [hnk] at hno
  obtain ⟨so, hso⟩ : ∃ so, (seen x.n).isSome = so := ⟨_, rfl⟩
  rw [hso] at hno
  have p1 : (x.op == 30) = false := by simp [hp]
  have p2 : (x.op == 31) = false := by simp [hp]
  have p3 : (x.op == 32) = false := by simp [hp]
  have p4 : (x.op == 33) = true := by simp [hp]
  have HH := Lib.hid h
  have HN := Lib.hid hn
  have HX := Lib.hid hx
  have HK := Lib.hid hnk
  have HS := Lib.hid hso
  have cases4 : so = false ∨ (so = true ∧ x.n < 0) ∨ (so = true ∧ 0 ≤ x.n ∧ 1048576 ≤ x.n) ∨ (so = true ∧ 0 ≤ x.n ∧ x.n < 1048576 ∧ ((n : Int) == 0) = false) := by
    cases so
    · exact .inl rfl
    · by_cases h1 : x.n < 0
      · exact .inr (.inl ⟨rfl, h1⟩)
      · by_cases h2 : x.n < 1048576
        · exact .inr (.inr (.inr ⟨rfl, by omega, h2, by rw [nat_beq0]; simp; intro h3; exact hno ⟨rfl, by omega, h2, h3⟩⟩))
        · exact .inr (.inr (.inl ⟨rfl, by omega, by omega⟩))
  clear h hn hx hnk hp hno hso
  rcases cases4 with rfl | ⟨rfl, hc1⟩ | ⟨rfl, hc1, hc2⟩ | ⟨rfl, hc1, hc2, hc3⟩
  all_goals
    go_enter Try.func157, Try.ntmps157
    go_wp2_with (go_at_call 114; refine (kids_pre B kb tb toff cap ts _ i _ w hl HH.out HN.out htb hi [132]).mono ?_; rintro e w1 ⟨kv, rfl, hown, h1, f1, n1, b1⟩; rw [HK.out] at hown; obtain ⟨A, c, rfl, _⟩ := kids_form hown; have e0 := b1.cell 0; have e2 := b1.cell 2; obtain ⟨sv, mb, _, _, m2, m3, _, _⟩ := h1.parts; have hlk := look_seen m3.drew x.n true; rw [HS.out] at hlk; have H1 := Lib.hid h1; have F1 := Lib.hid f1; have N1 := Lib.hid n1; have B1 := Lib.hid b1; clear h1 f1 n1 b1 hown m3)
    refine wp_region_text (by kernel_rfl) (by kernel_rfl) ?_
    go_wp2_with fail
    refine Only.normal ?_
    go_wp2_with fail
    refine (must_no B kb _ slots seen _ false H1.out.drew).mono ?_
    rintro e w2 ⟨rfl, h2, f2⟩
    go_wp2_with fail
    go_ret2
    exact ⟨rfl, h2, F1.out.drew.trans f2⟩

theorem slots_form {w : World} {B n : Nat} {sv : Value} {l : List Int} (h : w.ownsRow B 40 1 sv n (l.map (Value.int .i8))) (h0 : 0 < n) : ∃ g c, sv = .slice (some ⟨g, 0, none⟩) n c ∧ ∀ (k : Nat), k < n → w.cell? ⟨g, k, none⟩ = some (.int .i8 (l.getD k 0)) := by
  rcases h.2 with ⟨h1, h2⟩ | ⟨g, cp, cu, h1, _⟩
  · omega
  · refine ⟨g, cp, h1, fun k hk => ?_⟩
    have h3 := h
    rw [h1] at h3
    have hl : l.length = n := by simpa using h3.1
    rw [h3.cellAt k (by omega)]
    rw [List.getElem?_map, List.getElem?_eq_getElem (by omega), List.getD_eq_getElem?_getD, List.getElem?_eq_getElem (by omega)]
    rfl

set_option maxRecDepth 100000 in
set_option maxHeartbeats 800000 in
/-- A name that is seen. -/
theorem expr_name (i : Nat) (x : Node) (w : World) (hl : ts.length ≤ 100000) (hx : ts[i]? = some x) (h : LK w B kb (.slice (some ⟨tb, toff, none⟩) ts.length cap) ⟨slots, seen, false⟩) (hn : NodesAt w tb toff ts) (htb : tb < B)
    (hp : x.op = 33) (hso : (seen x.n).isSome = true) (hn0 : 0 ≤ x.n) (hn1 : x.n < 1048576) (hk : (kidsOf ts i).length = 0) (hin : x.n < slots.length) :
    Calls Try.prog 157 #[.pointer (some ⟨kb, 0, none⟩), .int .i64 i] w fun e w' => e = .returned (.tuple #[.int .i8 (slots.getD x.n.toNat 0), .int .i64 1]) ∧
      LK w' B kb (.slice (some ⟨tb, toff, none⟩) ts.length cap) ⟨slots, seen, !(likeB x (slots.getD x.n.toNat 0) x.n 0)⟩ ∧ Frm B [132] w w' := by
  have hi := (List.getElem?_eq_some_iff.1 hx).1
  obtain ⟨c0, c1, c2, c3, c4, c5, c6⟩ := hn.all hx
  obtain ⟨k0, k3⟩ := h.cells
  obtain ⟨hBk, hks⟩ := h.size
  have p1 : (x.op == 30) = false := by simp [hp]
  have p2 : (x.op == 31) = false := by simp [hp]
  have p3 : (x.op == 32) = false := by simp [hp]
  have p4 : (x.op == 33) = true := by simp [hp]
  obtain ⟨K, hK⟩ : ∃ K, slots.getD x.n.toNat 0 = K := ⟨_, rfl⟩
  rw [hK]
  obtain ⟨len, hlen⟩ : ∃ len, slots.length = len := ⟨_, rfl⟩
  rw [hlen] at hin
  have HLn := Lib.hid hlen
  have HKK := Lib.hid hK
  have HH := Lib.hid h
  have HN := Lib.hid hn
  have HX := Lib.hid hx
  have HK := Lib.hid hk
  have HS := Lib.hid hso
  clear h hn hx hk hp hso hK hlen
  go_enter Try.func157, Try.ntmps157
  go_wp2_with (go_at_call 114; refine (kids_pre B kb tb toff cap ts _ i _ w hl HH.out HN.out htb hi [132]).mono ?_; rintro e w1 ⟨kv, rfl, hown, h1, f1, n1, b1⟩; rw [HK.out] at hown; obtain ⟨A, c, rfl, _⟩ := kids_form hown; have e0 := b1.cell 0; have e2 := b1.cell 2; obtain ⟨sv, mb, _, _, m2, m3, _, _⟩ := h1.parts; have hlk := look_seen m3.drew x.n true; rw [HS.out] at hlk; have H1 := Lib.hid h1; have F1 := Lib.hid f1; have N1 := Lib.hid n1; have B1 := Lib.hid b1; clear h1 f1 n1 b1 hown m3)
  refine wp_region_text (by kernel_rfl) (by kernel_rfl) ?_
  go_wp2_with fail
  refine Only.normal ?_
  go_wp2_with fail
  refine (must_yes B kb _ slots seen _ H1.out.drew).mono ?_
  rintro e w2 ⟨rfl, h2, f2⟩
  have e22 := (f2.blk B1.out.drew (by decide)).cell 2
  obtain ⟨sv2, mb2, _, m1, _, _, m4, _⟩ := h2.parts
  simp only [HLn.out] at m4
  obtain ⟨g, cg, rfl, hcg⟩ := slots_form m4 (by omega)
  have hck := hcg x.n.toNat (by omega)
  rw [HKK.out] at hck
  have H2 := Lib.hid h2
  have F2 := Lib.hid f2
  clear hlk m2 m4 hcg h2 f2 e0 e2
  go_wp2_with fail
  refine wp_region_text (by kernel_rfl) (by kernel_rfl) ?_
  go_wp2_with fail
  refine Only.normal ?_
  go_wp2_with fail
  refine (like_any B kb tb toff cap ts ⟨slots, seen, false⟩ i x K x.n 0 _ H2.out.drew HX.out (F2.out.nodes (w := w1.drew) N1.out htb) hl).mono ?_
  rintro e w3 ⟨rfl, h3, f3⟩
  go_wp2_with fail
  go_ret2
  refine ⟨rfl, ?_, (F1.out.drew.trans F2.out.drew).trans f3⟩
  exact h3.congr rfl rfl (by simp [LSt.must])

set_option maxRecDepth 100000 in
set_option maxHeartbeats 800000 in
/-- An operator. -/
theorem expr_oper (H : Int) (hH2 : H ≤ 1000000) (hr : ∀ i b, 0 ≤ (rec i b).2.1 ∧ (rec i b).2.1 ≤ H) (i : Nat) (x : Node) (w : World) (hl : ts.length ≤ 100000) (hx : ts[i]? = some x) (h : LK w B kb (.slice (some ⟨tb, toff, none⟩) ts.length cap) ⟨slots, seen, false⟩) (hn : NodesAt w tb toff ts) (htb : tb < B)
    (he : ∀ j ∈ kidsOf ts i, j < ts.length ∧ ExprAt B kb tb toff cap ts slots seen (rec j) j)
    (p1 : (x.op == 30) = false) (p2 : (x.op == 31) = false) (p3 : (x.op == 32) = false) (p4 : (x.op == 33) = false) (p5 : (x.op == 49) = false) (p6 : (x.op == 50) = false) :
    Calls Try.prog 157 #[.pointer (some ⟨kb, 0, none⟩), .int .i64 i] w fun e w' => e = .returned (.tuple #[.int .i8 (operatorF rec ts i (kidsOf ts i)).1, .int .i64 (operatorF rec ts i (kidsOf ts i)).2.1]) ∧
      LK w' B kb (.slice (some ⟨tb, toff, none⟩) ts.length cap) ⟨slots, seen, (operatorF rec ts i (kidsOf ts i)).2.2⟩ ∧ Frm B [132] w w' := by
  have hi := (List.getElem?_eq_some_iff.1 hx).1
  have hgd : (ts.getD i node0) = x := by rw [List.getD_eq_getElem?_getD, hx]; rfl
  have hop : ∀ (base : Nat) (kv : Value) (w1 : World), LK w1 B kb (.slice (some ⟨tb, toff, none⟩) ts.length cap) ⟨slots, seen, false⟩ → NodesAt w1 tb toff ts → w1.ownsRow base 3 1 kv (kidsOf ts i).length ((kidsOf ts i).map fun j : Nat => Value.int .i64 j) →
      Calls Try.prog 183 #[.pointer (some ⟨kb, 0, none⟩), .int .i64 i, kv] w1 fun e w' => e = .returned (.tuple #[.int .i8 (operatorF rec ts i (kidsOf ts i)).1, .int .i64 (operatorF rec ts i (kidsOf ts i)).2.1]) ∧
      LK w' B kb (.slice (some ⟨tb, toff, none⟩) ts.length cap) ⟨slots, seen, (operatorF rec ts i (kidsOf ts i)).2.2⟩ ∧ Frm B [132] w1 w' := by
    intro base kv w1 h1 n1 ho
    by_cases hr1 : 34 ≤ x.op ∧ x.op ≤ 48
    · by_cases hc : ((kidsOf ts i).length : Int) = (if x.op = 34 ∨ x.op = 35 then 1 else 2)
      · cases hlk : likeB x (operatorM x.op).2 0 0
        · have hf : operatorF rec ts i (kidsOf ts i) = (0, 0, true) := by
            unfold operatorF; simp only [hgd, hlk]; rw [if_neg (by simp)]
          rw [hf]
          obtain ⟨A, c, rfl, _⟩ := kids_form ho
          exact operator_unlike B kb tb toff cap ts slots seen i x _ A c w1 hx hl h1 n1 htb hr1.1 hr1.2 hc hlk
        · exact operator_good B kb tb toff cap ts slots seen rec H hH2 hr i x _ kv base w1 hx hl he ho h1 n1 htb hr1.1 hr1.2 hc hlk
      · have hf : operatorF rec ts i (kidsOf ts i) = (0, 0, true) := by
          unfold operatorF; simp only [hgd]; rw [if_neg (fun h => hc (by have := h.2.1; split at this <;> (rename_i h5; simp only [h5, if_true, if_false]; omega)))]
        rw [hf]
        obtain ⟨A, c, rfl, _⟩ := kids_form ho
        exact operator_bad B kb tb toff cap ts slots seen i x _ A c w1 hx h1 n1 (.inr hc)
    · have hf : operatorF rec ts i (kidsOf ts i) = (0, 0, true) := by
        unfold operatorF; simp only [hgd]; rw [if_neg (fun h => hr1 h.1)]
      rw [hf]
      obtain ⟨A, c, rfl, _⟩ := kids_form ho
      exact operator_bad B kb tb toff cap ts slots seen i x _ A c w1 hx h1 n1 (.inl (by omega))
  obtain ⟨c0, c1, c2, c3, c4, c5, c6⟩ := hn.all hx
  obtain ⟨k0, k3⟩ := h.cells
  obtain ⟨hBk, hks⟩ := h.size
  generalize operatorF rec ts i (kidsOf ts i) = R at hop ⊢
  have HH := Lib.hid h
  have HN := Lib.hid hn
  have HO := Lib.hid hop
  clear h hn hx hop he hr hgd
  go_enter Try.func157, Try.ntmps157
  go_wp2_with (go_at_call 114; refine (kids_pre B kb tb toff cap ts _ i _ w hl HH.out HN.out htb hi [132]).mono ?_; rintro e w1 ⟨kv, rfl, hown, h1, f1, n1, b1⟩; have e0 := b1.cell 0; have e2 := b1.cell 2; have HW := Lib.hid hown; have H1 := Lib.hid h1; have F1 := Lib.hid f1; have N1 := Lib.hid n1; have B1 := Lib.hid b1; clear h1 f1 n1 b1 hown)
  refine (HO.out _ _ _ H1.out N1.out HW.out).mono ?_
  rintro e w2 ⟨rfl, h2, f2⟩
  go_wp2_with fail
  go_ret2
  exact ⟨rfl, h2, F1.out.trans f2⟩
end
end Go.Proofs.Ytggibiodeecljaa
