/- looker.stmt, its ways. Written by gen_stmt.py. -/
import Derived.Test.YtggibiodeecljaaMBlock
namespace Go.Proofs.Ytggibiodeecljaa
open Go.RowKit
set_option maxRecDepth 100000 in
set_option maxHeartbeats 1000000 in
theorem stmt_set_many_neg (B kb tb toff cap : Nat) (ts : List Node) (slots : List Int) (seen : Int → Option Value) (htb : tb < B) (hl : ts.length ≤ 100000) (htxt : ∀ y ∈ ts, y.text.size ≤ 1099511627776) (i : Nat) (x : Node) (hi : i < ts.length) (hbe : 0 ≤ behind ts i) (hx : ts[i]? = some x) (w : World) (hg : Good ⟨slots, seen, false⟩) (hs : slots.length ≤ 2 + 3 * i)
    (h : LK w B kb (.slice (some ⟨tb, toff, none⟩) ts.length cap) ⟨slots, seen, false⟩) (hn : NodesAt w tb toff ts)
    (hop : x.op = 12) (hm : containsM [1] (kidsOf ts i).length = false) (hr : x.n < 0) :
    Calls Try.prog 115 #[.pointer (some ⟨kb, 0, none⟩), .int .i64 i] w fun e w' => e = .returned (.tuple #[]) ∧ LK w' B kb (.slice (some ⟨tb, toff, none⟩) ts.length cap) (⟨slots, seen, true⟩) ∧ Frm B [132, 40] w w' := by
  obtain ⟨n, hnk⟩ : ∃ n, (kidsOf ts i).length = n := ⟨_, rfl⟩
  have hnl : n ≤ 100000 := by rw [← hnk]; exact kidsOf_le hbe hl
  obtain ⟨c0, c1, c2, c3, c4, c5, c6⟩ := hn.all hx
  obtain ⟨k0, k3⟩ := h.cells
  simp only at k3
  obtain ⟨hBk, hks⟩ := h.size
  have htw : tb < w.heap.size := by omega
  have HC0 := Lib.hid (stmt_kids B kb tb toff cap ts ⟨slots, seen, false⟩ i n x w hl h hn htb hi hnk)
  have HG := Lib.hid hg
  have HX := Lib.hid hx
  have HK := Lib.hid hnk
  have HS := Lib.hid hs
  have HBE := Lib.hid hbe
  have HT := Lib.hid htxt
  clear h hn hg hx hnk hs hbe htxt
  have hop2 := hop
  have q11 : (x.op == 11) = false := beq_false_of (by omega)
  have q12 : (x.op == 12) = true := beq_true_of hop
  have HOP := Lib.hid hop2
  clear hop hop2
  rw [HK.out] at hm
  have HM := Lib.hid hm
  clear hm
  go_enter Try.func115, Try.ntmps115
  go_wp2_with fail
  refine HC0.out.mono ?_
  rintro e w1 ⟨A, c, rfl, C0⟩
  obtain ⟨e1, d0, d2, d3, e3⟩ := C0.cells
  have CC0 := Lib.hid C0
  have hz0 := C0.size
  clear C0
  go_wp2_with fail
  refine wp_region_text (by kernel_rfl) (by kernel_rfl) ?_
  go_wp2_with fail
  refine Only.normal ?_
  go_wp2_with fail
  refine (many_no ((CC0.out).alloc (.cells #[.int .i64 1] 3)).drew [1] (w1.heap.size + 1) 1 1 rfl (by omega) (blk_new1 w1 (.cells #[.slice A n c] 153) 3 #[.int .i64 1]).drew HM.out).mono ?_
  rintro e w2 ⟨rfl, h2, f2⟩
  have C2 := (((CC0.out).alloc _).drew).step (by simp) h2 f2
  clear e1 d0 d2 d3 e3
  obtain ⟨e1, d0, d2, d3, e3⟩ := C2.cells
  have CC2 := Lib.hid C2
  clear h2 f2 C2
  go_wp2_with fail
  go_end0
  exact ⟨rfl, CC2.out.lk, CC2.out.fr⟩
set_option maxRecDepth 100000 in
set_option maxHeartbeats 1000000 in
theorem stmt_set_many_big (B kb tb toff cap : Nat) (ts : List Node) (slots : List Int) (seen : Int → Option Value) (htb : tb < B) (hl : ts.length ≤ 100000) (htxt : ∀ y ∈ ts, y.text.size ≤ 1099511627776) (i : Nat) (x : Node) (hi : i < ts.length) (hbe : 0 ≤ behind ts i) (hx : ts[i]? = some x) (w : World) (hg : Good ⟨slots, seen, false⟩) (hs : slots.length ≤ 2 + 3 * i)
    (h : LK w B kb (.slice (some ⟨tb, toff, none⟩) ts.length cap) ⟨slots, seen, false⟩) (hn : NodesAt w tb toff ts)
    (hop : x.op = 12) (hm : containsM [1] (kidsOf ts i).length = false) (hr : 0 ≤ x.n) (hr2 : 1048576 ≤ x.n) :
    Calls Try.prog 115 #[.pointer (some ⟨kb, 0, none⟩), .int .i64 i] w fun e w' => e = .returned (.tuple #[]) ∧ LK w' B kb (.slice (some ⟨tb, toff, none⟩) ts.length cap) (⟨slots, seen, true⟩) ∧ Frm B [132, 40] w w' := by
  obtain ⟨n, hnk⟩ : ∃ n, (kidsOf ts i).length = n := ⟨_, rfl⟩
  have hnl : n ≤ 100000 := by rw [← hnk]; exact kidsOf_le hbe hl
  obtain ⟨c0, c1, c2, c3, c4, c5, c6⟩ := hn.all hx
  obtain ⟨k0, k3⟩ := h.cells
  simp only at k3
  obtain ⟨hBk, hks⟩ := h.size
  have htw : tb < w.heap.size := by omega
  have HC0 := Lib.hid (stmt_kids B kb tb toff cap ts ⟨slots, seen, false⟩ i n x w hl h hn htb hi hnk)
  have HG := Lib.hid hg
  have HX := Lib.hid hx
  have HK := Lib.hid hnk
  have HS := Lib.hid hs
  have HBE := Lib.hid hbe
  have HT := Lib.hid htxt
  clear h hn hg hx hnk hs hbe htxt
  have hop2 := hop
  have q11 : (x.op == 11) = false := beq_false_of (by omega)
  have q12 : (x.op == 12) = true := beq_true_of hop
  have HOP := Lib.hid hop2
  clear hop hop2
  rw [HK.out] at hm
  have HM := Lib.hid hm
  clear hm
  go_enter Try.func115, Try.ntmps115
  go_wp2_with fail
  refine HC0.out.mono ?_
  rintro e w1 ⟨A, c, rfl, C0⟩
  obtain ⟨e1, d0, d2, d3, e3⟩ := C0.cells
  have CC0 := Lib.hid C0
  have hz0 := C0.size
  clear C0
  go_wp2_with fail
  refine wp_region_text (by kernel_rfl) (by kernel_rfl) ?_
  go_wp2_with fail
  refine Only.normal ?_
  go_wp2_with fail
  refine (many_no ((CC0.out).alloc (.cells #[.int .i64 1] 3)).drew [1] (w1.heap.size + 1) 1 1 rfl (by omega) (blk_new1 w1 (.cells #[.slice A n c] 153) 3 #[.int .i64 1]).drew HM.out).mono ?_
  rintro e w2 ⟨rfl, h2, f2⟩
  have C2 := (((CC0.out).alloc _).drew).step (by simp) h2 f2
  clear e1 d0 d2 d3 e3
  obtain ⟨e1, d0, d2, d3, e3⟩ := C2.cells
  have CC2 := Lib.hid C2
  clear h2 f2 C2
  go_wp2_with fail
  go_end0
  exact ⟨rfl, CC2.out.lk, CC2.out.fr⟩
set_option maxRecDepth 100000 in
set_option maxHeartbeats 1000000 in
theorem stmt_set_many_look (B kb tb toff cap : Nat) (ts : List Node) (slots : List Int) (seen : Int → Option Value) (htb : tb < B) (hl : ts.length ≤ 100000) (htxt : ∀ y ∈ ts, y.text.size ≤ 1099511627776) (i : Nat) (x : Node) (hi : i < ts.length) (hbe : 0 ≤ behind ts i) (hx : ts[i]? = some x) (w : World) (hg : Good ⟨slots, seen, false⟩) (hs : slots.length ≤ 2 + 3 * i)
    (h : LK w B kb (.slice (some ⟨tb, toff, none⟩) ts.length cap) ⟨slots, seen, false⟩) (hn : NodesAt w tb toff ts)
    (hop : x.op = 12) (hm : containsM [1] (kidsOf ts i).length = false) (hr : 0 ≤ x.n) (hr2 : x.n < 1048576) (hl2 : (seen x.n).getD (.bool false) = .bool false) :
    Calls Try.prog 115 #[.pointer (some ⟨kb, 0, none⟩), .int .i64 i] w fun e w' => e = .returned (.tuple #[]) ∧ LK w' B kb (.slice (some ⟨tb, toff, none⟩) ts.length cap) (⟨slots, seen, true⟩) ∧ Frm B [132, 40] w w' := by
  obtain ⟨n, hnk⟩ : ∃ n, (kidsOf ts i).length = n := ⟨_, rfl⟩
  have hnl : n ≤ 100000 := by rw [← hnk]; exact kidsOf_le hbe hl
  obtain ⟨c0, c1, c2, c3, c4, c5, c6⟩ := hn.all hx
  obtain ⟨k0, k3⟩ := h.cells
  simp only at k3
  obtain ⟨hBk, hks⟩ := h.size
  have htw : tb < w.heap.size := by omega
  have HC0 := Lib.hid (stmt_kids B kb tb toff cap ts ⟨slots, seen, false⟩ i n x w hl h hn htb hi hnk)
  have HG := Lib.hid hg
  have HX := Lib.hid hx
  have HK := Lib.hid hnk
  have HS := Lib.hid hs
  have HBE := Lib.hid hbe
  have HT := Lib.hid htxt
  clear h hn hg hx hnk hs hbe htxt
  have hop2 := hop
  have q11 : (x.op == 11) = false := beq_false_of (by omega)
  have q12 : (x.op == 12) = true := beq_true_of hop
  have HOP := Lib.hid hop2
  clear hop hop2
  rw [HK.out] at hm
  have HM := Lib.hid hm
  clear hm
  have HL2 := Lib.hid hl2
  clear hl2
  go_enter Try.func115, Try.ntmps115
  go_wp2_with fail
  refine HC0.out.mono ?_
  rintro e w1 ⟨A, c, rfl, C0⟩
  obtain ⟨e1, d0, d2, d3, e3⟩ := C0.cells
  have CC0 := Lib.hid C0
  have hz0 := C0.size
  clear C0
  go_wp2_with fail
  obtain ⟨sv, mb, _, _, m2, m3, _, _⟩ := CC0.out.lk.parts
  have hlk := look_seen (m3.drew keyI) x.n false
  simp only [Bool.false_eq_true, if_false, HL2.out] at hlk
  refine wp_region_text (by kernel_rfl) (by kernel_rfl) ?_
  go_wp2_with fail
  refine Only.normal ?_
  go_wp2_with fail
  refine (many_no ((CC0.out).alloc (.cells #[.int .i64 1] 3)).drew [1] (w1.heap.size + 1) 1 1 rfl (by omega) (blk_new1 w1 (.cells #[.slice A n c] 153) 3 #[.int .i64 1]).drew HM.out).mono ?_
  rintro e w2 ⟨rfl, h2, f2⟩
  have C2 := (((CC0.out).alloc _).drew).step (by simp) h2 f2
  clear e1 d0 d2 d3 e3
  obtain ⟨e1, d0, d2, d3, e3⟩ := C2.cells
  have CC2 := Lib.hid C2
  clear h2 f2 C2
  go_wp2_with fail
  go_end0
  exact ⟨rfl, CC2.out.lk, CC2.out.fr⟩
set_option maxRecDepth 100000 in
set_option maxHeartbeats 1000000 in
theorem stmt_set_many_yes (B kb tb toff cap : Nat) (ts : List Node) (slots : List Int) (seen : Int → Option Value) (htb : tb < B) (hl : ts.length ≤ 100000) (htxt : ∀ y ∈ ts, y.text.size ≤ 1099511627776) (i : Nat) (x : Node) (hi : i < ts.length) (hbe : 0 ≤ behind ts i) (hx : ts[i]? = some x) (w : World) (hg : Good ⟨slots, seen, false⟩) (hs : slots.length ≤ 2 + 3 * i)
    (h : LK w B kb (.slice (some ⟨tb, toff, none⟩) ts.length cap) ⟨slots, seen, false⟩) (hn : NodesAt w tb toff ts)
    (hop : x.op = 12) (hm : containsM [1] (kidsOf ts i).length = false) (hr : 0 ≤ x.n) (hr2 : x.n < 1048576) (hl2 : (seen x.n).getD (.bool false) = .bool true) :
    Calls Try.prog 115 #[.pointer (some ⟨kb, 0, none⟩), .int .i64 i] w fun e w' => e = .returned (.tuple #[]) ∧ LK w' B kb (.slice (some ⟨tb, toff, none⟩) ts.length cap) (⟨slots, seen, true⟩) ∧ Frm B [132, 40] w w' := by
  obtain ⟨n, hnk⟩ : ∃ n, (kidsOf ts i).length = n := ⟨_, rfl⟩
  have hnl : n ≤ 100000 := by rw [← hnk]; exact kidsOf_le hbe hl
  obtain ⟨c0, c1, c2, c3, c4, c5, c6⟩ := hn.all hx
  obtain ⟨k0, k3⟩ := h.cells
  simp only at k3
  obtain ⟨hBk, hks⟩ := h.size
  have htw : tb < w.heap.size := by omega
  have HC0 := Lib.hid (stmt_kids B kb tb toff cap ts ⟨slots, seen, false⟩ i n x w hl h hn htb hi hnk)
  have HG := Lib.hid hg
  have HX := Lib.hid hx
  have HK := Lib.hid hnk
  have HS := Lib.hid hs
  have HBE := Lib.hid hbe
  have HT := Lib.hid htxt
  clear h hn hg hx hnk hs hbe htxt
  have hop2 := hop
  have q11 : (x.op == 11) = false := beq_false_of (by omega)
  have q12 : (x.op == 12) = true := beq_true_of hop
  have HOP := Lib.hid hop2
  clear hop hop2
  rw [HK.out] at hm
  have HM := Lib.hid hm
  clear hm
  have HL2 := Lib.hid hl2
  clear hl2
  go_enter Try.func115, Try.ntmps115
  go_wp2_with fail
  refine HC0.out.mono ?_
  rintro e w1 ⟨A, c, rfl, C0⟩
  obtain ⟨e1, d0, d2, d3, e3⟩ := C0.cells
  have CC0 := Lib.hid C0
  have hz0 := C0.size
  clear C0
  go_wp2_with fail
  obtain ⟨sv, mb, _, _, m2, m3, _, _⟩ := CC0.out.lk.parts
  have hlk := look_seen (m3.drew keyI) x.n false
  simp only [Bool.false_eq_true, if_false, HL2.out] at hlk
  refine wp_region_text (by kernel_rfl) (by kernel_rfl) ?_
  go_wp2_with fail
  refine Only.normal ?_
  go_wp2_with fail
  refine (many_no ((CC0.out).alloc (.cells #[.int .i64 1] 3)).drew [1] (w1.heap.size + 1) 1 1 rfl (by omega) (blk_new1 w1 (.cells #[.slice A n c] 153) 3 #[.int .i64 1]).drew HM.out).mono ?_
  rintro e w2 ⟨rfl, h2, f2⟩
  have C2 := (((CC0.out).alloc _).drew).step (by simp) h2 f2
  clear e1 d0 d2 d3 e3
  obtain ⟨e1, d0, d2, d3, e3⟩ := C2.cells
  have CC2 := Lib.hid C2
  clear h2 f2 C2
  go_wp2_with fail
  go_end0
  exact ⟨rfl, CC2.out.lk, CC2.out.fr⟩
end Go.Proofs.Ytggibiodeecljaa
