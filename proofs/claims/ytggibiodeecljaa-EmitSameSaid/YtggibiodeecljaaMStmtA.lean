/- looker.stmt, its ways. Written by gen_stmt.py. looker.stmt, its ways. Written by gen_stmt.py. looker.stmt, its ways. Written by gen_stmt.py. -/
import Derived.Test.YtggibiodeecljaaMBlock
namespace Go.Proofs.Ytggibiodeecljaa
open Go.RowKit
set_option maxRecDepth 100000 in
set_option maxHeartbeats 1000000 in
theorem stmt_many_no11 (B kb tb toff cap : Nat) (ts : List Node) (slots : List Int) (seen : Int → Option Value) (htb : tb < B) (hl : ts.length ≤ 100000) (htxt : ∀ y ∈ ts, y.text.size ≤ 1099511627776) (i : Nat) (x : Node) (hi : i < ts.length) (hbe : 0 ≤ behind ts i) (hx : ts[i]? = some x) (w : World) (hg : Good ⟨slots, seen, false⟩) (hs : slots.length ≤ 2 + 3 * i)
    (h : LK w B kb (.slice (some ⟨tb, toff, none⟩) ts.length cap) ⟨slots, seen, false⟩) (hn : NodesAt w tb toff ts)
    (hop : x.op = 11) (hm : containsM [1] (kidsOf ts i).length = false) :
    Calls Try.prog 115 #[.pointer (some ⟨kb, 0, none⟩), .int .i64 i] w fun e w' => e = .returned (.tuple #[]) ∧ LK w' B kb (.slice (some ⟨tb, toff, none⟩) ts.length cap) (⟨slots, seen, true⟩) ∧ Frm B [132, 40] w w' := by
  obtain ⟨n, hnk⟩ : ∃ n, (kidsOf ts i).length = n := ⟨_, rfl⟩
  have hnl : n ≤ 100000 := by rw [← hnk]; exact kidsOf_le hbe hl
  obtain ⟨c0, c1, c2, c3, c4, c5, c6⟩ := hn.all hx
  obtain ⟨k0, k3⟩ := h.cells
  simp only at k3
  obtain ⟨hBk, hks⟩ := h.size
  have htw : tb < w.heap.size := by omega
  have HC0 := Lib.hid (stmt_kids B kb tb toff cap ts ⟨slots, seen, false⟩ i n x w hl h hn htb hi hnk)
  have HG := Lib.hid hg
  have HX := Lib.hid hx
  have HK := Lib.hid hnk
  have HS := Lib.hid hs
  have HBE := Lib.hid hbe
  have HT := Lib.hid htxt
  clear h hn hg hx hnk hs hbe htxt
  have hop2 := hop
  have q11 : (x.op == 11) = true := beq_true_of hop
  have HOP := Lib.hid hop2
  clear hop hop2
  rw [HK.out] at hm
  have HM := Lib.hid hm
  clear hm
  go_enter Try.func115, Try.ntmps115
  go_wp2_with fail
  refine HC0.out.mono ?_
  rintro e w1 ⟨A, c, rfl, C0⟩
  obtain ⟨e1, d0, d2, d3, e3⟩ := C0.cells
  have CC0 := Lib.hid C0
  have hz0 := C0.size
  clear C0
  go_wp2_with fail
  refine (many_no ((CC0.out).alloc (.cells #[.int .i64 1] 3)) [1] (w1.heap.size + 1) 1 1 rfl (by omega) (blk_new1 w1 (.cells #[.slice A n c] 153) 3 #[.int .i64 1]) HM.out).mono ?_
  rintro e w2 ⟨rfl, h2, f2⟩
  have C2 := (((CC0.out).alloc _)).step (by simp) h2 f2
  clear e1 d0 d2 d3 e3
  obtain ⟨e1, d0, d2, d3, e3⟩ := C2.cells
  have CC2 := Lib.hid C2
  clear h2 f2 C2
  go_wp2_with fail
  go_end0
  exact ⟨rfl, CC2.out.lk, CC2.out.fr⟩
set_option maxRecDepth 100000 in
set_option maxHeartbeats 1000000 in
theorem stmt_many_no13 (B kb tb toff cap : Nat) (ts : List Node) (slots : List Int) (seen : Int → Option Value) (htb : tb < B) (hl : ts.length ≤ 100000) (htxt : ∀ y ∈ ts, y.text.size ≤ 1099511627776) (i : Nat) (x : Node) (hi : i < ts.length) (hbe : 0 ≤ behind ts i) (hx : ts[i]? = some x) (w : World) (hg : Good ⟨slots, seen, false⟩) (hs : slots.length ≤ 2 + 3 * i)
    (h : LK w B kb (.slice (some ⟨tb, toff, none⟩) ts.length cap) ⟨slots, seen, false⟩) (hn : NodesAt w tb toff ts)
    (hop : x.op = 13) (hm : containsM [2, 3] (kidsOf ts i).length = false) :
    Calls Try.prog 115 #[.pointer (some ⟨kb, 0, none⟩), .int .i64 i] w fun e w' => e = .returned (.tuple #[]) ∧ LK w' B kb (.slice (some ⟨tb, toff, none⟩) ts.length cap) (⟨slots, seen, true⟩) ∧ Frm B [132, 40] w w' := by
  obtain ⟨n, hnk⟩ : ∃ n, (kidsOf ts i).length = n := ⟨_, rfl⟩
  have hnl : n ≤ 100000 := by rw [← hnk]; exact kidsOf_le hbe hl
  obtain ⟨c0, c1, c2, c3, c4, c5, c6⟩ := hn.all hx
  obtain ⟨k0, k3⟩ := h.cells
  simp only at k3
  obtain ⟨hBk, hks⟩ := h.size
  have htw : tb < w.heap.size := by omega
  have HC0 := Lib.hid (stmt_kids B kb tb toff cap ts ⟨slots, seen, false⟩ i n x w hl h hn htb hi hnk)
  have HG := Lib.hid hg
  have HX := Lib.hid hx
  have HK := Lib.hid hnk
  have HS := Lib.hid hs
  have HBE := Lib.hid hbe
  have HT := Lib.hid htxt
  clear h hn hg hx hnk hs hbe htxt
  have hop2 := hop
  have q11 : (x.op == 11) = false := beq_false_of (by omega)
  have q12 : (x.op == 12) = false := beq_false_of (by omega)
  have q13 : (x.op == 13) = true := beq_true_of hop
  have HOP := Lib.hid hop2
  clear hop hop2
  rw [HK.out] at hm
  have HM := Lib.hid hm
  clear hm
  go_enter Try.func115, Try.ntmps115
  go_wp2_with fail
  refine HC0.out.mono ?_
  rintro e w1 ⟨A, c, rfl, C0⟩
  obtain ⟨e1, d0, d2, d3, e3⟩ := C0.cells
  have CC0 := Lib.hid C0
  have hz0 := C0.size
  clear C0
  go_wp2_with fail
  refine (many_no ((CC0.out).alloc (.cells #[.int .i64 2, .int .i64 3] 3)) [2, 3] (w1.heap.size + 1) 2 2 rfl (by omega) (blk_new1 w1 (.cells #[.slice A n c] 153) 3 #[.int .i64 2, .int .i64 3]) HM.out).mono ?_
  rintro e w2 ⟨rfl, h2, f2⟩
  have C2 := (((CC0.out).alloc _)).step (by simp) h2 f2
  clear e1 d0 d2 d3 e3
  obtain ⟨e1, d0, d2, d3, e3⟩ := C2.cells
  have CC2 := Lib.hid C2
  clear h2 f2 C2
  go_wp2_with fail
  go_end0
  exact ⟨rfl, CC2.out.lk, CC2.out.fr⟩
set_option maxRecDepth 100000 in
set_option maxHeartbeats 1000000 in
theorem stmt_many_no14 (B kb tb toff cap : Nat) (ts : List Node) (slots : List Int) (seen : Int → Option Value) (htb : tb < B) (hl : ts.length ≤ 100000) (htxt : ∀ y ∈ ts, y.text.size ≤ 1099511627776) (i : Nat) (x : Node) (hi : i < ts.length) (hbe : 0 ≤ behind ts i) (hx : ts[i]? = some x) (w : World) (hg : Good ⟨slots, seen, false⟩) (hs : slots.length ≤ 2 + 3 * i)
    (h : LK w B kb (.slice (some ⟨tb, toff, none⟩) ts.length cap) ⟨slots, seen, false⟩) (hn : NodesAt w tb toff ts)
    (hop : x.op = 14) (hm : containsM [1] (kidsOf ts i).length = false) :
    Calls Try.prog 115 #[.pointer (some ⟨kb, 0, none⟩), .int .i64 i] w fun e w' => e = .returned (.tuple #[]) ∧ LK w' B kb (.slice (some ⟨tb, toff, none⟩) ts.length cap) (⟨slots, seen, true⟩) ∧ Frm B [132, 40] w w' := by
  obtain ⟨n, hnk⟩ : ∃ n, (kidsOf ts i).length = n := ⟨_, rfl⟩
  have hnl : n ≤ 100000 := by rw [← hnk]; exact kidsOf_le hbe hl
  obtain ⟨c0, c1, c2, c3, c4, c5, c6⟩ := hn.all hx
  obtain ⟨k0, k3⟩ := h.cells
  simp only at k3
  obtain ⟨hBk, hks⟩ := h.size
  have htw : tb < w.heap.size := by omega
  have HC0 := Lib.hid (stmt_kids B kb tb toff cap ts ⟨slots, seen, false⟩ i n x w hl h hn htb hi hnk)
  have HG := Lib.hid hg
  have HX := Lib.hid hx
  have HK := Lib.hid hnk
  have HS := Lib.hid hs
  have HBE := Lib.hid hbe
  have HT := Lib.hid htxt
  clear h hn hg hx hnk hs hbe htxt
  have hop2 := hop
  have q11 : (x.op == 11) = false := beq_false_of (by omega)
  have q12 : (x.op == 12) = false := beq_false_of (by omega)
  have q13 : (x.op == 13) = false := beq_false_of (by omega)
  have q14 : (x.op == 14) = true := beq_true_of hop
  have HOP := Lib.hid hop2
  clear hop hop2
  rw [HK.out] at hm
  have HM := Lib.hid hm
  clear hm
  go_enter Try.func115, Try.ntmps115
  go_wp2_with fail
  refine HC0.out.mono ?_
  rintro e w1 ⟨A, c, rfl, C0⟩
  obtain ⟨e1, d0, d2, d3, e3⟩ := C0.cells
  have CC0 := Lib.hid C0
  have hz0 := C0.size
  clear C0
  go_wp2_with fail
  refine (many_no ((CC0.out).alloc (.cells #[.int .i64 1] 3)) [1] (w1.heap.size + 1) 1 1 rfl (by omega) (blk_new1 w1 (.cells #[.slice A n c] 153) 3 #[.int .i64 1]) HM.out).mono ?_
  rintro e w2 ⟨rfl, h2, f2⟩
  have C2 := (((CC0.out).alloc _)).step (by simp) h2 f2
  clear e1 d0 d2 d3 e3
  obtain ⟨e1, d0, d2, d3, e3⟩ := C2.cells
  have CC2 := Lib.hid C2
  clear h2 f2 C2
  go_wp2_with fail
  go_end0
  exact ⟨rfl, CC2.out.lk, CC2.out.fr⟩
set_option maxRecDepth 100000 in
set_option maxHeartbeats 1000000 in
theorem stmt_many_no15 (B kb tb toff cap : Nat) (ts : List Node) (slots : List Int) (seen : Int → Option Value) (htb : tb < B) (hl : ts.length ≤ 100000) (htxt : ∀ y ∈ ts, y.text.size ≤ 1099511627776) (i : Nat) (x : Node) (hi : i < ts.length) (hbe : 0 ≤ behind ts i) (hx : ts[i]? = some x) (w : World) (hg : Good ⟨slots, seen, false⟩) (hs : slots.length ≤ 2 + 3 * i)
    (h : LK w B kb (.slice (some ⟨tb, toff, none⟩) ts.length cap) ⟨slots, seen, false⟩) (hn : NodesAt w tb toff ts)
    (hop : x.op = 15) (hm : containsM [2] (kidsOf ts i).length = false) :
    Calls Try.prog 115 #[.pointer (some ⟨kb, 0, none⟩), .int .i64 i] w fun e w' => e = .returned (.tuple #[]) ∧ LK w' B kb (.slice (some ⟨tb, toff, none⟩) ts.length cap) (⟨slots, seen, true⟩) ∧ Frm B [132, 40] w w' := by
  obtain ⟨n, hnk⟩ : ∃ n, (kidsOf ts i).length = n := ⟨_, rfl⟩
  have hnl : n ≤ 100000 := by rw [← hnk]; exact kidsOf_le hbe hl
  obtain ⟨c0, c1, c2, c3, c4, c5, c6⟩ := hn.all hx
  obtain ⟨k0, k3⟩ := h.cells
  simp only at k3
  obtain ⟨hBk, hks⟩ := h.size
  have htw : tb < w.heap.size := by omega
  have HC0 := Lib.hid (stmt_kids B kb tb toff cap ts ⟨slots, seen, false⟩ i n x w hl h hn htb hi hnk)
  have HG := Lib.hid hg
  have HX := Lib.hid hx
  have HK := Lib.hid hnk
  have HS := Lib.hid hs
  have HBE := Lib.hid hbe
  have HT := Lib.hid htxt
  clear h hn hg hx hnk hs hbe htxt
  have hop2 := hop
  have q11 : (x.op == 11) = false := beq_false_of (by omega)
  have q12 : (x.op == 12) = false := beq_false_of (by omega)
  have q13 : (x.op == 13) = false := beq_false_of (by omega)
  have q14 : (x.op == 14) = false := beq_false_of (by omega)
  have q15 : (x.op == 15) = true := beq_true_of hop
  have HOP := Lib.hid hop2
  clear hop hop2
  rw [HK.out] at hm
  have HM := Lib.hid hm
  clear hm
  go_enter Try.func115, Try.ntmps115
  go_wp2_with fail
  refine HC0.out.mono ?_
  rintro e w1 ⟨A, c, rfl, C0⟩
  obtain ⟨e1, d0, d2, d3, e3⟩ := C0.cells
  have CC0 := Lib.hid C0
  have hz0 := C0.size
  clear C0
  go_wp2_with fail
  refine (many_no ((CC0.out).alloc (.cells #[.int .i64 2] 3)) [2] (w1.heap.size + 1) 1 1 rfl (by omega) (blk_new1 w1 (.cells #[.slice A n c] 153) 3 #[.int .i64 2]) HM.out).mono ?_
  rintro e w2 ⟨rfl, h2, f2⟩
  have C2 := (((CC0.out).alloc _)).step (by simp) h2 f2
  clear e1 d0 d2 d3 e3
  obtain ⟨e1, d0, d2, d3, e3⟩ := C2.cells
  have CC2 := Lib.hid C2
  clear h2 f2 C2
  go_wp2_with fail
  go_end0
  exact ⟨rfl, CC2.out.lk, CC2.out.fr⟩
set_option maxRecDepth 100000 in
set_option maxHeartbeats 1000000 in
theorem stmt_many_no16 (B kb tb toff cap : Nat) (ts : List Node) (slots : List Int) (seen : Int → Option Value) (htb : tb < B) (hl : ts.length ≤ 100000) (htxt : ∀ y ∈ ts, y.text.size ≤ 1099511627776) (i : Nat) (x : Node) (hi : i < ts.length) (hbe : 0 ≤ behind ts i) (hx : ts[i]? = some x) (w : World) (hg : Good ⟨slots, seen, false⟩) (hs : slots.length ≤ 2 + 3 * i)
    (h : LK w B kb (.slice (some ⟨tb, toff, none⟩) ts.length cap) ⟨slots, seen, false⟩) (hn : NodesAt w tb toff ts)
    (hop : x.op = 16) (hm : containsM [2, 3] (kidsOf ts i).length = false) :
    Calls Try.prog 115 #[.pointer (some ⟨kb, 0, none⟩), .int .i64 i] w fun e w' => e = .returned (.tuple #[]) ∧ LK w' B kb (.slice (some ⟨tb, toff, none⟩) ts.length cap) (⟨slots, seen, true⟩) ∧ Frm B [132, 40] w w' := by
  obtain ⟨n, hnk⟩ : ∃ n, (kidsOf ts i).length = n := ⟨_, rfl⟩
  have hnl : n ≤ 100000 := by rw [← hnk]; exact kidsOf_le hbe hl
  obtain ⟨c0, c1, c2, c3, c4, c5, c6⟩ := hn.all hx
  obtain ⟨k0, k3⟩ := h.cells
  simp only at k3
  obtain ⟨hBk, hks⟩ := h.size
  have htw : tb < w.heap.size := by omega
  have HC0 := Lib.hid (stmt_kids B kb tb toff cap ts ⟨slots, seen, false⟩ i n x w hl h hn htb hi hnk)
  have HG := Lib.hid hg
  have HX := Lib.hid hx
  have HK := Lib.hid hnk
  have HS := Lib.hid hs
  have HBE := Lib.hid hbe
  have HT := Lib.hid htxt
  clear h hn hg hx hnk hs hbe htxt
  have hop2 := hop
  have q11 : (x.op == 11) = false := beq_false_of (by omega)
  have q12 : (x.op == 12) = false := beq_false_of (by omega)
  have q13 : (x.op == 13) = false := beq_false_of (by omega)
  have q14 : (x.op == 14) = false := beq_false_of (by omega)
  have q15 : (x.op == 15) = false := beq_false_of (by omega)
  have q16 : (x.op == 16) = true := beq_true_of hop
  have HOP := Lib.hid hop2
  clear hop hop2
  rw [HK.out] at hm
  have HM := Lib.hid hm
  clear hm
  go_enter Try.func115, Try.ntmps115
  go_wp2_with fail
  refine HC0.out.mono ?_
  rintro e w1 ⟨A, c, rfl, C0⟩
  obtain ⟨e1, d0, d2, d3, e3⟩ := C0.cells
  have CC0 := Lib.hid C0
  have hz0 := C0.size
  clear C0
  go_wp2_with fail
  refine (many_no ((CC0.out).alloc (.cells #[.int .i64 2, .int .i64 3] 3)) [2, 3] (w1.heap.size + 1) 2 2 rfl (by omega) (blk_new1 w1 (.cells #[.slice A n c] 153) 3 #[.int .i64 2, .int .i64 3]) HM.out).mono ?_
  rintro e w2 ⟨rfl, h2, f2⟩
  have C2 := (((CC0.out).alloc _)).step (by simp) h2 f2
  clear e1 d0 d2 d3 e3
  obtain ⟨e1, d0, d2, d3, e3⟩ := C2.cells
  have CC2 := Lib.hid C2
  clear h2 f2 C2
  go_wp2_with fail
  go_end0
  exact ⟨rfl, CC2.out.lk, CC2.out.fr⟩
set_option maxRecDepth 100000 in
set_option maxHeartbeats 1000000 in
theorem stmt_many_no17 (B kb tb toff cap : Nat) (ts : List Node) (slots : List Int) (seen : Int → Option Value) (htb : tb < B) (hl : ts.length ≤ 100000) (htxt : ∀ y ∈ ts, y.text.size ≤ 1099511627776) (i : Nat) (x : Node) (hi : i < ts.length) (hbe : 0 ≤ behind ts i) (hx : ts[i]? = some x) (w : World) (hg : Good ⟨slots, seen, false⟩) (hs : slots.length ≤ 2 + 3 * i)
    (h : LK w B kb (.slice (some ⟨tb, toff, none⟩) ts.length cap) ⟨slots, seen, false⟩) (hn : NodesAt w tb toff ts)
    (hop : x.op = 17) (hm : containsM [0] (kidsOf ts i).length = false) :
    Calls Try.prog 115 #[.pointer (some ⟨kb, 0, none⟩), .int .i64 i] w fun e w' => e = .returned (.tuple #[]) ∧ LK w' B kb (.slice (some ⟨tb, toff, none⟩) ts.length cap) (⟨slots, seen, true⟩) ∧ Frm B [132, 40] w w' := by
  obtain ⟨n, hnk⟩ : ∃ n, (kidsOf ts i).length = n := ⟨_, rfl⟩
  have hnl : n ≤ 100000 := by rw [← hnk]; exact kidsOf_le hbe hl
  obtain ⟨c0, c1, c2, c3, c4, c5, c6⟩ := hn.all hx
  obtain ⟨k0, k3⟩ := h.cells
  simp only at k3
  obtain ⟨hBk, hks⟩ := h.size
  have htw : tb < w.heap.size := by omega
  have HC0 := Lib.hid (stmt_kids B kb tb toff cap ts ⟨slots, seen, false⟩ i n x w hl h hn htb hi hnk)
  have HG := Lib.hid hg
  have HX := Lib.hid hx
  have HK := Lib.hid hnk
  have HS := Lib.hid hs
  have HBE := Lib.hid hbe
  have HT := Lib.hid htxt
  clear h hn hg hx hnk hs hbe htxt
  have hop2 := hop
  have q11 : (x.op == 11) = false := beq_false_of (by omega)
  have q12 : (x.op == 12) = false := beq_false_of (by omega)
  have q13 : (x.op == 13) = false := beq_false_of (by omega)
  have q14 : (x.op == 14) = false := beq_false_of (by omega)
  have q15 : (x.op == 15) = false := beq_false_of (by omega)
  have q16 : (x.op == 16) = false := beq_false_of (by omega)
  have q17 : (x.op == 17) = true := beq_true_of hop
  have HOP := Lib.hid hop2
  clear hop hop2
  rw [HK.out] at hm
  have HM := Lib.hid hm
  clear hm
  go_enter Try.func115, Try.ntmps115
  go_wp2_with fail
  refine HC0.out.mono ?_
  rintro e w1 ⟨A, c, rfl, C0⟩
  obtain ⟨e1, d0, d2, d3, e3⟩ := C0.cells
  have CC0 := Lib.hid C0
  have hz0 := C0.size
  clear C0
  go_wp2_with fail
  refine (many_no ((CC0.out).alloc (.cells #[.int .i64 0] 3)) [0] (w1.heap.size + 1) 1 1 rfl (by omega) (blk_new1 w1 (.cells #[.slice A n c] 153) 3 #[.int .i64 0]) HM.out).mono ?_
  rintro e w2 ⟨rfl, h2, f2⟩
  have C2 := (((CC0.out).alloc _)).step (by simp) h2 f2
  clear e1 d0 d2 d3 e3
  obtain ⟨e1, d0, d2, d3, e3⟩ := C2.cells
  have CC2 := Lib.hid C2
  clear h2 f2 C2
  go_wp2_with fail
  go_end0
  exact ⟨rfl, CC2.out.lk, CC2.out.fr⟩
set_option maxRecDepth 100000 in
set_option maxHeartbeats 1000000 in
theorem stmt_many_no18 (B kb tb toff cap : Nat) (ts : List Node) (slots : List Int) (seen : Int → Option Value) (htb : tb < B) (hl : ts.length ≤ 100000) (htxt : ∀ y ∈ ts, y.text.size ≤ 1099511627776) (i : Nat) (x : Node) (hi : i < ts.length) (hbe : 0 ≤ behind ts i) (hx : ts[i]? = some x) (w : World) (hg : Good ⟨slots, seen, false⟩) (hs : slots.length ≤ 2 + 3 * i)
    (h : LK w B kb (.slice (some ⟨tb, toff, none⟩) ts.length cap) ⟨slots, seen, false⟩) (hn : NodesAt w tb toff ts)
    (hop : x.op = 18) (hm : containsM [0] (kidsOf ts i).length = false) :
    Calls Try.prog 115 #[.pointer (some ⟨kb, 0, none⟩), .int .i64 i] w fun e w' => e = .returned (.tuple #[]) ∧ LK w' B kb (.slice (some ⟨tb, toff, none⟩) ts.length cap) (⟨slots, seen, true⟩) ∧ Frm B [132, 40] w w' := by
  obtain ⟨n, hnk⟩ : ∃ n, (kidsOf ts i).length = n := ⟨_, rfl⟩
  have hnl : n ≤ 100000 := by rw [← hnk]; exact kidsOf_le hbe hl
  obtain ⟨c0, c1, c2, c3, c4, c5, c6⟩ := hn.all hx
  obtain ⟨k0, k3⟩ := h.cells
  simp only at k3
  obtain ⟨hBk, hks⟩ := h.size
  have htw : tb < w.heap.size := by omega
  have HC0 := Lib.hid (stmt_kids B kb tb toff cap ts ⟨slots, seen, false⟩ i n x w hl h hn htb hi hnk)
  have HG := Lib.hid hg
  have HX := Lib.hid hx
  have HK := Lib.hid hnk
  have HS := Lib.hid hs
  have HBE := Lib.hid hbe
  have HT := Lib.hid htxt
  clear h hn hg hx hnk hs hbe htxt
  have hop2 := hop
  have q11 : (x.op == 11) = false := beq_false_of (by omega)
  have q12 : (x.op == 12) = false := beq_false_of (by omega)
  have q13 : (x.op == 13) = false := beq_false_of (by omega)
  have q14 : (x.op == 14) = false := beq_false_of (by omega)
  have q15 : (x.op == 15) = false := beq_false_of (by omega)
  have q16 : (x.op == 16) = false := beq_false_of (by omega)
  have q17 : (x.op == 17) = false := beq_false_of (by omega)
  have q18 : (x.op == 18) = true := beq_true_of hop
  have HOP := Lib.hid hop2
  clear hop hop2
  rw [HK.out] at hm
  have HM := Lib.hid hm
  clear hm
  go_enter Try.func115, Try.ntmps115
  go_wp2_with fail
  refine HC0.out.mono ?_
  rintro e w1 ⟨A, c, rfl, C0⟩
  obtain ⟨e1, d0, d2, d3, e3⟩ := C0.cells
  have CC0 := Lib.hid C0
  have hz0 := C0.size
  clear C0
  go_wp2_with fail
  refine (many_no ((CC0.out).alloc (.cells #[.int .i64 0] 3)) [0] (w1.heap.size + 1) 1 1 rfl (by omega) (blk_new1 w1 (.cells #[.slice A n c] 153) 3 #[.int .i64 0]) HM.out).mono ?_
  rintro e w2 ⟨rfl, h2, f2⟩
  have C2 := (((CC0.out).alloc _)).step (by simp) h2 f2
  clear e1 d0 d2 d3 e3
  obtain ⟨e1, d0, d2, d3, e3⟩ := C2.cells
  have CC2 := Lib.hid C2
  clear h2 f2 C2
  go_wp2_with fail
  go_end0
  exact ⟨rfl, CC2.out.lk, CC2.out.fr⟩
end Go.Proofs.Ytggibiodeecljaa
namespace Go.Proofs.Ytggibiodeecljaa
open Go.RowKit
set_option maxRecDepth 100000 in
set_option maxHeartbeats 1000000 in
theorem stmt_like_no11 (B kb tb toff cap : Nat) (ts : List Node) (slots : List Int) (seen : Int → Option Value) (htb : tb < B) (hl : ts.length ≤ 100000) (htxt : ∀ y ∈ ts, y.text.size ≤ 1099511627776) (i : Nat) (x : Node) (hi : i < ts.length) (hbe : 0 ≤ behind ts i) (hx : ts[i]? = some x) (w : World) (hg : Good ⟨slots, seen, false⟩) (hs : slots.length ≤ 2 + 3 * i)
    (h : LK w B kb (.slice (some ⟨tb, toff, none⟩) ts.length cap) ⟨slots, seen, false⟩) (hn : NodesAt w tb toff ts)
    (hop : x.op = 11) (hm : containsM [1] (kidsOf ts i).length = true) (hli : likeB x 0 x.n 0 = false) :
    Calls Try.prog 115 #[.pointer (some ⟨kb, 0, none⟩), .int .i64 i] w fun e w' => e = .returned (.tuple #[]) ∧ LK w' B kb (.slice (some ⟨tb, toff, none⟩) ts.length cap) (⟨slots, seen, true⟩) ∧ Frm B [132, 40] w w' := by
  obtain ⟨n, hnk⟩ : ∃ n, (kidsOf ts i).length = n := ⟨_, rfl⟩
  have hnl : n ≤ 100000 := by rw [← hnk]; exact kidsOf_le hbe hl
  obtain ⟨c0, c1, c2, c3, c4, c5, c6⟩ := hn.all hx
  obtain ⟨k0, k3⟩ := h.cells
  simp only at k3
  obtain ⟨hBk, hks⟩ := h.size
  have htw : tb < w.heap.size := by omega
  have HC0 := Lib.hid (stmt_kids B kb tb toff cap ts ⟨slots, seen, false⟩ i n x w hl h hn htb hi hnk)
  have HG := Lib.hid hg
  have HX := Lib.hid hx
  have HK := Lib.hid hnk
  have HS := Lib.hid hs
  have HBE := Lib.hid hbe
  have HT := Lib.hid htxt
  clear h hn hg hx hnk hs hbe htxt
  have hop2 := hop
  have q11 : (x.op == 11) = true := beq_true_of hop
  have HOP := Lib.hid hop2
  clear hop hop2
  rw [HK.out] at hm
  have HM := Lib.hid hm
  clear hm
  have HLI := Lib.hid hli
  clear hli
  go_enter Try.func115, Try.ntmps115
  go_wp2_with fail
  refine HC0.out.mono ?_
  rintro e w1 ⟨A, c, rfl, C0⟩
  obtain ⟨e1, d0, d2, d3, e3⟩ := C0.cells
  have CC0 := Lib.hid C0
  have hz0 := C0.size
  clear C0
  go_wp2_with fail
  refine (many_yes ((CC0.out).alloc (.cells #[.int .i64 1] 3)) [1] (w1.heap.size + 1) 1 1 rfl (by omega) (blk_new1 w1 (.cells #[.slice A n c] 153) 3 #[.int .i64 1]) HM.out).mono ?_
  rintro e w2 ⟨rfl, h2, f2⟩
  have C2 := (((CC0.out).alloc _)).step (by simp) h2 f2
  clear e1 d0 d2 d3 e3
  obtain ⟨e1, d0, d2, d3, e3⟩ := C2.cells
  have CC2 := Lib.hid C2
  clear h2 f2 C2
  go_wp2_with fail
  refine (like_no B kb tb toff cap ts slots seen i x 0 x.n 0 _ false HLI.out (CC2.out).lk HX.out (CC2.out).nodes hl).mono ?_
  rintro e w3 ⟨rfl, h3, f3⟩
  have C3 := (CC2.out).step (by simp) h3 f3
  clear e1 d0 d2 d3 e3
  obtain ⟨e1, d0, d2, d3, e3⟩ := C3.cells
  have CC3 := Lib.hid C3
  clear h3 f3 C3
  go_wp2_with fail
  go_end0
  exact ⟨rfl, CC3.out.lk, CC3.out.fr⟩
set_option maxRecDepth 100000 in
set_option maxHeartbeats 1000000 in
theorem stmt_like_no13 (B kb tb toff cap : Nat) (ts : List Node) (slots : List Int) (seen : Int → Option Value) (htb : tb < B) (hl : ts.length ≤ 100000) (htxt : ∀ y ∈ ts, y.text.size ≤ 1099511627776) (i : Nat) (x : Node) (hi : i < ts.length) (hbe : 0 ≤ behind ts i) (hx : ts[i]? = some x) (w : World) (hg : Good ⟨slots, seen, false⟩) (hs : slots.length ≤ 2 + 3 * i)
    (h : LK w B kb (.slice (some ⟨tb, toff, none⟩) ts.length cap) ⟨slots, seen, false⟩) (hn : NodesAt w tb toff ts)
    (hop : x.op = 13) (hm : containsM [2, 3] (kidsOf ts i).length = true) (hli : likeB x 0 0 0 = false) :
    Calls Try.prog 115 #[.pointer (some ⟨kb, 0, none⟩), .int .i64 i] w fun e w' => e = .returned (.tuple #[]) ∧ LK w' B kb (.slice (some ⟨tb, toff, none⟩) ts.length cap) (⟨slots, seen, true⟩) ∧ Frm B [132, 40] w w' := by
  obtain ⟨n, hnk⟩ : ∃ n, (kidsOf ts i).length = n := ⟨_, rfl⟩
  have hnl : n ≤ 100000 := by rw [← hnk]; exact kidsOf_le hbe hl
  obtain ⟨c0, c1, c2, c3, c4, c5, c6⟩ := hn.all hx
  obtain ⟨k0, k3⟩ := h.cells
  simp only at k3
  obtain ⟨hBk, hks⟩ := h.size
  have htw : tb < w.heap.size := by omega
  have HC0 := Lib.hid (stmt_kids B kb tb toff cap ts ⟨slots, seen, false⟩ i n x w hl h hn htb hi hnk)
  have HG := Lib.hid hg
  have HX := Lib.hid hx
  have HK := Lib.hid hnk
  have HS := Lib.hid hs
  have HBE := Lib.hid hbe
  have HT := Lib.hid htxt
  clear h hn hg hx hnk hs hbe htxt
  have hop2 := hop
  have q11 : (x.op == 11) = false := beq_false_of (by omega)
  have q12 : (x.op == 12) = false := beq_false_of (by omega)
  have q13 : (x.op == 13) = true := beq_true_of hop
  have HOP := Lib.hid hop2
  clear hop hop2
  rw [HK.out] at hm
  have HM := Lib.hid hm
  clear hm
  have HLI := Lib.hid hli
  clear hli
  go_enter Try.func115, Try.ntmps115
  go_wp2_with fail
  refine HC0.out.mono ?_
  rintro e w1 ⟨A, c, rfl, C0⟩
  obtain ⟨e1, d0, d2, d3, e3⟩ := C0.cells
  have CC0 := Lib.hid C0
  have hz0 := C0.size
  clear C0
  go_wp2_with fail
  refine (many_yes ((CC0.out).alloc (.cells #[.int .i64 2, .int .i64 3] 3)) [2, 3] (w1.heap.size + 1) 2 2 rfl (by omega) (blk_new1 w1 (.cells #[.slice A n c] 153) 3 #[.int .i64 2, .int .i64 3]) HM.out).mono ?_
  rintro e w2 ⟨rfl, h2, f2⟩
  have C2 := (((CC0.out).alloc _)).step (by simp) h2 f2
  clear e1 d0 d2 d3 e3
  obtain ⟨e1, d0, d2, d3, e3⟩ := C2.cells
  have CC2 := Lib.hid C2
  clear h2 f2 C2
  go_wp2_with fail
  refine (like_no B kb tb toff cap ts slots seen i x 0 0 0 _ false HLI.out (CC2.out).lk HX.out (CC2.out).nodes hl).mono ?_
  rintro e w3 ⟨rfl, h3, f3⟩
  have C3 := (CC2.out).step (by simp) h3 f3
  clear e1 d0 d2 d3 e3
  obtain ⟨e1, d0, d2, d3, e3⟩ := C3.cells
  have CC3 := Lib.hid C3
  clear h3 f3 C3
  go_wp2_with fail
  go_end0
  exact ⟨rfl, CC3.out.lk, CC3.out.fr⟩
set_option maxRecDepth 100000 in
set_option maxHeartbeats 1000000 in
theorem stmt_like_no16 (B kb tb toff cap : Nat) (ts : List Node) (slots : List Int) (seen : Int → Option Value) (htb : tb < B) (hl : ts.length ≤ 100000) (htxt : ∀ y ∈ ts, y.text.size ≤ 1099511627776) (i : Nat) (x : Node) (hi : i < ts.length) (hbe : 0 ≤ behind ts i) (hx : ts[i]? = some x) (w : World) (hg : Good ⟨slots, seen, false⟩) (hs : slots.length ≤ 2 + 3 * i)
    (h : LK w B kb (.slice (some ⟨tb, toff, none⟩) ts.length cap) ⟨slots, seen, false⟩) (hn : NodesAt w tb toff ts)
    (hop : x.op = 16) (hm : containsM [2, 3] (kidsOf ts i).length = true) (hli : likeB x 0 x.n 0 = false) :
    Calls Try.prog 115 #[.pointer (some ⟨kb, 0, none⟩), .int .i64 i] w fun e w' => e = .returned (.tuple #[]) ∧ LK w' B kb (.slice (some ⟨tb, toff, none⟩) ts.length cap) (⟨slots, seen, true⟩) ∧ Frm B [132, 40] w w' := by
  obtain ⟨n, hnk⟩ : ∃ n, (kidsOf ts i).length = n := ⟨_, rfl⟩
  have hnl : n ≤ 100000 := by rw [← hnk]; exact kidsOf_le hbe hl
  obtain ⟨c0, c1, c2, c3, c4, c5, c6⟩ := hn.all hx
  obtain ⟨k0, k3⟩ := h.cells
  simp only at k3
  obtain ⟨hBk, hks⟩ := h.size
  have htw : tb < w.heap.size := by omega
  have HC0 := Lib.hid (stmt_kids B kb tb toff cap ts ⟨slots, seen, false⟩ i n x w hl h hn htb hi hnk)
  have HG := Lib.hid hg
  have HX := Lib.hid hx
  have HK := Lib.hid hnk
  have HS := Lib.hid hs
  have HBE := Lib.hid hbe
  have HT := Lib.hid htxt
  clear h hn hg hx hnk hs hbe htxt
  have hop2 := hop
  have q11 : (x.op == 11) = false := beq_false_of (by omega)
  have q12 : (x.op == 12) = false := beq_false_of (by omega)
  have q13 : (x.op == 13) = false := beq_false_of (by omega)
  have q14 : (x.op == 14) = false := beq_false_of (by omega)
  have q15 : (x.op == 15) = false := beq_false_of (by omega)
  have q16 : (x.op == 16) = true := beq_true_of hop
  have HOP := Lib.hid hop2
  clear hop hop2
  rw [HK.out] at hm
  have HM := Lib.hid hm
  clear hm
  have HLI := Lib.hid hli
  clear hli
  go_enter Try.func115, Try.ntmps115
  go_wp2_with fail
  refine HC0.out.mono ?_
  rintro e w1 ⟨A, c, rfl, C0⟩
  obtain ⟨e1, d0, d2, d3, e3⟩ := C0.cells
  have CC0 := Lib.hid C0
  have hz0 := C0.size
  clear C0
  go_wp2_with fail
  refine (many_yes ((CC0.out).alloc (.cells #[.int .i64 2, .int .i64 3] 3)) [2, 3] (w1.heap.size + 1) 2 2 rfl (by omega) (blk_new1 w1 (.cells #[.slice A n c] 153) 3 #[.int .i64 2, .int .i64 3]) HM.out).mono ?_
  rintro e w2 ⟨rfl, h2, f2⟩
  have C2 := (((CC0.out).alloc _)).step (by simp) h2 f2
  clear e1 d0 d2 d3 e3
  obtain ⟨e1, d0, d2, d3, e3⟩ := C2.cells
  have CC2 := Lib.hid C2
  clear h2 f2 C2
  go_wp2_with fail
  refine (like_no B kb tb toff cap ts slots seen i x 0 x.n 0 _ false HLI.out (CC2.out).lk HX.out (CC2.out).nodes hl).mono ?_
  rintro e w3 ⟨rfl, h3, f3⟩
  have C3 := (CC2.out).step (by simp) h3 f3
  clear e1 d0 d2 d3 e3
  obtain ⟨e1, d0, d2, d3, e3⟩ := C3.cells
  have CC3 := Lib.hid C3
  clear h3 f3 C3
  go_wp2_with fail
  go_end0
  exact ⟨rfl, CC3.out.lk, CC3.out.fr⟩
set_option maxRecDepth 100000 in
set_option maxHeartbeats 1000000 in
theorem stmt_like_no17 (B kb tb toff cap : Nat) (ts : List Node) (slots : List Int) (seen : Int → Option Value) (htb : tb < B) (hl : ts.length ≤ 100000) (htxt : ∀ y ∈ ts, y.text.size ≤ 1099511627776) (i : Nat) (x : Node) (hi : i < ts.length) (hbe : 0 ≤ behind ts i) (hx : ts[i]? = some x) (w : World) (hg : Good ⟨slots, seen, false⟩) (hs : slots.length ≤ 2 + 3 * i)
    (h : LK w B kb (.slice (some ⟨tb, toff, none⟩) ts.length cap) ⟨slots, seen, false⟩) (hn : NodesAt w tb toff ts)
    (hop : x.op = 17) (hm : containsM [0] (kidsOf ts i).length = true) (hli : likeB x 0 0 0 = false) :
    Calls Try.prog 115 #[.pointer (some ⟨kb, 0, none⟩), .int .i64 i] w fun e w' => e = .returned (.tuple #[]) ∧ LK w' B kb (.slice (some ⟨tb, toff, none⟩) ts.length cap) (⟨slots, seen, true⟩) ∧ Frm B [132, 40] w w' := by
  obtain ⟨n, hnk⟩ : ∃ n, (kidsOf ts i).length = n := ⟨_, rfl⟩
  have hnl : n ≤ 100000 := by rw [← hnk]; exact kidsOf_le hbe hl
  obtain ⟨c0, c1, c2, c3, c4, c5, c6⟩ := hn.all hx
  obtain ⟨k0, k3⟩ := h.cells
  simp only at k3
  obtain ⟨hBk, hks⟩ := h.size
  have htw : tb < w.heap.size := by omega
  have HC0 := Lib.hid (stmt_kids B kb tb toff cap ts ⟨slots, seen, false⟩ i n x w hl h hn htb hi hnk)
  have HG := Lib.hid hg
  have HX := Lib.hid hx
  have HK := Lib.hid hnk
  have HS := Lib.hid hs
  have HBE := Lib.hid hbe
  have HT := Lib.hid htxt
  clear h hn hg hx hnk hs hbe htxt
  have hop2 := hop
  have q11 : (x.op == 11) = false := beq_false_of (by omega)
  have q12 : (x.op == 12) = false := beq_false_of (by omega)
  have q13 : (x.op == 13) = false := beq_false_of (by omega)
  have q14 : (x.op == 14) = false := beq_false_of (by omega)
  have q15 : (x.op == 15) = false := beq_false_of (by omega)
  have q16 : (x.op == 16) = false := beq_false_of (by omega)
  have q17 : (x.op == 17) = true := beq_true_of hop
  have HOP := Lib.hid hop2
  clear hop hop2
  rw [HK.out] at hm
  have HM := Lib.hid hm
  clear hm
  have HLI := Lib.hid hli
  clear hli
  go_enter Try.func115, Try.ntmps115
  go_wp2_with fail
  refine HC0.out.mono ?_
  rintro e w1 ⟨A, c, rfl, C0⟩
  obtain ⟨e1, d0, d2, d3, e3⟩ := C0.cells
  have CC0 := Lib.hid C0
  have hz0 := C0.size
  clear C0
  go_wp2_with fail
  refine (many_yes ((CC0.out).alloc (.cells #[.int .i64 0] 3)) [0] (w1.heap.size + 1) 1 1 rfl (by omega) (blk_new1 w1 (.cells #[.slice A n c] 153) 3 #[.int .i64 0]) HM.out).mono ?_
  rintro e w2 ⟨rfl, h2, f2⟩
  have C2 := (((CC0.out).alloc _)).step (by simp) h2 f2
  clear e1 d0 d2 d3 e3
  obtain ⟨e1, d0, d2, d3, e3⟩ := C2.cells
  have CC2 := Lib.hid C2
  clear h2 f2 C2
  go_wp2_with fail
  refine (like_no B kb tb toff cap ts slots seen i x 0 0 0 _ false HLI.out (CC2.out).lk HX.out (CC2.out).nodes hl).mono ?_
  rintro e w3 ⟨rfl, h3, f3⟩
  have C3 := (CC2.out).step (by simp) h3 f3
  clear e1 d0 d2 d3 e3
  obtain ⟨e1, d0, d2, d3, e3⟩ := C3.cells
  have CC3 := Lib.hid C3
  clear h3 f3 C3
  go_wp2_with fail
  go_end0
  exact ⟨rfl, CC3.out.lk, CC3.out.fr⟩
set_option maxRecDepth 100000 in
set_option maxHeartbeats 1000000 in
theorem stmt_like_no18 (B kb tb toff cap : Nat) (ts : List Node) (slots : List Int) (seen : Int → Option Value) (htb : tb < B) (hl : ts.length ≤ 100000) (htxt : ∀ y ∈ ts, y.text.size ≤ 1099511627776) (i : Nat) (x : Node) (hi : i < ts.length) (hbe : 0 ≤ behind ts i) (hx : ts[i]? = some x) (w : World) (hg : Good ⟨slots, seen, false⟩) (hs : slots.length ≤ 2 + 3 * i)
    (h : LK w B kb (.slice (some ⟨tb, toff, none⟩) ts.length cap) ⟨slots, seen, false⟩) (hn : NodesAt w tb toff ts)
    (hop : x.op = 18) (hm : containsM [0] (kidsOf ts i).length = true) (hli : likeB x 0 0 0 = false) :
    Calls Try.prog 115 #[.pointer (some ⟨kb, 0, none⟩), .int .i64 i] w fun e w' => e = .returned (.tuple #[]) ∧ LK w' B kb (.slice (some ⟨tb, toff, none⟩) ts.length cap) (⟨slots, seen, true⟩) ∧ Frm B [132, 40] w w' := by
  obtain ⟨n, hnk⟩ : ∃ n, (kidsOf ts i).length = n := ⟨_, rfl⟩
  have hnl : n ≤ 100000 := by rw [← hnk]; exact kidsOf_le hbe hl
  obtain ⟨c0, c1, c2, c3, c4, c5, c6⟩ := hn.all hx
  obtain ⟨k0, k3⟩ := h.cells
  simp only at k3
  obtain ⟨hBk, hks⟩ := h.size
  have htw : tb < w.heap.size := by omega
  have HC0 := Lib.hid (stmt_kids B kb tb toff cap ts ⟨slots, seen, false⟩ i n x w hl h hn htb hi hnk)
  have HG := Lib.hid hg
  have HX := Lib.hid hx
  have HK := Lib.hid hnk
  have HS := Lib.hid hs
  have HBE := Lib.hid hbe
  have HT := Lib.hid htxt
  clear h hn hg hx hnk hs hbe htxt
  have hop2 := hop
  have q11 : (x.op == 11) = false := beq_false_of (by omega)
  have q12 : (x.op == 12) = false := beq_false_of (by omega)
  have q13 : (x.op == 13) = false := beq_false_of (by omega)
  have q14 : (x.op == 14) = false := beq_false_of (by omega)
  have q15 : (x.op == 15) = false := beq_false_of (by omega)
  have q16 : (x.op == 16) = false := beq_false_of (by omega)
  have q17 : (x.op == 17) = false := beq_false_of (by omega)
  have q18 : (x.op == 18) = true := beq_true_of hop
  have HOP := Lib.hid hop2
  clear hop hop2
  rw [HK.out] at hm
  have HM := Lib.hid hm
  clear hm
  have HLI := Lib.hid hli
  clear hli
  go_enter Try.func115, Try.ntmps115
  go_wp2_with fail
  refine HC0.out.mono ?_
  rintro e w1 ⟨A, c, rfl, C0⟩
  obtain ⟨e1, d0, d2, d3, e3⟩ := C0.cells
  have CC0 := Lib.hid C0
  have hz0 := C0.size
  clear C0
  go_wp2_with fail
  refine (many_yes ((CC0.out).alloc (.cells #[.int .i64 0] 3)) [0] (w1.heap.size + 1) 1 1 rfl (by omega) (blk_new1 w1 (.cells #[.slice A n c] 153) 3 #[.int .i64 0]) HM.out).mono ?_
  rintro e w2 ⟨rfl, h2, f2⟩
  have C2 := (((CC0.out).alloc _)).step (by simp) h2 f2
  clear e1 d0 d2 d3 e3
  obtain ⟨e1, d0, d2, d3, e3⟩ := C2.cells
  have CC2 := Lib.hid C2
  clear h2 f2 C2
  go_wp2_with fail
  refine (like_no B kb tb toff cap ts slots seen i x 0 0 0 _ false HLI.out (CC2.out).lk HX.out (CC2.out).nodes hl).mono ?_
  rintro e w3 ⟨rfl, h3, f3⟩
  have C3 := (CC2.out).step (by simp) h3 f3
  clear e1 d0 d2 d3 e3
  obtain ⟨e1, d0, d2, d3, e3⟩ := C3.cells
  have CC3 := Lib.hid C3
  clear h3 f3 C3
  go_wp2_with fail
  go_end0
  exact ⟨rfl, CC3.out.lk, CC3.out.fr⟩
set_option maxRecDepth 100000 in
set_option maxHeartbeats 1000000 in
theorem stmt_stop17 (B kb tb toff cap : Nat) (ts : List Node) (slots : List Int) (seen : Int → Option Value) (htb : tb < B) (hl : ts.length ≤ 100000) (htxt : ∀ y ∈ ts, y.text.size ≤ 1099511627776) (i : Nat) (x : Node) (hi : i < ts.length) (hbe : 0 ≤ behind ts i) (hx : ts[i]? = some x) (w : World) (hg : Good ⟨slots, seen, false⟩) (hs : slots.length ≤ 2 + 3 * i)
    (h : LK w B kb (.slice (some ⟨tb, toff, none⟩) ts.length cap) ⟨slots, seen, false⟩) (hn : NodesAt w tb toff ts)
    (hop : x.op = 17) (hm : containsM [0] (kidsOf ts i).length = true) (hli : likeB x 0 0 0 = true) :
    Calls Try.prog 115 #[.pointer (some ⟨kb, 0, none⟩), .int .i64 i] w fun e w' => e = .returned (.tuple #[]) ∧ LK w' B kb (.slice (some ⟨tb, toff, none⟩) ts.length cap) (⟨slots, seen, false⟩) ∧ Frm B [132, 40] w w' := by
  obtain ⟨n, hnk⟩ : ∃ n, (kidsOf ts i).length = n := ⟨_, rfl⟩
  have hnl : n ≤ 100000 := by rw [← hnk]; exact kidsOf_le hbe hl
  obtain ⟨c0, c1, c2, c3, c4, c5, c6⟩ := hn.all hx
  obtain ⟨k0, k3⟩ := h.cells
  simp only at k3
  obtain ⟨hBk, hks⟩ := h.size
  have htw : tb < w.heap.size := by omega
  have HC0 := Lib.hid (stmt_kids B kb tb toff cap ts ⟨slots, seen, false⟩ i n x w hl h hn htb hi hnk)
  have HG := Lib.hid hg
  have HX := Lib.hid hx
  have HK := Lib.hid hnk
  have HS := Lib.hid hs
  have HBE := Lib.hid hbe
  have HT := Lib.hid htxt
  clear h hn hg hx hnk hs hbe htxt
  have hop2 := hop
  have q11 : (x.op == 11) = false := beq_false_of (by omega)
  have q12 : (x.op == 12) = false := beq_false_of (by omega)
  have q13 : (x.op == 13) = false := beq_false_of (by omega)
  have q14 : (x.op == 14) = false := beq_false_of (by omega)
  have q15 : (x.op == 15) = false := beq_false_of (by omega)
  have q16 : (x.op == 16) = false := beq_false_of (by omega)
  have q17 : (x.op == 17) = true := beq_true_of hop
  have HOP := Lib.hid hop2
  clear hop hop2
  rw [HK.out] at hm
  have HM := Lib.hid hm
  clear hm
  have HLI := Lib.hid hli
  clear hli
  go_enter Try.func115, Try.ntmps115
  go_wp2_with fail
  refine HC0.out.mono ?_
  rintro e w1 ⟨A, c, rfl, C0⟩
  obtain ⟨e1, d0, d2, d3, e3⟩ := C0.cells
  have CC0 := Lib.hid C0
  have hz0 := C0.size
  clear C0
  go_wp2_with fail
  refine (many_yes ((CC0.out).alloc (.cells #[.int .i64 0] 3)) [0] (w1.heap.size + 1) 1 1 rfl (by omega) (blk_new1 w1 (.cells #[.slice A n c] 153) 3 #[.int .i64 0]) HM.out).mono ?_
  rintro e w2 ⟨rfl, h2, f2⟩
  have C2 := (((CC0.out).alloc _)).step (by simp) h2 f2
  clear e1 d0 d2 d3 e3
  obtain ⟨e1, d0, d2, d3, e3⟩ := C2.cells
  have CC2 := Lib.hid C2
  clear h2 f2 C2
  go_wp2_with fail
  refine (like_yes B kb tb toff cap ts slots seen i x 0 0 0 _ HLI.out (CC2.out).lk HX.out (CC2.out).nodes hl).mono ?_
  rintro e w3 ⟨rfl, h3, f3⟩
  have C3 := (CC2.out).step (by simp) h3 f3
  clear e1 d0 d2 d3 e3
  obtain ⟨e1, d0, d2, d3, e3⟩ := C3.cells
  have CC3 := Lib.hid C3
  clear h3 f3 C3
  go_wp2_with fail
  go_end0
  exact ⟨rfl, CC3.out.lk, CC3.out.fr⟩
set_option maxRecDepth 100000 in
set_option maxHeartbeats 1000000 in
theorem stmt_stop18 (B kb tb toff cap : Nat) (ts : List Node) (slots : List Int) (seen : Int → Option Value) (htb : tb < B) (hl : ts.length ≤ 100000) (htxt : ∀ y ∈ ts, y.text.size ≤ 1099511627776) (i : Nat) (x : Node) (hi : i < ts.length) (hbe : 0 ≤ behind ts i) (hx : ts[i]? = some x) (w : World) (hg : Good ⟨slots, seen, false⟩) (hs : slots.length ≤ 2 + 3 * i)
    (h : LK w B kb (.slice (some ⟨tb, toff, none⟩) ts.length cap) ⟨slots, seen, false⟩) (hn : NodesAt w tb toff ts)
    (hop : x.op = 18) (hm : containsM [0] (kidsOf ts i).length = true) (hli : likeB x 0 0 0 = true) :
    Calls Try.prog 115 #[.pointer (some ⟨kb, 0, none⟩), .int .i64 i] w fun e w' => e = .returned (.tuple #[]) ∧ LK w' B kb (.slice (some ⟨tb, toff, none⟩) ts.length cap) (⟨slots, seen, false⟩) ∧ Frm B [132, 40] w w' := by
  obtain ⟨n, hnk⟩ : ∃ n, (kidsOf ts i).length = n := ⟨_, rfl⟩
  have hnl : n ≤ 100000 := by rw [← hnk]; exact kidsOf_le hbe hl
  obtain ⟨c0, c1, c2, c3, c4, c5, c6⟩ := hn.all hx
  obtain ⟨k0, k3⟩ := h.cells
  simp only at k3
  obtain ⟨hBk, hks⟩ := h.size
  have htw : tb < w.heap.size := by omega
  have HC0 := Lib.hid (stmt_kids B kb tb toff cap ts ⟨slots, seen, false⟩ i n x w hl h hn htb hi hnk)
  have HG := Lib.hid hg
  have HX := Lib.hid hx
  have HK := Lib.hid hnk
  have HS := Lib.hid hs
  have HBE := Lib.hid hbe
  have HT := Lib.hid htxt
  clear h hn hg hx hnk hs hbe htxt
  have hop2 := hop
  have q11 : (x.op == 11) = false := beq_false_of (by omega)
  have q12 : (x.op == 12) = false := beq_false_of (by omega)
  have q13 : (x.op == 13) = false := beq_false_of (by omega)
  have q14 : (x.op == 14) = false := beq_false_of (by omega)
  have q15 : (x.op == 15) = false := beq_false_of (by omega)
  have q16 : (x.op == 16) = false := beq_false_of (by omega)
  have q17 : (x.op == 17) = false := beq_false_of (by omega)
  have q18 : (x.op == 18) = true := beq_true_of hop
  have HOP := Lib.hid hop2
  clear hop hop2
  rw [HK.out] at hm
  have HM := Lib.hid hm
  clear hm
  have HLI := Lib.hid hli
  clear hli
  go_enter Try.func115, Try.ntmps115
  go_wp2_with fail
  refine HC0.out.mono ?_
  rintro e w1 ⟨A, c, rfl, C0⟩
  obtain ⟨e1, d0, d2, d3, e3⟩ := C0.cells
  have CC0 := Lib.hid C0
  have hz0 := C0.size
  clear C0
  go_wp2_with fail
  refine (many_yes ((CC0.out).alloc (.cells #[.int .i64 0] 3)) [0] (w1.heap.size + 1) 1 1 rfl (by omega) (blk_new1 w1 (.cells #[.slice A n c] 153) 3 #[.int .i64 0]) HM.out).mono ?_
  rintro e w2 ⟨rfl, h2, f2⟩
  have C2 := (((CC0.out).alloc _)).step (by simp) h2 f2
  clear e1 d0 d2 d3 e3
  obtain ⟨e1, d0, d2, d3, e3⟩ := C2.cells
  have CC2 := Lib.hid C2
  clear h2 f2 C2
  go_wp2_with fail
  refine (like_yes B kb tb toff cap ts slots seen i x 0 0 0 _ HLI.out (CC2.out).lk HX.out (CC2.out).nodes hl).mono ?_
  rintro e w3 ⟨rfl, h3, f3⟩
  have C3 := (CC2.out).step (by simp) h3 f3
  clear e1 d0 d2 d3 e3
  obtain ⟨e1, d0, d2, d3, e3⟩ := C3.cells
  have CC3 := Lib.hid C3
  clear h3 f3 C3
  go_wp2_with fail
  go_end0
  exact ⟨rfl, CC3.out.lk, CC3.out.fr⟩
end Go.Proofs.Ytggibiodeecljaa
namespace Go.Proofs.Ytggibiodeecljaa
open Go.RowKit
set_option maxRecDepth 100000 in
set_option maxHeartbeats 1000000 in
theorem stmt_let (B kb tb toff cap : Nat) (ts : List Node) (slots : List Int) (seen : Int → Option Value) (htb : tb < B) (hl : ts.length ≤ 100000) (htxt : ∀ y ∈ ts, y.text.size ≤ 1099511627776) (i : Nat) (x : Node) (hi : i < ts.length) (hbe : 0 ≤ behind ts i) (hx : ts[i]? = some x) (w : World) (hg : Good ⟨slots, seen, false⟩) (hs : slots.length ≤ 2 + 3 * i)
    (h : LK w B kb (.slice (some ⟨tb, toff, none⟩) ts.length cap) ⟨slots, seen, false⟩) (hn : NodesAt w tb toff ts)
    (hm : containsM [1] (kidsOf ts i).length = true) (hop : x.op = 11) (hli : likeB x 0 x.n 0 = true) (j : Nat) (r : List Nat) (hj : kidsOf ts i = j :: r) (kd hgt : Int) (bd : Bool) (hex : exprS ts ⟨slots, seen, false⟩ j false = (kd, hgt, bd)) :
    Calls Try.prog 115 #[.pointer (some ⟨kb, 0, none⟩), .int .i64 i] w fun e w' => e = .returned (.tuple #[]) ∧ LK w' B kb (.slice (some ⟨tb, toff, none⟩) ts.length cap) (declareF x.n true [kd] (highF (hgt, bd) ⟨slots, seen, false⟩)) ∧ Frm B [132, 40] w w' := by
  obtain ⟨n, hnk⟩ : ∃ n, (kidsOf ts i).length = n := ⟨_, rfl⟩
  have hnl : n ≤ 100000 := by rw [← hnk]; exact kidsOf_le hbe hl
  obtain ⟨c0, c1, c2, c3, c4, c5, c6⟩ := hn.all hx
  obtain ⟨k0, k3⟩ := h.cells
  simp only at k3
  obtain ⟨hBk, hks⟩ := h.size
  have htw : tb < w.heap.size := by omega
  have HC0 := Lib.hid (stmt_kids B kb tb toff cap ts ⟨slots, seen, false⟩ i n x w hl h hn htb hi hnk)
  have HG := Lib.hid hg
  have HX := Lib.hid hx
  have HK := Lib.hid hnk
  have HS := Lib.hid hs
  have HBE := Lib.hid hbe
  have HT := Lib.hid htxt
  clear h hn hg hx hnk hs hbe htxt
  have hop2 := hop
  have q11 : (x.op == 11) = true := beq_true_of hop
  have HOP := Lib.hid hop2
  clear hop hop2
  rw [HK.out] at hm
  have HM := Lib.hid hm
  clear hm
  have HLI := Lib.hid hli
  clear hli
  have hjj := kidsOf_ok (ts := ts) (i := i) (j := j) (by rw [hj]; simp)
  have HJ0 : Hid ((kidsOf ts i)[0]? = some j) := by rw [hj]; rfl
  have HJL := Lib.hid hjj.2.1
  have HN0 : Hid (0 < n) := Lib.hid (by rw [← HK.out, hj]; simp)
  have HJ := Lib.hid hj
  clear hj hjj
  have HEX := Lib.hid hex
  clear hex
  go_enter Try.func115, Try.ntmps115
  go_wp2_with fail
  refine HC0.out.mono ?_
  rintro e w1 ⟨A, c, rfl, C0⟩
  obtain ⟨e1, d0, d2, d3, e3⟩ := C0.cells
  have CC0 := Lib.hid C0
  have hz0 := C0.size
  clear C0
  go_wp2_with fail
  obtain ⟨gk, rfl⟩ := CC0.out.kid0 HN0.out
  have g0 := CC0.out.kidCell HK.out 0 j HJ0.out
  have gl0 := CC0.out.kidLt
  have gcap := CC0.out.kidCap
  refine (many_yes ((CC0.out).alloc (.cells #[.int .i64 1] 3)) [1] (w1.heap.size + 1) 1 1 rfl (by omega) (blk_new1 w1 (.cells #[.slice (some ⟨gk, 0, none⟩) n c] 153) 3 #[.int .i64 1]) HM.out).mono ?_
  rintro e w2 ⟨rfl, h2, f2⟩
  have C2 := (((CC0.out).alloc _)).step (by simp) h2 f2
  clear e1 d0 d2 d3 e3
  obtain ⟨e1, d0, d2, d3, e3⟩ := C2.cells
  have CC2 := Lib.hid C2
  clear h2 f2 C2
  clear g0
  have g0 := CC2.out.kidCell HK.out 0 j HJ0.out
  go_wp2_with fail
  refine (like_yes B kb tb toff cap ts slots seen i x 0 x.n 0 _ HLI.out (CC2.out).lk HX.out (CC2.out).nodes hl).mono ?_
  rintro e w3 ⟨rfl, h3, f3⟩
  have C3 := (CC2.out).step (by simp) h3 f3
  clear e1 d0 d2 d3 e3
  obtain ⟨e1, d0, d2, d3, e3⟩ := C3.cells
  have CC3 := Lib.hid C3
  clear h3 f3 C3
  clear g0
  have g0 := CC3.out.kidCell HK.out 0 j HJ0.out
  go_wp2_with fail
  refine wp_region_text (by kernel_rfl) (by kernel_rfl) ?_
  go_wp2_with fail
  refine (expr_st htb hl HT.out HG.out j HJL.out kd hgt bd HEX.out CC3.out.drew.lk CC3.out.drew.nodes).mono ?_
  rintro e w4 ⟨rfl, h4, f4⟩
  have C4 := (CC3.out.drew).step (by simp) h4 f4
  clear e1 d0 d2 d3 e3
  obtain ⟨e1, d0, d2, d3, e3⟩ := C4.cells
  have CC4 := Lib.hid C4
  clear h4 f4 C4
  clear g0
  have g0 := CC4.out.kidCell HK.out 0 j HJ0.out
  go_wp2_with fail
  refine Only.normal ?_
  go_wp2_with fail
  refine (must_any B kb _ ⟨slots, seen, bd⟩ (decide (hgt ≤ 256)) _ CC4.out.lk).mono ?_
  rintro e w5 ⟨rfl, h5, f5⟩
  have C5 := (CC4.out).step (by simp) h5 f5
  clear e1 d0 d2 d3 e3
  obtain ⟨e1, d0, d2, d3, e3⟩ := C5.cells
  have CC5 := Lib.hid C5
  clear h5 f5 C5
  clear g0
  have g0 := CC5.out.kidCell HK.out 0 j HJ0.out
  go_wp2_with fail
  refine (declare_any B kb x.n true [kd] w5.heap.size 1 ((⟨slots, seen, bd⟩ : LSt).must (decide (hgt ≤ 256))) _ _ (by have := HS.out; simp only [LSt.must]; omega) (by simp) ((CC5.out).alloc _).lk (Blk.new w5 40 #[.int .i8 kd]) (by have := (CC5.out).size; simp; omega)).mono ?_
  rintro e w6 ⟨rfl, h6, f6⟩
  have C6 := (CC5.out.alloc _).step (by simp) h6 f6
  clear e1 d0 d2 d3 e3
  obtain ⟨e1, d0, d2, d3, e3⟩ := C6.cells
  have CC6 := Lib.hid C6
  clear h6 f6 C6
  clear g0
  have g0 := CC6.out.kidCell HK.out 0 j HJ0.out
  go_wp2_with fail
  go_end0
  exact ⟨rfl, CC6.out.lk, CC6.out.fr⟩
end Go.Proofs.Ytggibiodeecljaa
