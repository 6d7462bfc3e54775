/- looker.stmt, its ways. Written by gen_stmt.py. looker.stmt, its ways. Written by gen_stmt.py. looker.stmt, its ways. Written by gen_stmt.py. -/
import Derived.Test.YtggibiodeecljaaMBlock
namespace Go.Proofs.Ytggibiodeecljaa
open Go.RowKit
set_option maxRecDepth 100000 in
set_option maxHeartbeats 1000000 in
theorem stmt_if (B kb tb toff cap : Nat) (ts : List Node) (slots : List Int) (seen : Int → Option Value) (htb : tb < B) (hl : ts.length ≤ 100000) (htxt : ∀ y ∈ ts, y.text.size ≤ 1099511627776) (i : Nat) (x : Node) (hi : i < ts.length) (hbe : 0 ≤ behind ts i) (hx : ts[i]? = some x) (w : World) (hg : Good ⟨slots, seen, false⟩) (hs : slots.length ≤ 2 + 3 * i)
    (h : LK w B kb (.slice (some ⟨tb, toff, none⟩) ts.length cap) ⟨slots, seen, false⟩) (hn : NodesAt w tb toff ts)
    (hm : containsM [2, 3] (kidsOf ts i).length = true) (hop : x.op = 13) (hli : likeB x 0 0 0 = true) (j : Nat) (r : List Nat) (hj : kidsOf ts i = j :: r) (hn2 : 2 ≤ (kidsOf ts i).length) (recS recB : Nat → LSt → LSt) (R : Recs B kb tb toff cap ts recS recB i) :
    Calls Try.prog 115 #[.pointer (some ⟨kb, 0, none⟩), .int .i64 i] w fun e w' => e = .returned (.tuple #[]) ∧ LK w' B kb (.slice (some ⟨tb, toff, none⟩) ts.length cap) (blocksF ts recS recB 0 r (valueF ts j 2 ⟨slots, seen, false⟩)) ∧ Frm B [132, 40] w w' := by
  obtain ⟨n, hnk⟩ : ∃ n, (kidsOf ts i).length = n := ⟨_, rfl⟩
  have hnl : n ≤ 100000 := by rw [← hnk]; exact kidsOf_le hbe hl
  obtain ⟨c0, c1, c2, c3, c4, c5, c6⟩ := hn.all hx
  obtain ⟨k0, k3⟩ := h.cells
  simp only at k3
  obtain ⟨hBk, hks⟩ := h.size
  have htw : tb < w.heap.size := by omega
  have HC0 := Lib.hid (stmt_kids B kb tb toff cap ts ⟨slots, seen, false⟩ i n x w hl h hn htb hi hnk)
  have HG := Lib.hid hg
  have HX := Lib.hid hx
  have HK := Lib.hid hnk
  have HS := Lib.hid hs
  have HBE := Lib.hid hbe
  have HT := Lib.hid htxt
  clear h hn hg hx hnk hs hbe htxt
  have hop2 := hop
  have q11 : (x.op == 11) = false := beq_false_of (by omega)
  have q12 : (x.op == 12) = false := beq_false_of (by omega)
  have q13 : (x.op == 13) = true := beq_true_of hop
  have HOP := Lib.hid hop2
  clear hop hop2
  rw [HK.out] at hm
  have HM := Lib.hid hm
  clear hm
  have HLI := Lib.hid hli
  clear hli
  rw [HK.out] at hn2
  have hjj := kidsOf_ok (ts := ts) (i := i) (j := j) (by rw [hj]; simp)
  have HJ0 : Hid ((kidsOf ts i)[0]? = some j) := by rw [hj]; rfl
  have HJL := Lib.hid hjj.2.1
  have HN0 : Hid (0 < n) := Lib.hid (by rw [← HK.out, hj]; simp)
  have HJ := Lib.hid hj
  clear hj hjj
  have HR := Lib.hid R
  have HJR : Hid (r.length + 1 = n) := Lib.hid (by rw [← HK.out, HJ.out]; simp)
  clear R
  go_enter Try.func115, Try.ntmps115
  go_wp2_with fail
  refine HC0.out.mono ?_
  rintro e w1 ⟨A, c, rfl, C0⟩
  obtain ⟨e1, d0, d2, d3, e3⟩ := C0.cells
  have CC0 := Lib.hid C0
  have hz0 := C0.size
  clear C0
  go_wp2_with fail
  obtain ⟨gk, rfl⟩ := CC0.out.kid0 HN0.out
  have g0 := CC0.out.kidCell HK.out 0 j HJ0.out
  have gl0 := CC0.out.kidLt
  have gcap := CC0.out.kidCap
  refine (many_yes ((CC0.out).alloc (.cells #[.int .i64 2, .int .i64 3] 3)) [2, 3] (w1.heap.size + 1) 2 2 rfl (by omega) (blk_new1 w1 (.cells #[.slice (some ⟨gk, 0, none⟩) n c] 153) 3 #[.int .i64 2, .int .i64 3]) HM.out).mono ?_
  rintro e w2 ⟨rfl, h2, f2⟩
  have C2 := (((CC0.out).alloc _)).step (by simp) h2 f2
  clear e1 d0 d2 d3 e3
  obtain ⟨e1, d0, d2, d3, e3⟩ := C2.cells
  have CC2 := Lib.hid C2
  clear h2 f2 C2
  clear g0
  have g0 := CC2.out.kidCell HK.out 0 j HJ0.out
  go_wp2_with fail
  refine (like_yes B kb tb toff cap ts slots seen i x 0 0 0 _ HLI.out (CC2.out).lk HX.out (CC2.out).nodes hl).mono ?_
  rintro e w3 ⟨rfl, h3, f3⟩
  have C3 := (CC2.out).step (by simp) h3 f3
  clear e1 d0 d2 d3 e3
  obtain ⟨e1, d0, d2, d3, e3⟩ := C3.cells
  have CC3 := Lib.hid C3
  clear h3 f3 C3
  clear g0
  have g0 := CC3.out.kidCell HK.out 0 j HJ0.out
  go_wp2_with fail
  refine wp_region_text (by kernel_rfl) (by kernel_rfl) ?_
  go_wp2_with fail
  refine (value_any B kb tb toff cap ts hl htb HT.out j (2) ⟨slots, seen, false⟩ _ HJL.out HG.out (CC3.out.drew).lk (CC3.out.drew).nodes).mono ?_
  rintro e w4 ⟨rfl, h4, f4⟩
  have C4 := (CC3.out.drew).step (by simp) h4 f4
  clear e1 d0 d2 d3 e3
  obtain ⟨e1, d0, d2, d3, e3⟩ := C4.cells
  have CC4 := Lib.hid C4
  clear h4 f4 C4
  clear g0
  have g0 := CC4.out.kidCell HK.out 0 j HJ0.out
  go_wp2_with fail
  refine Only.normal ?_
  go_wp2_with fail
  refine wp_region_text (by kernel_rfl) (by kernel_rfl) ?_
  go_wp2_with fail
  refine (blocks_st (CC4.out.drew) HR.out HBE.out HK.out hnl 1 (n - 1) _ (r) (by rw [HJ.out]; have := HJR.out; rw [List.drop_succ_cons, List.drop_zero, List.take_of_length_le (by omega)]) (by have := HJR.out; omega) (by omega) (HG.out.value ts j 2) (by have := HS.out; show slots.length ≤ _; omega)).mono ?_
  rintro e w5 ⟨rfl, h5, f5⟩
  have C5 := (CC4.out.drew).step (by simp) h5 f5
  clear e1 d0 d2 d3 e3
  obtain ⟨e1, d0, d2, d3, e3⟩ := C5.cells
  have CC5 := Lib.hid C5
  clear h5 f5 C5
  clear g0
  have g0 := CC5.out.kidCell HK.out 0 j HJ0.out
  go_wp2_with fail
  refine Only.normal ?_
  go_wp2_with fail
  go_end0
  exact ⟨rfl, CC5.out.lk, CC5.out.fr⟩
set_option maxRecDepth 100000 in
set_option maxHeartbeats 1000000 in
theorem stmt_repeat_no1 (B kb tb toff cap : Nat) (ts : List Node) (slots : List Int) (seen : Int → Option Value) (htb : tb < B) (hl : ts.length ≤ 100000) (htxt : ∀ y ∈ ts, y.text.size ≤ 1099511627776) (i : Nat) (x : Node) (hi : i < ts.length) (hbe : 0 ≤ behind ts i) (hx : ts[i]? = some x) (w : World) (hg : Good ⟨slots, seen, false⟩) (hs : slots.length ≤ 2 + 3 * i)
    (h : LK w B kb (.slice (some ⟨tb, toff, none⟩) ts.length cap) ⟨slots, seen, false⟩) (hn : NodesAt w tb toff ts)
    (hm : containsM [1] (kidsOf ts i).length = true) (hop : x.op = 14) (hr : x.n < 0) :
    Calls Try.prog 115 #[.pointer (some ⟨kb, 0, none⟩), .int .i64 i] w fun e w' => e = .returned (.tuple #[]) ∧ LK w' B kb (.slice (some ⟨tb, toff, none⟩) ts.length cap) (⟨slots, seen, true⟩) ∧ Frm B [132, 40] w w' := by
  obtain ⟨n, hnk⟩ : ∃ n, (kidsOf ts i).length = n := ⟨_, rfl⟩
  have hnl : n ≤ 100000 := by rw [← hnk]; exact kidsOf_le hbe hl
  obtain ⟨c0, c1, c2, c3, c4, c5, c6⟩ := hn.all hx
  obtain ⟨k0, k3⟩ := h.cells
  simp only at k3
  obtain ⟨hBk, hks⟩ := h.size
  have htw : tb < w.heap.size := by omega
  have HC0 := Lib.hid (stmt_kids B kb tb toff cap ts ⟨slots, seen, false⟩ i n x w hl h hn htb hi hnk)
  have HG := Lib.hid hg
  have HX := Lib.hid hx
  have HK := Lib.hid hnk
  have HS := Lib.hid hs
  have HBE := Lib.hid hbe
  have HT := Lib.hid htxt
  clear h hn hg hx hnk hs hbe htxt
  have hop2 := hop
  have q11 : (x.op == 11) = false := beq_false_of (by omega)
  have q12 : (x.op == 12) = false := beq_false_of (by omega)
  have q13 : (x.op == 13) = false := beq_false_of (by omega)
  have q14 : (x.op == 14) = true := beq_true_of hop
  have HOP := Lib.hid hop2
  clear hop hop2
  rw [HK.out] at hm
  have HM := Lib.hid hm
  clear hm
  go_enter Try.func115, Try.ntmps115
  go_wp2_with fail
  refine HC0.out.mono ?_
  rintro e w1 ⟨A, c, rfl, C0⟩
  obtain ⟨e1, d0, d2, d3, e3⟩ := C0.cells
  have CC0 := Lib.hid C0
  have hz0 := C0.size
  clear C0
  go_wp2_with fail
  refine (many_yes ((CC0.out).alloc (.cells #[.int .i64 1] 3)) [1] (w1.heap.size + 1) 1 1 rfl (by omega) (blk_new1 w1 (.cells #[.slice A n c] 153) 3 #[.int .i64 1]) HM.out).mono ?_
  rintro e w2 ⟨rfl, h2, f2⟩
  have C2 := (((CC0.out).alloc _)).step (by simp) h2 f2
  clear e1 d0 d2 d3 e3
  obtain ⟨e1, d0, d2, d3, e3⟩ := C2.cells
  have CC2 := Lib.hid C2
  clear h2 f2 C2
  go_wp2_with fail
  refine (must_no B kb _ slots seen _ false CC2.out.lk).mono ?_
  rintro e w3 ⟨rfl, h3, f3⟩
  have C3 := (CC2.out).step (by simp) h3 f3
  clear e1 d0 d2 d3 e3
  obtain ⟨e1, d0, d2, d3, e3⟩ := C3.cells
  have CC3 := Lib.hid C3
  clear h3 f3 C3
  go_wp2_with fail
  go_end0
  exact ⟨rfl, CC3.out.lk, CC3.out.fr⟩
set_option maxRecDepth 100000 in
set_option maxHeartbeats 1000000 in
theorem stmt_repeat_no2 (B kb tb toff cap : Nat) (ts : List Node) (slots : List Int) (seen : Int → Option Value) (htb : tb < B) (hl : ts.length ≤ 100000) (htxt : ∀ y ∈ ts, y.text.size ≤ 1099511627776) (i : Nat) (x : Node) (hi : i < ts.length) (hbe : 0 ≤ behind ts i) (hx : ts[i]? = some x) (w : World) (hg : Good ⟨slots, seen, false⟩) (hs : slots.length ≤ 2 + 3 * i)
    (h : LK w B kb (.slice (some ⟨tb, toff, none⟩) ts.length cap) ⟨slots, seen, false⟩) (hn : NodesAt w tb toff ts)
    (hm : containsM [1] (kidsOf ts i).length = true) (hop : x.op = 14) (hr : 0 ≤ x.n) (hr2 : ¬ x.n ≤ 255) :
    Calls Try.prog 115 #[.pointer (some ⟨kb, 0, none⟩), .int .i64 i] w fun e w' => e = .returned (.tuple #[]) ∧ LK w' B kb (.slice (some ⟨tb, toff, none⟩) ts.length cap) (⟨slots, seen, true⟩) ∧ Frm B [132, 40] w w' := by
  obtain ⟨n, hnk⟩ : ∃ n, (kidsOf ts i).length = n := ⟨_, rfl⟩
  have hnl : n ≤ 100000 := by rw [← hnk]; exact kidsOf_le hbe hl
  obtain ⟨c0, c1, c2, c3, c4, c5, c6⟩ := hn.all hx
  obtain ⟨k0, k3⟩ := h.cells
  simp only at k3
  obtain ⟨hBk, hks⟩ := h.size
  have htw : tb < w.heap.size := by omega
  have HC0 := Lib.hid (stmt_kids B kb tb toff cap ts ⟨slots, seen, false⟩ i n x w hl h hn htb hi hnk)
  have HG := Lib.hid hg
  have HX := Lib.hid hx
  have HK := Lib.hid hnk
  have HS := Lib.hid hs
  have HBE := Lib.hid hbe
  have HT := Lib.hid htxt
  clear h hn hg hx hnk hs hbe htxt
  have hop2 := hop
  have q11 : (x.op == 11) = false := beq_false_of (by omega)
  have q12 : (x.op == 12) = false := beq_false_of (by omega)
  have q13 : (x.op == 13) = false := beq_false_of (by omega)
  have q14 : (x.op == 14) = true := beq_true_of hop
  have HOP := Lib.hid hop2
  clear hop hop2
  rw [HK.out] at hm
  have HM := Lib.hid hm
  clear hm
  have hr3 : decide (x.n ≤ 255) = false := decide_eq_false hr2
  clear hr2
  go_enter Try.func115, Try.ntmps115
  go_wp2_with fail
  refine HC0.out.mono ?_
  rintro e w1 ⟨A, c, rfl, C0⟩
  obtain ⟨e1, d0, d2, d3, e3⟩ := C0.cells
  have CC0 := Lib.hid C0
  have hz0 := C0.size
  clear C0
  go_wp2_with fail
  refine (many_yes ((CC0.out).alloc (.cells #[.int .i64 1] 3)) [1] (w1.heap.size + 1) 1 1 rfl (by omega) (blk_new1 w1 (.cells #[.slice A n c] 153) 3 #[.int .i64 1]) HM.out).mono ?_
  rintro e w2 ⟨rfl, h2, f2⟩
  have C2 := (((CC0.out).alloc _)).step (by simp) h2 f2
  clear e1 d0 d2 d3 e3
  obtain ⟨e1, d0, d2, d3, e3⟩ := C2.cells
  have CC2 := Lib.hid C2
  clear h2 f2 C2
  go_wp2_with fail
  refine (must_no B kb _ slots seen _ false CC2.out.lk).mono ?_
  rintro e w3 ⟨rfl, h3, f3⟩
  have C3 := (CC2.out).step (by simp) h3 f3
  clear e1 d0 d2 d3 e3
  obtain ⟨e1, d0, d2, d3, e3⟩ := C3.cells
  have CC3 := Lib.hid C3
  clear h3 f3 C3
  go_wp2_with fail
  go_end0
  exact ⟨rfl, CC3.out.lk, CC3.out.fr⟩
set_option maxRecDepth 100000 in
set_option maxHeartbeats 1000000 in
theorem stmt_repeat_like (B kb tb toff cap : Nat) (ts : List Node) (slots : List Int) (seen : Int → Option Value) (htb : tb < B) (hl : ts.length ≤ 100000) (htxt : ∀ y ∈ ts, y.text.size ≤ 1099511627776) (i : Nat) (x : Node) (hi : i < ts.length) (hbe : 0 ≤ behind ts i) (hx : ts[i]? = some x) (w : World) (hg : Good ⟨slots, seen, false⟩) (hs : slots.length ≤ 2 + 3 * i)
    (h : LK w B kb (.slice (some ⟨tb, toff, none⟩) ts.length cap) ⟨slots, seen, false⟩) (hn : NodesAt w tb toff ts)
    (hm : containsM [1] (kidsOf ts i).length = true) (hop : x.op = 14) (hr : 0 ≤ x.n) (hr2 : x.n ≤ 255) (hli : likeB x 0 x.n x.m = false) :
    Calls Try.prog 115 #[.pointer (some ⟨kb, 0, none⟩), .int .i64 i] w fun e w' => e = .returned (.tuple #[]) ∧ LK w' B kb (.slice (some ⟨tb, toff, none⟩) ts.length cap) (⟨slots, seen, true⟩) ∧ Frm B [132, 40] w w' := by
  obtain ⟨n, hnk⟩ : ∃ n, (kidsOf ts i).length = n := ⟨_, rfl⟩
  have hnl : n ≤ 100000 := by rw [← hnk]; exact kidsOf_le hbe hl
  obtain ⟨c0, c1, c2, c3, c4, c5, c6⟩ := hn.all hx
  obtain ⟨k0, k3⟩ := h.cells
  simp only at k3
  obtain ⟨hBk, hks⟩ := h.size
  have htw : tb < w.heap.size := by omega
  have HC0 := Lib.hid (stmt_kids B kb tb toff cap ts ⟨slots, seen, false⟩ i n x w hl h hn htb hi hnk)
  have HG := Lib.hid hg
  have HX := Lib.hid hx
  have HK := Lib.hid hnk
  have HS := Lib.hid hs
  have HBE := Lib.hid hbe
  have HT := Lib.hid htxt
  clear h hn hg hx hnk hs hbe htxt
  have hop2 := hop
  have q11 : (x.op == 11) = false := beq_false_of (by omega)
  have q12 : (x.op == 12) = false := beq_false_of (by omega)
  have q13 : (x.op == 13) = false := beq_false_of (by omega)
  have q14 : (x.op == 14) = true := beq_true_of hop
  have HOP := Lib.hid hop2
  clear hop hop2
  rw [HK.out] at hm
  have HM := Lib.hid hm
  clear hm
  have HLI := Lib.hid hli
  clear hli
  go_enter Try.func115, Try.ntmps115
  go_wp2_with fail
  refine HC0.out.mono ?_
  rintro e w1 ⟨A, c, rfl, C0⟩
  obtain ⟨e1, d0, d2, d3, e3⟩ := C0.cells
  have CC0 := Lib.hid C0
  have hz0 := C0.size
  clear C0
  go_wp2_with fail
  refine (many_yes ((CC0.out).alloc (.cells #[.int .i64 1] 3)) [1] (w1.heap.size + 1) 1 1 rfl (by omega) (blk_new1 w1 (.cells #[.slice A n c] 153) 3 #[.int .i64 1]) HM.out).mono ?_
  rintro e w2 ⟨rfl, h2, f2⟩
  have C2 := (((CC0.out).alloc _)).step (by simp) h2 f2
  clear e1 d0 d2 d3 e3
  obtain ⟨e1, d0, d2, d3, e3⟩ := C2.cells
  have CC2 := Lib.hid C2
  clear h2 f2 C2
  go_wp2_with fail
  refine (must_yes B kb _ slots seen _ CC2.out.lk).mono ?_
  rintro e w3 ⟨rfl, h3, f3⟩
  have C3 := (CC2.out).step (by simp) h3 f3
  clear e1 d0 d2 d3 e3
  obtain ⟨e1, d0, d2, d3, e3⟩ := C3.cells
  have CC3 := Lib.hid C3
  clear h3 f3 C3
  go_wp2_with fail
  refine (like_no B kb tb toff cap ts slots seen i x 0 x.n x.m _ false HLI.out (CC3.out).lk HX.out (CC3.out).nodes hl).mono ?_
  rintro e w4 ⟨rfl, h4, f4⟩
  have C4 := (CC3.out).step (by simp) h4 f4
  clear e1 d0 d2 d3 e3
  obtain ⟨e1, d0, d2, d3, e3⟩ := C4.cells
  have CC4 := Lib.hid C4
  clear h4 f4 C4
  go_wp2_with fail
  go_end0
  exact ⟨rfl, CC4.out.lk, CC4.out.fr⟩
set_option maxRecDepth 100000 in
set_option maxHeartbeats 1000000 in
theorem stmt_repeat (B kb tb toff cap : Nat) (ts : List Node) (slots : List Int) (seen : Int → Option Value) (htb : tb < B) (hl : ts.length ≤ 100000) (htxt : ∀ y ∈ ts, y.text.size ≤ 1099511627776) (i : Nat) (x : Node) (hi : i < ts.length) (hbe : 0 ≤ behind ts i) (hx : ts[i]? = some x) (w : World) (hg : Good ⟨slots, seen, false⟩) (hs : slots.length ≤ 2 + 3 * i)
    (h : LK w B kb (.slice (some ⟨tb, toff, none⟩) ts.length cap) ⟨slots, seen, false⟩) (hn : NodesAt w tb toff ts)
    (hm : containsM [1] (kidsOf ts i).length = true) (hop : x.op = 14) (hr : 0 ≤ x.n) (hr2 : x.n ≤ 255) (hli : likeB x 0 x.n x.m = true) (j : Nat) (r : List Nat) (hj : kidsOf ts i = j :: r) (recS recB : Nat → LSt → LSt) (R : Recs B kb tb toff cap ts recS recB i) :
    Calls Try.prog 115 #[.pointer (some ⟨kb, 0, none⟩), .int .i64 i] w fun e w' => e = .returned (.tuple #[]) ∧ LK w' B kb (.slice (some ⟨tb, toff, none⟩) ts.length cap) (forget x.m (blocksF ts recS recB 0 (j :: r) (declareF x.m false [1] ⟨slots, seen, false⟩))) ∧ Frm B [132, 40] w w' := by
  obtain ⟨n, hnk⟩ : ∃ n, (kidsOf ts i).length = n := ⟨_, rfl⟩
  have hnl : n ≤ 100000 := by rw [← hnk]; exact kidsOf_le hbe hl
  obtain ⟨c0, c1, c2, c3, c4, c5, c6⟩ := hn.all hx
  obtain ⟨k0, k3⟩ := h.cells
  simp only at k3
  obtain ⟨hBk, hks⟩ := h.size
  have htw : tb < w.heap.size := by omega
  have HC0 := Lib.hid (stmt_kids B kb tb toff cap ts ⟨slots, seen, false⟩ i n x w hl h hn htb hi hnk)
  have HG := Lib.hid hg
  have HX := Lib.hid hx
  have HK := Lib.hid hnk
  have HS := Lib.hid hs
  have HBE := Lib.hid hbe
  have HT := Lib.hid htxt
  clear h hn hg hx hnk hs hbe htxt
  have hop2 := hop
  have q11 : (x.op == 11) = false := beq_false_of (by omega)
  have q12 : (x.op == 12) = false := beq_false_of (by omega)
  have q13 : (x.op == 13) = false := beq_false_of (by omega)
  have q14 : (x.op == 14) = true := beq_true_of hop
  have HOP := Lib.hid hop2
  clear hop hop2
  rw [HK.out] at hm
  have HM := Lib.hid hm
  clear hm
  have HLI := Lib.hid hli
  clear hli
  have hjj := kidsOf_ok (ts := ts) (i := i) (j := j) (by rw [hj]; simp)
  have HJ0 : Hid ((kidsOf ts i)[0]? = some j) := by rw [hj]; rfl
  have HJL := Lib.hid hjj.2.1
  have HN0 : Hid (0 < n) := Lib.hid (by rw [← HK.out, hj]; simp)
  have HJ := Lib.hid hj
  clear hj hjj
  have HR := Lib.hid R
  have HJR : Hid (r.length + 1 = n) := Lib.hid (by rw [← HK.out, HJ.out]; simp)
  clear R
  go_enter Try.func115, Try.ntmps115
  go_wp2_with fail
  refine HC0.out.mono ?_
  rintro e w1 ⟨A, c, rfl, C0⟩
  obtain ⟨e1, d0, d2, d3, e3⟩ := C0.cells
  have CC0 := Lib.hid C0
  have hz0 := C0.size
  clear C0
  go_wp2_with fail
  obtain ⟨gk, rfl⟩ := CC0.out.kid0 HN0.out
  have g0 := CC0.out.kidCell HK.out 0 j HJ0.out
  have gl0 := CC0.out.kidLt
  have gcap := CC0.out.kidCap
  refine (many_yes ((CC0.out).alloc (.cells #[.int .i64 1] 3)) [1] (w1.heap.size + 1) 1 1 rfl (by omega) (blk_new1 w1 (.cells #[.slice (some ⟨gk, 0, none⟩) n c] 153) 3 #[.int .i64 1]) HM.out).mono ?_
  rintro e w2 ⟨rfl, h2, f2⟩
  have C2 := (((CC0.out).alloc _)).step (by simp) h2 f2
  clear e1 d0 d2 d3 e3
  obtain ⟨e1, d0, d2, d3, e3⟩ := C2.cells
  have CC2 := Lib.hid C2
  clear h2 f2 C2
  clear g0
  have g0 := CC2.out.kidCell HK.out 0 j HJ0.out
  go_wp2_with fail
  refine (must_yes B kb _ slots seen _ CC2.out.lk).mono ?_
  rintro e w3 ⟨rfl, h3, f3⟩
  have C3 := (CC2.out).step (by simp) h3 f3
  clear e1 d0 d2 d3 e3
  obtain ⟨e1, d0, d2, d3, e3⟩ := C3.cells
  have CC3 := Lib.hid C3
  clear h3 f3 C3
  clear g0
  have g0 := CC3.out.kidCell HK.out 0 j HJ0.out
  go_wp2_with fail
  refine (like_yes B kb tb toff cap ts slots seen i x 0 x.n x.m _ HLI.out (CC3.out).lk HX.out (CC3.out).nodes hl).mono ?_
  rintro e w4 ⟨rfl, h4, f4⟩
  have C4 := (CC3.out).step (by simp) h4 f4
  clear e1 d0 d2 d3 e3
  obtain ⟨e1, d0, d2, d3, e3⟩ := C4.cells
  have CC4 := Lib.hid C4
  clear h4 f4 C4
  clear g0
  have g0 := CC4.out.kidCell HK.out 0 j HJ0.out
  go_wp2_with fail
  refine (declare_any B kb x.m false [1] w4.heap.size 1 ⟨slots, seen, false⟩ _ _ (by have := HS.out; simp only; omega) (by simp) ((CC4.out).alloc _).lk (Blk.new w4 40 #[.int .i8 1]) (by have := (CC4.out).size; simp; omega)).mono ?_
  rintro e w5 ⟨rfl, h5, f5⟩
  have C5 := (CC4.out.alloc _).step (by simp) h5 f5
  clear e1 d0 d2 d3 e3
  obtain ⟨e1, d0, d2, d3, e3⟩ := C5.cells
  have CC5 := Lib.hid C5
  clear h5 f5 C5
  clear g0
  have g0 := CC5.out.kidCell HK.out 0 j HJ0.out
  go_wp2_with fail
  refine (blocks_st (CC5.out) HR.out HBE.out HK.out hnl 0 n _ (j :: r) (by rw [HJ.out]; have := HJR.out; rw [List.drop_zero, List.take_of_length_le (by simp; omega)]) (by have := HJR.out; simp; omega) (by omega) (HG.out.declare x.m false [1] (by simp)) (by have := HS.out; have := declareF_len x.m false [1] ⟨slots, seen, false⟩; simp only [List.length_cons, List.length_nil] at this; omega)).mono ?_
  rintro e w6 ⟨rfl, h6, f6⟩
  have C6 := (CC5.out).step (by simp) h6 f6
  clear e1 d0 d2 d3 e3
  obtain ⟨e1, d0, d2, d3, e3⟩ := C6.cells
  have CC6 := Lib.hid C6
  clear h6 f6 C6
  clear g0
  have g0 := CC6.out.kidCell HK.out 0 j HJ0.out
  go_wp2_with fail
  obtain ⟨sv6, mb6, hmb6, _, kq6, hm6, _, _⟩ := CC6.out.lk.parts
  obtain ⟨w7, hrun6, hn6, hg6⟩ := (hm6.drew keyI).delete keyI Try.underlying130 (x.m) 0
  have hr6 : (Builtin.delete_ #[130, 3] 0 #[.map (some mb6), .int .i64 (x.m)]).run Try.prog w6.drew = .ok (.tuple #[]) w7 := hrun6
  obtain ⟨hl6, hf6⟩ := CC6.out.drew.lk.forgot (hm6.drew keyI) hmb6 kq6 hn6 hg6 [132, 40]
  have CC7 := Lib.hid (CC6.out.drew.step (by simp) hl6 hf6)
  clear hrun6 hn6 hg6 hl6 hf6 hm6
  refine wp_region_text (by kernel_rfl) (by kernel_rfl) ?_
  go_wp2_with fail
  refine Only.normal ?_
  clear e1 d0 d2 d3 e3 hr6 kq6
  obtain ⟨e1, d0, d2, d3, e3⟩ := CC7.out.cells
  clear g0
  have g0 := CC7.out.kidCell HK.out 0 j HJ0.out
  go_wp2_with fail
  go_end0
  exact ⟨rfl, CC7.out.lk, CC7.out.fr⟩
end Go.Proofs.Ytggibiodeecljaa
namespace Go.Proofs.Ytggibiodeecljaa
open Go.RowKit
set_option maxRecDepth 100000 in
set_option maxHeartbeats 1000000 in
theorem stmt_each_no1 (B kb tb toff cap : Nat) (ts : List Node) (slots : List Int) (seen : Int → Option Value) (htb : tb < B) (hl : ts.length ≤ 100000) (htxt : ∀ y ∈ ts, y.text.size ≤ 1099511627776) (i : Nat) (x : Node) (hi : i < ts.length) (hbe : 0 ≤ behind ts i) (hx : ts[i]? = some x) (w : World) (hg : Good ⟨slots, seen, false⟩) (hs : slots.length ≤ 2 + 3 * i)
    (h : LK w B kb (.slice (some ⟨tb, toff, none⟩) ts.length cap) ⟨slots, seen, false⟩) (hn : NodesAt w tb toff ts)
    (hm : containsM [2] (kidsOf ts i).length = true) (hop : x.op = 15) (hr : x.n < 0) :
    Calls Try.prog 115 #[.pointer (some ⟨kb, 0, none⟩), .int .i64 i] w fun e w' => e = .returned (.tuple #[]) ∧ LK w' B kb (.slice (some ⟨tb, toff, none⟩) ts.length cap) (⟨slots, seen, true⟩) ∧ Frm B [132, 40] w w' := by
  obtain ⟨n, hnk⟩ : ∃ n, (kidsOf ts i).length = n := ⟨_, rfl⟩
  have hnl : n ≤ 100000 := by rw [← hnk]; exact kidsOf_le hbe hl
  obtain ⟨c0, c1, c2, c3, c4, c5, c6⟩ := hn.all hx
  obtain ⟨k0, k3⟩ := h.cells
  simp only at k3
  obtain ⟨hBk, hks⟩ := h.size
  have htw : tb < w.heap.size := by omega
  have HC0 := Lib.hid (stmt_kids B kb tb toff cap ts ⟨slots, seen, false⟩ i n x w hl h hn htb hi hnk)
  have HG := Lib.hid hg
  have HX := Lib.hid hx
  have HK := Lib.hid hnk
  have HS := Lib.hid hs
  have HBE := Lib.hid hbe
  have HT := Lib.hid htxt
  clear h hn hg hx hnk hs hbe htxt
  have hop2 := hop
  have q11 : (x.op == 11) = false := beq_false_of (by omega)
  have q12 : (x.op == 12) = false := beq_false_of (by omega)
  have q13 : (x.op == 13) = false := beq_false_of (by omega)
  have q14 : (x.op == 14) = false := beq_false_of (by omega)
  have q15 : (x.op == 15) = true := beq_true_of hop
  have HOP := Lib.hid hop2
  clear hop hop2
  rw [HK.out] at hm
  have HM := Lib.hid hm
  clear hm
  go_enter Try.func115, Try.ntmps115
  go_wp2_with fail
  refine HC0.out.mono ?_
  rintro e w1 ⟨A, c, rfl, C0⟩
  obtain ⟨e1, d0, d2, d3, e3⟩ := C0.cells
  have CC0 := Lib.hid C0
  have hz0 := C0.size
  clear C0
  go_wp2_with fail
  refine (many_yes ((CC0.out).alloc (.cells #[.int .i64 2] 3)) [2] (w1.heap.size + 1) 1 1 rfl (by omega) (blk_new1 w1 (.cells #[.slice A n c] 153) 3 #[.int .i64 2]) HM.out).mono ?_
  rintro e w2 ⟨rfl, h2, f2⟩
  have C2 := (((CC0.out).alloc _)).step (by simp) h2 f2
  clear e1 d0 d2 d3 e3
  obtain ⟨e1, d0, d2, d3, e3⟩ := C2.cells
  have CC2 := Lib.hid C2
  clear h2 f2 C2
  go_wp2_with fail
  refine (must_no B kb _ slots seen _ false CC2.out.lk).mono ?_
  rintro e w3 ⟨rfl, h3, f3⟩
  have C3 := (CC2.out).step (by simp) h3 f3
  clear e1 d0 d2 d3 e3
  obtain ⟨e1, d0, d2, d3, e3⟩ := C3.cells
  have CC3 := Lib.hid C3
  clear h3 f3 C3
  go_wp2_with fail
  go_end0
  exact ⟨rfl, CC3.out.lk, CC3.out.fr⟩
set_option maxRecDepth 100000 in
set_option maxHeartbeats 1000000 in
theorem stmt_each_no2 (B kb tb toff cap : Nat) (ts : List Node) (slots : List Int) (seen : Int → Option Value) (htb : tb < B) (hl : ts.length ≤ 100000) (htxt : ∀ y ∈ ts, y.text.size ≤ 1099511627776) (i : Nat) (x : Node) (hi : i < ts.length) (hbe : 0 ≤ behind ts i) (hx : ts[i]? = some x) (w : World) (hg : Good ⟨slots, seen, false⟩) (hs : slots.length ≤ 2 + 3 * i)
    (h : LK w B kb (.slice (some ⟨tb, toff, none⟩) ts.length cap) ⟨slots, seen, false⟩) (hn : NodesAt w tb toff ts)
    (hm : containsM [2] (kidsOf ts i).length = true) (hop : x.op = 15) (hr : 0 ≤ x.n) (hr2 : (wrap64 (x.m - 1) == x.n) = false) :
    Calls Try.prog 115 #[.pointer (some ⟨kb, 0, none⟩), .int .i64 i] w fun e w' => e = .returned (.tuple #[]) ∧ LK w' B kb (.slice (some ⟨tb, toff, none⟩) ts.length cap) (⟨slots, seen, true⟩) ∧ Frm B [132, 40] w w' := by
  obtain ⟨n, hnk⟩ : ∃ n, (kidsOf ts i).length = n := ⟨_, rfl⟩
  have hnl : n ≤ 100000 := by rw [← hnk]; exact kidsOf_le hbe hl
  obtain ⟨c0, c1, c2, c3, c4, c5, c6⟩ := hn.all hx
  obtain ⟨k0, k3⟩ := h.cells
  simp only at k3
  obtain ⟨hBk, hks⟩ := h.size
  have htw : tb < w.heap.size := by omega
  have HC0 := Lib.hid (stmt_kids B kb tb toff cap ts ⟨slots, seen, false⟩ i n x w hl h hn htb hi hnk)
  have HG := Lib.hid hg
  have HX := Lib.hid hx
  have HK := Lib.hid hnk
  have HS := Lib.hid hs
  have HBE := Lib.hid hbe
  have HT := Lib.hid htxt
  clear h hn hg hx hnk hs hbe htxt
  have hop2 := hop
  have q11 : (x.op == 11) = false := beq_false_of (by omega)
  have q12 : (x.op == 12) = false := beq_false_of (by omega)
  have q13 : (x.op == 13) = false := beq_false_of (by omega)
  have q14 : (x.op == 14) = false := beq_false_of (by omega)
  have q15 : (x.op == 15) = true := beq_true_of hop
  have HOP := Lib.hid hop2
  clear hop hop2
  rw [HK.out] at hm
  have HM := Lib.hid hm
  clear hm
  go_enter Try.func115, Try.ntmps115
  go_wp2_with fail
  refine HC0.out.mono ?_
  rintro e w1 ⟨A, c, rfl, C0⟩
  obtain ⟨e1, d0, d2, d3, e3⟩ := C0.cells
  have CC0 := Lib.hid C0
  have hz0 := C0.size
  clear C0
  go_wp2_with fail
  refine (many_yes ((CC0.out).alloc (.cells #[.int .i64 2] 3)) [2] (w1.heap.size + 1) 1 1 rfl (by omega) (blk_new1 w1 (.cells #[.slice A n c] 153) 3 #[.int .i64 2]) HM.out).mono ?_
  rintro e w2 ⟨rfl, h2, f2⟩
  have C2 := (((CC0.out).alloc _)).step (by simp) h2 f2
  clear e1 d0 d2 d3 e3
  obtain ⟨e1, d0, d2, d3, e3⟩ := C2.cells
  have CC2 := Lib.hid C2
  clear h2 f2 C2
  go_wp2_with fail
  refine (must_no B kb _ slots seen _ false CC2.out.lk).mono ?_
  rintro e w3 ⟨rfl, h3, f3⟩
  have C3 := (CC2.out).step (by simp) h3 f3
  clear e1 d0 d2 d3 e3
  obtain ⟨e1, d0, d2, d3, e3⟩ := C3.cells
  have CC3 := Lib.hid C3
  clear h3 f3 C3
  go_wp2_with fail
  go_end0
  exact ⟨rfl, CC3.out.lk, CC3.out.fr⟩
set_option maxRecDepth 100000 in
set_option maxHeartbeats 1000000 in
theorem stmt_each_like (B kb tb toff cap : Nat) (ts : List Node) (slots : List Int) (seen : Int → Option Value) (htb : tb < B) (hl : ts.length ≤ 100000) (htxt : ∀ y ∈ ts, y.text.size ≤ 1099511627776) (i : Nat) (x : Node) (hi : i < ts.length) (hbe : 0 ≤ behind ts i) (hx : ts[i]? = some x) (w : World) (hg : Good ⟨slots, seen, false⟩) (hs : slots.length ≤ 2 + 3 * i)
    (h : LK w B kb (.slice (some ⟨tb, toff, none⟩) ts.length cap) ⟨slots, seen, false⟩) (hn : NodesAt w tb toff ts)
    (hm : containsM [2] (kidsOf ts i).length = true) (hop : x.op = 15) (hr : 0 ≤ x.n) (hr2 : (wrap64 (x.m - 1) == x.n) = true) (hli : likeB x 0 x.n x.m = false) :
    Calls Try.prog 115 #[.pointer (some ⟨kb, 0, none⟩), .int .i64 i] w fun e w' => e = .returned (.tuple #[]) ∧ LK w' B kb (.slice (some ⟨tb, toff, none⟩) ts.length cap) (⟨slots, seen, true⟩) ∧ Frm B [132, 40] w w' := by
  obtain ⟨n, hnk⟩ : ∃ n, (kidsOf ts i).length = n := ⟨_, rfl⟩
  have hnl : n ≤ 100000 := by rw [← hnk]; exact kidsOf_le hbe hl
  obtain ⟨c0, c1, c2, c3, c4, c5, c6⟩ := hn.all hx
  obtain ⟨k0, k3⟩ := h.cells
  simp only at k3
  obtain ⟨hBk, hks⟩ := h.size
  have htw : tb < w.heap.size := by omega
  have HC0 := Lib.hid (stmt_kids B kb tb toff cap ts ⟨slots, seen, false⟩ i n x w hl h hn htb hi hnk)
  have HG := Lib.hid hg
  have HX := Lib.hid hx
  have HK := Lib.hid hnk
  have HS := Lib.hid hs
  have HBE := Lib.hid hbe
  have HT := Lib.hid htxt
  clear h hn hg hx hnk hs hbe htxt
  have hop2 := hop
  have q11 : (x.op == 11) = false := beq_false_of (by omega)
  have q12 : (x.op == 12) = false := beq_false_of (by omega)
  have q13 : (x.op == 13) = false := beq_false_of (by omega)
  have q14 : (x.op == 14) = false := beq_false_of (by omega)
  have q15 : (x.op == 15) = true := beq_true_of hop
  have HOP := Lib.hid hop2
  clear hop hop2
  rw [HK.out] at hm
  have HM := Lib.hid hm
  clear hm
  have HLI := Lib.hid hli
  clear hli
  go_enter Try.func115, Try.ntmps115
  go_wp2_with fail
  refine HC0.out.mono ?_
  rintro e w1 ⟨A, c, rfl, C0⟩
  obtain ⟨e1, d0, d2, d3, e3⟩ := C0.cells
  have CC0 := Lib.hid C0
  have hz0 := C0.size
  clear C0
  go_wp2_with fail
  refine (many_yes ((CC0.out).alloc (.cells #[.int .i64 2] 3)) [2] (w1.heap.size + 1) 1 1 rfl (by omega) (blk_new1 w1 (.cells #[.slice A n c] 153) 3 #[.int .i64 2]) HM.out).mono ?_
  rintro e w2 ⟨rfl, h2, f2⟩
  have C2 := (((CC0.out).alloc _)).step (by simp) h2 f2
  clear e1 d0 d2 d3 e3
  obtain ⟨e1, d0, d2, d3, e3⟩ := C2.cells
  have CC2 := Lib.hid C2
  clear h2 f2 C2
  go_wp2_with fail
  refine (must_yes B kb _ slots seen _ CC2.out.lk).mono ?_
  rintro e w3 ⟨rfl, h3, f3⟩
  have C3 := (CC2.out).step (by simp) h3 f3
  clear e1 d0 d2 d3 e3
  obtain ⟨e1, d0, d2, d3, e3⟩ := C3.cells
  have CC3 := Lib.hid C3
  clear h3 f3 C3
  go_wp2_with fail
  refine (like_no B kb tb toff cap ts slots seen i x 0 x.n x.m _ false HLI.out (CC3.out).lk HX.out (CC3.out).nodes hl).mono ?_
  rintro e w4 ⟨rfl, h4, f4⟩
  have C4 := (CC3.out).step (by simp) h4 f4
  clear e1 d0 d2 d3 e3
  obtain ⟨e1, d0, d2, d3, e3⟩ := C4.cells
  have CC4 := Lib.hid C4
  clear h4 f4 C4
  go_wp2_with fail
  go_end0
  exact ⟨rfl, CC4.out.lk, CC4.out.fr⟩
set_option maxRecDepth 100000 in
set_option maxHeartbeats 1000000 in
theorem stmt_each (B kb tb toff cap : Nat) (ts : List Node) (slots : List Int) (seen : Int → Option Value) (htb : tb < B) (hl : ts.length ≤ 100000) (htxt : ∀ y ∈ ts, y.text.size ≤ 1099511627776) (i : Nat) (x : Node) (hi : i < ts.length) (hbe : 0 ≤ behind ts i) (hx : ts[i]? = some x) (w : World) (hg : Good ⟨slots, seen, false⟩) (hs : slots.length ≤ 2 + 3 * i)
    (h : LK w B kb (.slice (some ⟨tb, toff, none⟩) ts.length cap) ⟨slots, seen, false⟩) (hn : NodesAt w tb toff ts)
    (hm : containsM [2] (kidsOf ts i).length = true) (hop : x.op = 15) (hr : 0 ≤ x.n) (hr2 : (wrap64 (x.m - 1) == x.n) = true) (hli : likeB x 0 x.n x.m = true) (j : Nat) (r : List Nat) (hj : kidsOf ts i = j :: r) (hn2 : 2 ≤ (kidsOf ts i).length) (recS recB : Nat → LSt → LSt) (R : Recs B kb tb toff cap ts recS recB i) :
    Calls Try.prog 115 #[.pointer (some ⟨kb, 0, none⟩), .int .i64 i] w fun e w' => e = .returned (.tuple #[]) ∧ LK w' B kb (.slice (some ⟨tb, toff, none⟩) ts.length cap) (forget x.n (blocksF ts recS recB 0 r (declareF x.n false [3, 6, 1] (valueF ts j 6 ⟨slots, seen, false⟩)))) ∧ Frm B [132, 40] w w' := by
  obtain ⟨n, hnk⟩ : ∃ n, (kidsOf ts i).length = n := ⟨_, rfl⟩
  have hnl : n ≤ 100000 := by rw [← hnk]; exact kidsOf_le hbe hl
  obtain ⟨c0, c1, c2, c3, c4, c5, c6⟩ := hn.all hx
  obtain ⟨k0, k3⟩ := h.cells
  simp only at k3
  obtain ⟨hBk, hks⟩ := h.size
  have htw : tb < w.heap.size := by omega
  have HC0 := Lib.hid (stmt_kids B kb tb toff cap ts ⟨slots, seen, false⟩ i n x w hl h hn htb hi hnk)
  have HG := Lib.hid hg
  have HX := Lib.hid hx
  have HK := Lib.hid hnk
  have HS := Lib.hid hs
  have HBE := Lib.hid hbe
  have HT := Lib.hid htxt
  clear h hn hg hx hnk hs hbe htxt
  have hop2 := hop
  have q11 : (x.op == 11) = false := beq_false_of (by omega)
  have q12 : (x.op == 12) = false := beq_false_of (by omega)
  have q13 : (x.op == 13) = false := beq_false_of (by omega)
  have q14 : (x.op == 14) = false := beq_false_of (by omega)
  have q15 : (x.op == 15) = true := beq_true_of hop
  have HOP := Lib.hid hop2
  clear hop hop2
  rw [HK.out] at hm
  have HM := Lib.hid hm
  clear hm
  have HLI := Lib.hid hli
  clear hli
  rw [HK.out] at hn2
  have hjj := kidsOf_ok (ts := ts) (i := i) (j := j) (by rw [hj]; simp)
  have HJ0 : Hid ((kidsOf ts i)[0]? = some j) := by rw [hj]; rfl
  have HJL := Lib.hid hjj.2.1
  have HN0 : Hid (0 < n) := Lib.hid (by rw [← HK.out, hj]; simp)
  have HJ := Lib.hid hj
  clear hj hjj
  have HR := Lib.hid R
  have HJR : Hid (r.length + 1 = n) := Lib.hid (by rw [← HK.out, HJ.out]; simp)
  clear R
  go_enter Try.func115, Try.ntmps115
  go_wp2_with fail
  refine HC0.out.mono ?_
  rintro e w1 ⟨A, c, rfl, C0⟩
  obtain ⟨e1, d0, d2, d3, e3⟩ := C0.cells
  have CC0 := Lib.hid C0
  have hz0 := C0.size
  clear C0
  go_wp2_with fail
  obtain ⟨gk, rfl⟩ := CC0.out.kid0 HN0.out
  have g0 := CC0.out.kidCell HK.out 0 j HJ0.out
  have gl0 := CC0.out.kidLt
  have gcap := CC0.out.kidCap
  refine (many_yes ((CC0.out).alloc (.cells #[.int .i64 2] 3)) [2] (w1.heap.size + 1) 1 1 rfl (by omega) (blk_new1 w1 (.cells #[.slice (some ⟨gk, 0, none⟩) n c] 153) 3 #[.int .i64 2]) HM.out).mono ?_
  rintro e w2 ⟨rfl, h2, f2⟩
  have C2 := (((CC0.out).alloc _)).step (by simp) h2 f2
  clear e1 d0 d2 d3 e3
  obtain ⟨e1, d0, d2, d3, e3⟩ := C2.cells
  have CC2 := Lib.hid C2
  clear h2 f2 C2
  clear g0
  have g0 := CC2.out.kidCell HK.out 0 j HJ0.out
  go_wp2_with fail
  refine (must_yes B kb _ slots seen _ CC2.out.lk).mono ?_
  rintro e w3 ⟨rfl, h3, f3⟩
  have C3 := (CC2.out).step (by simp) h3 f3
  clear e1 d0 d2 d3 e3
  obtain ⟨e1, d0, d2, d3, e3⟩ := C3.cells
  have CC3 := Lib.hid C3
  clear h3 f3 C3
  clear g0
  have g0 := CC3.out.kidCell HK.out 0 j HJ0.out
  go_wp2_with fail
  refine (like_yes B kb tb toff cap ts slots seen i x 0 x.n x.m _ HLI.out (CC3.out).lk HX.out (CC3.out).nodes hl).mono ?_
  rintro e w4 ⟨rfl, h4, f4⟩
  have C4 := (CC3.out).step (by simp) h4 f4
  clear e1 d0 d2 d3 e3
  obtain ⟨e1, d0, d2, d3, e3⟩ := C4.cells
  have CC4 := Lib.hid C4
  clear h4 f4 C4
  clear g0
  have g0 := CC4.out.kidCell HK.out 0 j HJ0.out
  go_wp2_with fail
  refine wp_region_text (by kernel_rfl) (by kernel_rfl) ?_
  go_wp2_with fail
  refine (value_any B kb tb toff cap ts hl htb HT.out j (6) ⟨slots, seen, false⟩ _ HJL.out HG.out (CC4.out.drew).lk (CC4.out.drew).nodes).mono ?_
  rintro e w5 ⟨rfl, h5, f5⟩
  have C5 := (CC4.out.drew).step (by simp) h5 f5
  clear e1 d0 d2 d3 e3
  obtain ⟨e1, d0, d2, d3, e3⟩ := C5.cells
  have CC5 := Lib.hid C5
  clear h5 f5 C5
  clear g0
  have g0 := CC5.out.kidCell HK.out 0 j HJ0.out
  go_wp2_with fail
  refine Only.normal ?_
  go_wp2_with fail
  refine (declare_any B kb x.n false [3, 6, 1] w5.heap.size 3 (valueF ts j 6 ⟨slots, seen, false⟩) _ _ (by have := HS.out; show slots.length ≤ _; omega) (by simp) ((CC5.out).alloc _).lk (Blk.new w5 40 #[.int .i8 3, .int .i8 6, .int .i8 1]) (by have := (CC5.out).size; simp; omega)).mono ?_
  rintro e w6 ⟨rfl, h6, f6⟩
  have C6 := (CC5.out.alloc _).step (by simp) h6 f6
  clear e1 d0 d2 d3 e3
  obtain ⟨e1, d0, d2, d3, e3⟩ := C6.cells
  have CC6 := Lib.hid C6
  clear h6 f6 C6
  clear g0
  have g0 := CC6.out.kidCell HK.out 0 j HJ0.out
  go_wp2_with fail
  refine wp_region_text (by kernel_rfl) (by kernel_rfl) ?_
  go_wp2_with fail
  refine (blocks_st (CC6.out.drew) HR.out HBE.out HK.out hnl 1 (n - 1) _ (r) (by rw [HJ.out]; have := HJR.out; rw [List.drop_succ_cons, List.drop_zero, List.take_of_length_le (by omega)]) (by have := HJR.out; omega) (by omega) ((HG.out.value ts j 6).declare x.n false [3, 6, 1] (by simp)) (by have := HS.out; have := declareF_len x.n false [3, 6, 1] (valueF ts j 6 ⟨slots, seen, false⟩); have : (valueF ts j 6 ⟨slots, seen, false⟩).slots.length = slots.length := rfl; simp only [List.length_cons, List.length_nil] at *; omega)).mono ?_
  rintro e w7 ⟨rfl, h7, f7⟩
  have C7 := (CC6.out.drew).step (by simp) h7 f7
  clear e1 d0 d2 d3 e3
  obtain ⟨e1, d0, d2, d3, e3⟩ := C7.cells
  have CC7 := Lib.hid C7
  clear h7 f7 C7
  clear g0
  have g0 := CC7.out.kidCell HK.out 0 j HJ0.out
  go_wp2_with fail
  refine Only.normal ?_
  go_wp2_with fail
  obtain ⟨sv7, mb7, hmb7, _, kq7, hm7, _, _⟩ := CC7.out.lk.parts
  obtain ⟨w8, hrun7, hn7, hg7⟩ := (hm7.drew keyI).delete keyI Try.underlying130 (x.n) 0
  have hr7 : (Builtin.delete_ #[130, 3] 0 #[.map (some mb7), .int .i64 (x.n)]).run Try.prog w7.drew = .ok (.tuple #[]) w8 := hrun7
  obtain ⟨hl7, hf7⟩ := CC7.out.drew.lk.forgot (hm7.drew keyI) hmb7 kq7 hn7 hg7 [132, 40]
  have CC8 := Lib.hid (CC7.out.drew.step (by simp) hl7 hf7)
  clear hrun7 hn7 hg7 hl7 hf7 hm7
  refine wp_region_text (by kernel_rfl) (by kernel_rfl) ?_
  go_wp2_with fail
  refine Only.normal ?_
  clear e1 d0 d2 d3 e3 hr7 kq7
  obtain ⟨e1, d0, d2, d3, e3⟩ := CC8.out.cells
  clear g0
  have g0 := CC8.out.kidCell HK.out 0 j HJ0.out
  go_wp2_with fail
  go_end0
  exact ⟨rfl, CC8.out.lk, CC8.out.fr⟩
end Go.Proofs.Ytggibiodeecljaa
namespace Go.Proofs.Ytggibiodeecljaa
open Go.RowKit
set_option maxRecDepth 100000 in
set_option maxHeartbeats 1000000 in
theorem stmt_set_no_neg (B kb tb toff cap : Nat) (ts : List Node) (slots : List Int) (seen : Int → Option Value) (htb : tb < B) (hl : ts.length ≤ 100000) (htxt : ∀ y ∈ ts, y.text.size ≤ 1099511627776) (i : Nat) (x : Node) (hi : i < ts.length) (hbe : 0 ≤ behind ts i) (hx : ts[i]? = some x) (w : World) (hg : Good ⟨slots, seen, false⟩) (hs : slots.length ≤ 2 + 3 * i)
    (h : LK w B kb (.slice (some ⟨tb, toff, none⟩) ts.length cap) ⟨slots, seen, false⟩) (hn : NodesAt w tb toff ts)
    (hop : x.op = 12) (hm : containsM [1] (kidsOf ts i).length = true) (hr : x.n < 0) :
    Calls Try.prog 115 #[.pointer (some ⟨kb, 0, none⟩), .int .i64 i] w fun e w' => e = .returned (.tuple #[]) ∧ LK w' B kb (.slice (some ⟨tb, toff, none⟩) ts.length cap) (⟨slots, seen, true⟩) ∧ Frm B [132, 40] w w' := by
  obtain ⟨n, hnk⟩ : ∃ n, (kidsOf ts i).length = n := ⟨_, rfl⟩
  have hnl : n ≤ 100000 := by rw [← hnk]; exact kidsOf_le hbe hl
  obtain ⟨c0, c1, c2, c3, c4, c5, c6⟩ := hn.all hx
  obtain ⟨k0, k3⟩ := h.cells
  simp only at k3
  obtain ⟨hBk, hks⟩ := h.size
  have htw : tb < w.heap.size := by omega
  have HC0 := Lib.hid (stmt_kids B kb tb toff cap ts ⟨slots, seen, false⟩ i n x w hl h hn htb hi hnk)
  have HG := Lib.hid hg
  have HX := Lib.hid hx
  have HK := Lib.hid hnk
  have HS := Lib.hid hs
  have HBE := Lib.hid hbe
  have HT := Lib.hid htxt
  clear h hn hg hx hnk hs hbe htxt
  have hop2 := hop
  have q11 : (x.op == 11) = false := beq_false_of (by omega)
  have q12 : (x.op == 12) = true := beq_true_of hop
  have HOP := Lib.hid hop2
  clear hop hop2
  rw [HK.out] at hm
  have HM := Lib.hid hm
  clear hm
  go_enter Try.func115, Try.ntmps115
  go_wp2_with fail
  refine HC0.out.mono ?_
  rintro e w1 ⟨A, c, rfl, C0⟩
  obtain ⟨e1, d0, d2, d3, e3⟩ := C0.cells
  have CC0 := Lib.hid C0
  have hz0 := C0.size
  clear C0
  go_wp2_with fail
  refine wp_region_text (by kernel_rfl) (by kernel_rfl) ?_
  go_wp2_with fail
  refine Only.normal ?_
  go_wp2_with fail
  refine (many_yes ((CC0.out).alloc (.cells #[.int .i64 1] 3)).drew [1] (w1.heap.size + 1) 1 1 rfl (by omega) (blk_new1 w1 (.cells #[.slice A n c] 153) 3 #[.int .i64 1]).drew HM.out).mono ?_
  rintro e w2 ⟨rfl, h2, f2⟩
  have C2 := (((CC0.out).alloc _).drew).step (by simp) h2 f2
  clear e1 d0 d2 d3 e3
  obtain ⟨e1, d0, d2, d3, e3⟩ := C2.cells
  have CC2 := Lib.hid C2
  clear h2 f2 C2
  go_wp2_with fail
  refine (must_no B kb _ slots seen _ false CC2.out.lk).mono ?_
  rintro e w3 ⟨rfl, h3, f3⟩
  have C3 := (CC2.out).step (by simp) h3 f3
  clear e1 d0 d2 d3 e3
  obtain ⟨e1, d0, d2, d3, e3⟩ := C3.cells
  have CC3 := Lib.hid C3
  clear h3 f3 C3
  go_wp2_with fail
  go_end0
  exact ⟨rfl, CC3.out.lk, CC3.out.fr⟩
set_option maxRecDepth 100000 in
set_option maxHeartbeats 1000000 in
theorem stmt_set_no_big (B kb tb toff cap : Nat) (ts : List Node) (slots : List Int) (seen : Int → Option Value) (htb : tb < B) (hl : ts.length ≤ 100000) (htxt : ∀ y ∈ ts, y.text.size ≤ 1099511627776) (i : Nat) (x : Node) (hi : i < ts.length) (hbe : 0 ≤ behind ts i) (hx : ts[i]? = some x) (w : World) (hg : Good ⟨slots, seen, false⟩) (hs : slots.length ≤ 2 + 3 * i)
    (h : LK w B kb (.slice (some ⟨tb, toff, none⟩) ts.length cap) ⟨slots, seen, false⟩) (hn : NodesAt w tb toff ts)
    (hop : x.op = 12) (hm : containsM [1] (kidsOf ts i).length = true) (hr : 0 ≤ x.n) (hr2 : 1048576 ≤ x.n) :
    Calls Try.prog 115 #[.pointer (some ⟨kb, 0, none⟩), .int .i64 i] w fun e w' => e = .returned (.tuple #[]) ∧ LK w' B kb (.slice (some ⟨tb, toff, none⟩) ts.length cap) (⟨slots, seen, true⟩) ∧ Frm B [132, 40] w w' := by
  obtain ⟨n, hnk⟩ : ∃ n, (kidsOf ts i).length = n := ⟨_, rfl⟩
  have hnl : n ≤ 100000 := by rw [← hnk]; exact kidsOf_le hbe hl
  obtain ⟨c0, c1, c2, c3, c4, c5, c6⟩ := hn.all hx
  obtain ⟨k0, k3⟩ := h.cells
  simp only at k3
  obtain ⟨hBk, hks⟩ := h.size
  have htw : tb < w.heap.size := by omega
  have HC0 := Lib.hid (stmt_kids B kb tb toff cap ts ⟨slots, seen, false⟩ i n x w hl h hn htb hi hnk)
  have HG := Lib.hid hg
  have HX := Lib.hid hx
  have HK := Lib.hid hnk
  have HS := Lib.hid hs
  have HBE := Lib.hid hbe
  have HT := Lib.hid htxt
  clear h hn hg hx hnk hs hbe htxt
  have hop2 := hop
  have q11 : (x.op == 11) = false := beq_false_of (by omega)
  have q12 : (x.op == 12) = true := beq_true_of hop
  have HOP := Lib.hid hop2
  clear hop hop2
  rw [HK.out] at hm
  have HM := Lib.hid hm
  clear hm
  go_enter Try.func115, Try.ntmps115
  go_wp2_with fail
  refine HC0.out.mono ?_
  rintro e w1 ⟨A, c, rfl, C0⟩
  obtain ⟨e1, d0, d2, d3, e3⟩ := C0.cells
  have CC0 := Lib.hid C0
  have hz0 := C0.size
  clear C0
  go_wp2_with fail
  refine wp_region_text (by kernel_rfl) (by kernel_rfl) ?_
  go_wp2_with fail
  refine Only.normal ?_
  go_wp2_with fail
  refine (many_yes ((CC0.out).alloc (.cells #[.int .i64 1] 3)).drew [1] (w1.heap.size + 1) 1 1 rfl (by omega) (blk_new1 w1 (.cells #[.slice A n c] 153) 3 #[.int .i64 1]).drew HM.out).mono ?_
  rintro e w2 ⟨rfl, h2, f2⟩
  have C2 := (((CC0.out).alloc _).drew).step (by simp) h2 f2
  clear e1 d0 d2 d3 e3
  obtain ⟨e1, d0, d2, d3, e3⟩ := C2.cells
  have CC2 := Lib.hid C2
  clear h2 f2 C2
  go_wp2_with fail
  refine (must_no B kb _ slots seen _ false CC2.out.lk).mono ?_
  rintro e w3 ⟨rfl, h3, f3⟩
  have C3 := (CC2.out).step (by simp) h3 f3
  clear e1 d0 d2 d3 e3
  obtain ⟨e1, d0, d2, d3, e3⟩ := C3.cells
  have CC3 := Lib.hid C3
  clear h3 f3 C3
  go_wp2_with fail
  go_end0
  exact ⟨rfl, CC3.out.lk, CC3.out.fr⟩
set_option maxRecDepth 100000 in
set_option maxHeartbeats 1000000 in
theorem stmt_set_no_look (B kb tb toff cap : Nat) (ts : List Node) (slots : List Int) (seen : Int → Option Value) (htb : tb < B) (hl : ts.length ≤ 100000) (htxt : ∀ y ∈ ts, y.text.size ≤ 1099511627776) (i : Nat) (x : Node) (hi : i < ts.length) (hbe : 0 ≤ behind ts i) (hx : ts[i]? = some x) (w : World) (hg : Good ⟨slots, seen, false⟩) (hs : slots.length ≤ 2 + 3 * i)
    (h : LK w B kb (.slice (some ⟨tb, toff, none⟩) ts.length cap) ⟨slots, seen, false⟩) (hn : NodesAt w tb toff ts)
    (hop : x.op = 12) (hm : containsM [1] (kidsOf ts i).length = true) (hr : 0 ≤ x.n) (hr2 : x.n < 1048576) (hl2 : (seen x.n).getD (.bool false) = .bool false) :
    Calls Try.prog 115 #[.pointer (some ⟨kb, 0, none⟩), .int .i64 i] w fun e w' => e = .returned (.tuple #[]) ∧ LK w' B kb (.slice (some ⟨tb, toff, none⟩) ts.length cap) (⟨slots, seen, true⟩) ∧ Frm B [132, 40] w w' := by
  obtain ⟨n, hnk⟩ : ∃ n, (kidsOf ts i).length = n := ⟨_, rfl⟩
  have hnl : n ≤ 100000 := by rw [← hnk]; exact kidsOf_le hbe hl
  obtain ⟨c0, c1, c2, c3, c4, c5, c6⟩ := hn.all hx
  obtain ⟨k0, k3⟩ := h.cells
  simp only at k3
  obtain ⟨hBk, hks⟩ := h.size
  have htw : tb < w.heap.size := by omega
  have HC0 := Lib.hid (stmt_kids B kb tb toff cap ts ⟨slots, seen, false⟩ i n x w hl h hn htb hi hnk)
  have HG := Lib.hid hg
  have HX := Lib.hid hx
  have HK := Lib.hid hnk
  have HS := Lib.hid hs
  have HBE := Lib.hid hbe
  have HT := Lib.hid htxt
  clear h hn hg hx hnk hs hbe htxt
  have hop2 := hop
  have q11 : (x.op == 11) = false := beq_false_of (by omega)
  have q12 : (x.op == 12) = true := beq_true_of hop
  have HOP := Lib.hid hop2
  clear hop hop2
  rw [HK.out] at hm
  have HM := Lib.hid hm
  clear hm
  have HL2 := Lib.hid hl2
  clear hl2
  go_enter Try.func115, Try.ntmps115
  go_wp2_with fail
  refine HC0.out.mono ?_
  rintro e w1 ⟨A, c, rfl, C0⟩
  obtain ⟨e1, d0, d2, d3, e3⟩ := C0.cells
  have CC0 := Lib.hid C0
  have hz0 := C0.size
  clear C0
  go_wp2_with fail
  obtain ⟨sv, mb, _, _, m2, m3, _, _⟩ := CC0.out.lk.parts
  have hlk := look_seen (m3.drew keyI) x.n false
  simp only [Bool.false_eq_true, if_false, HL2.out] at hlk
  refine wp_region_text (by kernel_rfl) (by kernel_rfl) ?_
  go_wp2_with fail
  refine Only.normal ?_
  go_wp2_with fail
  refine (many_yes ((CC0.out).alloc (.cells #[.int .i64 1] 3)).drew [1] (w1.heap.size + 1) 1 1 rfl (by omega) (blk_new1 w1 (.cells #[.slice A n c] 153) 3 #[.int .i64 1]).drew HM.out).mono ?_
  rintro e w2 ⟨rfl, h2, f2⟩
  have C2 := (((CC0.out).alloc _).drew).step (by simp) h2 f2
  clear e1 d0 d2 d3 e3
  obtain ⟨e1, d0, d2, d3, e3⟩ := C2.cells
  have CC2 := Lib.hid C2
  clear h2 f2 C2
  go_wp2_with fail
  refine (must_no B kb _ slots seen _ false CC2.out.lk).mono ?_
  rintro e w3 ⟨rfl, h3, f3⟩
  have C3 := (CC2.out).step (by simp) h3 f3
  clear e1 d0 d2 d3 e3
  obtain ⟨e1, d0, d2, d3, e3⟩ := C3.cells
  have CC3 := Lib.hid C3
  clear h3 f3 C3
  go_wp2_with fail
  go_end0
  exact ⟨rfl, CC3.out.lk, CC3.out.fr⟩
end Go.Proofs.Ytggibiodeecljaa
