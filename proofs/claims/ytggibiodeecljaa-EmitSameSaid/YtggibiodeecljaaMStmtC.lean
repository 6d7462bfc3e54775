/- looker.stmt, its ways. Written by gen_stmt.py. looker.stmt, its ways. Written by gen_stmt.py. -/
import Derived.Test.YtggibiodeecljaaMBlock
namespace Go.Proofs.Ytggibiodeecljaa
open Go.RowKit
set_option maxRecDepth 100000 in
set_option maxHeartbeats 1000000 in
theorem stmt_choose2 (B kb tb toff cap : Nat) (ts : List Node) (slots : List Int) (seen : Int → Option Value) (htb : tb < B) (hl : ts.length ≤ 100000) (htxt : ∀ y ∈ ts, y.text.size ≤ 1099511627776) (i : Nat) (x : Node) (hi : i < ts.length) (hbe : 0 ≤ behind ts i) (hx : ts[i]? = some x) (w : World) (hg : Good ⟨slots, seen, false⟩) (hs : slots.length ≤ 2 + 3 * i)
    (h : LK w B kb (.slice (some ⟨tb, toff, none⟩) ts.length cap) ⟨slots, seen, false⟩) (hn : NodesAt w tb toff ts)
    (hm : containsM [2, 3] (kidsOf ts i).length = true) (hop : x.op = 16) (hli : likeB x 0 x.n 0 = true) (j : Nat) (r : List Nat) (hj : kidsOf ts i = j :: r) (hn2 : 2 ≤ (kidsOf ts i).length) (recS recB : Nat → LSt → LSt) (R : Recs B kb tb toff cap ts recS recB i) (b : Nat) (hb : (kidsOf ts i)[1]? = some b) (h3 : (((kidsOf ts i).length : Int) == 3) = false) :
    Calls Try.prog 115 #[.pointer (some ⟨kb, 0, none⟩), .int .i64 i] w fun e w' => e = .returned (.tuple #[]) ∧ LK w' B kb (.slice (some ⟨tb, toff, none⟩) ts.length cap) (forget x.n (blocksF ts recS recB 0 [b] (declareF x.n false [3] (valueF ts j 6 ⟨slots, seen, false⟩)))) ∧ Frm B [132, 40] w w' := by
  obtain ⟨n, hnk⟩ : ∃ n, (kidsOf ts i).length = n := ⟨_, rfl⟩
  have hnl : n ≤ 100000 := by rw [← hnk]; exact kidsOf_le hbe hl
  obtain ⟨c0, c1, c2, c3, c4, c5, c6⟩ := hn.all hx
  obtain ⟨k0, k3⟩ := h.cells
  simp only at k3
  obtain ⟨hBk, hks⟩ := h.size
  have htw : tb < w.heap.size := by omega
  have HC0 := Lib.hid (stmt_kids B kb tb toff cap ts ⟨slots, seen, false⟩ i n x w hl h hn htb hi hnk)
  have HG := Lib.hid hg
  have HX := Lib.hid hx
  have HK := Lib.hid hnk
  have HS := Lib.hid hs
  have HBE := Lib.hid hbe
  have HT := Lib.hid htxt
  clear h hn hg hx hnk hs hbe htxt
  have hop2 := hop
  have q11 : (x.op == 11) = false := beq_false_of (by omega)
  have q12 : (x.op == 12) = false := beq_false_of (by omega)
  have q13 : (x.op == 13) = false := beq_false_of (by omega)
  have q14 : (x.op == 14) = false := beq_false_of (by omega)
  have q15 : (x.op == 15) = false := beq_false_of (by omega)
  have q16 : (x.op == 16) = true := beq_true_of hop
  have HOP := Lib.hid hop2
  clear hop hop2
  rw [HK.out] at hm
  have HM := Lib.hid hm
  clear hm
  have HLI := Lib.hid hli
  clear hli
  rw [HK.out] at hn2
  have hjj := kidsOf_ok (ts := ts) (i := i) (j := j) (by rw [hj]; simp)
  have HJ0 : Hid ((kidsOf ts i)[0]? = some j) := by rw [hj]; rfl
  have HJL := Lib.hid hjj.2.1
  have HN0 : Hid (0 < n) := Lib.hid (by rw [← HK.out, hj]; simp)
  have HJ := Lib.hid hj
  clear hj hjj
  have HR := Lib.hid R
  have HJR : Hid (r.length + 1 = n) := Lib.hid (by rw [← HK.out, HJ.out]; simp)
  clear R
  have HB := Lib.hid hb
  clear hb
  rw [HK.out] at h3
  go_enter Try.func115, Try.ntmps115
  go_wp2_with fail
  refine HC0.out.mono ?_
  rintro e w1 ⟨A, c, rfl, C0⟩
  obtain ⟨e1, d0, d2, d3, e3⟩ := C0.cells
  have CC0 := Lib.hid C0
  have hz0 := C0.size
  clear C0
  go_wp2_with fail
  obtain ⟨gk, rfl⟩ := CC0.out.kid0 HN0.out
  have g0 := CC0.out.kidCell HK.out 0 j HJ0.out
  have gl0 := CC0.out.kidLt
  have gcap := CC0.out.kidCap
  refine (many_yes ((CC0.out).alloc (.cells #[.int .i64 2, .int .i64 3] 3)) [2, 3] (w1.heap.size + 1) 2 2 rfl (by omega) (blk_new1 w1 (.cells #[.slice (some ⟨gk, 0, none⟩) n c] 153) 3 #[.int .i64 2, .int .i64 3]) HM.out).mono ?_
  rintro e w2 ⟨rfl, h2, f2⟩
  have C2 := (((CC0.out).alloc _)).step (by simp) h2 f2
  clear e1 d0 d2 d3 e3
  obtain ⟨e1, d0, d2, d3, e3⟩ := C2.cells
  have CC2 := Lib.hid C2
  clear h2 f2 C2
  clear g0
  have g0 := CC2.out.kidCell HK.out 0 j HJ0.out
  go_wp2_with fail
  refine (like_yes B kb tb toff cap ts slots seen i x 0 x.n 0 _ HLI.out (CC2.out).lk HX.out (CC2.out).nodes hl).mono ?_
  rintro e w3 ⟨rfl, h3, f3⟩
  have C3 := (CC2.out).step (by simp) h3 f3
  clear e1 d0 d2 d3 e3
  obtain ⟨e1, d0, d2, d3, e3⟩ := C3.cells
  have CC3 := Lib.hid C3
  clear h3 f3 C3
  clear g0
  have g0 := CC3.out.kidCell HK.out 0 j HJ0.out
  go_wp2_with fail
  refine wp_region_text (by kernel_rfl) (by kernel_rfl) ?_
  go_wp2_with fail
  refine (value_any B kb tb toff cap ts hl htb HT.out j (6) ⟨slots, seen, false⟩ _ HJL.out HG.out (CC3.out.drew).lk (CC3.out.drew).nodes).mono ?_
  rintro e w4 ⟨rfl, h4, f4⟩
  have C4 := (CC3.out.drew).step (by simp) h4 f4
  clear e1 d0 d2 d3 e3
  obtain ⟨e1, d0, d2, d3, e3⟩ := C4.cells
  have CC4 := Lib.hid C4
  clear h4 f4 C4
  clear g0
  have g0 := CC4.out.kidCell HK.out 0 j HJ0.out
  go_wp2_with fail
  refine Only.normal ?_
  go_wp2_with fail
  refine (declare_any B kb x.n false [3] w4.heap.size 1 (valueF ts j 6 ⟨slots, seen, false⟩) _ _ (by have := HS.out; show slots.length ≤ _; omega) (by simp) ((CC4.out).alloc _).lk (Blk.new w4 40 #[.int .i8 3]) (by have := (CC4.out).size; simp; omega)).mono ?_
  rintro e w5 ⟨rfl, h5, f5⟩
  have C5 := (CC4.out.alloc _).step (by simp) h5 f5
  clear e1 d0 d2 d3 e3
  obtain ⟨e1, d0, d2, d3, e3⟩ := C5.cells
  have CC5 := Lib.hid C5
  clear h5 f5 C5
  clear g0
  have g0 := CC5.out.kidCell HK.out 0 j HJ0.out
  go_wp2_with fail
  refine wp_region_text (by kernel_rfl) (by kernel_rfl) ?_
  go_wp2_with fail
  refine (blocks_st (CC5.out.drew) HR.out HBE.out HK.out hnl 1 1 _ ([b]) (take_one HB.out) rfl (by omega) ((HG.out.value ts j 6).declare x.n false [3] (by simp)) (by have := HS.out; have := declareF_len x.n false [3] (valueF ts j 6 ⟨slots, seen, false⟩); have : (valueF ts j 6 ⟨slots, seen, false⟩).slots.length = slots.length := rfl; simp only [List.length_cons, List.length_nil] at *; omega)).mono ?_
  rintro e w6 ⟨rfl, h6, f6⟩
  have C6 := (CC5.out.drew).step (by simp) h6 f6
  clear e1 d0 d2 d3 e3
  obtain ⟨e1, d0, d2, d3, e3⟩ := C6.cells
  have CC6 := Lib.hid C6
  clear h6 f6 C6
  clear g0
  have g0 := CC6.out.kidCell HK.out 0 j HJ0.out
  go_wp2_with fail
  refine Only.normal ?_
  go_wp2_with fail
  obtain ⟨sv6, mb6, hmb6, _, kq6, hm6, _, _⟩ := CC6.out.lk.parts
  obtain ⟨w7, hrun6, hn6, hg6⟩ := (hm6.drew keyI).delete keyI Try.underlying130 (x.n) 0
  have hr6 : (Builtin.delete_ #[130, 3] 0 #[.map (some mb6), .int .i64 (x.n)]).run Try.prog w6.drew = .ok (.tuple #[]) w7 := hrun6
  obtain ⟨hl6, hf6⟩ := CC6.out.drew.lk.forgot (hm6.drew keyI) hmb6 kq6 hn6 hg6 [132, 40]
  have CC7 := Lib.hid (CC6.out.drew.step (by simp) hl6 hf6)
  clear hrun6 hn6 hg6 hl6 hf6 hm6
  refine wp_region_text (by kernel_rfl) (by kernel_rfl) ?_
  go_wp2_with fail
  refine Only.normal ?_
  clear e1 d0 d2 d3 e3 hr6 kq6
  obtain ⟨e1, d0, d2, d3, e3⟩ := CC7.out.cells
  clear g0
  have g0 := CC7.out.kidCell HK.out 0 j HJ0.out
  go_wp2_with fail
  go_end0
  exact ⟨rfl, CC7.out.lk, CC7.out.fr⟩
set_option maxRecDepth 100000 in
set_option maxHeartbeats 1000000 in
theorem stmt_choose3bad (B kb tb toff cap : Nat) (ts : List Node) (slots : List Int) (seen : Int → Option Value) (htb : tb < B) (hl : ts.length ≤ 100000) (htxt : ∀ y ∈ ts, y.text.size ≤ 1099511627776) (i : Nat) (x : Node) (hi : i < ts.length) (hbe : 0 ≤ behind ts i) (hx : ts[i]? = some x) (w : World) (hg : Good ⟨slots, seen, false⟩) (hs : slots.length ≤ 2 + 3 * i)
    (h : LK w B kb (.slice (some ⟨tb, toff, none⟩) ts.length cap) ⟨slots, seen, false⟩) (hn : NodesAt w tb toff ts)
    (hm : containsM [2, 3] (kidsOf ts i).length = true) (hop : x.op = 16) (hli : likeB x 0 x.n 0 = true) (j : Nat) (r : List Nat) (hj : kidsOf ts i = j :: r) (hn2 : 2 ≤ (kidsOf ts i).length) (recS recB : Nat → LSt → LSt) (R : Recs B kb tb toff cap ts recS recB i) (b : Nat) (hb : (kidsOf ts i)[1]? = some b) (h3 : (((kidsOf ts i).length : Int) == 3) = true) (hbad : (forget x.n (blocksF ts recS recB 0 [b] (declareF x.n false [3] (valueF ts j 6 ⟨slots, seen, false⟩)))).bad = true) :
    Calls Try.prog 115 #[.pointer (some ⟨kb, 0, none⟩), .int .i64 i] w fun e w' => e = .returned (.tuple #[]) ∧ LK w' B kb (.slice (some ⟨tb, toff, none⟩) ts.length cap) (forget x.n (blocksF ts recS recB 0 [b] (declareF x.n false [3] (valueF ts j 6 ⟨slots, seen, false⟩)))) ∧ Frm B [132, 40] w w' := by
  obtain ⟨n, hnk⟩ : ∃ n, (kidsOf ts i).length = n := ⟨_, rfl⟩
  have hnl : n ≤ 100000 := by rw [← hnk]; exact kidsOf_le hbe hl
  obtain ⟨c0, c1, c2, c3, c4, c5, c6⟩ := hn.all hx
  obtain ⟨k0, k3⟩ := h.cells
  simp only at k3
  obtain ⟨hBk, hks⟩ := h.size
  have htw : tb < w.heap.size := by omega
  have HC0 := Lib.hid (stmt_kids B kb tb toff cap ts ⟨slots, seen, false⟩ i n x w hl h hn htb hi hnk)
  have HG := Lib.hid hg
  have HX := Lib.hid hx
  have HK := Lib.hid hnk
  have HS := Lib.hid hs
  have HBE := Lib.hid hbe
  have HT := Lib.hid htxt
  clear h hn hg hx hnk hs hbe htxt
  have hop2 := hop
  have q11 : (x.op == 11) = false := beq_false_of (by omega)
  have q12 : (x.op == 12) = false := beq_false_of (by omega)
  have q13 : (x.op == 13) = false := beq_false_of (by omega)
  have q14 : (x.op == 14) = false := beq_false_of (by omega)
  have q15 : (x.op == 15) = false := beq_false_of (by omega)
  have q16 : (x.op == 16) = true := beq_true_of hop
  have HOP := Lib.hid hop2
  clear hop hop2
  rw [HK.out] at hm
  have HM := Lib.hid hm
  clear hm
  have HLI := Lib.hid hli
  clear hli
  rw [HK.out] at hn2
  have hjj := kidsOf_ok (ts := ts) (i := i) (j := j) (by rw [hj]; simp)
  have HJ0 : Hid ((kidsOf ts i)[0]? = some j) := by rw [hj]; rfl
  have HJL := Lib.hid hjj.2.1
  have HN0 : Hid (0 < n) := Lib.hid (by rw [← HK.out, hj]; simp)
  have HJ := Lib.hid hj
  clear hj hjj
  have HR := Lib.hid R
  have HJR : Hid (r.length + 1 = n) := Lib.hid (by rw [← HK.out, HJ.out]; simp)
  clear R
  have HB := Lib.hid hb
  clear hb
  rw [HK.out] at h3
  have HBAD := Lib.hid hbad
  clear hbad
  go_enter Try.func115, Try.ntmps115
  go_wp2_with fail
  refine HC0.out.mono ?_
  rintro e w1 ⟨A, c, rfl, C0⟩
  obtain ⟨e1, d0, d2, d3, e3⟩ := C0.cells
  have CC0 := Lib.hid C0
  have hz0 := C0.size
  clear C0
  go_wp2_with fail
  obtain ⟨gk, rfl⟩ := CC0.out.kid0 HN0.out
  have g0 := CC0.out.kidCell HK.out 0 j HJ0.out
  have gl0 := CC0.out.kidLt
  have gcap := CC0.out.kidCap
  refine (many_yes ((CC0.out).alloc (.cells #[.int .i64 2, .int .i64 3] 3)) [2, 3] (w1.heap.size + 1) 2 2 rfl (by omega) (blk_new1 w1 (.cells #[.slice (some ⟨gk, 0, none⟩) n c] 153) 3 #[.int .i64 2, .int .i64 3]) HM.out).mono ?_
  rintro e w2 ⟨rfl, h2, f2⟩
  have C2 := (((CC0.out).alloc _)).step (by simp) h2 f2
  clear e1 d0 d2 d3 e3
  obtain ⟨e1, d0, d2, d3, e3⟩ := C2.cells
  have CC2 := Lib.hid C2
  clear h2 f2 C2
  clear g0
  have g0 := CC2.out.kidCell HK.out 0 j HJ0.out
  go_wp2_with fail
  refine (like_yes B kb tb toff cap ts slots seen i x 0 x.n 0 _ HLI.out (CC2.out).lk HX.out (CC2.out).nodes hl).mono ?_
  rintro e w3 ⟨rfl, h3, f3⟩
  have C3 := (CC2.out).step (by simp) h3 f3
  clear e1 d0 d2 d3 e3
  obtain ⟨e1, d0, d2, d3, e3⟩ := C3.cells
  have CC3 := Lib.hid C3
  clear h3 f3 C3
  clear g0
  have g0 := CC3.out.kidCell HK.out 0 j HJ0.out
  go_wp2_with fail
  refine wp_region_text (by kernel_rfl) (by kernel_rfl) ?_
  go_wp2_with fail
  refine (value_any B kb tb toff cap ts hl htb HT.out j (6) ⟨slots, seen, false⟩ _ HJL.out HG.out (CC3.out.drew).lk (CC3.out.drew).nodes).mono ?_
  rintro e w4 ⟨rfl, h4, f4⟩
  have C4 := (CC3.out.drew).step (by simp) h4 f4
  clear e1 d0 d2 d3 e3
  obtain ⟨e1, d0, d2, d3, e3⟩ := C4.cells
  have CC4 := Lib.hid C4
  clear h4 f4 C4
  clear g0
  have g0 := CC4.out.kidCell HK.out 0 j HJ0.out
  go_wp2_with fail
  refine Only.normal ?_
  go_wp2_with fail
  refine (declare_any B kb x.n false [3] w4.heap.size 1 (valueF ts j 6 ⟨slots, seen, false⟩) _ _ (by have := HS.out; show slots.length ≤ _; omega) (by simp) ((CC4.out).alloc _).lk (Blk.new w4 40 #[.int .i8 3]) (by have := (CC4.out).size; simp; omega)).mono ?_
  rintro e w5 ⟨rfl, h5, f5⟩
  have C5 := (CC4.out.alloc _).step (by simp) h5 f5
  clear e1 d0 d2 d3 e3
  obtain ⟨e1, d0, d2, d3, e3⟩ := C5.cells
  have CC5 := Lib.hid C5
  clear h5 f5 C5
  clear g0
  have g0 := CC5.out.kidCell HK.out 0 j HJ0.out
  go_wp2_with fail
  refine wp_region_text (by kernel_rfl) (by kernel_rfl) ?_
  go_wp2_with fail
  refine (blocks_st (CC5.out.drew) HR.out HBE.out HK.out hnl 1 1 _ ([b]) (take_one HB.out) rfl (by omega) ((HG.out.value ts j 6).declare x.n false [3] (by simp)) (by have := HS.out; have := declareF_len x.n false [3] (valueF ts j 6 ⟨slots, seen, false⟩); have : (valueF ts j 6 ⟨slots, seen, false⟩).slots.length = slots.length := rfl; simp only [List.length_cons, List.length_nil] at *; omega)).mono ?_
  rintro e w6 ⟨rfl, h6, f6⟩
  have C6 := (CC5.out.drew).step (by simp) h6 f6
  clear e1 d0 d2 d3 e3
  obtain ⟨e1, d0, d2, d3, e3⟩ := C6.cells
  have CC6 := Lib.hid C6
  clear h6 f6 C6
  clear g0
  have g0 := CC6.out.kidCell HK.out 0 j HJ0.out
  go_wp2_with fail
  refine Only.normal ?_
  go_wp2_with fail
  obtain ⟨sv6, mb6, hmb6, _, kq6, hm6, _, _⟩ := CC6.out.lk.parts
  obtain ⟨w7, hrun6, hn6, hg6⟩ := (hm6.drew keyI).delete keyI Try.underlying130 (x.n) 0
  have hr6 : (Builtin.delete_ #[130, 3] 0 #[.map (some mb6), .int .i64 (x.n)]).run Try.prog w6.drew = .ok (.tuple #[]) w7 := hrun6
  obtain ⟨hl6, hf6⟩ := CC6.out.drew.lk.forgot (hm6.drew keyI) hmb6 kq6 hn6 hg6 [132, 40]
  have CC7 := Lib.hid (CC6.out.drew.step (by simp) hl6 hf6)
  clear hrun6 hn6 hg6 hl6 hf6 hm6
  refine wp_region_text (by kernel_rfl) (by kernel_rfl) ?_
  go_wp2_with fail
  refine Only.normal ?_
  clear e1 d0 d2 d3 e3 hr6 kq6
  obtain ⟨e1, d0, d2, d3, e3⟩ := CC7.out.cells
  obtain ⟨kb0, kb3⟩ := CC7.out.lk.cells
  rw [HBAD.out] at kb3
  go_wp2_with fail
  go_end0
  exact ⟨rfl, CC7.out.lk, CC7.out.fr⟩
set_option maxRecDepth 100000 in
set_option maxHeartbeats 1000000 in
theorem stmt_choose3 (B kb tb toff cap : Nat) (ts : List Node) (slots : List Int) (seen : Int → Option Value) (htb : tb < B) (hl : ts.length ≤ 100000) (htxt : ∀ y ∈ ts, y.text.size ≤ 1099511627776) (i : Nat) (x : Node) (hi : i < ts.length) (hbe : 0 ≤ behind ts i) (hx : ts[i]? = some x) (w : World) (hg : Good ⟨slots, seen, false⟩) (hs : slots.length ≤ 2 + 3 * i)
    (h : LK w B kb (.slice (some ⟨tb, toff, none⟩) ts.length cap) ⟨slots, seen, false⟩) (hn : NodesAt w tb toff ts)
    (hm : containsM [2, 3] (kidsOf ts i).length = true) (hop : x.op = 16) (hli : likeB x 0 x.n 0 = true) (j : Nat) (r : List Nat) (hj : kidsOf ts i = j :: r) (hn2 : 2 ≤ (kidsOf ts i).length) (recS recB : Nat → LSt → LSt) (R : Recs B kb tb toff cap ts recS recB i) (b : Nat) (hb : (kidsOf ts i)[1]? = some b) (d : Nat) (hd : (kidsOf ts i)[2]? = some d) (h3 : (((kidsOf ts i).length : Int) == 3) = true) (hbad : (forget x.n (blocksF ts recS recB 0 [b] (declareF x.n false [3] (valueF ts j 6 ⟨slots, seen, false⟩)))).bad = false) (hsd : (forget x.n (blocksF ts recS recB 0 [b] (declareF x.n false [3] (valueF ts j 6 ⟨slots, seen, false⟩)))).slots.length ≤ 2 + 3 * d) :
    Calls Try.prog 115 #[.pointer (some ⟨kb, 0, none⟩), .int .i64 i] w fun e w' => e = .returned (.tuple #[]) ∧ LK w' B kb (.slice (some ⟨tb, toff, none⟩) ts.length cap) (recB d (forget x.n (blocksF ts recS recB 0 [b] (declareF x.n false [3] (valueF ts j 6 ⟨slots, seen, false⟩))))) ∧ Frm B [132, 40] w w' := by
  obtain ⟨n, hnk⟩ : ∃ n, (kidsOf ts i).length = n := ⟨_, rfl⟩
  have hnl : n ≤ 100000 := by rw [← hnk]; exact kidsOf_le hbe hl
  obtain ⟨c0, c1, c2, c3, c4, c5, c6⟩ := hn.all hx
  obtain ⟨k0, k3⟩ := h.cells
  simp only at k3
  obtain ⟨hBk, hks⟩ := h.size
  have htw : tb < w.heap.size := by omega
  have HC0 := Lib.hid (stmt_kids B kb tb toff cap ts ⟨slots, seen, false⟩ i n x w hl h hn htb hi hnk)
  have HG := Lib.hid hg
  have HX := Lib.hid hx
  have HK := Lib.hid hnk
  have HS := Lib.hid hs
  have HBE := Lib.hid hbe
  have HT := Lib.hid htxt
  clear h hn hg hx hnk hs hbe htxt
  have hop2 := hop
  have q11 : (x.op == 11) = false := beq_false_of (by omega)
  have q12 : (x.op == 12) = false := beq_false_of (by omega)
  have q13 : (x.op == 13) = false := beq_false_of (by omega)
  have q14 : (x.op == 14) = false := beq_false_of (by omega)
  have q15 : (x.op == 15) = false := beq_false_of (by omega)
  have q16 : (x.op == 16) = true := beq_true_of hop
  have HOP := Lib.hid hop2
  clear hop hop2
  rw [HK.out] at hm
  have HM := Lib.hid hm
  clear hm
  have HLI := Lib.hid hli
  clear hli
  rw [HK.out] at hn2
  have hjj := kidsOf_ok (ts := ts) (i := i) (j := j) (by rw [hj]; simp)
  have HJ0 : Hid ((kidsOf ts i)[0]? = some j) := by rw [hj]; rfl
  have HJL := Lib.hid hjj.2.1
  have HN0 : Hid (0 < n) := Lib.hid (by rw [← HK.out, hj]; simp)
  have HJ := Lib.hid hj
  clear hj hjj
  have HR := Lib.hid R
  have HJR : Hid (r.length + 1 = n) := Lib.hid (by rw [← HK.out, HJ.out]; simp)
  clear R
  have HB := Lib.hid hb
  clear hb
  rw [HK.out] at h3
  have HBAD := Lib.hid hbad
  have HJ2 := Lib.hid hd
  have HSD := Lib.hid hsd
  clear hbad hd hsd
  go_enter Try.func115, Try.ntmps115
  go_wp2_with fail
  refine HC0.out.mono ?_
  rintro e w1 ⟨A, c, rfl, C0⟩
  obtain ⟨e1, d0, d2, d3, e3⟩ := C0.cells
  have CC0 := Lib.hid C0
  have hz0 := C0.size
  clear C0
  go_wp2_with fail
  obtain ⟨gk, rfl⟩ := CC0.out.kid0 HN0.out
  have g0 := CC0.out.kidCell HK.out 0 j HJ0.out
  have gl0 := CC0.out.kidLt
  have gcap := CC0.out.kidCap
  refine (many_yes ((CC0.out).alloc (.cells #[.int .i64 2, .int .i64 3] 3)) [2, 3] (w1.heap.size + 1) 2 2 rfl (by omega) (blk_new1 w1 (.cells #[.slice (some ⟨gk, 0, none⟩) n c] 153) 3 #[.int .i64 2, .int .i64 3]) HM.out).mono ?_
  rintro e w2 ⟨rfl, h2, f2⟩
  have C2 := (((CC0.out).alloc _)).step (by simp) h2 f2
  clear e1 d0 d2 d3 e3
  obtain ⟨e1, d0, d2, d3, e3⟩ := C2.cells
  have CC2 := Lib.hid C2
  clear h2 f2 C2
  clear g0
  have g0 := CC2.out.kidCell HK.out 0 j HJ0.out
  go_wp2_with fail
  refine (like_yes B kb tb toff cap ts slots seen i x 0 x.n 0 _ HLI.out (CC2.out).lk HX.out (CC2.out).nodes hl).mono ?_
  rintro e w3 ⟨rfl, h3, f3⟩
  have C3 := (CC2.out).step (by simp) h3 f3
  clear e1 d0 d2 d3 e3
  obtain ⟨e1, d0, d2, d3, e3⟩ := C3.cells
  have CC3 := Lib.hid C3
  clear h3 f3 C3
  clear g0
  have g0 := CC3.out.kidCell HK.out 0 j HJ0.out
  go_wp2_with fail
  refine wp_region_text (by kernel_rfl) (by kernel_rfl) ?_
  go_wp2_with fail
  refine (value_any B kb tb toff cap ts hl htb HT.out j (6) ⟨slots, seen, false⟩ _ HJL.out HG.out (CC3.out.drew).lk (CC3.out.drew).nodes).mono ?_
  rintro e w4 ⟨rfl, h4, f4⟩
  have C4 := (CC3.out.drew).step (by simp) h4 f4
  clear e1 d0 d2 d3 e3
  obtain ⟨e1, d0, d2, d3, e3⟩ := C4.cells
  have CC4 := Lib.hid C4
  clear h4 f4 C4
  clear g0
  have g0 := CC4.out.kidCell HK.out 0 j HJ0.out
  go_wp2_with fail
  refine Only.normal ?_
  go_wp2_with fail
  refine (declare_any B kb x.n false [3] w4.heap.size 1 (valueF ts j 6 ⟨slots, seen, false⟩) _ _ (by have := HS.out; show slots.length ≤ _; omega) (by simp) ((CC4.out).alloc _).lk (Blk.new w4 40 #[.int .i8 3]) (by have := (CC4.out).size; simp; omega)).mono ?_
  rintro e w5 ⟨rfl, h5, f5⟩
  have C5 := (CC4.out.alloc _).step (by simp) h5 f5
  clear e1 d0 d2 d3 e3
  obtain ⟨e1, d0, d2, d3, e3⟩ := C5.cells
  have CC5 := Lib.hid C5
  clear h5 f5 C5
  clear g0
  have g0 := CC5.out.kidCell HK.out 0 j HJ0.out
  go_wp2_with fail
  refine wp_region_text (by kernel_rfl) (by kernel_rfl) ?_
  go_wp2_with fail
  refine (blocks_st (CC5.out.drew) HR.out HBE.out HK.out hnl 1 1 _ ([b]) (take_one HB.out) rfl (by omega) ((HG.out.value ts j 6).declare x.n false [3] (by simp)) (by have := HS.out; have := declareF_len x.n false [3] (valueF ts j 6 ⟨slots, seen, false⟩); have : (valueF ts j 6 ⟨slots, seen, false⟩).slots.length = slots.length := rfl; simp only [List.length_cons, List.length_nil] at *; omega)).mono ?_
  rintro e w6 ⟨rfl, h6, f6⟩
  have C6 := (CC5.out.drew).step (by simp) h6 f6
  clear e1 d0 d2 d3 e3
  obtain ⟨e1, d0, d2, d3, e3⟩ := C6.cells
  have CC6 := Lib.hid C6
  clear h6 f6 C6
  clear g0
  have g0 := CC6.out.kidCell HK.out 0 j HJ0.out
  go_wp2_with fail
  refine Only.normal ?_
  go_wp2_with fail
  obtain ⟨sv6, mb6, hmb6, _, kq6, hm6, _, _⟩ := CC6.out.lk.parts
  obtain ⟨w7, hrun6, hn6, hg6⟩ := (hm6.drew keyI).delete keyI Try.underlying130 (x.n) 0
  have hr6 : (Builtin.delete_ #[130, 3] 0 #[.map (some mb6), .int .i64 (x.n)]).run Try.prog w6.drew = .ok (.tuple #[]) w7 := hrun6
  obtain ⟨hl6, hf6⟩ := CC6.out.drew.lk.forgot (hm6.drew keyI) hmb6 kq6 hn6 hg6 [132, 40]
  have CC7 := Lib.hid (CC6.out.drew.step (by simp) hl6 hf6)
  clear hrun6 hn6 hg6 hl6 hf6 hm6
  refine wp_region_text (by kernel_rfl) (by kernel_rfl) ?_
  go_wp2_with fail
  refine Only.normal ?_
  clear e1 d0 d2 d3 e3 hr6 kq6
  obtain ⟨e1, d0, d2, d3, e3⟩ := CC7.out.cells
  obtain ⟨kb0, kb3⟩ := CC7.out.lk.cells
  rw [HBAD.out] at kb3
  clear g0
  have g0 := CC7.out.kidCell HK.out 2 d HJ2.out
  have h3n : n = 3 := by have h3 := eq_of_beq h3; omega
  go_wp2_with fail
  refine wp_region_text (by kernel_rfl) (by kernel_rfl) ?_
  go_wp2_with fail
  refine ((HR.out.at_ d (List.mem_of_getElem? HJ2.out)).2.2 _ _ HBAD.out (((blocksF_good ts recS recB HR.out.gS HR.out.gB _ _ _ ((HG.out.value ts j 6).declare x.n false [3] (by simp)))).forget x.n) HSD.out CC7.out.drew.lk CC7.out.drew.nodes).mono ?_
  rintro e w8 ⟨rfl, h8, f8⟩
  have C8 := (CC7.out.drew).step (by simp) h8 f8
  clear e1 d0 d2 d3 e3
  obtain ⟨e1, d0, d2, d3, e3⟩ := C8.cells
  have CC8 := Lib.hid C8
  clear h8 f8 C8
  clear g0
  have g0 := CC8.out.kidCell HK.out 0 j HJ0.out
  go_wp2_with fail
  refine Only.normal ?_
  go_wp2_with fail
  go_end0
  exact ⟨rfl, CC8.out.lk, CC8.out.fr⟩
end Go.Proofs.Ytggibiodeecljaa
namespace Go.Proofs.Ytggibiodeecljaa
open Go.RowKit
set_option maxRecDepth 100000 in
set_option maxHeartbeats 1000000 in
theorem stmt_set_like (B kb tb toff cap : Nat) (ts : List Node) (slots : List Int) (seen : Int → Option Value) (htb : tb < B) (hl : ts.length ≤ 100000) (htxt : ∀ y ∈ ts, y.text.size ≤ 1099511627776) (i : Nat) (x : Node) (hi : i < ts.length) (hbe : 0 ≤ behind ts i) (hx : ts[i]? = some x) (w : World) (hg : Good ⟨slots, seen, false⟩) (hs : slots.length ≤ 2 + 3 * i)
    (h : LK w B kb (.slice (some ⟨tb, toff, none⟩) ts.length cap) ⟨slots, seen, false⟩) (hn : NodesAt w tb toff ts)
    (hop : x.op = 12) (hm : containsM [1] (kidsOf ts i).length = true) (hr : 0 ≤ x.n) (hr2 : x.n < 1048576) (hl2 : (seen x.n).getD (.bool false) = .bool true) (hli : likeB x 0 x.n 0 = false) :
    Calls Try.prog 115 #[.pointer (some ⟨kb, 0, none⟩), .int .i64 i] w fun e w' => e = .returned (.tuple #[]) ∧ LK w' B kb (.slice (some ⟨tb, toff, none⟩) ts.length cap) (⟨slots, seen, true⟩) ∧ Frm B [132, 40] w w' := by
  obtain ⟨n, hnk⟩ : ∃ n, (kidsOf ts i).length = n := ⟨_, rfl⟩
  have hnl : n ≤ 100000 := by rw [← hnk]; exact kidsOf_le hbe hl
  obtain ⟨c0, c1, c2, c3, c4, c5, c6⟩ := hn.all hx
  obtain ⟨k0, k3⟩ := h.cells
  simp only at k3
  obtain ⟨hBk, hks⟩ := h.size
  have htw : tb < w.heap.size := by omega
  have HC0 := Lib.hid (stmt_kids B kb tb toff cap ts ⟨slots, seen, false⟩ i n x w hl h hn htb hi hnk)
  have HG := Lib.hid hg
  have HX := Lib.hid hx
  have HK := Lib.hid hnk
  have HS := Lib.hid hs
  have HBE := Lib.hid hbe
  have HT := Lib.hid htxt
  clear h hn hg hx hnk hs hbe htxt
  have hop2 := hop
  have q11 : (x.op == 11) = false := beq_false_of (by omega)
  have q12 : (x.op == 12) = true := beq_true_of hop
  have HOP := Lib.hid hop2
  clear hop hop2
  rw [HK.out] at hm
  have HM := Lib.hid hm
  clear hm
  have HLI := Lib.hid hli
  clear hli
  have HL2 := Lib.hid hl2
  clear hl2
  go_enter Try.func115, Try.ntmps115
  go_wp2_with fail
  refine HC0.out.mono ?_
  rintro e w1 ⟨A, c, rfl, C0⟩
  obtain ⟨e1, d0, d2, d3, e3⟩ := C0.cells
  have CC0 := Lib.hid C0
  have hz0 := C0.size
  clear C0
  go_wp2_with fail
  obtain ⟨sv, mb, _, _, m2, m3, _, _⟩ := CC0.out.lk.parts
  have hlk := look_seen (m3.drew keyI) x.n false
  simp only [Bool.false_eq_true, if_false, HL2.out] at hlk
  refine wp_region_text (by kernel_rfl) (by kernel_rfl) ?_
  go_wp2_with fail
  refine Only.normal ?_
  go_wp2_with fail
  refine (many_yes ((CC0.out).alloc (.cells #[.int .i64 1] 3)).drew [1] (w1.heap.size + 1) 1 1 rfl (by omega) (blk_new1 w1 (.cells #[.slice A n c] 153) 3 #[.int .i64 1]).drew HM.out).mono ?_
  rintro e w2 ⟨rfl, h2, f2⟩
  have C2 := (((CC0.out).alloc _).drew).step (by simp) h2 f2
  clear e1 d0 d2 d3 e3
  obtain ⟨e1, d0, d2, d3, e3⟩ := C2.cells
  have CC2 := Lib.hid C2
  clear h2 f2 C2
  go_wp2_with fail
  refine (must_yes B kb _ slots seen _ CC2.out.lk).mono ?_
  rintro e w3 ⟨rfl, h3, f3⟩
  have C3 := (CC2.out).step (by simp) h3 f3
  clear e1 d0 d2 d3 e3
  obtain ⟨e1, d0, d2, d3, e3⟩ := C3.cells
  have CC3 := Lib.hid C3
  clear h3 f3 C3
  go_wp2_with fail
  refine (like_no B kb tb toff cap ts slots seen i x 0 x.n 0 _ false HLI.out (CC3.out).lk HX.out (CC3.out).nodes hl).mono ?_
  rintro e w4 ⟨rfl, h4, f4⟩
  have C4 := (CC3.out).step (by simp) h4 f4
  clear e1 d0 d2 d3 e3
  obtain ⟨e1, d0, d2, d3, e3⟩ := C4.cells
  have CC4 := Lib.hid C4
  clear h4 f4 C4
  go_wp2_with fail
  go_end0
  exact ⟨rfl, CC4.out.lk, CC4.out.fr⟩
set_option maxRecDepth 100000 in
set_option maxHeartbeats 1000000 in
theorem stmt_set (B kb tb toff cap : Nat) (ts : List Node) (slots : List Int) (seen : Int → Option Value) (htb : tb < B) (hl : ts.length ≤ 100000) (htxt : ∀ y ∈ ts, y.text.size ≤ 1099511627776) (i : Nat) (x : Node) (hi : i < ts.length) (hbe : 0 ≤ behind ts i) (hx : ts[i]? = some x) (w : World) (hg : Good ⟨slots, seen, false⟩) (hs : slots.length ≤ 2 + 3 * i)
    (h : LK w B kb (.slice (some ⟨tb, toff, none⟩) ts.length cap) ⟨slots, seen, false⟩) (hn : NodesAt w tb toff ts)
    (hop : x.op = 12) (hm : containsM [1] (kidsOf ts i).length = true) (hr : 0 ≤ x.n) (hr2 : x.n < 1048576) (hl2 : (seen x.n).getD (.bool false) = .bool true) (hli : likeB x 0 x.n 0 = true) (j : Nat) (r : List Nat) (hj : kidsOf ts i = j :: r) (hin : x.n < slots.length) :
    Calls Try.prog 115 #[.pointer (some ⟨kb, 0, none⟩), .int .i64 i] w fun e w' => e = .returned (.tuple #[]) ∧ LK w' B kb (.slice (some ⟨tb, toff, none⟩) ts.length cap) (valueF ts j (slots.getD x.n.toNat 0) ⟨slots, seen, false⟩) ∧ Frm B [132, 40] w w' := by
  obtain ⟨n, hnk⟩ : ∃ n, (kidsOf ts i).length = n := ⟨_, rfl⟩
  have hnl : n ≤ 100000 := by rw [← hnk]; exact kidsOf_le hbe hl
  obtain ⟨c0, c1, c2, c3, c4, c5, c6⟩ := hn.all hx
  obtain ⟨k0, k3⟩ := h.cells
  simp only at k3
  obtain ⟨hBk, hks⟩ := h.size
  have htw : tb < w.heap.size := by omega
  have HC0 := Lib.hid (stmt_kids B kb tb toff cap ts ⟨slots, seen, false⟩ i n x w hl h hn htb hi hnk)
  have HG := Lib.hid hg
  have HX := Lib.hid hx
  have HK := Lib.hid hnk
  have HS := Lib.hid hs
  have HBE := Lib.hid hbe
  have HT := Lib.hid htxt
  clear h hn hg hx hnk hs hbe htxt
  obtain ⟨K, hK⟩ : ∃ K, slots.getD x.n.toNat 0 = K := ⟨_, rfl⟩
  rw [hK]
  obtain ⟨len, hlen⟩ : ∃ len, slots.length = len := ⟨_, rfl⟩
  rw [hlen] at hin
  have HLn := Lib.hid hlen
  have HKK := Lib.hid hK
  clear hlen hK
  have hop2 := hop
  have q11 : (x.op == 11) = false := beq_false_of (by omega)
  have q12 : (x.op == 12) = true := beq_true_of hop
  have HOP := Lib.hid hop2
  clear hop hop2
  rw [HK.out] at hm
  have HM := Lib.hid hm
  clear hm
  have HLI := Lib.hid hli
  clear hli
  have HL2 := Lib.hid hl2
  clear hl2
  have hjj := kidsOf_ok (ts := ts) (i := i) (j := j) (by rw [hj]; simp)
  have HJ0 : Hid ((kidsOf ts i)[0]? = some j) := by rw [hj]; rfl
  have HJL := Lib.hid hjj.2.1
  have HN0 : Hid (0 < n) := Lib.hid (by rw [← HK.out, hj]; simp)
  have HJ := Lib.hid hj
  clear hj hjj
  go_enter Try.func115, Try.ntmps115
  go_wp2_with fail
  refine HC0.out.mono ?_
  rintro e w1 ⟨A, c, rfl, C0⟩
  obtain ⟨e1, d0, d2, d3, e3⟩ := C0.cells
  have CC0 := Lib.hid C0
  have hz0 := C0.size
  clear C0
  go_wp2_with fail
  obtain ⟨gk, rfl⟩ := CC0.out.kid0 HN0.out
  have g0 := CC0.out.kidCell HK.out 0 j HJ0.out
  have gl0 := CC0.out.kidLt
  have gcap := CC0.out.kidCap
  obtain ⟨sv, mb, _, _, m2, m3, _, _⟩ := CC0.out.lk.parts
  have hlk := look_seen (m3.drew keyI) x.n false
  simp only [Bool.false_eq_true, if_false, HL2.out] at hlk
  refine wp_region_text (by kernel_rfl) (by kernel_rfl) ?_
  go_wp2_with fail
  refine Only.normal ?_
  go_wp2_with fail
  refine (many_yes ((CC0.out).alloc (.cells #[.int .i64 1] 3)).drew [1] (w1.heap.size + 1) 1 1 rfl (by omega) (blk_new1 w1 (.cells #[.slice (some ⟨gk, 0, none⟩) n c] 153) 3 #[.int .i64 1]).drew HM.out).mono ?_
  rintro e w2 ⟨rfl, h2, f2⟩
  have C2 := (((CC0.out).alloc _).drew).step (by simp) h2 f2
  clear e1 d0 d2 d3 e3
  obtain ⟨e1, d0, d2, d3, e3⟩ := C2.cells
  have CC2 := Lib.hid C2
  clear h2 f2 C2
  clear g0
  have g0 := CC2.out.kidCell HK.out 0 j HJ0.out
  go_wp2_with fail
  refine (must_yes B kb _ slots seen _ CC2.out.lk).mono ?_
  rintro e w3 ⟨rfl, h3, f3⟩
  have C3 := (CC2.out).step (by simp) h3 f3
  clear e1 d0 d2 d3 e3
  obtain ⟨e1, d0, d2, d3, e3⟩ := C3.cells
  have CC3 := Lib.hid C3
  clear h3 f3 C3
  clear g0
  have g0 := CC3.out.kidCell HK.out 0 j HJ0.out
  go_wp2_with fail
  refine (like_yes B kb tb toff cap ts slots seen i x 0 x.n 0 _ HLI.out (CC3.out).lk HX.out (CC3.out).nodes hl).mono ?_
  rintro e w4 ⟨rfl, h4, f4⟩
  have C4 := (CC3.out).step (by simp) h4 f4
  clear e1 d0 d2 d3 e3
  obtain ⟨e1, d0, d2, d3, e3⟩ := C4.cells
  have CC4 := Lib.hid C4
  clear h4 f4 C4
  clear g0
  have g0 := CC4.out.kidCell HK.out 0 j HJ0.out
  obtain ⟨sv2, mb2, _, m1, _, _, m4, _⟩ := CC4.out.lk.parts
  simp only [HLn.out] at m4
  obtain ⟨g, cg, rfl, hcg⟩ := slots_form m4 (by omega)
  have hck := hcg x.n.toNat (by omega)
  rw [HKK.out] at hck
  clear m4 hcg hlk m2
  go_wp2_with fail
  refine wp_region_text (by kernel_rfl) (by kernel_rfl) ?_
  go_wp2_with fail
  refine (value_any B kb tb toff cap ts hl htb HT.out j (K) ⟨slots, seen, false⟩ _ HJL.out HG.out (CC4.out.drew).lk (CC4.out.drew).nodes).mono ?_
  rintro e w5 ⟨rfl, h5, f5⟩
  have C5 := (CC4.out.drew).step (by simp) h5 f5
  clear e1 d0 d2 d3 e3
  obtain ⟨e1, d0, d2, d3, e3⟩ := C5.cells
  have CC5 := Lib.hid C5
  clear h5 f5 C5
  clear g0
  have g0 := CC5.out.kidCell HK.out 0 j HJ0.out
  go_wp2_with fail
  refine Only.normal ?_
  go_wp2_with fail
  go_end0
  exact ⟨rfl, CC5.out.lk, CC5.out.fr⟩
set_option maxRecDepth 100000 in
set_option maxHeartbeats 1000000 in
theorem stmt_none (B kb tb toff cap : Nat) (ts : List Node) (slots : List Int) (seen : Int → Option Value) (htb : tb < B) (hl : ts.length ≤ 100000) (htxt : ∀ y ∈ ts, y.text.size ≤ 1099511627776) (i : Nat) (x : Node) (hi : i < ts.length) (hbe : 0 ≤ behind ts i) (hx : ts[i]? = some x) (w : World) (hg : Good ⟨slots, seen, false⟩) (hs : slots.length ≤ 2 + 3 * i)
    (h : LK w B kb (.slice (some ⟨tb, toff, none⟩) ts.length cap) ⟨slots, seen, false⟩) (hn : NodesAt w tb toff ts)
    (hop : x.op ≠ 11 ∧ x.op ≠ 12 ∧ x.op ≠ 13 ∧ x.op ≠ 14 ∧ x.op ≠ 15 ∧ x.op ≠ 16 ∧ x.op ≠ 17 ∧ x.op ≠ 18 ∧ x.op ≠ 19) :
    Calls Try.prog 115 #[.pointer (some ⟨kb, 0, none⟩), .int .i64 i] w fun e w' => e = .returned (.tuple #[]) ∧ LK w' B kb (.slice (some ⟨tb, toff, none⟩) ts.length cap) (⟨slots, seen, true⟩) ∧ Frm B [132, 40] w w' := by
  obtain ⟨n, hnk⟩ : ∃ n, (kidsOf ts i).length = n := ⟨_, rfl⟩
  have hnl : n ≤ 100000 := by rw [← hnk]; exact kidsOf_le hbe hl
  obtain ⟨c0, c1, c2, c3, c4, c5, c6⟩ := hn.all hx
  obtain ⟨k0, k3⟩ := h.cells
  simp only at k3
  obtain ⟨hBk, hks⟩ := h.size
  have htw : tb < w.heap.size := by omega
  have HC0 := Lib.hid (stmt_kids B kb tb toff cap ts ⟨slots, seen, false⟩ i n x w hl h hn htb hi hnk)
  have HG := Lib.hid hg
  have HX := Lib.hid hx
  have HK := Lib.hid hnk
  have HS := Lib.hid hs
  have HBE := Lib.hid hbe
  have HT := Lib.hid htxt
  clear h hn hg hx hnk hs hbe htxt
  have q11 : (x.op == 11) = false := beq_false_of (by omega)
  have q12 : (x.op == 12) = false := beq_false_of (by omega)
  have q13 : (x.op == 13) = false := beq_false_of (by omega)
  have q14 : (x.op == 14) = false := beq_false_of (by omega)
  have q15 : (x.op == 15) = false := beq_false_of (by omega)
  have q16 : (x.op == 16) = false := beq_false_of (by omega)
  have q17 : (x.op == 17) = false := beq_false_of (by omega)
  have q18 : (x.op == 18) = false := beq_false_of (by omega)
  have q19 : (x.op == 19) = false := beq_false_of (by omega)
  clear hop
  go_enter Try.func115, Try.ntmps115
  go_wp2_with fail
  refine HC0.out.mono ?_
  rintro e w1 ⟨A, c, rfl, C0⟩
  obtain ⟨e1, d0, d2, d3, e3⟩ := C0.cells
  have CC0 := Lib.hid C0
  have hz0 := C0.size
  clear C0
  obtain ⟨sv, mb, hmb, m1, m2, m3, m4, m5⟩ := CC0.out.lk.parts
  have z3 := m5.frozen 3
  have y3 := m5.cell 3
  have M5 := Lib.hid m5
  clear m3 m4 m5 m1 m2
  go_wp2_with fail
  go_end0
  exact ⟨rfl, CC0.out.lk.setBad true, CC0.out.fr.set_ M5.out hBk (by simp) _⟩
end Go.Proofs.Ytggibiodeecljaa
