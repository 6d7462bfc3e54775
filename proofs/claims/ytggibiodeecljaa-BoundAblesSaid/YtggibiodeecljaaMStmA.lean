/- The reference's looker: stmt: let, its ways that are bad. Written by gen_stmt13.py. The reference's looker: stmt: stop, abort. Written by gen_stmt13.py. The reference's looker: stmt: let. Written by gen_stmt13.py. -/
import Derived.Test.YtggibiodeecljaaMBlk13
namespace Go.Proofs.Ytggibiodeecljaa
open Go.RowKit
set_option linter.unusedVariables false
section
variable (B kb tb toff cap : Nat) (ts : List Node) (htb : tb < B) (hl : ts.length ≤ 2000) (htxt : ∀ y ∈ ts, y.text.size ≤ 1099511627776) (i : Nat) (x : Node) (hi : i < ts.length) (hbe : 0 ≤ behind ts i) (hx : ts[i]? = some x) (vars : List Vr) (slots : List Int) (seen : Int → Option Value) (w : World) (hs : slots.length ≤ 2 + 3 * i) (h : RL w B kb (.slice (some ⟨tb, toff, none⟩) ts.length cap) vars ⟨slots, seen, false⟩) (hn : NodesAt w tb toff ts)
include htb hl htxt hi hbe hx hs h hn
set_option maxRecDepth 100000 in
set_option maxHeartbeats 2000000 in
theorem stmt_11_no1 (hop : x.op = 11) (e1 : (((kidsOf ts i).length : Int) == 1) = false) :
  Calls Try.prog 139 #[.pointer (some ⟨kb, 0, none⟩), .int .i64 i] w fun e w' => e = .returned (.tuple #[]) ∧ (RL w' B kb (.slice (some ⟨tb, toff, none⟩) ts.length cap) vars ⟨slots, seen, true⟩) ∧ Frm B [150, 40, 152] w w' := by
 obtain ⟨c0, c1, c2, c3, c4, c5, c6⟩ := hn.all hx
 obtain ⟨k0, k3, kf⟩ := h.cells
 simp only at k3
 obtain ⟨hB, hks⟩ := h.size
 have hki := kids13_start B kb tb toff cap ts i x vars ⟨slots, seen, false⟩ w h hn htb hi hl
 obtain ⟨n, hnk⟩ : ∃ n, (kidsOf ts i).length = n := ⟨_, rfl⟩
 rw [hnk] at hki
 have HKI := Lh hki
 have HNK := Lh hnk
 have HX := Lh hx
 have HS := Lh hs
 have HBE := Lh hbe
 have HT := Lh htxt
 have H := Lh h
 have hop2 := hop
 have q11 : (x.op == 11) = true := beq_true_of hop
 clear hop hop2
 rw [hnk] at e1
 clear h hn hki hx hs hbe htxt
 go_enter Try.func139, Try.ntmps139
 go_wp2_with fail
 refine HKI.out.mono ?_
 rintro e w1 ⟨A, c, base, rfl, C1⟩
 obtain ⟨e0, e3, ef, d0, d2, d3⟩ := C1.cells
 have CC1 := Lh C1
 have hz1 := C1.rl.size
 clear C1
 go_wp2_with fail
 refine (must13_no B kb _ vars ⟨slots, seen, false⟩ _ _ (CC1.out).rl (.inl rfl)).mono ?_
 rintro e w2 ⟨rfl, h2, f2⟩
 have CC2 := Lh ((CC1.out).step (by simp) h2 f2)
 clear h2 f2 e0 e3 ef d0 d2 d3
 obtain ⟨e0, e3, ef, d0, d2, d3⟩ := CC2.out.cells
 go_wp2_with fail
 refine (plain13_no B kb tb toff cap ts ⟨slots, seen, true⟩ vars i x 0 x.n 0 _ (.inr rfl) (CC2.out).rl HX.out (CC2.out).nodes hl).mono ?_
 rintro e w3 ⟨rfl, h3, f3⟩
 have CC3 := Lh ((CC2.out).step (by simp) h3 f3)
 clear h3 f3 e0 e3 ef d0 d2 d3
 obtain ⟨e0, e3, ef, d0, d2, d3⟩ := CC3.out.cells
 have e3 : w3.cell? ⟨kb, 3, none⟩ = some (.bool true) := e3
 go_wp2_with fail
 refine bodyPost_ret (results_none rfl _ _ _) rfl ?_
 exact ⟨rfl, CC3.out.rl, CC3.out.fr⟩
set_option maxRecDepth 100000 in
set_option maxHeartbeats 2000000 in
theorem stmt_11_like (hop : x.op = 11) (e1 : (((kidsOf ts i).length : Int) == 1) = true) (hli : likeB x 0 x.n 0 = false) :
  Calls Try.prog 139 #[.pointer (some ⟨kb, 0, none⟩), .int .i64 i] w fun e w' => e = .returned (.tuple #[]) ∧ (RL w' B kb (.slice (some ⟨tb, toff, none⟩) ts.length cap) vars ⟨slots, seen, true⟩) ∧ Frm B [150, 40, 152] w w' := by
 obtain ⟨c0, c1, c2, c3, c4, c5, c6⟩ := hn.all hx
 obtain ⟨k0, k3, kf⟩ := h.cells
 simp only at k3
 obtain ⟨hB, hks⟩ := h.size
 have hki := kids13_start B kb tb toff cap ts i x vars ⟨slots, seen, false⟩ w h hn htb hi hl
 obtain ⟨n, hnk⟩ : ∃ n, (kidsOf ts i).length = n := ⟨_, rfl⟩
 rw [hnk] at hki
 have HKI := Lh hki
 have HNK := Lh hnk
 have HX := Lh hx
 have HS := Lh hs
 have HBE := Lh hbe
 have HT := Lh htxt
 have H := Lh h
 have hop2 := hop
 have q11 : (x.op == 11) = true := beq_true_of hop
 clear hop hop2
 rw [hnk] at e1
 have HLI := Lh hli
 clear hli
 clear h hn hki hx hs hbe htxt
 go_enter Try.func139, Try.ntmps139
 go_wp2_with fail
 refine HKI.out.mono ?_
 rintro e w1 ⟨A, c, base, rfl, C1⟩
 obtain ⟨e0, e3, ef, d0, d2, d3⟩ := C1.cells
 have CC1 := Lh C1
 have hz1 := C1.rl.size
 clear C1
 go_wp2_with fail
 refine (must13_yes B kb _ vars ⟨slots, seen, false⟩ _ (CC1.out).rl).mono ?_
 rintro e w2 ⟨rfl, h2, f2⟩
 have CC2 := Lh ((CC1.out).step (by simp) h2 f2)
 clear h2 f2 e0 e3 ef d0 d2 d3
 obtain ⟨e0, e3, ef, d0, d2, d3⟩ := CC2.out.cells
 go_wp2_with fail
 refine (plain13_no B kb tb toff cap ts ⟨slots, seen, false⟩ vars i x 0 x.n 0 _ (.inl HLI.out) (CC2.out).rl HX.out (CC2.out).nodes hl).mono ?_
 rintro e w3 ⟨rfl, h3, f3⟩
 have CC3 := Lh ((CC2.out).step (by simp) h3 f3)
 clear h3 f3 e0 e3 ef d0 d2 d3
 obtain ⟨e0, e3, ef, d0, d2, d3⟩ := CC3.out.cells
 have e3 : w3.cell? ⟨kb, 3, none⟩ = some (.bool true) := e3
 go_wp2_with fail
 refine bodyPost_ret (results_none rfl _ _ _) rfl ?_
 exact ⟨rfl, CC3.out.rl, CC3.out.fr⟩
set_option maxRecDepth 100000 in
set_option maxHeartbeats 2000000 in
theorem stmt_13_no1 (hop : x.op = 13) (e1 : (((kidsOf ts i).length : Int) == 2) = false) (e2 : (((kidsOf ts i).length : Int) == 3) = false) :
  Calls Try.prog 139 #[.pointer (some ⟨kb, 0, none⟩), .int .i64 i] w fun e w' => e = .returned (.tuple #[]) ∧ (RL w' B kb (.slice (some ⟨tb, toff, none⟩) ts.length cap) vars ⟨slots, seen, true⟩) ∧ Frm B [150, 40, 152] w w' := by
 obtain ⟨c0, c1, c2, c3, c4, c5, c6⟩ := hn.all hx
 obtain ⟨k0, k3, kf⟩ := h.cells
 simp only at k3
 obtain ⟨hB, hks⟩ := h.size
 have hki := kids13_start B kb tb toff cap ts i x vars ⟨slots, seen, false⟩ w h hn htb hi hl
 obtain ⟨n, hnk⟩ : ∃ n, (kidsOf ts i).length = n := ⟨_, rfl⟩
 rw [hnk] at hki
 have HKI := Lh hki
 have HNK := Lh hnk
 have HX := Lh hx
 have HS := Lh hs
 have HBE := Lh hbe
 have HT := Lh htxt
 have H := Lh h
 have hop2 := hop
 have q11 : (x.op == 11) = false := beq_false_of (by omega)
 have q12 : (x.op == 12) = false := beq_false_of (by omega)
 have q13 : (x.op == 13) = true := beq_true_of hop
 clear hop hop2
 rw [hnk] at e1
 rw [hnk] at e2
 clear h hn hki hx hs hbe htxt
 go_enter Try.func139, Try.ntmps139
 go_wp2_with fail
 refine HKI.out.mono ?_
 rintro e w1 ⟨A, c, base, rfl, C1⟩
 obtain ⟨e0, e3, ef, d0, d2, d3⟩ := C1.cells
 have CC1 := Lh C1
 have hz1 := C1.rl.size
 clear C1
 go_wp2_with fail
 refine (must13_no B kb _ vars ⟨slots, seen, false⟩ _ _ (CC1.out).rl (.inl rfl)).mono ?_
 rintro e w2 ⟨rfl, h2, f2⟩
 have CC2 := Lh ((CC1.out).step (by simp) h2 f2)
 clear h2 f2 e0 e3 ef d0 d2 d3
 obtain ⟨e0, e3, ef, d0, d2, d3⟩ := CC2.out.cells
 go_wp2_with fail
 refine (plain13_no B kb tb toff cap ts ⟨slots, seen, true⟩ vars i x 0 0 0 _ (.inr rfl) (CC2.out).rl HX.out (CC2.out).nodes hl).mono ?_
 rintro e w3 ⟨rfl, h3, f3⟩
 have CC3 := Lh ((CC2.out).step (by simp) h3 f3)
 clear h3 f3 e0 e3 ef d0 d2 d3
 obtain ⟨e0, e3, ef, d0, d2, d3⟩ := CC3.out.cells
 have e3 : w3.cell? ⟨kb, 3, none⟩ = some (.bool true) := e3
 go_wp2_with fail
 refine bodyPost_ret (results_none rfl _ _ _) rfl ?_
 exact ⟨rfl, CC3.out.rl, CC3.out.fr⟩
set_option maxRecDepth 100000 in
set_option maxHeartbeats 2000000 in
theorem stmt_13_like (hop : x.op = 13) (e1 : (((kidsOf ts i).length : Int) == 2) = true) (hli : likeB x 0 0 0 = false) :
  Calls Try.prog 139 #[.pointer (some ⟨kb, 0, none⟩), .int .i64 i] w fun e w' => e = .returned (.tuple #[]) ∧ (RL w' B kb (.slice (some ⟨tb, toff, none⟩) ts.length cap) vars ⟨slots, seen, true⟩) ∧ Frm B [150, 40, 152] w w' := by
 obtain ⟨c0, c1, c2, c3, c4, c5, c6⟩ := hn.all hx
 obtain ⟨k0, k3, kf⟩ := h.cells
 simp only at k3
 obtain ⟨hB, hks⟩ := h.size
 have hki := kids13_start B kb tb toff cap ts i x vars ⟨slots, seen, false⟩ w h hn htb hi hl
 obtain ⟨n, hnk⟩ : ∃ n, (kidsOf ts i).length = n := ⟨_, rfl⟩
 rw [hnk] at hki
 have HKI := Lh hki
 have HNK := Lh hnk
 have HX := Lh hx
 have HS := Lh hs
 have HBE := Lh hbe
 have HT := Lh htxt
 have H := Lh h
 have hop2 := hop
 have q11 : (x.op == 11) = false := beq_false_of (by omega)
 have q12 : (x.op == 12) = false := beq_false_of (by omega)
 have q13 : (x.op == 13) = true := beq_true_of hop
 clear hop hop2
 rw [hnk] at e1
 have HLI := Lh hli
 clear hli
 clear h hn hki hx hs hbe htxt
 go_enter Try.func139, Try.ntmps139
 go_wp2_with fail
 refine HKI.out.mono ?_
 rintro e w1 ⟨A, c, base, rfl, C1⟩
 obtain ⟨e0, e3, ef, d0, d2, d3⟩ := C1.cells
 have CC1 := Lh C1
 have hz1 := C1.rl.size
 clear C1
 go_wp2_with fail
 refine (must13_yes B kb _ vars ⟨slots, seen, false⟩ _ (CC1.out).rl).mono ?_
 rintro e w2 ⟨rfl, h2, f2⟩
 have CC2 := Lh ((CC1.out).step (by simp) h2 f2)
 clear h2 f2 e0 e3 ef d0 d2 d3
 obtain ⟨e0, e3, ef, d0, d2, d3⟩ := CC2.out.cells
 go_wp2_with fail
 refine (plain13_no B kb tb toff cap ts ⟨slots, seen, false⟩ vars i x 0 0 0 _ (.inl HLI.out) (CC2.out).rl HX.out (CC2.out).nodes hl).mono ?_
 rintro e w3 ⟨rfl, h3, f3⟩
 have CC3 := Lh ((CC2.out).step (by simp) h3 f3)
 clear h3 f3 e0 e3 ef d0 d2 d3
 obtain ⟨e0, e3, ef, d0, d2, d3⟩ := CC3.out.cells
 have e3 : w3.cell? ⟨kb, 3, none⟩ = some (.bool true) := e3
 go_wp2_with fail
 refine bodyPost_ret (results_none rfl _ _ _) rfl ?_
 exact ⟨rfl, CC3.out.rl, CC3.out.fr⟩
set_option maxRecDepth 100000 in
set_option maxHeartbeats 2000000 in
theorem stmt_13_like3 (hop : x.op = 13) (e1 : (((kidsOf ts i).length : Int) == 2) = false) (e2 : (((kidsOf ts i).length : Int) == 3) = true) (hli : likeB x 0 0 0 = false) :
  Calls Try.prog 139 #[.pointer (some ⟨kb, 0, none⟩), .int .i64 i] w fun e w' => e = .returned (.tuple #[]) ∧ (RL w' B kb (.slice (some ⟨tb, toff, none⟩) ts.length cap) vars ⟨slots, seen, true⟩) ∧ Frm B [150, 40, 152] w w' := by
 obtain ⟨c0, c1, c2, c3, c4, c5, c6⟩ := hn.all hx
 obtain ⟨k0, k3, kf⟩ := h.cells
 simp only at k3
 obtain ⟨hB, hks⟩ := h.size
 have hki := kids13_start B kb tb toff cap ts i x vars ⟨slots, seen, false⟩ w h hn htb hi hl
 obtain ⟨n, hnk⟩ : ∃ n, (kidsOf ts i).length = n := ⟨_, rfl⟩
 rw [hnk] at hki
 have HKI := Lh hki
 have HNK := Lh hnk
 have HX := Lh hx
 have HS := Lh hs
 have HBE := Lh hbe
 have HT := Lh htxt
 have H := Lh h
 have hop2 := hop
 have q11 : (x.op == 11) = false := beq_false_of (by omega)
 have q12 : (x.op == 12) = false := beq_false_of (by omega)
 have q13 : (x.op == 13) = true := beq_true_of hop
 clear hop hop2
 rw [hnk] at e1
 rw [hnk] at e2
 have HLI := Lh hli
 clear hli
 clear h hn hki hx hs hbe htxt
 go_enter Try.func139, Try.ntmps139
 go_wp2_with fail
 refine HKI.out.mono ?_
 rintro e w1 ⟨A, c, base, rfl, C1⟩
 obtain ⟨e0, e3, ef, d0, d2, d3⟩ := C1.cells
 have CC1 := Lh C1
 have hz1 := C1.rl.size
 clear C1
 go_wp2_with fail
 refine (must13_yes B kb _ vars ⟨slots, seen, false⟩ _ (CC1.out).rl).mono ?_
 rintro e w2 ⟨rfl, h2, f2⟩
 have CC2 := Lh ((CC1.out).step (by simp) h2 f2)
 clear h2 f2 e0 e3 ef d0 d2 d3
 obtain ⟨e0, e3, ef, d0, d2, d3⟩ := CC2.out.cells
 go_wp2_with fail
 refine (plain13_no B kb tb toff cap ts ⟨slots, seen, false⟩ vars i x 0 0 0 _ (.inl HLI.out) (CC2.out).rl HX.out (CC2.out).nodes hl).mono ?_
 rintro e w3 ⟨rfl, h3, f3⟩
 have CC3 := Lh ((CC2.out).step (by simp) h3 f3)
 clear h3 f3 e0 e3 ef d0 d2 d3
 obtain ⟨e0, e3, ef, d0, d2, d3⟩ := CC3.out.cells
 have e3 : w3.cell? ⟨kb, 3, none⟩ = some (.bool true) := e3
 go_wp2_with fail
 refine bodyPost_ret (results_none rfl _ _ _) rfl ?_
 exact ⟨rfl, CC3.out.rl, CC3.out.fr⟩
end
end Go.Proofs.Ytggibiodeecljaa
namespace Go.Proofs.Ytggibiodeecljaa
open Go.RowKit
set_option linter.unusedVariables false
section
variable (B kb tb toff cap : Nat) (ts : List Node) (htb : tb < B) (hl : ts.length ≤ 2000) (htxt : ∀ y ∈ ts, y.text.size ≤ 1099511627776) (i : Nat) (x : Node) (hi : i < ts.length) (hbe : 0 ≤ behind ts i) (hx : ts[i]? = some x) (vars : List Vr) (slots : List Int) (seen : Int → Option Value) (w : World) (hs : slots.length ≤ 2 + 3 * i) (h : RL w B kb (.slice (some ⟨tb, toff, none⟩) ts.length cap) vars ⟨slots, seen, false⟩) (hn : NodesAt w tb toff ts)
include htb hl htxt hi hbe hx hs h hn
set_option maxRecDepth 100000 in
set_option maxHeartbeats 2000000 in
theorem stmt_17_no1 (hop : x.op = 17) (e1 : (((kidsOf ts i).length : Int) == 0) = false) :
  Calls Try.prog 139 #[.pointer (some ⟨kb, 0, none⟩), .int .i64 i] w fun e w' => e = .returned (.tuple #[]) ∧ (RL w' B kb (.slice (some ⟨tb, toff, none⟩) ts.length cap) vars ⟨slots, seen, true⟩) ∧ Frm B [150, 40, 152] w w' := by
 obtain ⟨c0, c1, c2, c3, c4, c5, c6⟩ := hn.all hx
 obtain ⟨k0, k3, kf⟩ := h.cells
 simp only at k3
 obtain ⟨hB, hks⟩ := h.size
 have hki := kids13_start B kb tb toff cap ts i x vars ⟨slots, seen, false⟩ w h hn htb hi hl
 obtain ⟨n, hnk⟩ : ∃ n, (kidsOf ts i).length = n := ⟨_, rfl⟩
 rw [hnk] at hki
 have HKI := Lh hki
 have HNK := Lh hnk
 have HX := Lh hx
 have HS := Lh hs
 have HBE := Lh hbe
 have HT := Lh htxt
 have H := Lh h
 have hop2 := hop
 have q11 : (x.op == 11) = false := beq_false_of (by omega)
 have q12 : (x.op == 12) = false := beq_false_of (by omega)
 have q13 : (x.op == 13) = false := beq_false_of (by omega)
 have q14 : (x.op == 14) = false := beq_false_of (by omega)
 have q15 : (x.op == 15) = false := beq_false_of (by omega)
 have q16 : (x.op == 16) = false := beq_false_of (by omega)
 have q17 : (x.op == 17) = true := beq_true_of hop
 clear hop hop2
 rw [hnk] at e1
 clear h hn hki hx hs hbe htxt
 go_enter Try.func139, Try.ntmps139
 go_wp2_with fail
 refine HKI.out.mono ?_
 rintro e w1 ⟨A, c, base, rfl, C1⟩
 obtain ⟨e0, e3, ef, d0, d2, d3⟩ := C1.cells
 have CC1 := Lh C1
 have hz1 := C1.rl.size
 clear C1
 go_wp2_with fail
 refine (must13_no B kb _ vars ⟨slots, seen, false⟩ _ _ (CC1.out).rl (.inl rfl)).mono ?_
 rintro e w2 ⟨rfl, h2, f2⟩
 have CC2 := Lh ((CC1.out).step (by simp) h2 f2)
 clear h2 f2 e0 e3 ef d0 d2 d3
 obtain ⟨e0, e3, ef, d0, d2, d3⟩ := CC2.out.cells
 go_wp2_with fail
 refine (plain13_no B kb tb toff cap ts ⟨slots, seen, true⟩ vars i x 0 0 0 _ (.inr rfl) (CC2.out).rl HX.out (CC2.out).nodes hl).mono ?_
 rintro e w3 ⟨rfl, h3, f3⟩
 have CC3 := Lh ((CC2.out).step (by simp) h3 f3)
 clear h3 f3 e0 e3 ef d0 d2 d3
 obtain ⟨e0, e3, ef, d0, d2, d3⟩ := CC3.out.cells
 have e3 : w3.cell? ⟨kb, 3, none⟩ = some (.bool true) := e3
 go_wp2_with fail
 go_end0
 exact ⟨rfl, CC3.out.rl, CC3.out.fr⟩
set_option maxRecDepth 100000 in
set_option maxHeartbeats 2000000 in
theorem stmt_17_like (hop : x.op = 17) (e1 : (((kidsOf ts i).length : Int) == 0) = true) (hli : likeB x 0 0 0 = false) :
  Calls Try.prog 139 #[.pointer (some ⟨kb, 0, none⟩), .int .i64 i] w fun e w' => e = .returned (.tuple #[]) ∧ (RL w' B kb (.slice (some ⟨tb, toff, none⟩) ts.length cap) vars ⟨slots, seen, true⟩) ∧ Frm B [150, 40, 152] w w' := by
 obtain ⟨c0, c1, c2, c3, c4, c5, c6⟩ := hn.all hx
 obtain ⟨k0, k3, kf⟩ := h.cells
 simp only at k3
 obtain ⟨hB, hks⟩ := h.size
 have hki := kids13_start B kb tb toff cap ts i x vars ⟨slots, seen, false⟩ w h hn htb hi hl
 obtain ⟨n, hnk⟩ : ∃ n, (kidsOf ts i).length = n := ⟨_, rfl⟩
 rw [hnk] at hki
 have HKI := Lh hki
 have HNK := Lh hnk
 have HX := Lh hx
 have HS := Lh hs
 have HBE := Lh hbe
 have HT := Lh htxt
 have H := Lh h
 have hop2 := hop
 have q11 : (x.op == 11) = false := beq_false_of (by omega)
 have q12 : (x.op == 12) = false := beq_false_of (by omega)
 have q13 : (x.op == 13) = false := beq_false_of (by omega)
 have q14 : (x.op == 14) = false := beq_false_of (by omega)
 have q15 : (x.op == 15) = false := beq_false_of (by omega)
 have q16 : (x.op == 16) = false := beq_false_of (by omega)
 have q17 : (x.op == 17) = true := beq_true_of hop
 clear hop hop2
 rw [hnk] at e1
 have HLI := Lh hli
 clear hli
 clear h hn hki hx hs hbe htxt
 go_enter Try.func139, Try.ntmps139
 go_wp2_with fail
 refine HKI.out.mono ?_
 rintro e w1 ⟨A, c, base, rfl, C1⟩
 obtain ⟨e0, e3, ef, d0, d2, d3⟩ := C1.cells
 have CC1 := Lh C1
 have hz1 := C1.rl.size
 clear C1
 go_wp2_with fail
 refine (must13_yes B kb _ vars ⟨slots, seen, false⟩ _ (CC1.out).rl).mono ?_
 rintro e w2 ⟨rfl, h2, f2⟩
 have CC2 := Lh ((CC1.out).step (by simp) h2 f2)
 clear h2 f2 e0 e3 ef d0 d2 d3
 obtain ⟨e0, e3, ef, d0, d2, d3⟩ := CC2.out.cells
 go_wp2_with fail
 refine (plain13_no B kb tb toff cap ts ⟨slots, seen, false⟩ vars i x 0 0 0 _ (.inl HLI.out) (CC2.out).rl HX.out (CC2.out).nodes hl).mono ?_
 rintro e w3 ⟨rfl, h3, f3⟩
 have CC3 := Lh ((CC2.out).step (by simp) h3 f3)
 clear h3 f3 e0 e3 ef d0 d2 d3
 obtain ⟨e0, e3, ef, d0, d2, d3⟩ := CC3.out.cells
 have e3 : w3.cell? ⟨kb, 3, none⟩ = some (.bool true) := e3
 go_wp2_with fail
 go_end0
 exact ⟨rfl, CC3.out.rl, CC3.out.fr⟩
set_option maxRecDepth 100000 in
set_option maxHeartbeats 2000000 in
theorem stmt_18_no1 (hop : x.op = 18) (e1 : (((kidsOf ts i).length : Int) == 0) = false) :
  Calls Try.prog 139 #[.pointer (some ⟨kb, 0, none⟩), .int .i64 i] w fun e w' => e = .returned (.tuple #[]) ∧ (RL w' B kb (.slice (some ⟨tb, toff, none⟩) ts.length cap) vars ⟨slots, seen, true⟩) ∧ Frm B [150, 40, 152] w w' := by
 obtain ⟨c0, c1, c2, c3, c4, c5, c6⟩ := hn.all hx
 obtain ⟨k0, k3, kf⟩ := h.cells
 simp only at k3
 obtain ⟨hB, hks⟩ := h.size
 have hki := kids13_start B kb tb toff cap ts i x vars ⟨slots, seen, false⟩ w h hn htb hi hl
 obtain ⟨n, hnk⟩ : ∃ n, (kidsOf ts i).length = n := ⟨_, rfl⟩
 rw [hnk] at hki
 have HKI := Lh hki
 have HNK := Lh hnk
 have HX := Lh hx
 have HS := Lh hs
 have HBE := Lh hbe
 have HT := Lh htxt
 have H := Lh h
 have hop2 := hop
 have q11 : (x.op == 11) = false := beq_false_of (by omega)
 have q12 : (x.op == 12) = false := beq_false_of (by omega)
 have q13 : (x.op == 13) = false := beq_false_of (by omega)
 have q14 : (x.op == 14) = false := beq_false_of (by omega)
 have q15 : (x.op == 15) = false := beq_false_of (by omega)
 have q16 : (x.op == 16) = false := beq_false_of (by omega)
 have q17 : (x.op == 17) = false := beq_false_of (by omega)
 have q18 : (x.op == 18) = true := beq_true_of hop
 clear hop hop2
 rw [hnk] at e1
 clear h hn hki hx hs hbe htxt
 go_enter Try.func139, Try.ntmps139
 go_wp2_with fail
 refine HKI.out.mono ?_
 rintro e w1 ⟨A, c, base, rfl, C1⟩
 obtain ⟨e0, e3, ef, d0, d2, d3⟩ := C1.cells
 have CC1 := Lh C1
 have hz1 := C1.rl.size
 clear C1
 go_wp2_with fail
 refine (must13_no B kb _ vars ⟨slots, seen, false⟩ _ _ (CC1.out).rl (.inl rfl)).mono ?_
 rintro e w2 ⟨rfl, h2, f2⟩
 have CC2 := Lh ((CC1.out).step (by simp) h2 f2)
 clear h2 f2 e0 e3 ef d0 d2 d3
 obtain ⟨e0, e3, ef, d0, d2, d3⟩ := CC2.out.cells
 go_wp2_with fail
 refine (plain13_no B kb tb toff cap ts ⟨slots, seen, true⟩ vars i x 0 0 0 _ (.inr rfl) (CC2.out).rl HX.out (CC2.out).nodes hl).mono ?_
 rintro e w3 ⟨rfl, h3, f3⟩
 have CC3 := Lh ((CC2.out).step (by simp) h3 f3)
 clear h3 f3 e0 e3 ef d0 d2 d3
 obtain ⟨e0, e3, ef, d0, d2, d3⟩ := CC3.out.cells
 have e3 : w3.cell? ⟨kb, 3, none⟩ = some (.bool true) := e3
 go_wp2_with fail
 go_end0
 exact ⟨rfl, CC3.out.rl, CC3.out.fr⟩
set_option maxRecDepth 100000 in
set_option maxHeartbeats 2000000 in
theorem stmt_18_like (hop : x.op = 18) (e1 : (((kidsOf ts i).length : Int) == 0) = true) (hli : likeB x 0 0 0 = false) :
  Calls Try.prog 139 #[.pointer (some ⟨kb, 0, none⟩), .int .i64 i] w fun e w' => e = .returned (.tuple #[]) ∧ (RL w' B kb (.slice (some ⟨tb, toff, none⟩) ts.length cap) vars ⟨slots, seen, true⟩) ∧ Frm B [150, 40, 152] w w' := by
 obtain ⟨c0, c1, c2, c3, c4, c5, c6⟩ := hn.all hx
 obtain ⟨k0, k3, kf⟩ := h.cells
 simp only at k3
 obtain ⟨hB, hks⟩ := h.size
 have hki := kids13_start B kb tb toff cap ts i x vars ⟨slots, seen, false⟩ w h hn htb hi hl
 obtain ⟨n, hnk⟩ : ∃ n, (kidsOf ts i).length = n := ⟨_, rfl⟩
 rw [hnk] at hki
 have HKI := Lh hki
 have HNK := Lh hnk
 have HX := Lh hx
 have HS := Lh hs
 have HBE := Lh hbe
 have HT := Lh htxt
 have H := Lh h
 have hop2 := hop
 have q11 : (x.op == 11) = false := beq_false_of (by omega)
 have q12 : (x.op == 12) = false := beq_false_of (by omega)
 have q13 : (x.op == 13) = false := beq_false_of (by omega)
 have q14 : (x.op == 14) = false := beq_false_of (by omega)
 have q15 : (x.op == 15) = false := beq_false_of (by omega)
 have q16 : (x.op == 16) = false := beq_false_of (by omega)
 have q17 : (x.op == 17) = false := beq_false_of (by omega)
 have q18 : (x.op == 18) = true := beq_true_of hop
 clear hop hop2
 rw [hnk] at e1
 have HLI := Lh hli
 clear hli
 clear h hn hki hx hs hbe htxt
 go_enter Try.func139, Try.ntmps139
 go_wp2_with fail
 refine HKI.out.mono ?_
 rintro e w1 ⟨A, c, base, rfl, C1⟩
 obtain ⟨e0, e3, ef, d0, d2, d3⟩ := C1.cells
 have CC1 := Lh C1
 have hz1 := C1.rl.size
 clear C1
 go_wp2_with fail
 refine (must13_yes B kb _ vars ⟨slots, seen, false⟩ _ (CC1.out).rl).mono ?_
 rintro e w2 ⟨rfl, h2, f2⟩
 have CC2 := Lh ((CC1.out).step (by simp) h2 f2)
 clear h2 f2 e0 e3 ef d0 d2 d3
 obtain ⟨e0, e3, ef, d0, d2, d3⟩ := CC2.out.cells
 go_wp2_with fail
 refine (plain13_no B kb tb toff cap ts ⟨slots, seen, false⟩ vars i x 0 0 0 _ (.inl HLI.out) (CC2.out).rl HX.out (CC2.out).nodes hl).mono ?_
 rintro e w3 ⟨rfl, h3, f3⟩
 have CC3 := Lh ((CC2.out).step (by simp) h3 f3)
 clear h3 f3 e0 e3 ef d0 d2 d3
 obtain ⟨e0, e3, ef, d0, d2, d3⟩ := CC3.out.cells
 have e3 : w3.cell? ⟨kb, 3, none⟩ = some (.bool true) := e3
 go_wp2_with fail
 go_end0
 exact ⟨rfl, CC3.out.rl, CC3.out.fr⟩
set_option maxRecDepth 100000 in
set_option maxHeartbeats 2000000 in
theorem stmt_17_ok (hop : x.op = 17) (e1 : (((kidsOf ts i).length : Int) == 0) = true) (hli : likeB x 0 0 0 = true) :
  Calls Try.prog 139 #[.pointer (some ⟨kb, 0, none⟩), .int .i64 i] w fun e w' => e = .returned (.tuple #[]) ∧ (RL w' B kb (.slice (some ⟨tb, toff, none⟩) ts.length cap) vars ⟨slots, seen, false⟩) ∧ Frm B [150, 40, 152] w w' := by
 obtain ⟨c0, c1, c2, c3, c4, c5, c6⟩ := hn.all hx
 obtain ⟨k0, k3, kf⟩ := h.cells
 simp only at k3
 obtain ⟨hB, hks⟩ := h.size
 have hki := kids13_start B kb tb toff cap ts i x vars ⟨slots, seen, false⟩ w h hn htb hi hl
 obtain ⟨n, hnk⟩ : ∃ n, (kidsOf ts i).length = n := ⟨_, rfl⟩
 rw [hnk] at hki
 have HKI := Lh hki
 have HNK := Lh hnk
 have HX := Lh hx
 have HS := Lh hs
 have HBE := Lh hbe
 have HT := Lh htxt
 have H := Lh h
 have hop2 := hop
 have q11 : (x.op == 11) = false := beq_false_of (by omega)
 have q12 : (x.op == 12) = false := beq_false_of (by omega)
 have q13 : (x.op == 13) = false := beq_false_of (by omega)
 have q14 : (x.op == 14) = false := beq_false_of (by omega)
 have q15 : (x.op == 15) = false := beq_false_of (by omega)
 have q16 : (x.op == 16) = false := beq_false_of (by omega)
 have q17 : (x.op == 17) = true := beq_true_of hop
 clear hop hop2
 rw [hnk] at e1
 have HLI := Lh hli
 clear hli
 clear h hn hki hx hs hbe htxt
 go_enter Try.func139, Try.ntmps139
 go_wp2_with fail
 refine HKI.out.mono ?_
 rintro e w1 ⟨A, c, base, rfl, C1⟩
 obtain ⟨e0, e3, ef, d0, d2, d3⟩ := C1.cells
 have CC1 := Lh C1
 have hz1 := C1.rl.size
 clear C1
 go_wp2_with fail
 refine (must13_yes B kb _ vars ⟨slots, seen, false⟩ _ (CC1.out).rl).mono ?_
 rintro e w2 ⟨rfl, h2, f2⟩
 have CC2 := Lh ((CC1.out).step (by simp) h2 f2)
 clear h2 f2 e0 e3 ef d0 d2 d3
 obtain ⟨e0, e3, ef, d0, d2, d3⟩ := CC2.out.cells
 go_wp2_with fail
 refine (plain13_yes B kb tb toff cap ts ⟨slots, seen, false⟩ vars i x 0 0 0 _ HLI.out (CC2.out).rl HX.out (CC2.out).nodes hl).mono ?_
 rintro e w3 ⟨rfl, h3, f3⟩
 have CC3 := Lh ((CC2.out).step (by simp) h3 f3)
 clear h3 f3 e0 e3 ef d0 d2 d3
 obtain ⟨e0, e3, ef, d0, d2, d3⟩ := CC3.out.cells
 go_wp2_with fail
 go_end0
 exact ⟨rfl, CC3.out.rl, CC3.out.fr⟩
set_option maxRecDepth 100000 in
set_option maxHeartbeats 2000000 in
theorem stmt_18_ok (hop : x.op = 18) (e1 : (((kidsOf ts i).length : Int) == 0) = true) (hli : likeB x 0 0 0 = true) :
  Calls Try.prog 139 #[.pointer (some ⟨kb, 0, none⟩), .int .i64 i] w fun e w' => e = .returned (.tuple #[]) ∧ (RL w' B kb (.slice (some ⟨tb, toff, none⟩) ts.length cap) vars ⟨slots, seen, false⟩) ∧ Frm B [150, 40, 152] w w' := by
 obtain ⟨c0, c1, c2, c3, c4, c5, c6⟩ := hn.all hx
 obtain ⟨k0, k3, kf⟩ := h.cells
 simp only at k3
 obtain ⟨hB, hks⟩ := h.size
 have hki := kids13_start B kb tb toff cap ts i x vars ⟨slots, seen, false⟩ w h hn htb hi hl
 obtain ⟨n, hnk⟩ : ∃ n, (kidsOf ts i).length = n := ⟨_, rfl⟩
 rw [hnk] at hki
 have HKI := Lh hki
 have HNK := Lh hnk
 have HX := Lh hx
 have HS := Lh hs
 have HBE := Lh hbe
 have HT := Lh htxt
 have H := Lh h
 have hop2 := hop
 have q11 : (x.op == 11) = false := beq_false_of (by omega)
 have q12 : (x.op == 12) = false := beq_false_of (by omega)
 have q13 : (x.op == 13) = false := beq_false_of (by omega)
 have q14 : (x.op == 14) = false := beq_false_of (by omega)
 have q15 : (x.op == 15) = false := beq_false_of (by omega)
 have q16 : (x.op == 16) = false := beq_false_of (by omega)
 have q17 : (x.op == 17) = false := beq_false_of (by omega)
 have q18 : (x.op == 18) = true := beq_true_of hop
 clear hop hop2
 rw [hnk] at e1
 have HLI := Lh hli
 clear hli
 clear h hn hki hx hs hbe htxt
 go_enter Try.func139, Try.ntmps139
 go_wp2_with fail
 refine HKI.out.mono ?_
 rintro e w1 ⟨A, c, base, rfl, C1⟩
 obtain ⟨e0, e3, ef, d0, d2, d3⟩ := C1.cells
 have CC1 := Lh C1
 have hz1 := C1.rl.size
 clear C1
 go_wp2_with fail
 refine (must13_yes B kb _ vars ⟨slots, seen, false⟩ _ (CC1.out).rl).mono ?_
 rintro e w2 ⟨rfl, h2, f2⟩
 have CC2 := Lh ((CC1.out).step (by simp) h2 f2)
 clear h2 f2 e0 e3 ef d0 d2 d3
 obtain ⟨e0, e3, ef, d0, d2, d3⟩ := CC2.out.cells
 go_wp2_with fail
 refine (plain13_yes B kb tb toff cap ts ⟨slots, seen, false⟩ vars i x 0 0 0 _ HLI.out (CC2.out).rl HX.out (CC2.out).nodes hl).mono ?_
 rintro e w3 ⟨rfl, h3, f3⟩
 have CC3 := Lh ((CC2.out).step (by simp) h3 f3)
 clear h3 f3 e0 e3 ef d0 d2 d3
 obtain ⟨e0, e3, ef, d0, d2, d3⟩ := CC3.out.cells
 go_wp2_with fail
 go_end0
 exact ⟨rfl, CC3.out.rl, CC3.out.fr⟩
end
end Go.Proofs.Ytggibiodeecljaa
namespace Go.Proofs.Ytggibiodeecljaa
open Go.RowKit
set_option linter.unusedVariables false
section
variable (B kb tb toff cap : Nat) (ts : List Node) (htb : tb < B) (hl : ts.length ≤ 2000) (htxt : ∀ y ∈ ts, y.text.size ≤ 1099511627776) (i : Nat) (x : Node) (hi : i < ts.length) (hbe : 0 ≤ behind ts i) (hx : ts[i]? = some x) (vars : List Vr) (slots : List Int) (seen : Int → Option Value) (w : World) (hs : slots.length ≤ 2 + 3 * i) (h : RL w B kb (.slice (some ⟨tb, toff, none⟩) ts.length cap) vars ⟨slots, seen, false⟩) (hn : NodesAt w tb toff ts)
include htb hl htxt hi hbe hx hs h hn
set_option maxRecDepth 100000 in
set_option maxHeartbeats 2000000 in
theorem stmt_let13 (hop : x.op = 11) (hli : likeB x 0 x.n 0 = true) (j : Nat) (hj : kidsOf ts i = [j]) :
  Calls Try.prog 139 #[.pointer (some ⟨kb, 0, none⟩), .int .i64 i] w fun e w' => e = .returned (.tuple #[]) ∧ (∃ ext, RL w' B kb (.slice (some ⟨tb, toff, none⟩) ts.length cap) (vars ++ ext) (declareF x.n true [(exprS ts ⟨slots, seen, false⟩ j false).1] (highF ((exprS ts ⟨slots, seen, false⟩ j false).2.1, (exprS ts ⟨slots, seen, false⟩ j false).2.2) ⟨slots, seen, false⟩)) ∧ (∀ v ∈ ext, (slots.length : Int) ≤ v.slot) ∧ ((declareF x.n true [(exprS ts ⟨slots, seen, false⟩ j false).1] (highF ((exprS ts ⟨slots, seen, false⟩ j false).2.1, (exprS ts ⟨slots, seen, false⟩ j false).2.2) ⟨slots, seen, false⟩)).bad = false → ext.map Vr.slot = [x.n])) ∧ Frm B [150, 40, 152] w w' := by
 have h0 := h
 obtain ⟨c0, c1, c2, c3, c4, c5, c6⟩ := hn.all hx
 obtain ⟨k0, k3, kf⟩ := h.cells
 simp only at k3
 obtain ⟨hB, hks⟩ := h.size
 have hki := kids13_start B kb tb toff cap ts i x vars ⟨slots, seen, false⟩ w h hn htb hi hl
 have hnk : (kidsOf ts i).length = 1 := by rw [hj]; rfl
 rw [hnk] at hki
 have HJ0 : Hid ((kidsOf ts i)[0]? = some j) := by rw [hj]; rfl
 have hko0 := kidsOf_ok (ts := ts) (i := i) (j := j) (by rw [hj]; simp)
 have HKO0 := Lh hko0
 clear hko0
 have HKI := Lh hki
 have HNK := Lh hnk
 have HX := Lh hx
 have HS := Lh hs
 have HBE := Lh hbe
 have HT := Lh htxt
 have H := Lh h
 have HJ := Lh hj
 clear hj
 have hop2 := hop
 have q11 : (x.op == 11) = true := beq_true_of hop
 clear hop hop2
 have HLI := Lh hli
 clear hli
 have HI := Lh h0.good.2
 obtain ⟨E, hE⟩ : ∃ E, E = exprS ts ⟨slots, seen, false⟩ j false := ⟨_, rfl⟩
 rw [← hE]
 have hex := fun (wx : World) h1 h2 => expr13_rl B kb tb toff cap ts (by omega) htb HT.out j slots vars seen wx HKO0.out.2.1 HKO0.out.2.2.1 (Nat.le_trans HS.out (by omega)) h1 h2
 rw [← hE] at hex
 have HEX := Lh hex
 clear hex h0 hE
 clear h hn hki hx hs hbe htxt hnk
 go_enter Try.func139, Try.ntmps139
 go_wp2_with fail
 refine HKI.out.mono ?_
 rintro e w1 ⟨A, c, base, rfl, C1⟩
 obtain ⟨gk, rfl⟩ := C1.form (by decide)
 obtain ⟨e0, e3, ef, d0, d2, d3⟩ := C1.cells
 have g0 := C1.kid 0 j HJ0.out
 have CC1 := Lh C1
 have hz1 := C1.rl.size
 clear C1
 go_wp2_with fail
 refine (must13_yes B kb _ vars ⟨slots, seen, false⟩ _ (CC1.out).rl).mono ?_
 rintro e w2 ⟨rfl, h2, f2⟩
 have CC2 := Lh ((CC1.out).step (by simp) h2 f2)
 clear h2 f2 e0 e3 ef d0 d2 d3
 obtain ⟨e0, e3, ef, d0, d2, d3⟩ := CC2.out.cells
 clear g0
 have g0 := CC2.out.kid 0 j HJ0.out
 go_wp2_with fail
 refine (plain13_yes B kb tb toff cap ts ⟨slots, seen, false⟩ vars i x 0 x.n 0 _ HLI.out (CC2.out).rl HX.out (CC2.out).nodes hl).mono ?_
 rintro e w3 ⟨rfl, h3, f3⟩
 have CC3 := Lh ((CC2.out).step (by simp) h3 f3)
 clear h3 f3 e0 e3 ef d0 d2 d3
 obtain ⟨e0, e3, ef, d0, d2, d3⟩ := CC3.out.cells
 clear g0
 have g0 := CC3.out.kid 0 j HJ0.out
 go_wp2_with fail
 refine (HEX.out _ CC3.out.rl CC3.out.nodes).mono ?_
 rintro e w4 ⟨kd, hh, rfl, hh0, hh1, hrk, f4, hgood⟩
 have HGO := Lh hgood
 have CC4 := Lh (CC3.out.step (by simp) (RL.of hrk HI.out) f4)
 clear hrk f4 hgood e0 e3 ef d0 d2 d3 g0
 obtain ⟨e0, e3, ef, d0, d2, d3⟩ := CC4.out.cells
 have g0 := CC4.out.kid 0 j HJ0.out
 go_wp2_with fail
 refine (low13_rl B kb _ vars _ hh _ CC4.out.rl).mono ?_
 rintro e w5 ⟨rfl, h5, f5⟩
 have CC5 := Lh ((CC4.out).step (by simp) h5 f5)
 clear h5 f5 e0 e3 ef d0 d2 d3
 obtain ⟨e0, e3, ef, d0, d2, d3⟩ := CC5.out.cells
 clear g0
 have g0 := CC5.out.kid 0 j HJ0.out
 go_wp2_with fail
 have hse : ({ (⟨slots, seen, E.2.2⟩ : LSt) with bad := E.2.2 || !(decide (hh ≤ 256)) } : LSt) = highF (E.2.1, E.2.2) ⟨slots, seen, false⟩ := by
  unfold highF
  simp only
  cases hb : E.2.2 with
  | true => simp
  | false => rw [(HGO.out hb).2]
 have C5 := CC5.out
 change St13 B kb tb toff cap ts i x _ _ _ _ _ _ vars { (⟨slots, seen, E.2.2⟩ : LSt) with bad := E.2.2 || !(decide (hh ≤ 256)) } w5 at C5
 rw [hse] at C5
 have CC5b := Lh C5
 clear C5 hse
 refine (declare13_any B kb x.n true [kd] w5.heap.size 1 (highF (E.2.1, E.2.2) ⟨slots, seen, false⟩) vars _ _ (Nat.le_trans HS.out (by omega)) (by simp) (by simp) (CC5b.out.alloc _).rl (Blk.new w5 40 #[.int .i8 kd]) (by simp)).mono ?_
 rintro e w6 ⟨rfl, h6, f6⟩
 have CC6 := Lh ((CC5b.out.alloc _).step (by simp) h6 f6)
 clear h6 f6 e0 e3 ef d0 d2 d3
 obtain ⟨e0, e3, ef, d0, d2, d3⟩ := CC6.out.cells
 clear g0
 have g0 := CC6.out.kid 0 j HJ0.out
 go_wp2_with fail
 go_end0
 have hde : declareF x.n true [kd] (highF (E.2.1, E.2.2) ⟨slots, seen, false⟩) = declareF x.n true [E.1] (highF (E.2.1, E.2.2) ⟨slots, seen, false⟩) := by
  cases hb : E.2.2 with
  | true => simp [declareF, highF]
  | false => rw [(HGO.out hb).1]
 have hrl := CC6.out.rl
 refine ⟨rfl, ⟨extF x.n true [kd] (highF (E.2.1, E.2.2) ⟨slots, seen, false⟩), by rw [← hde]; exact hrl, fun v hv => extF_ge hv, fun hb => extF_map (by rw [hde]; exact hb)⟩, CC6.out.fr⟩
end
end Go.Proofs.Ytggibiodeecljaa
