/- The reference's looker: loop, its ways that are bad. Written by gen_stmt13.py. The reference's looker: loop: each. Written by gen_stmt13.py. -/
import Derived.Test.YtggibiodeecljaaMBlk13
namespace Go.Proofs.Ytggibiodeecljaa
open Go.RowKit
set_option linter.unusedVariables false
section
variable (B kb tb toff cap : Nat) (ts : List Node) (htb : tb < B) (hl : ts.length ≤ 2000) (htxt : ∀ y ∈ ts, y.text.size ≤ 1099511627776) (i : Nat) (x : Node) (hi : i < ts.length) (hbe : 0 ≤ behind ts i) (hx : ts[i]? = some x) (vars : List Vr) (slots : List Int) (seen : Int → Option Value) (w : World) (hs : slots.length ≤ 2 + 3 * i) (h : RL w B kb (.slice (some ⟨tb, toff, none⟩) ts.length cap) vars ⟨slots, seen, false⟩) (hn : NodesAt w tb toff ts)
include htb hl htxt hi hbe hx hs h hn
set_option maxRecDepth 100000 in
set_option maxHeartbeats 2000000 in
theorem loop_15_no1 (hop : x.op = 15) (e1 : (((kidsOf ts i).length : Int) == 2) = false) :
  Calls Try.prog 170 #[.pointer (some ⟨kb, 0, none⟩), .int .i64 i] w fun e w' => e = .returned (.tuple #[]) ∧ (RL w' B kb (.slice (some ⟨tb, toff, none⟩) ts.length cap) vars ⟨slots, seen, true⟩) ∧ Frm B [150, 40, 152] w w' := by
 obtain ⟨c0, c1, c2, c3, c4, c5, c6⟩ := hn.all hx
 obtain ⟨k0, k3, kf⟩ := h.cells
 simp only at k3
 obtain ⟨hB, hks⟩ := h.size
 have hki := kids13_start B kb tb toff cap ts i x vars ⟨slots, seen, false⟩ w h hn htb hi hl
 obtain ⟨n, hnk⟩ : ∃ n, (kidsOf ts i).length = n := ⟨_, rfl⟩
 rw [hnk] at hki
 have HKI := Lh hki
 have HNK := Lh hnk
 have HX := Lh hx
 have HS := Lh hs
 have HBE := Lh hbe
 have HT := Lh htxt
 have H := Lh h
 have hop2 := hop
 have q14 : (x.op == 14) = false := beq_false_of (by omega)
 have q15 : (x.op == 15) = true := beq_true_of hop
 clear hop hop2
 rw [hnk] at e1
 clear h hn hki hx hs hbe htxt
 go_enter Try.func170, Try.ntmps170
 go_wp2_with fail
 refine HKI.out.mono ?_
 rintro e w1 ⟨A, c, base, rfl, C1⟩
 obtain ⟨e0, e3, ef, d0, d2, d3⟩ := C1.cells
 obtain ⟨Av1, cv1, kv1, kw1, hcv1, hcm1⟩ := C1.rl.varsCell
 have CC1 := Lh C1
 have hz1 := C1.rl.size
 clear C1
 go_wp2_with fail
 refine (must13_no B kb _ vars ⟨slots, seen, false⟩ _ _ (CC1.out).rl (.inl rfl)).mono ?_
 rintro e w2 ⟨rfl, h2, f2⟩
 have CC2 := Lh ((CC1.out).step (by simp) h2 f2)
 clear h2 f2 e0 e3 ef d0 d2 d3
 obtain ⟨e0, e3, ef, d0, d2, d3⟩ := CC2.out.cells
 go_wp2_with fail
 refine (plain13_no B kb tb toff cap ts ⟨slots, seen, true⟩ vars i x 0 x.n x.m _ (.inr rfl) (CC2.out).rl HX.out (CC2.out).nodes hl).mono ?_
 rintro e w3 ⟨rfl, h3, f3⟩
 have CC3 := Lh ((CC2.out).step (by simp) h3 f3)
 clear h3 f3 e0 e3 ef d0 d2 d3
 obtain ⟨e0, e3, ef, d0, d2, d3⟩ := CC3.out.cells
 have e3 : w3.cell? ⟨kb, 3, none⟩ = some (.bool true) := e3
 go_wp2_with fail
 refine bodyPost_ret (results_none rfl _ _ _) rfl ?_
 exact ⟨rfl, CC3.out.rl, CC3.out.fr⟩
set_option maxRecDepth 100000 in
set_option maxHeartbeats 2000000 in
theorem loop_15_no2 (hop : x.op = 15) (e1 : (((kidsOf ts i).length : Int) == 2) = true) (dd1 : decide (0 ≤ x.n) = false) :
  Calls Try.prog 170 #[.pointer (some ⟨kb, 0, none⟩), .int .i64 i] w fun e w' => e = .returned (.tuple #[]) ∧ (RL w' B kb (.slice (some ⟨tb, toff, none⟩) ts.length cap) vars ⟨slots, seen, true⟩) ∧ Frm B [150, 40, 152] w w' := by
 obtain ⟨c0, c1, c2, c3, c4, c5, c6⟩ := hn.all hx
 obtain ⟨k0, k3, kf⟩ := h.cells
 simp only at k3
 obtain ⟨hB, hks⟩ := h.size
 have hki := kids13_start B kb tb toff cap ts i x vars ⟨slots, seen, false⟩ w h hn htb hi hl
 obtain ⟨n, hnk⟩ : ∃ n, (kidsOf ts i).length = n := ⟨_, rfl⟩
 rw [hnk] at hki
 have HKI := Lh hki
 have HNK := Lh hnk
 have HX := Lh hx
 have HS := Lh hs
 have HBE := Lh hbe
 have HT := Lh htxt
 have H := Lh h
 have hop2 := hop
 have q14 : (x.op == 14) = false := beq_false_of (by omega)
 have q15 : (x.op == 15) = true := beq_true_of hop
 clear hop hop2
 rw [hnk] at e1
 clear h hn hki hx hs hbe htxt
 go_enter Try.func170, Try.ntmps170
 go_wp2_with fail
 refine HKI.out.mono ?_
 rintro e w1 ⟨A, c, base, rfl, C1⟩
 obtain ⟨e0, e3, ef, d0, d2, d3⟩ := C1.cells
 obtain ⟨Av1, cv1, kv1, kw1, hcv1, hcm1⟩ := C1.rl.varsCell
 have CC1 := Lh C1
 have hz1 := C1.rl.size
 clear C1
 go_wp2_with fail
 refine (must13_no B kb _ vars ⟨slots, seen, false⟩ _ _ (CC1.out).rl (.inl rfl)).mono ?_
 rintro e w2 ⟨rfl, h2, f2⟩
 have CC2 := Lh ((CC1.out).step (by simp) h2 f2)
 clear h2 f2 e0 e3 ef d0 d2 d3
 obtain ⟨e0, e3, ef, d0, d2, d3⟩ := CC2.out.cells
 go_wp2_with fail
 refine (plain13_no B kb tb toff cap ts ⟨slots, seen, true⟩ vars i x 0 x.n x.m _ (.inr rfl) (CC2.out).rl HX.out (CC2.out).nodes hl).mono ?_
 rintro e w3 ⟨rfl, h3, f3⟩
 have CC3 := Lh ((CC2.out).step (by simp) h3 f3)
 clear h3 f3 e0 e3 ef d0 d2 d3
 obtain ⟨e0, e3, ef, d0, d2, d3⟩ := CC3.out.cells
 have e3 : w3.cell? ⟨kb, 3, none⟩ = some (.bool true) := e3
 go_wp2_with fail
 refine bodyPost_ret (results_none rfl _ _ _) rfl ?_
 exact ⟨rfl, CC3.out.rl, CC3.out.fr⟩
set_option maxRecDepth 100000 in
set_option maxHeartbeats 2000000 in
theorem loop_15_no3 (hop : x.op = 15) (e1 : (((kidsOf ts i).length : Int) == 2) = true) (dd1 : decide (0 ≤ x.n) = true) (dd3 : (x.m == wrap64 (x.n + 1)) = false) :
  Calls Try.prog 170 #[.pointer (some ⟨kb, 0, none⟩), .int .i64 i] w fun e w' => e = .returned (.tuple #[]) ∧ (RL w' B kb (.slice (some ⟨tb, toff, none⟩) ts.length cap) vars ⟨slots, seen, true⟩) ∧ Frm B [150, 40, 152] w w' := by
 obtain ⟨c0, c1, c2, c3, c4, c5, c6⟩ := hn.all hx
 obtain ⟨k0, k3, kf⟩ := h.cells
 simp only at k3
 obtain ⟨hB, hks⟩ := h.size
 have hki := kids13_start B kb tb toff cap ts i x vars ⟨slots, seen, false⟩ w h hn htb hi hl
 obtain ⟨n, hnk⟩ : ∃ n, (kidsOf ts i).length = n := ⟨_, rfl⟩
 rw [hnk] at hki
 have HKI := Lh hki
 have HNK := Lh hnk
 have HX := Lh hx
 have HS := Lh hs
 have HBE := Lh hbe
 have HT := Lh htxt
 have H := Lh h
 have hop2 := hop
 have q14 : (x.op == 14) = false := beq_false_of (by omega)
 have q15 : (x.op == 15) = true := beq_true_of hop
 clear hop hop2
 rw [hnk] at e1
 clear h hn hki hx hs hbe htxt
 go_enter Try.func170, Try.ntmps170
 go_wp2_with fail
 refine HKI.out.mono ?_
 rintro e w1 ⟨A, c, base, rfl, C1⟩
 obtain ⟨e0, e3, ef, d0, d2, d3⟩ := C1.cells
 obtain ⟨Av1, cv1, kv1, kw1, hcv1, hcm1⟩ := C1.rl.varsCell
 have CC1 := Lh C1
 have hz1 := C1.rl.size
 clear C1
 go_wp2_with fail
 refine (must13_no B kb _ vars ⟨slots, seen, false⟩ _ _ (CC1.out).rl (.inl rfl)).mono ?_
 rintro e w2 ⟨rfl, h2, f2⟩
 have CC2 := Lh ((CC1.out).step (by simp) h2 f2)
 clear h2 f2 e0 e3 ef d0 d2 d3
 obtain ⟨e0, e3, ef, d0, d2, d3⟩ := CC2.out.cells
 go_wp2_with fail
 refine (plain13_no B kb tb toff cap ts ⟨slots, seen, true⟩ vars i x 0 x.n x.m _ (.inr rfl) (CC2.out).rl HX.out (CC2.out).nodes hl).mono ?_
 rintro e w3 ⟨rfl, h3, f3⟩
 have CC3 := Lh ((CC2.out).step (by simp) h3 f3)
 clear h3 f3 e0 e3 ef d0 d2 d3
 obtain ⟨e0, e3, ef, d0, d2, d3⟩ := CC3.out.cells
 have e3 : w3.cell? ⟨kb, 3, none⟩ = some (.bool true) := e3
 go_wp2_with fail
 refine bodyPost_ret (results_none rfl _ _ _) rfl ?_
 exact ⟨rfl, CC3.out.rl, CC3.out.fr⟩
set_option maxRecDepth 100000 in
set_option maxHeartbeats 2000000 in
theorem loop_15_like (hop : x.op = 15) (e1 : (((kidsOf ts i).length : Int) == 2) = true) (dd1 : decide (0 ≤ x.n) = true) (dd3 : (x.m == wrap64 (x.n + 1)) = true) (hli : likeB x 0 x.n x.m = false) :
  Calls Try.prog 170 #[.pointer (some ⟨kb, 0, none⟩), .int .i64 i] w fun e w' => e = .returned (.tuple #[]) ∧ (RL w' B kb (.slice (some ⟨tb, toff, none⟩) ts.length cap) vars ⟨slots, seen, true⟩) ∧ Frm B [150, 40, 152] w w' := by
 obtain ⟨c0, c1, c2, c3, c4, c5, c6⟩ := hn.all hx
 obtain ⟨k0, k3, kf⟩ := h.cells
 simp only at k3
 obtain ⟨hB, hks⟩ := h.size
 have hki := kids13_start B kb tb toff cap ts i x vars ⟨slots, seen, false⟩ w h hn htb hi hl
 obtain ⟨n, hnk⟩ : ∃ n, (kidsOf ts i).length = n := ⟨_, rfl⟩
 rw [hnk] at hki
 have HKI := Lh hki
 have HNK := Lh hnk
 have HX := Lh hx
 have HS := Lh hs
 have HBE := Lh hbe
 have HT := Lh htxt
 have H := Lh h
 have hop2 := hop
 have q14 : (x.op == 14) = false := beq_false_of (by omega)
 have q15 : (x.op == 15) = true := beq_true_of hop
 clear hop hop2
 rw [hnk] at e1
 have HLI := Lh hli
 clear hli
 clear h hn hki hx hs hbe htxt
 go_enter Try.func170, Try.ntmps170
 go_wp2_with fail
 refine HKI.out.mono ?_
 rintro e w1 ⟨A, c, base, rfl, C1⟩
 obtain ⟨e0, e3, ef, d0, d2, d3⟩ := C1.cells
 obtain ⟨Av1, cv1, kv1, kw1, hcv1, hcm1⟩ := C1.rl.varsCell
 have CC1 := Lh C1
 have hz1 := C1.rl.size
 clear C1
 go_wp2_with fail
 refine (must13_yes B kb _ vars ⟨slots, seen, false⟩ _ (CC1.out).rl).mono ?_
 rintro e w2 ⟨rfl, h2, f2⟩
 have CC2 := Lh ((CC1.out).step (by simp) h2 f2)
 clear h2 f2 e0 e3 ef d0 d2 d3
 obtain ⟨e0, e3, ef, d0, d2, d3⟩ := CC2.out.cells
 go_wp2_with fail
 refine (plain13_no B kb tb toff cap ts ⟨slots, seen, false⟩ vars i x 0 x.n x.m _ (.inl HLI.out) (CC2.out).rl HX.out (CC2.out).nodes hl).mono ?_
 rintro e w3 ⟨rfl, h3, f3⟩
 have CC3 := Lh ((CC2.out).step (by simp) h3 f3)
 clear h3 f3 e0 e3 ef d0 d2 d3
 obtain ⟨e0, e3, ef, d0, d2, d3⟩ := CC3.out.cells
 have e3 : w3.cell? ⟨kb, 3, none⟩ = some (.bool true) := e3
 go_wp2_with fail
 refine bodyPost_ret (results_none rfl _ _ _) rfl ?_
 exact ⟨rfl, CC3.out.rl, CC3.out.fr⟩
set_option maxRecDepth 100000 in
set_option maxHeartbeats 2000000 in
theorem loop_16_no1 (hop : x.op = 16) (e1 : (((kidsOf ts i).length : Int) == 2) = false) (e2 : (((kidsOf ts i).length : Int) == 3) = false) :
  Calls Try.prog 170 #[.pointer (some ⟨kb, 0, none⟩), .int .i64 i] w fun e w' => e = .returned (.tuple #[]) ∧ (RL w' B kb (.slice (some ⟨tb, toff, none⟩) ts.length cap) vars ⟨slots, seen, true⟩) ∧ Frm B [150, 40, 152] w w' := by
 obtain ⟨c0, c1, c2, c3, c4, c5, c6⟩ := hn.all hx
 obtain ⟨k0, k3, kf⟩ := h.cells
 simp only at k3
 obtain ⟨hB, hks⟩ := h.size
 have hki := kids13_start B kb tb toff cap ts i x vars ⟨slots, seen, false⟩ w h hn htb hi hl
 obtain ⟨n, hnk⟩ : ∃ n, (kidsOf ts i).length = n := ⟨_, rfl⟩
 rw [hnk] at hki
 have HKI := Lh hki
 have HNK := Lh hnk
 have HX := Lh hx
 have HS := Lh hs
 have HBE := Lh hbe
 have HT := Lh htxt
 have H := Lh h
 have hop2 := hop
 have q14 : (x.op == 14) = false := beq_false_of (by omega)
 have q15 : (x.op == 15) = false := beq_false_of (by omega)
 have q16 : (x.op == 16) = true := beq_true_of hop
 clear hop hop2
 rw [hnk] at e1
 rw [hnk] at e2
 clear h hn hki hx hs hbe htxt
 go_enter Try.func170, Try.ntmps170
 go_wp2_with fail
 refine HKI.out.mono ?_
 rintro e w1 ⟨A, c, base, rfl, C1⟩
 obtain ⟨e0, e3, ef, d0, d2, d3⟩ := C1.cells
 obtain ⟨Av1, cv1, kv1, kw1, hcv1, hcm1⟩ := C1.rl.varsCell
 have CC1 := Lh C1
 have hz1 := C1.rl.size
 clear C1
 go_wp2_with fail
 refine (must13_no B kb _ vars ⟨slots, seen, false⟩ _ _ (CC1.out).rl (.inl rfl)).mono ?_
 rintro e w2 ⟨rfl, h2, f2⟩
 have CC2 := Lh ((CC1.out).step (by simp) h2 f2)
 clear h2 f2 e0 e3 ef d0 d2 d3
 obtain ⟨e0, e3, ef, d0, d2, d3⟩ := CC2.out.cells
 go_wp2_with fail
 refine (plain13_no B kb tb toff cap ts ⟨slots, seen, true⟩ vars i x 0 x.n 0 _ (.inr rfl) (CC2.out).rl HX.out (CC2.out).nodes hl).mono ?_
 rintro e w3 ⟨rfl, h3, f3⟩
 have CC3 := Lh ((CC2.out).step (by simp) h3 f3)
 clear h3 f3 e0 e3 ef d0 d2 d3
 obtain ⟨e0, e3, ef, d0, d2, d3⟩ := CC3.out.cells
 have e3 : w3.cell? ⟨kb, 3, none⟩ = some (.bool true) := e3
 go_wp2_with fail
 refine bodyPost_ret (results_none rfl _ _ _) rfl ?_
 exact ⟨rfl, CC3.out.rl, CC3.out.fr⟩
set_option maxRecDepth 100000 in
set_option maxHeartbeats 2000000 in
theorem loop_16_like (hop : x.op = 16) (e1 : (((kidsOf ts i).length : Int) == 2) = true) (hli : likeB x 0 x.n 0 = false) :
  Calls Try.prog 170 #[.pointer (some ⟨kb, 0, none⟩), .int .i64 i] w fun e w' => e = .returned (.tuple #[]) ∧ (RL w' B kb (.slice (some ⟨tb, toff, none⟩) ts.length cap) vars ⟨slots, seen, true⟩) ∧ Frm B [150, 40, 152] w w' := by
 obtain ⟨c0, c1, c2, c3, c4, c5, c6⟩ := hn.all hx
 obtain ⟨k0, k3, kf⟩ := h.cells
 simp only at k3
 obtain ⟨hB, hks⟩ := h.size
 have hki := kids13_start B kb tb toff cap ts i x vars ⟨slots, seen, false⟩ w h hn htb hi hl
 obtain ⟨n, hnk⟩ : ∃ n, (kidsOf ts i).length = n := ⟨_, rfl⟩
 rw [hnk] at hki
 have HKI := Lh hki
 have HNK := Lh hnk
 have HX := Lh hx
 have HS := Lh hs
 have HBE := Lh hbe
 have HT := Lh htxt
 have H := Lh h
 have hop2 := hop
 have q14 : (x.op == 14) = false := beq_false_of (by omega)
 have q15 : (x.op == 15) = false := beq_false_of (by omega)
 have q16 : (x.op == 16) = true := beq_true_of hop
 clear hop hop2
 rw [hnk] at e1
 have HLI := Lh hli
 clear hli
 clear h hn hki hx hs hbe htxt
 go_enter Try.func170, Try.ntmps170
 go_wp2_with fail
 refine HKI.out.mono ?_
 rintro e w1 ⟨A, c, base, rfl, C1⟩
 obtain ⟨e0, e3, ef, d0, d2, d3⟩ := C1.cells
 obtain ⟨Av1, cv1, kv1, kw1, hcv1, hcm1⟩ := C1.rl.varsCell
 have CC1 := Lh C1
 have hz1 := C1.rl.size
 clear C1
 go_wp2_with fail
 refine (must13_yes B kb _ vars ⟨slots, seen, false⟩ _ (CC1.out).rl).mono ?_
 rintro e w2 ⟨rfl, h2, f2⟩
 have CC2 := Lh ((CC1.out).step (by simp) h2 f2)
 clear h2 f2 e0 e3 ef d0 d2 d3
 obtain ⟨e0, e3, ef, d0, d2, d3⟩ := CC2.out.cells
 go_wp2_with fail
 refine (plain13_no B kb tb toff cap ts ⟨slots, seen, false⟩ vars i x 0 x.n 0 _ (.inl HLI.out) (CC2.out).rl HX.out (CC2.out).nodes hl).mono ?_
 rintro e w3 ⟨rfl, h3, f3⟩
 have CC3 := Lh ((CC2.out).step (by simp) h3 f3)
 clear h3 f3 e0 e3 ef d0 d2 d3
 obtain ⟨e0, e3, ef, d0, d2, d3⟩ := CC3.out.cells
 have e3 : w3.cell? ⟨kb, 3, none⟩ = some (.bool true) := e3
 go_wp2_with fail
 refine bodyPost_ret (results_none rfl _ _ _) rfl ?_
 exact ⟨rfl, CC3.out.rl, CC3.out.fr⟩
set_option maxRecDepth 100000 in
set_option maxHeartbeats 2000000 in
theorem loop_16_like3 (hop : x.op = 16) (e1 : (((kidsOf ts i).length : Int) == 2) = false) (e2 : (((kidsOf ts i).length : Int) == 3) = true) (hli : likeB x 0 x.n 0 = false) :
  Calls Try.prog 170 #[.pointer (some ⟨kb, 0, none⟩), .int .i64 i] w fun e w' => e = .returned (.tuple #[]) ∧ (RL w' B kb (.slice (some ⟨tb, toff, none⟩) ts.length cap) vars ⟨slots, seen, true⟩) ∧ Frm B [150, 40, 152] w w' := by
 obtain ⟨c0, c1, c2, c3, c4, c5, c6⟩ := hn.all hx
 obtain ⟨k0, k3, kf⟩ := h.cells
 simp only at k3
 obtain ⟨hB, hks⟩ := h.size
 have hki := kids13_start B kb tb toff cap ts i x vars ⟨slots, seen, false⟩ w h hn htb hi hl
 obtain ⟨n, hnk⟩ : ∃ n, (kidsOf ts i).length = n := ⟨_, rfl⟩
 rw [hnk] at hki
 have HKI := Lh hki
 have HNK := Lh hnk
 have HX := Lh hx
 have HS := Lh hs
 have HBE := Lh hbe
 have HT := Lh htxt
 have H := Lh h
 have hop2 := hop
 have q14 : (x.op == 14) = false := beq_false_of (by omega)
 have q15 : (x.op == 15) = false := beq_false_of (by omega)
 have q16 : (x.op == 16) = true := beq_true_of hop
 clear hop hop2
 rw [hnk] at e1
 rw [hnk] at e2
 have HLI := Lh hli
 clear hli
 clear h hn hki hx hs hbe htxt
 go_enter Try.func170, Try.ntmps170
 go_wp2_with fail
 refine HKI.out.mono ?_
 rintro e w1 ⟨A, c, base, rfl, C1⟩
 obtain ⟨e0, e3, ef, d0, d2, d3⟩ := C1.cells
 obtain ⟨Av1, cv1, kv1, kw1, hcv1, hcm1⟩ := C1.rl.varsCell
 have CC1 := Lh C1
 have hz1 := C1.rl.size
 clear C1
 go_wp2_with fail
 refine (must13_yes B kb _ vars ⟨slots, seen, false⟩ _ (CC1.out).rl).mono ?_
 rintro e w2 ⟨rfl, h2, f2⟩
 have CC2 := Lh ((CC1.out).step (by simp) h2 f2)
 clear h2 f2 e0 e3 ef d0 d2 d3
 obtain ⟨e0, e3, ef, d0, d2, d3⟩ := CC2.out.cells
 go_wp2_with fail
 refine (plain13_no B kb tb toff cap ts ⟨slots, seen, false⟩ vars i x 0 x.n 0 _ (.inl HLI.out) (CC2.out).rl HX.out (CC2.out).nodes hl).mono ?_
 rintro e w3 ⟨rfl, h3, f3⟩
 have CC3 := Lh ((CC2.out).step (by simp) h3 f3)
 clear h3 f3 e0 e3 ef d0 d2 d3
 obtain ⟨e0, e3, ef, d0, d2, d3⟩ := CC3.out.cells
 have e3 : w3.cell? ⟨kb, 3, none⟩ = some (.bool true) := e3
 go_wp2_with fail
 refine bodyPost_ret (results_none rfl _ _ _) rfl ?_
 exact ⟨rfl, CC3.out.rl, CC3.out.fr⟩
end
end Go.Proofs.Ytggibiodeecljaa
namespace Go.Proofs.Ytggibiodeecljaa
open Go.RowKit
set_option linter.unusedVariables false
section
variable (B kb tb toff cap : Nat) (ts : List Node) (htb : tb < B) (hl : ts.length ≤ 2000) (htxt : ∀ y ∈ ts, y.text.size ≤ 1099511627776) (i : Nat) (x : Node) (hi : i < ts.length) (hbe : 0 ≤ behind ts i) (hx : ts[i]? = some x) (vars : List Vr) (slots : List Int) (seen : Int → Option Value) (w : World) (hs : slots.length ≤ 2 + 3 * i) (h : RL w B kb (.slice (some ⟨tb, toff, none⟩) ts.length cap) vars ⟨slots, seen, false⟩) (hn : NodesAt w tb toff ts)
include htb hl htxt hi hbe hx hs h hn
set_option maxRecDepth 100000 in
set_option maxHeartbeats 2000000 in
theorem loop_each (hop : x.op = 15) (hr1 : decide (0 ≤ x.n) = true) (hw : (x.m == wrap64 (x.n + 1)) = true) (hli : likeB x 0 x.n x.m = true) (j b : Nat) (hj : kidsOf ts i = [j, b]) (recS recB : Nat → LSt → LSt) (hB13 : ∀ j ∈ kidsOf ts i, B13 B kb tb toff cap ts recB j) :
  Calls Try.prog 170 #[.pointer (some ⟨kb, 0, none⟩), .int .i64 i] w fun e w' => e = .returned (.tuple #[]) ∧ (RL w' B kb (.slice (some ⟨tb, toff, none⟩) ts.length cap) vars (forget x.n (blocksF ts recS recB 0 [b] (declareF x.n false [3, 6, 1] (valueF ts j 6 ⟨slots, seen, false⟩))))) ∧ Frm B [150, 40, 152] w w' := by
 have hj0 := hj
 have h0 := h
 obtain ⟨c0, c1, c2, c3, c4, c5, c6⟩ := hn.all hx
 obtain ⟨k0, k3, kf⟩ := h.cells
 simp only at k3
 obtain ⟨hB, hks⟩ := h.size
 have hki := kids13_start B kb tb toff cap ts i x vars ⟨slots, seen, false⟩ w h hn htb hi hl
 have hnk : (kidsOf ts i).length = 2 := by rw [hj]; rfl
 rw [hnk] at hki
 have HJ0 : Hid ((kidsOf ts i)[0]? = some j) := by rw [hj]; rfl
 have hko0 := kidsOf_ok (ts := ts) (i := i) (j := j) (by rw [hj]; simp)
 have HKO0 := Lh hko0
 clear hko0
 have HJ1 : Hid ((kidsOf ts i)[1]? = some b) := by rw [hj]; rfl
 have hko1 := kidsOf_ok (ts := ts) (i := i) (j := b) (by rw [hj]; simp)
 have HKO1 := Lh hko1
 clear hko1
 have HKI := Lh hki
 have HNK := Lh hnk
 have HX := Lh hx
 have HS := Lh hs
 have HBE := Lh hbe
 have HT := Lh htxt
 have H := Lh h
 have HJ := Lh hj
 clear hj
 have hop2 := hop
 have q14 : (x.op == 14) = false := beq_false_of (by omega)
 have q15 : (x.op == 15) = true := beq_true_of hop
 clear hop hop2
 have HLI := Lh hli
 clear hli
 have HEB := Lh (hB13 b (by rw [hj0]; simp))
 have HI := Lh h0.good.2
 have HDL : Hid ((declareF x.n false [3, 6, 1] (valueF ts j 6 ⟨slots, seen, false⟩)).slots.length ≤ slots.length + 3) := Lh (declareF_len x.n false [3, 6, 1] (valueF ts j 6 ⟨slots, seen, false⟩))
 obtain ⟨R, hR⟩ : ∃ R, R = forget x.n (blocksF ts recS recB 0 [b] (declareF x.n false [3, 6, 1] (valueF ts j 6 ⟨slots, seen, false⟩))) := ⟨_, rfl⟩
 rw [← hR]
 have hR2 : R = forget x.n (if (declareF x.n false [3, 6, 1] (valueF ts j 6 ⟨slots, seen, false⟩)).bad = true then declareF x.n false [3, 6, 1] (valueF ts j 6 ⟨slots, seen, false⟩) else recB b (declareF x.n false [3, 6, 1] (valueF ts j 6 ⟨slots, seen, false⟩))) := by
  rw [hR, blocksF, blocksF]
  split
  ·rfl
  ·rw [if_neg (by rintro ⟨h, _⟩; cases h)]
 have HR := Lh hR2
 have HRB : Hid ((declareF x.n false [3, 6, 1] (valueF ts j 6 ⟨slots, seen, false⟩)).bad = true → (forget x.n (if (declareF x.n false [3, 6, 1] (valueF ts j 6 ⟨slots, seen, false⟩)).bad = true then declareF x.n false [3, 6, 1] (valueF ts j 6 ⟨slots, seen, false⟩) else recB b (declareF x.n false [3, 6, 1] (valueF ts j 6 ⟨slots, seen, false⟩)))).bad = true) := fun hb => by rw [if_pos hb]; exact hb
 clear hR hR2 hB13 hj0 h0
 clear h hn hki hx hs hbe htxt hnk
 go_enter Try.func170, Try.ntmps170
 go_wp2_with fail
 refine HKI.out.mono ?_
 rintro e w1 ⟨A, c, base, rfl, C1⟩
 obtain ⟨gk, rfl⟩ := C1.form (by decide)
 obtain ⟨e0, e3, ef, d0, d2, d3⟩ := C1.cells
 obtain ⟨Av1, cv1, kv1, kw1, hcv1, hcm1⟩ := C1.rl.varsCell
 have g0 := C1.kid 0 j HJ0.out
 have g1 := C1.kid 1 b HJ1.out
 have CC1 := Lh C1
 have hz1 := C1.rl.size
 clear C1
 go_wp2_with fail
 refine (must13_yes B kb _ vars ⟨slots, seen, false⟩ _ (CC1.out).rl).mono ?_
 rintro e w2 ⟨rfl, h2, f2⟩
 have CC2 := Lh ((CC1.out).step (by simp) h2 f2)
 clear h2 f2 e0 e3 ef d0 d2 d3
 obtain ⟨e0, e3, ef, d0, d2, d3⟩ := CC2.out.cells
 clear g0
 have g0 := CC2.out.kid 0 j HJ0.out
 clear g1
 have g1 := CC2.out.kid 1 b HJ1.out
 go_wp2_with fail
 refine (plain13_yes B kb tb toff cap ts ⟨slots, seen, false⟩ vars i x 0 x.n x.m _ HLI.out (CC2.out).rl HX.out (CC2.out).nodes hl).mono ?_
 rintro e w3 ⟨rfl, h3, f3⟩
 have CC3 := Lh ((CC2.out).step (by simp) h3 f3)
 clear h3 f3 e0 e3 ef d0 d2 d3
 obtain ⟨e0, e3, ef, d0, d2, d3⟩ := CC3.out.cells
 clear g0
 have g0 := CC3.out.kid 0 j HJ0.out
 clear g1
 have g1 := CC3.out.kid 1 b HJ1.out
 go_wp2_with fail
 refine (value13_any B kb tb toff cap ts (by omega) htb HT.out j 6 slots vars seen _ HKO0.out.2.1 HKO0.out.2.2.1 (Nat.le_trans HS.out (by omega)) (CC3.out).rl (CC3.out).nodes).mono ?_
 rintro e w4 ⟨rfl, h4, f4⟩
 have CC4 := Lh ((CC3.out).step (by simp) h4 f4)
 clear h4 f4 e0 e3 ef d0 d2 d3
 obtain ⟨e0, e3, ef, d0, d2, d3⟩ := CC4.out.cells
 clear g0
 have g0 := CC4.out.kid 0 j HJ0.out
 clear g1
 have g1 := CC4.out.kid 1 b HJ1.out
 go_wp2_with fail
 refine (declare13_any B kb x.n false [3, 6, 1] w4.heap.size 3 (valueF ts j 6 ⟨slots, seen, false⟩) vars _ _ (Nat.le_trans HS.out (by omega)) (by simp) (by simp) ((CC4.out).alloc _).rl (Blk.new w4 40 #[.int .i8 3, .int .i8 6, .int .i8 1]) (by simp)).mono ?_
 rintro e w5 ⟨rfl, h5, f5⟩
 have CC5 := Lh (((CC4.out).alloc _).step (by simp) h5 f5)
 clear h5 f5 e0 e3 ef d0 d2 d3
 obtain ⟨e0, e3, ef, d0, d2, d3⟩ := CC5.out.cells
 clear g0
 have g0 := CC5.out.kid 0 j HJ0.out
 clear g1
 have g1 := CC5.out.kid 1 b HJ1.out
 cases hdb : (declareF x.n false [3, 6, 1] (valueF ts j 6 ⟨slots, seen, false⟩)).bad with
 | true =>
  rw [hdb] at e3
  have HDB := Lh hdb
  clear hdb
  go_wp2_with fail
  refine bodyPost_ret (results_none rfl _ _ _) rfl ?_
  refine ⟨rfl, ?_, CC5.out.fr⟩
  have hr := CC5.out.rl
  rw [extF_bad HDB.out, List.append_nil] at hr
  refine hr.toBad HDB.out ?_
  rw [HR.out]
  exact HRB.out HDB.out
 | false =>
  rw [hdb] at e3
  have HDB := Lh hdb
  clear hdb
  go_wp2_with fail
  refine (HEB.out (vars ++ (extF x.n false [3, 6, 1] (valueF ts j 6 ⟨slots, seen, false⟩))) (declareF x.n false [3, 6, 1] (valueF ts j 6 ⟨slots, seen, false⟩)) _ (fun _ => by have := HDL.out; have := HS.out; have := HKO1.out.1; omega) CC5.out.rl CC5.out.nodes).mono ?_
  rintro e w6 ⟨rfl, h6, f6⟩
  have CC6 := Lh ((CC5.out).step (by simp) h6 f6)
  clear h6 f6 e0 e3 ef d0 d2 d3
  obtain ⟨e0, e3, ef, d0, d2, d3⟩ := CC6.out.cells
  obtain ⟨Av2, cv2, kv2, kw2, hcv2, hcm2⟩ := CC6.out.rl.varsCell
  have hclo := CC6.out.rl.closed (R := R) kv2 (k := slots.length) (fun _ v hv => ((HI.out.lt v hv)).2) (fun v hv => extF_ge hv) (fun hb => by rw [HR.out]; exact hb) (fun hb => by rw [HR.out, forget_eq, extF_map HDB.out])
  have HCLO := Lh hclo
  obtain ⟨ne, hne⟩ : ∃ ne, (vars ++ (extF x.n false [3, 6, 1] (valueF ts j 6 ⟨slots, seen, false⟩))).length = ne := ⟨_, rfl⟩
  have hnve : vars.length ≤ ne := by rw [← hne, List.length_append]; omega
  rw [hne] at kv2 hcv2
  have HNE := Lh hne
  clear hclo hne
  clear g0
  have g0 := CC6.out.kid 0 j HJ0.out
  clear g1
  have g1 := CC6.out.kid 1 b HJ1.out
  go_wp2_with fail
  go_end0
  obtain ⟨g1, g2⟩ := HCLO.out
  exact ⟨rfl, g1, CC6.out.fr.trans (g2.more (by simp))⟩
set_option maxRecDepth 100000 in
set_option maxHeartbeats 2000000 in
theorem loop_choose2 (hop : x.op = 16)  (hli : likeB x 0 x.n 0 = true) (j b : Nat) (hj : kidsOf ts i = [j, b]) (recS recB : Nat → LSt → LSt) (hB13 : ∀ j ∈ kidsOf ts i, B13 B kb tb toff cap ts recB j) :
  Calls Try.prog 170 #[.pointer (some ⟨kb, 0, none⟩), .int .i64 i] w fun e w' => e = .returned (.tuple #[]) ∧ (RL w' B kb (.slice (some ⟨tb, toff, none⟩) ts.length cap) vars (forget x.n (blocksF ts recS recB 0 [b] (declareF x.n false [3] (valueF ts j 6 ⟨slots, seen, false⟩))))) ∧ Frm B [150, 40, 152] w w' := by
 have hj0 := hj
 have h0 := h
 obtain ⟨c0, c1, c2, c3, c4, c5, c6⟩ := hn.all hx
 obtain ⟨k0, k3, kf⟩ := h.cells
 simp only at k3
 obtain ⟨hB, hks⟩ := h.size
 have hki := kids13_start B kb tb toff cap ts i x vars ⟨slots, seen, false⟩ w h hn htb hi hl
 have hnk : (kidsOf ts i).length = 2 := by rw [hj]; rfl
 rw [hnk] at hki
 have HJ0 : Hid ((kidsOf ts i)[0]? = some j) := by rw [hj]; rfl
 have hko0 := kidsOf_ok (ts := ts) (i := i) (j := j) (by rw [hj]; simp)
 have HKO0 := Lh hko0
 clear hko0
 have HJ1 : Hid ((kidsOf ts i)[1]? = some b) := by rw [hj]; rfl
 have hko1 := kidsOf_ok (ts := ts) (i := i) (j := b) (by rw [hj]; simp)
 have HKO1 := Lh hko1
 clear hko1
 have HKI := Lh hki
 have HNK := Lh hnk
 have HX := Lh hx
 have HS := Lh hs
 have HBE := Lh hbe
 have HT := Lh htxt
 have H := Lh h
 have HJ := Lh hj
 clear hj
 have hop2 := hop
 have q14 : (x.op == 14) = false := beq_false_of (by omega)
 have q15 : (x.op == 15) = false := beq_false_of (by omega)
 have q16 : (x.op == 16) = true := beq_true_of hop
 clear hop hop2
 have HLI := Lh hli
 clear hli
 have HEB := Lh (hB13 b (by rw [hj0]; simp))
 have HI := Lh h0.good.2
 have HDL : Hid ((declareF x.n false [3] (valueF ts j 6 ⟨slots, seen, false⟩)).slots.length ≤ slots.length + 1) := Lh (declareF_len x.n false [3] (valueF ts j 6 ⟨slots, seen, false⟩))
 obtain ⟨R, hR⟩ : ∃ R, R = forget x.n (blocksF ts recS recB 0 [b] (declareF x.n false [3] (valueF ts j 6 ⟨slots, seen, false⟩))) := ⟨_, rfl⟩
 rw [← hR]
 have hR2 : R = forget x.n (if (declareF x.n false [3] (valueF ts j 6 ⟨slots, seen, false⟩)).bad = true then declareF x.n false [3] (valueF ts j 6 ⟨slots, seen, false⟩) else recB b (declareF x.n false [3] (valueF ts j 6 ⟨slots, seen, false⟩))) := by
  rw [hR, blocksF, blocksF]
  split
  ·rfl
  ·rw [if_neg (by rintro ⟨h, _⟩; cases h)]
 have HR := Lh hR2
 have HRB : Hid ((declareF x.n false [3] (valueF ts j 6 ⟨slots, seen, false⟩)).bad = true → (forget x.n (if (declareF x.n false [3] (valueF ts j 6 ⟨slots, seen, false⟩)).bad = true then declareF x.n false [3] (valueF ts j 6 ⟨slots, seen, false⟩) else recB b (declareF x.n false [3] (valueF ts j 6 ⟨slots, seen, false⟩)))).bad = true) := fun hb => by rw [if_pos hb]; exact hb
 clear hR hR2 hB13 hj0 h0
 clear h hn hki hx hs hbe htxt hnk
 go_enter Try.func170, Try.ntmps170
 go_wp2_with fail
 refine HKI.out.mono ?_
 rintro e w1 ⟨A, c, base, rfl, C1⟩
 obtain ⟨gk, rfl⟩ := C1.form (by decide)
 obtain ⟨e0, e3, ef, d0, d2, d3⟩ := C1.cells
 obtain ⟨Av1, cv1, kv1, kw1, hcv1, hcm1⟩ := C1.rl.varsCell
 have g0 := C1.kid 0 j HJ0.out
 have g1 := C1.kid 1 b HJ1.out
 have CC1 := Lh C1
 have hz1 := C1.rl.size
 clear C1
 go_wp2_with fail
 refine (must13_yes B kb _ vars ⟨slots, seen, false⟩ _ (CC1.out).rl).mono ?_
 rintro e w2 ⟨rfl, h2, f2⟩
 have CC2 := Lh ((CC1.out).step (by simp) h2 f2)
 clear h2 f2 e0 e3 ef d0 d2 d3
 obtain ⟨e0, e3, ef, d0, d2, d3⟩ := CC2.out.cells
 clear g0
 have g0 := CC2.out.kid 0 j HJ0.out
 clear g1
 have g1 := CC2.out.kid 1 b HJ1.out
 go_wp2_with fail
 refine (plain13_yes B kb tb toff cap ts ⟨slots, seen, false⟩ vars i x 0 x.n 0 _ HLI.out (CC2.out).rl HX.out (CC2.out).nodes hl).mono ?_
 rintro e w3 ⟨rfl, h3, f3⟩
 have CC3 := Lh ((CC2.out).step (by simp) h3 f3)
 clear h3 f3 e0 e3 ef d0 d2 d3
 obtain ⟨e0, e3, ef, d0, d2, d3⟩ := CC3.out.cells
 clear g0
 have g0 := CC3.out.kid 0 j HJ0.out
 clear g1
 have g1 := CC3.out.kid 1 b HJ1.out
 go_wp2_with fail
 refine (value13_any B kb tb toff cap ts (by omega) htb HT.out j 6 slots vars seen _ HKO0.out.2.1 HKO0.out.2.2.1 (Nat.le_trans HS.out (by omega)) (CC3.out).rl (CC3.out).nodes).mono ?_
 rintro e w4 ⟨rfl, h4, f4⟩
 have CC4 := Lh ((CC3.out).step (by simp) h4 f4)
 clear h4 f4 e0 e3 ef d0 d2 d3
 obtain ⟨e0, e3, ef, d0, d2, d3⟩ := CC4.out.cells
 clear g0
 have g0 := CC4.out.kid 0 j HJ0.out
 clear g1
 have g1 := CC4.out.kid 1 b HJ1.out
 go_wp2_with fail
 refine (declare13_any B kb x.n false [3] w4.heap.size 1 (valueF ts j 6 ⟨slots, seen, false⟩) vars _ _ (Nat.le_trans HS.out (by omega)) (by simp) (by simp) ((CC4.out).alloc _).rl (Blk.new w4 40 #[.int .i8 3]) (by simp)).mono ?_
 rintro e w5 ⟨rfl, h5, f5⟩
 have CC5 := Lh (((CC4.out).alloc _).step (by simp) h5 f5)
 clear h5 f5 e0 e3 ef d0 d2 d3
 obtain ⟨e0, e3, ef, d0, d2, d3⟩ := CC5.out.cells
 clear g0
 have g0 := CC5.out.kid 0 j HJ0.out
 clear g1
 have g1 := CC5.out.kid 1 b HJ1.out
 cases hdb : (declareF x.n false [3] (valueF ts j 6 ⟨slots, seen, false⟩)).bad with
 | true =>
  rw [hdb] at e3
  have HDB := Lh hdb
  clear hdb
  go_wp2_with fail
  refine bodyPost_ret (results_none rfl _ _ _) rfl ?_
  refine ⟨rfl, ?_, CC5.out.fr⟩
  have hr := CC5.out.rl
  rw [extF_bad HDB.out, List.append_nil] at hr
  refine hr.toBad HDB.out ?_
  rw [HR.out]
  exact HRB.out HDB.out
 | false =>
  rw [hdb] at e3
  have HDB := Lh hdb
  clear hdb
  go_wp2_with fail
  refine (HEB.out (vars ++ (extF x.n false [3] (valueF ts j 6 ⟨slots, seen, false⟩))) (declareF x.n false [3] (valueF ts j 6 ⟨slots, seen, false⟩)) _ (fun _ => by have := HDL.out; have := HS.out; have := HKO1.out.1; omega) CC5.out.rl CC5.out.nodes).mono ?_
  rintro e w6 ⟨rfl, h6, f6⟩
  have CC6 := Lh ((CC5.out).step (by simp) h6 f6)
  clear h6 f6 e0 e3 ef d0 d2 d3
  obtain ⟨e0, e3, ef, d0, d2, d3⟩ := CC6.out.cells
  obtain ⟨Av2, cv2, kv2, kw2, hcv2, hcm2⟩ := CC6.out.rl.varsCell
  have hclo := CC6.out.rl.closed (R := R) kv2 (k := slots.length) (fun _ v hv => ((HI.out.lt v hv)).2) (fun v hv => extF_ge hv) (fun hb => by rw [HR.out]; exact hb) (fun hb => by rw [HR.out, forget_eq, extF_map HDB.out])
  have HCLO := Lh hclo
  obtain ⟨ne, hne⟩ : ∃ ne, (vars ++ (extF x.n false [3] (valueF ts j 6 ⟨slots, seen, false⟩))).length = ne := ⟨_, rfl⟩
  have hnve : vars.length ≤ ne := by rw [← hne, List.length_append]; omega
  rw [hne] at kv2 hcv2
  have HNE := Lh hne
  clear hclo hne
  clear g0
  have g0 := CC6.out.kid 0 j HJ0.out
  clear g1
  have g1 := CC6.out.kid 1 b HJ1.out
  go_wp2_with fail
  go_end0
  obtain ⟨g1, g2⟩ := HCLO.out
  exact ⟨rfl, g1, CC6.out.fr.trans (g2.more (by simp))⟩
end
end Go.Proofs.Ytggibiodeecljaa
