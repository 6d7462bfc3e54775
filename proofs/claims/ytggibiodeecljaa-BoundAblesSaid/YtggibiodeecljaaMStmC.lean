/- The reference's looker: stmt: set. Written by gen_stmt13.py. The reference's looker: stmt: if. Written by gen_stmt13.py. The reference's looker: stmt: if with an else. Written by gen_stmt13.py. -/
import Derived.Test.YtggibiodeecljaaMBlk13
namespace Go.Proofs.Ytggibiodeecljaa
open Go.RowKit
set_option linter.unusedVariables false
section
variable (B kb tb toff cap : Nat) (ts : List Node) (htb : tb < B) (hl : ts.length ≤ 2000) (htxt : ∀ y ∈ ts, y.text.size ≤ 1099511627776) (i : Nat) (x : Node) (hi : i < ts.length) (hbe : 0 ≤ behind ts i) (hx : ts[i]? = some x) (vars : List Vr) (slots : List Int) (seen : Int → Option Value) (w : World) (hs : slots.length ≤ 2 + 3 * i) (h : RL w B kb (.slice (some ⟨tb, toff, none⟩) ts.length cap) vars ⟨slots, seen, false⟩) (hn : NodesAt w tb toff ts)
include htb hl htxt hi hbe hx hs h hn
set_option maxRecDepth 100000 in
set_option maxHeartbeats 2000000 in
theorem stmt_set13_nolet (hop : x.op = 12) (e1 : (((kidsOf ts i).length : Int) == 1) = true) (vs vk : Int) (hf : findV vars x.n = some ⟨vs, vk, false⟩) :
  Calls Try.prog 139 #[.pointer (some ⟨kb, 0, none⟩), .int .i64 i] w fun e w' => e = .returned (.tuple #[]) ∧ (RL w' B kb (.slice (some ⟨tb, toff, none⟩) ts.length cap) vars ⟨slots, seen, true⟩) ∧ Frm B [150, 40, 152] w w' := by
 obtain ⟨c0, c1, c2, c3, c4, c5, c6⟩ := hn.all hx
 obtain ⟨k0, k3, kf⟩ := h.cells
 simp only at k3
 obtain ⟨hB, hks⟩ := h.size
 have hki := kids13_start B kb tb toff cap ts i x vars ⟨slots, seen, false⟩ w h hn htb hi hl
 obtain ⟨n, hnk⟩ : ∃ n, (kidsOf ts i).length = n := ⟨_, rfl⟩
 rw [hnk] at hki
 have HKI := Lh hki
 have HF := Lh hf
 clear hf
 have HNK := Lh hnk
 have HX := Lh hx
 have HS := Lh hs
 have HBE := Lh hbe
 have HT := Lh htxt
 have H := Lh h
 have hop2 := hop
 have q11 : (x.op == 11) = false := beq_false_of (by omega)
 have q12 : (x.op == 12) = true := beq_true_of hop
 clear hop hop2
 rw [hnk] at e1
 clear h hn hki hx hs hbe htxt
 go_enter Try.func139, Try.ntmps139
 go_wp2_with fail
 refine HKI.out.mono ?_
 rintro e w1 ⟨A, c, base, rfl, C1⟩
 obtain ⟨e0, e3, ef, d0, d2, d3⟩ := C1.cells
 have CC1 := Lh C1
 have hz1 := C1.rl.size
 clear C1
 obtain ⟨sl0, hrk0, hgd0⟩ := CC1.out.rl
 obtain ⟨e00, hI0⟩ := hgd0 rfl
 simp only at e00
 rw [e00] at hrk0
 have hse := seen13_any B kb _ ⟨slots, vars, false⟩ x.n w1 hrk0 (by have h1 : vars.length ≤ slots.length := hI0.len; have := HS.out; show vars.length ≤ _; omega)
 simp only at hse
 rw [HF.out] at hse
 simp only [varV, Option.isSome, Vr.cells] at hse
 have HSE := Lh hse
 have HI := Lh hI0
 clear hse hrk0 hgd0 hI0 e00
 go_wp2_with fail
 refine HSE.out.mono ?_
 rintro e w2 ⟨rfl, h2, b2⟩
 have hzz := b2.size
 have f2 : Frm B [150] w1 w2 := Frm.of_below b2 (by omega)
 have CC2a := Lh (CC1.out.step (by simp) (RL.of h2 HI.out) f2)
 have CC2 := Lh (CC2a.out.alloc (.cells #[.string ByteArray.empty, .int .i64 (vs), .int .i8 (vk), .bool false] 152))
 have HVB2 := Lh (Blk.new w2 152 #[.string ByteArray.empty, .int .i64 (vs), .int .i8 (vk), .bool false])
 have v2 := HVB2.out.cell 2
 have v3 := HVB2.out.cell 3
 clear h2 f2 b2 e0 e3 ef d0 d2 d3
 obtain ⟨e0, e3, ef, d0, d2, d3⟩ := CC2.out.cells
 go_wp2_with fail
 refine (must13_no B kb _ vars ⟨slots, seen, false⟩ _ _ (CC2.out).rl (.inl rfl)).mono ?_
 rintro e w3 ⟨rfl, h3, f3⟩
 have CC3 := Lh ((CC2.out).step (by simp) h3 f3)
 have HVB3 := Lh (f3.blk HVB2.out (by decide))
 clear v2 v3
 have v2 := HVB3.out.cell 2
 have v3 := HVB3.out.cell 3
 clear h3 f3 e0 e3 ef d0 d2 d3
 obtain ⟨e0, e3, ef, d0, d2, d3⟩ := CC3.out.cells
 go_wp2_with fail
 refine (plain13_no B kb tb toff cap ts ⟨slots, seen, true⟩ vars i x 0 x.n 0 _ (.inr rfl) (CC3.out).rl HX.out (CC3.out).nodes hl).mono ?_
 rintro e w4 ⟨rfl, h4, f4⟩
 have CC4 := Lh ((CC3.out).step (by simp) h4 f4)
 have HVB4 := Lh (f4.blk HVB3.out (by decide))
 clear v2 v3
 have v2 := HVB4.out.cell 2
 have v3 := HVB4.out.cell 3
 clear h4 f4 e0 e3 ef d0 d2 d3
 obtain ⟨e0, e3, ef, d0, d2, d3⟩ := CC4.out.cells
 have e3 : w4.cell? ⟨kb, 3, none⟩ = some (.bool true) := e3
 go_wp2_with fail
 go_end0
 exact ⟨rfl, CC4.out.rl, CC4.out.fr⟩
set_option maxRecDepth 100000 in
set_option maxHeartbeats 2000000 in
theorem stmt_set13_like (hop : x.op = 12) (e1 : (((kidsOf ts i).length : Int) == 1) = true) (vs vk : Int) (hf : findV vars x.n = some ⟨vs, vk, true⟩) (hli : likeB x 0 x.n 0 = false) :
  Calls Try.prog 139 #[.pointer (some ⟨kb, 0, none⟩), .int .i64 i] w fun e w' => e = .returned (.tuple #[]) ∧ (RL w' B kb (.slice (some ⟨tb, toff, none⟩) ts.length cap) vars ⟨slots, seen, true⟩) ∧ Frm B [150, 40, 152] w w' := by
 obtain ⟨c0, c1, c2, c3, c4, c5, c6⟩ := hn.all hx
 obtain ⟨k0, k3, kf⟩ := h.cells
 simp only at k3
 obtain ⟨hB, hks⟩ := h.size
 have hki := kids13_start B kb tb toff cap ts i x vars ⟨slots, seen, false⟩ w h hn htb hi hl
 obtain ⟨n, hnk⟩ : ∃ n, (kidsOf ts i).length = n := ⟨_, rfl⟩
 rw [hnk] at hki
 have HKI := Lh hki
 have HF := Lh hf
 clear hf
 have HNK := Lh hnk
 have HX := Lh hx
 have HS := Lh hs
 have HBE := Lh hbe
 have HT := Lh htxt
 have H := Lh h
 have hop2 := hop
 have q11 : (x.op == 11) = false := beq_false_of (by omega)
 have q12 : (x.op == 12) = true := beq_true_of hop
 clear hop hop2
 rw [hnk] at e1
 have HLI := Lh hli
 clear hli
 clear h hn hki hx hs hbe htxt
 go_enter Try.func139, Try.ntmps139
 go_wp2_with fail
 refine HKI.out.mono ?_
 rintro e w1 ⟨A, c, base, rfl, C1⟩
 obtain ⟨e0, e3, ef, d0, d2, d3⟩ := C1.cells
 have CC1 := Lh C1
 have hz1 := C1.rl.size
 clear C1
 obtain ⟨sl0, hrk0, hgd0⟩ := CC1.out.rl
 obtain ⟨e00, hI0⟩ := hgd0 rfl
 simp only at e00
 rw [e00] at hrk0
 have hse := seen13_any B kb _ ⟨slots, vars, false⟩ x.n w1 hrk0 (by have h1 : vars.length ≤ slots.length := hI0.len; have := HS.out; show vars.length ≤ _; omega)
 simp only at hse
 rw [HF.out] at hse
 simp only [varV, Option.isSome, Vr.cells] at hse
 have HSE := Lh hse
 have HI := Lh hI0
 clear hse hrk0 hgd0 hI0 e00
 go_wp2_with fail
 refine HSE.out.mono ?_
 rintro e w2 ⟨rfl, h2, b2⟩
 have hzz := b2.size
 have f2 : Frm B [150] w1 w2 := Frm.of_below b2 (by omega)
 have CC2a := Lh (CC1.out.step (by simp) (RL.of h2 HI.out) f2)
 have CC2 := Lh (CC2a.out.alloc (.cells #[.string ByteArray.empty, .int .i64 (vs), .int .i8 (vk), .bool true] 152))
 have HVB2 := Lh (Blk.new w2 152 #[.string ByteArray.empty, .int .i64 (vs), .int .i8 (vk), .bool true])
 have v2 := HVB2.out.cell 2
 have v3 := HVB2.out.cell 3
 clear h2 f2 b2 e0 e3 ef d0 d2 d3
 obtain ⟨e0, e3, ef, d0, d2, d3⟩ := CC2.out.cells
 go_wp2_with fail
 refine (must13_yes B kb _ vars ⟨slots, seen, false⟩ _ (CC2.out).rl).mono ?_
 rintro e w3 ⟨rfl, h3, f3⟩
 have CC3 := Lh ((CC2.out).step (by simp) h3 f3)
 have HVB3 := Lh (f3.blk HVB2.out (by decide))
 clear v2 v3
 have v2 := HVB3.out.cell 2
 have v3 := HVB3.out.cell 3
 clear h3 f3 e0 e3 ef d0 d2 d3
 obtain ⟨e0, e3, ef, d0, d2, d3⟩ := CC3.out.cells
 go_wp2_with fail
 refine (plain13_no B kb tb toff cap ts ⟨slots, seen, false⟩ vars i x 0 x.n 0 _ (.inl HLI.out) (CC3.out).rl HX.out (CC3.out).nodes hl).mono ?_
 rintro e w4 ⟨rfl, h4, f4⟩
 have CC4 := Lh ((CC3.out).step (by simp) h4 f4)
 have HVB4 := Lh (f4.blk HVB3.out (by decide))
 clear v2 v3
 have v2 := HVB4.out.cell 2
 have v3 := HVB4.out.cell 3
 clear h4 f4 e0 e3 ef d0 d2 d3
 obtain ⟨e0, e3, ef, d0, d2, d3⟩ := CC4.out.cells
 have e3 : w4.cell? ⟨kb, 3, none⟩ = some (.bool true) := e3
 go_wp2_with fail
 go_end0
 exact ⟨rfl, CC4.out.rl, CC4.out.fr⟩
set_option maxRecDepth 100000 in
set_option maxHeartbeats 2000000 in
theorem stmt_set13_ok (hop : x.op = 12) (hli : likeB x 0 x.n 0 = true) (j : Nat) (hj : kidsOf ts i = [j]) (vs vk : Int) (hf : findV vars x.n = some ⟨vs, vk, true⟩) :
  Calls Try.prog 139 #[.pointer (some ⟨kb, 0, none⟩), .int .i64 i] w fun e w' => e = .returned (.tuple #[]) ∧ (RL w' B kb (.slice (some ⟨tb, toff, none⟩) ts.length cap) vars (valueF ts j vk ⟨slots, seen, false⟩)) ∧ Frm B [150, 40, 152] w w' := by
 obtain ⟨c0, c1, c2, c3, c4, c5, c6⟩ := hn.all hx
 obtain ⟨k0, k3, kf⟩ := h.cells
 simp only at k3
 obtain ⟨hB, hks⟩ := h.size
 have hki := kids13_start B kb tb toff cap ts i x vars ⟨slots, seen, false⟩ w h hn htb hi hl
 have hnk : (kidsOf ts i).length = 1 := by rw [hj]; rfl
 rw [hnk] at hki
 have HJ0 : Hid ((kidsOf ts i)[0]? = some j) := by rw [hj]; rfl
 have hko0 := kidsOf_ok (ts := ts) (i := i) (j := j) (by rw [hj]; simp)
 have HKO0 := Lh hko0
 clear hko0
 have HKI := Lh hki
 have HF := Lh hf
 clear hf
 have HNK := Lh hnk
 have HX := Lh hx
 have HS := Lh hs
 have HBE := Lh hbe
 have HT := Lh htxt
 have H := Lh h
 have HJ := Lh hj
 clear hj
 have hop2 := hop
 have q11 : (x.op == 11) = false := beq_false_of (by omega)
 have q12 : (x.op == 12) = true := beq_true_of hop
 clear hop hop2
 have HLI := Lh hli
 clear hli
 clear h hn hki hx hs hbe htxt hnk
 go_enter Try.func139, Try.ntmps139
 go_wp2_with fail
 refine HKI.out.mono ?_
 rintro e w1 ⟨A, c, base, rfl, C1⟩
 obtain ⟨gk, rfl⟩ := C1.form (by decide)
 obtain ⟨e0, e3, ef, d0, d2, d3⟩ := C1.cells
 have g0 := C1.kid 0 j HJ0.out
 have CC1 := Lh C1
 have hz1 := C1.rl.size
 clear C1
 obtain ⟨sl0, hrk0, hgd0⟩ := CC1.out.rl
 obtain ⟨e00, hI0⟩ := hgd0 rfl
 simp only at e00
 rw [e00] at hrk0
 have hse := seen13_any B kb _ ⟨slots, vars, false⟩ x.n w1 hrk0 (by have h1 : vars.length ≤ slots.length := hI0.len; have := HS.out; show vars.length ≤ _; omega)
 simp only at hse
 rw [HF.out] at hse
 simp only [varV, Option.isSome, Vr.cells] at hse
 have HSE := Lh hse
 have HI := Lh hI0
 clear hse hrk0 hgd0 hI0 e00
 go_wp2_with fail
 refine HSE.out.mono ?_
 rintro e w2 ⟨rfl, h2, b2⟩
 have hzz := b2.size
 have f2 : Frm B [150] w1 w2 := Frm.of_below b2 (by omega)
 have CC2a := Lh (CC1.out.step (by simp) (RL.of h2 HI.out) f2)
 have CC2 := Lh (CC2a.out.alloc (.cells #[.string ByteArray.empty, .int .i64 (vs), .int .i8 (vk), .bool true] 152))
 have HVB2 := Lh (Blk.new w2 152 #[.string ByteArray.empty, .int .i64 (vs), .int .i8 (vk), .bool true])
 have v2 := HVB2.out.cell 2
 have v3 := HVB2.out.cell 3
 clear h2 f2 b2 e0 e3 ef d0 d2 d3
 obtain ⟨e0, e3, ef, d0, d2, d3⟩ := CC2.out.cells
 clear g0
 have g0 := CC2.out.kid 0 j HJ0.out
 go_wp2_with fail
 refine (must13_yes B kb _ vars ⟨slots, seen, false⟩ _ (CC2.out).rl).mono ?_
 rintro e w3 ⟨rfl, h3, f3⟩
 have CC3 := Lh ((CC2.out).step (by simp) h3 f3)
 have HVB3 := Lh (f3.blk HVB2.out (by decide))
 clear v2 v3
 have v2 := HVB3.out.cell 2
 have v3 := HVB3.out.cell 3
 clear h3 f3 e0 e3 ef d0 d2 d3
 obtain ⟨e0, e3, ef, d0, d2, d3⟩ := CC3.out.cells
 clear g0
 have g0 := CC3.out.kid 0 j HJ0.out
 go_wp2_with fail
 refine (plain13_yes B kb tb toff cap ts ⟨slots, seen, false⟩ vars i x 0 x.n 0 _ HLI.out (CC3.out).rl HX.out (CC3.out).nodes hl).mono ?_
 rintro e w4 ⟨rfl, h4, f4⟩
 have CC4 := Lh ((CC3.out).step (by simp) h4 f4)
 have HVB4 := Lh (f4.blk HVB3.out (by decide))
 clear v2 v3
 have v2 := HVB4.out.cell 2
 have v3 := HVB4.out.cell 3
 clear h4 f4 e0 e3 ef d0 d2 d3
 obtain ⟨e0, e3, ef, d0, d2, d3⟩ := CC4.out.cells
 clear g0
 have g0 := CC4.out.kid 0 j HJ0.out
 go_wp2_with fail
 refine wp_region_text (by kernel_rfl) (by kernel_rfl) ?_
 have CC5 := Lh CC4.out.drew
 clear e0 e3 ef d0 d2 d3 g0 v2 v3
 obtain ⟨e0, e3, ef, d0, d2, d3⟩ := CC5.out.cells
 have g0 := CC5.out.kid 0 j HJ0.out
 have v2 := HVB4.out.drew.cell 2
 go_wp2_with fail
 refine (value13_any B kb tb toff cap ts (by omega) htb HT.out j vk slots vars seen _ HKO0.out.2.1 HKO0.out.2.2.1 (Nat.le_trans HS.out (by omega)) CC5.out.rl CC5.out.nodes).mono ?_
 rintro e w6 ⟨rfl, h6, f6⟩
 have CC6 := Lh ((CC5.out).step (by simp) h6 f6)
 clear h6 f6 e0 e3 ef d0 d2 d3
 obtain ⟨e0, e3, ef, d0, d2, d3⟩ := CC6.out.cells
 clear g0
 have g0 := CC6.out.kid 0 j HJ0.out
 go_wp2_with fail
 refine Only.normal ?_
 go_wp2_with fail
 go_end0
 exact ⟨rfl, CC6.out.rl, CC6.out.fr⟩
end
end Go.Proofs.Ytggibiodeecljaa
namespace Go.Proofs.Ytggibiodeecljaa
open Go.RowKit
set_option linter.unusedVariables false
section
variable (B kb tb toff cap : Nat) (ts : List Node) (htb : tb < B) (hl : ts.length ≤ 2000) (htxt : ∀ y ∈ ts, y.text.size ≤ 1099511627776) (i : Nat) (x : Node) (hi : i < ts.length) (hbe : 0 ≤ behind ts i) (hx : ts[i]? = some x) (vars : List Vr) (slots : List Int) (seen : Int → Option Value) (w : World) (hs : slots.length ≤ 2 + 3 * i) (h : RL w B kb (.slice (some ⟨tb, toff, none⟩) ts.length cap) vars ⟨slots, seen, false⟩) (hn : NodesAt w tb toff ts)
include htb hl htxt hi hbe hx hs h hn
set_option maxRecDepth 100000 in
set_option maxHeartbeats 2000000 in
theorem stmt_if2 (hop : x.op = 13) (hli : likeB x 0 0 0 = true) (j b : Nat) (hj : kidsOf ts i = [j, b]) (recS recB : Nat → LSt → LSt) (hB13 : ∀ j ∈ kidsOf ts i, B13 B kb tb toff cap ts recB j) :
  Calls Try.prog 139 #[.pointer (some ⟨kb, 0, none⟩), .int .i64 i] w fun e w' => e = .returned (.tuple #[]) ∧ (RL w' B kb (.slice (some ⟨tb, toff, none⟩) ts.length cap) vars (if ((valueF ts j 2 ⟨slots, seen, false⟩)).bad = true then (valueF ts j 2 ⟨slots, seen, false⟩) else recB b (valueF ts j 2 ⟨slots, seen, false⟩))) ∧ Frm B [150, 40, 152] w w' := by
 have hj0 := hj
 obtain ⟨c0, c1, c2, c3, c4, c5, c6⟩ := hn.all hx
 obtain ⟨k0, k3, kf⟩ := h.cells
 simp only at k3
 obtain ⟨hB, hks⟩ := h.size
 have hki := kids13_start B kb tb toff cap ts i x vars ⟨slots, seen, false⟩ w h hn htb hi hl
 have hnk : (kidsOf ts i).length = 2 := by rw [hj]; rfl
 rw [hnk] at hki
 have HJ0 : Hid ((kidsOf ts i)[0]? = some j) := by rw [hj]; rfl
 have hko0 := kidsOf_ok (ts := ts) (i := i) (j := j) (by rw [hj]; simp)
 have HKO0 := Lh hko0
 clear hko0
 have HJ1 : Hid ((kidsOf ts i)[1]? = some b) := by rw [hj]; rfl
 have hko1 := kidsOf_ok (ts := ts) (i := i) (j := b) (by rw [hj]; simp)
 have HKO1 := Lh hko1
 clear hko1
 have HKI := Lh hki
 have HNK := Lh hnk
 have HX := Lh hx
 have HS := Lh hs
 have HBE := Lh hbe
 have HT := Lh htxt
 have H := Lh h
 have HJ := Lh hj
 clear hj
 have hop2 := hop
 have q11 : (x.op == 11) = false := beq_false_of (by omega)
 have q12 : (x.op == 12) = false := beq_false_of (by omega)
 have q13 : (x.op == 13) = true := beq_true_of hop
 clear hop hop2
 have HLI := Lh hli
 clear hli
 have HEB := Lh (hB13 b (by rw [hj0]; simp))
 clear hB13 hj0
 obtain ⟨R, hR⟩ : ∃ R, R = (if ((valueF ts j 2 ⟨slots, seen, false⟩)).bad = true then (valueF ts j 2 ⟨slots, seen, false⟩) else recB b (valueF ts j 2 ⟨slots, seen, false⟩)) := ⟨_, rfl⟩
 rw [← hR]
 have HR := Lh hR
 clear hR
 clear h hn hki hx hs hbe htxt hnk
 go_enter Try.func139, Try.ntmps139
 go_wp2_with fail
 refine HKI.out.mono ?_
 rintro e w1 ⟨A, c, base, rfl, C1⟩
 obtain ⟨gk, rfl⟩ := C1.form (by decide)
 obtain ⟨e0, e3, ef, d0, d2, d3⟩ := C1.cells
 have g0 := C1.kid 0 j HJ0.out
 have g1 := C1.kid 1 b HJ1.out
 have CC1 := Lh C1
 have hz1 := C1.rl.size
 clear C1
 go_wp2_with fail
 refine (must13_yes B kb _ vars ⟨slots, seen, false⟩ _ (CC1.out).rl).mono ?_
 rintro e w2 ⟨rfl, h2, f2⟩
 have CC2 := Lh ((CC1.out).step (by simp) h2 f2)
 clear h2 f2 e0 e3 ef d0 d2 d3
 obtain ⟨e0, e3, ef, d0, d2, d3⟩ := CC2.out.cells
 clear g0
 have g0 := CC2.out.kid 0 j HJ0.out
 clear g1
 have g1 := CC2.out.kid 1 b HJ1.out
 go_wp2_with fail
 refine (plain13_yes B kb tb toff cap ts ⟨slots, seen, false⟩ vars i x 0 0 0 _ HLI.out (CC2.out).rl HX.out (CC2.out).nodes hl).mono ?_
 rintro e w3 ⟨rfl, h3, f3⟩
 have CC3 := Lh ((CC2.out).step (by simp) h3 f3)
 clear h3 f3 e0 e3 ef d0 d2 d3
 obtain ⟨e0, e3, ef, d0, d2, d3⟩ := CC3.out.cells
 clear g0
 have g0 := CC3.out.kid 0 j HJ0.out
 clear g1
 have g1 := CC3.out.kid 1 b HJ1.out
 go_wp2_with fail
 refine (value13_any B kb tb toff cap ts (by omega) htb HT.out j 2 slots vars seen _ HKO0.out.2.1 HKO0.out.2.2.1 (Nat.le_trans HS.out (by omega)) (CC3.out).rl (CC3.out).nodes).mono ?_
 rintro e w4 ⟨rfl, h4, f4⟩
 have CC4 := Lh ((CC3.out).step (by simp) h4 f4)
 clear h4 f4 e0 e3 ef d0 d2 d3
 obtain ⟨e0, e3, ef, d0, d2, d3⟩ := CC4.out.cells
 clear g0
 have g0 := CC4.out.kid 0 j HJ0.out
 clear g1
 have g1 := CC4.out.kid 1 b HJ1.out
 go_wp2_with fail
 refine (HEB.out vars (valueF ts j 2 ⟨slots, seen, false⟩) _ (fun _ => by have := HS.out; have := HKO1.out.1; show slots.length ≤ _; omega) CC4.out.rl CC4.out.nodes).mono ?_
 rintro e w5 ⟨rfl, h5, f5⟩
 have CC5 := Lh ((CC4.out).step (by simp) h5 f5)
 clear h5 f5 e0 e3 ef d0 d2 d3
 obtain ⟨e0, e3, ef, d0, d2, d3⟩ := CC5.out.cells
 clear g0
 have g0 := CC5.out.kid 0 j HJ0.out
 clear g1
 have g1 := CC5.out.kid 1 b HJ1.out
 go_wp2_with fail
 refine wp_region_text (by kernel_rfl) (by kernel_rfl) ?_
 have CC6 := Lh CC5.out.drew
 clear e0 e3 ef d0 d2 d3 g0 g1
 obtain ⟨e0, e3, ef, d0, d2, d3⟩ := CC6.out.cells
 have g0 := CC6.out.kid 0 j HJ0.out
 have g1 := CC6.out.kid 1 b HJ1.out
 go_wp2_with fail
 refine Only.normal ?_
 go_wp2_with fail
 go_end0
 exact ⟨rfl, by rw [HR.out]; exact CC6.out.rl, CC6.out.fr⟩
end
end Go.Proofs.Ytggibiodeecljaa
namespace Go.Proofs.Ytggibiodeecljaa
open Go.RowKit
set_option linter.unusedVariables false
section
variable (B kb tb toff cap : Nat) (ts : List Node) (htb : tb < B) (hl : ts.length ≤ 2000) (htxt : ∀ y ∈ ts, y.text.size ≤ 1099511627776) (i : Nat) (x : Node) (hi : i < ts.length) (hbe : 0 ≤ behind ts i) (hx : ts[i]? = some x) (vars : List Vr) (slots : List Int) (seen : Int → Option Value) (w : World) (hs : slots.length ≤ 2 + 3 * i) (h : RL w B kb (.slice (some ⟨tb, toff, none⟩) ts.length cap) vars ⟨slots, seen, false⟩) (hn : NodesAt w tb toff ts)
include htb hl htxt hi hbe hx hs h hn
set_option maxRecDepth 100000 in
set_option maxHeartbeats 2000000 in
theorem stmt_if3 (hop : x.op = 13) (hli : likeB x 0 0 0 = true) (j b d : Nat) (hj : kidsOf ts i = [j, b, d]) (recS recB : Nat → LSt → LSt) (hB13 : ∀ j ∈ kidsOf ts i, B13 B kb tb toff cap ts recB j) (hS13 : ∀ j ∈ kidsOf ts i, S13 B kb tb toff cap ts recS j)
  (hln : ((if ((valueF ts j 2 ⟨slots, seen, false⟩)).bad = true then (valueF ts j 2 ⟨slots, seen, false⟩) else recB b (valueF ts j 2 ⟨slots, seen, false⟩))).slots.length ≤ 2 + 3 * d) (hrs : ((valueF ts j 2 ⟨slots, seen, false⟩)).slots.length ≤ ((if ((valueF ts j 2 ⟨slots, seen, false⟩)).bad = true then (valueF ts j 2 ⟨slots, seen, false⟩) else recB b (valueF ts j 2 ⟨slots, seen, false⟩))).slots.length) :
  Calls Try.prog 139 #[.pointer (some ⟨kb, 0, none⟩), .int .i64 i] w fun e w' => e = .returned (.tuple #[]) ∧ (∃ ext, RL w' B kb (.slice (some ⟨tb, toff, none⟩) ts.length cap) (vars ++ ext) ((if ((if ((valueF ts j 2 ⟨slots, seen, false⟩)).bad = true then (valueF ts j 2 ⟨slots, seen, false⟩) else recB b (valueF ts j 2 ⟨slots, seen, false⟩))).bad = true then (if ((valueF ts j 2 ⟨slots, seen, false⟩)).bad = true then (valueF ts j 2 ⟨slots, seen, false⟩) else recB b (valueF ts j 2 ⟨slots, seen, false⟩)) else if (ts.getD d node0).op = 13 then recS d (if ((valueF ts j 2 ⟨slots, seen, false⟩)).bad = true then (valueF ts j 2 ⟨slots, seen, false⟩) else recB b (valueF ts j 2 ⟨slots, seen, false⟩)) else recB d (if ((valueF ts j 2 ⟨slots, seen, false⟩)).bad = true then (valueF ts j 2 ⟨slots, seen, false⟩) else recB b (valueF ts j 2 ⟨slots, seen, false⟩)))) ∧ (∀ v ∈ ext, (slots.length : Int) ≤ v.slot) ∧ (((if ((if ((valueF ts j 2 ⟨slots, seen, false⟩)).bad = true then (valueF ts j 2 ⟨slots, seen, false⟩) else recB b (valueF ts j 2 ⟨slots, seen, false⟩))).bad = true then (if ((valueF ts j 2 ⟨slots, seen, false⟩)).bad = true then (valueF ts j 2 ⟨slots, seen, false⟩) else recB b (valueF ts j 2 ⟨slots, seen, false⟩)) else if (ts.getD d node0).op = 13 then recS d (if ((valueF ts j 2 ⟨slots, seen, false⟩)).bad = true then (valueF ts j 2 ⟨slots, seen, false⟩) else recB b (valueF ts j 2 ⟨slots, seen, false⟩)) else recB d (if ((valueF ts j 2 ⟨slots, seen, false⟩)).bad = true then (valueF ts j 2 ⟨slots, seen, false⟩) else recB b (valueF ts j 2 ⟨slots, seen, false⟩)))).bad = false → ext.map Vr.slot = [])) ∧ Frm B [150, 40, 152] w w' := by
 have hj0 := hj
 obtain ⟨c0, c1, c2, c3, c4, c5, c6⟩ := hn.all hx
 obtain ⟨k0, k3, kf⟩ := h.cells
 simp only at k3
 obtain ⟨hB, hks⟩ := h.size
 have hki := kids13_start B kb tb toff cap ts i x vars ⟨slots, seen, false⟩ w h hn htb hi hl
 have hnk : (kidsOf ts i).length = 3 := by rw [hj]; rfl
 rw [hnk] at hki
 have HJ0 : Hid ((kidsOf ts i)[0]? = some j) := by rw [hj]; rfl
 have hko0 := kidsOf_ok (ts := ts) (i := i) (j := j) (by rw [hj]; simp)
 have HKO0 := Lh hko0
 clear hko0
 have HJ1 : Hid ((kidsOf ts i)[1]? = some b) := by rw [hj]; rfl
 have hko1 := kidsOf_ok (ts := ts) (i := i) (j := b) (by rw [hj]; simp)
 have HKO1 := Lh hko1
 clear hko1
 have HJ2 : Hid ((kidsOf ts i)[2]? = some d) := by rw [hj]; rfl
 have hko2 := kidsOf_ok (ts := ts) (i := i) (j := d) (by rw [hj]; simp)
 have HKO2 := Lh hko2
 clear hko2
 have HKI := Lh hki
 have HNK := Lh hnk
 have HX := Lh hx
 have HS := Lh hs
 have HBE := Lh hbe
 have HT := Lh htxt
 have H := Lh h
 have HJ := Lh hj
 clear hj
 have hop2 := hop
 have q11 : (x.op == 11) = false := beq_false_of (by omega)
 have q12 : (x.op == 12) = false := beq_false_of (by omega)
 have q13 : (x.op == 13) = true := beq_true_of hop
 clear hop hop2
 have HLI := Lh hli
 clear hli
 have HEB := Lh (hB13 b (by rw [hj0]; simp))
 have HEB3 := Lh (hB13 d (by rw [hj0]; simp))
 have HES3 := Lh (hS13 d (by rw [hj0]; simp))
 clear hB13 hS13 hj0
 have hv0 : slots.length ≤ ((valueF ts j 2 ⟨slots, seen, false⟩)).slots.length := Nat.le_refl _
 obtain ⟨V, hV⟩ : ∃ V, V = (valueF ts j 2 ⟨slots, seen, false⟩) := ⟨_, rfl⟩
 rw [← hV] at hln hrs hv0 ⊢
 obtain ⟨R, hR⟩ : ∃ R, R = (if V.bad = true then V else recB b V) := ⟨_, rfl⟩
 rw [← hR] at hln hrs ⊢
 obtain ⟨y, hy, hyg⟩ : ∃ y, ts[d]? = some y ∧ ts.getD d node0 = y := by
  have hd := HKO2.out.2.1
  exact ⟨_, List.getElem?_eq_getElem hd, by rw [List.getD_eq_getElem?_getD, List.getElem?_eq_getElem hd]; rfl⟩
 rw [hyg]
 obtain ⟨R3, hR3⟩ : ∃ R3, R3 = (if R.bad = true then R else if y.op = 13 then recS d R else recB d R) := ⟨_, rfl⟩
 rw [← hR3]
 have HYG := Lh hyg
 have HY := Lh hy
 have HR3 := Lh hR3
 have HR := Lh hR
 have HV := Lh hV
 have HLN := Lh hln
 have HRS := Lh (Nat.le_trans hv0 hrs)
 have hdlt : (d : Int) < ts.length := by have := HKO2.out.2.1; omega
 clear hR3 hR hln hy hyg hrs hv0 hV
 clear h hn hki hx hs hbe htxt hnk
 go_enter Try.func139, Try.ntmps139
 go_wp2_with fail
 refine HKI.out.mono ?_
 rintro e w1 ⟨A, c, base, rfl, C1⟩
 obtain ⟨gk, rfl⟩ := C1.form (by decide)
 obtain ⟨e0, e3, ef, d0, d2, d3⟩ := C1.cells
 have g0 := C1.kid 0 j HJ0.out
 have g1 := C1.kid 1 b HJ1.out
 have g2 := C1.kid 2 d HJ2.out
 have CC1 := Lh C1
 have hz1 := C1.rl.size
 clear C1
 go_wp2_with fail
 refine (must13_yes B kb _ vars ⟨slots, seen, false⟩ _ (CC1.out).rl).mono ?_
 rintro e w2 ⟨rfl, h2, f2⟩
 have CC2 := Lh ((CC1.out).step (by simp) h2 f2)
 clear h2 f2 e0 e3 ef d0 d2 d3
 obtain ⟨e0, e3, ef, d0, d2, d3⟩ := CC2.out.cells
 clear g0
 have g0 := CC2.out.kid 0 j HJ0.out
 clear g1
 have g1 := CC2.out.kid 1 b HJ1.out
 clear g2
 have g2 := CC2.out.kid 2 d HJ2.out
 go_wp2_with fail
 refine (plain13_yes B kb tb toff cap ts ⟨slots, seen, false⟩ vars i x 0 0 0 _ HLI.out (CC2.out).rl HX.out (CC2.out).nodes hl).mono ?_
 rintro e w3 ⟨rfl, h3, f3⟩
 have CC3 := Lh ((CC2.out).step (by simp) h3 f3)
 clear h3 f3 e0 e3 ef d0 d2 d3
 obtain ⟨e0, e3, ef, d0, d2, d3⟩ := CC3.out.cells
 clear g0
 have g0 := CC3.out.kid 0 j HJ0.out
 clear g1
 have g1 := CC3.out.kid 1 b HJ1.out
 clear g2
 have g2 := CC3.out.kid 2 d HJ2.out
 go_wp2_with fail
 refine (value13_any B kb tb toff cap ts (by omega) htb HT.out j 2 slots vars seen _ HKO0.out.2.1 HKO0.out.2.2.1 (Nat.le_trans HS.out (by omega)) (CC3.out).rl (CC3.out).nodes).mono ?_
 rintro e w4 ⟨rfl, h4, f4⟩
 have CC4 := Lh ((CC3.out).step (by simp) h4 f4)
 clear h4 f4 e0 e3 ef d0 d2 d3
 obtain ⟨e0, e3, ef, d0, d2, d3⟩ := CC4.out.cells
 clear g0
 have g0 := CC4.out.kid 0 j HJ0.out
 clear g1
 have g1 := CC4.out.kid 1 b HJ1.out
 clear g2
 have g2 := CC4.out.kid 2 d HJ2.out
 have HC4V : Hid (RL w4 B kb (.slice (some ⟨tb, toff, none⟩) ts.length cap) vars V) := by rw [HV.out]; exact CC4.out.rl
 go_wp2_with fail
 refine (HEB.out vars V _ (fun _ => by have := HS.out; have := HKO1.out.1; rw [HV.out]; show slots.length ≤ _; omega) HC4V.out CC4.out.nodes).mono ?_
 rintro e w5 ⟨rfl, h5, f5⟩
 have CC5 := Lh ((CC4.out).step (by simp) h5 f5)
 have C5 := CC5.out
 rw [← HR.out] at C5
 clear CC5
 have CC5 := Lh C5
 clear C5
 clear h5 f5 e0 e3 ef d0 d2 d3
 obtain ⟨e0, e3, ef, d0, d2, d3⟩ := CC5.out.cells
 clear g0
 have g0 := CC5.out.kid 0 j HJ0.out
 clear g1
 have g1 := CC5.out.kid 1 b HJ1.out
 clear g2
 have g2 := CC5.out.kid 2 d HJ2.out
 have y0 := CC5.out.nodes.op HY.out
 cases hsb : R.bad with
 | true =>
  rw [hsb] at e3
  have HSB := Lh hsb
  clear hsb
  by_cases hy13 : y.op = 13
  ·have qy : (y.op == 13) = true := beq_true_of hy13
   clear hy13
   go_wp2_with fail
   refine wp_region_text (by kernel_rfl) (by kernel_rfl) ?_
   have CC6 := Lh CC5.out.drew
   clear e0 e3 ef d0 d2 d3 g0 g1 g2 y0
   obtain ⟨e0, e3, ef, d0, d2, d3⟩ := CC6.out.cells
   rw [HSB.out] at e3
   have g0 := CC6.out.kid 0 j HJ0.out
   have g1 := CC6.out.kid 1 b HJ1.out
   have g2 := CC6.out.kid 2 d HJ2.out
   have y0 := CC6.out.nodes.op HY.out
   go_wp2_with fail
   refine Only.normal ?_
   go_wp2_with fail
   go_end0
   refine ⟨rfl, ⟨[], ?_, fun v hv => by simp at hv, fun _ => rfl⟩, CC6.out.fr⟩
   rw [List.append_nil, HR3.out, if_pos HSB.out]
   exact CC6.out.rl
  ·have qy : (y.op == 13) = false := beq_false_of hy13
   clear hy13
   go_wp2_with fail
   refine wp_region_text (by kernel_rfl) (by kernel_rfl) ?_
   have CC6 := Lh CC5.out.drew
   clear e0 e3 ef d0 d2 d3 g0 g1 g2 y0
   obtain ⟨e0, e3, ef, d0, d2, d3⟩ := CC6.out.cells
   rw [HSB.out] at e3
   have g0 := CC6.out.kid 0 j HJ0.out
   have g1 := CC6.out.kid 1 b HJ1.out
   have g2 := CC6.out.kid 2 d HJ2.out
   have y0 := CC6.out.nodes.op HY.out
   go_wp2_with fail
   refine Only.normal ?_
   go_wp2_with fail
   go_end0
   refine ⟨rfl, ⟨[], ?_, fun v hv => by simp at hv, fun _ => rfl⟩, CC6.out.fr⟩
   rw [List.append_nil, HR3.out, if_pos HSB.out]
   exact CC6.out.rl
 | false =>
  rw [hsb] at e3
  have HSB := Lh hsb
  clear hsb
  by_cases hy13 : y.op = 13
  ·have qy : (y.op == 13) = true := beq_true_of hy13
   have HY13 := Lh hy13
   clear hy13
   go_wp2_with fail
   refine wp_region_text (by kernel_rfl) (by kernel_rfl) ?_
   have CC6 := Lh CC5.out.drew
   clear e0 e3 ef d0 d2 d3 g0 g1 g2 y0
   obtain ⟨e0, e3, ef, d0, d2, d3⟩ := CC6.out.cells
   rw [HSB.out] at e3
   have g0 := CC6.out.kid 0 j HJ0.out
   have g1 := CC6.out.kid 1 b HJ1.out
   have g2 := CC6.out.kid 2 d HJ2.out
   have y0 := CC6.out.nodes.op HY.out
   go_wp2_with fail
   refine Only.normal ?_
   go_wp2_with fail
   refine (HES3.out vars R _ HSB.out HLN.out CC6.out.rl CC6.out.nodes).mono ?_
   rintro e w7 ⟨rfl, ⟨ext, h7, h8, h9⟩, f7⟩
   have H7 := Lh h7
   have H8 := Lh h8
   have H9 := Lh h9
   have F7 := Lh (CC6.out.fr.trans f7)
   clear h7 h8 h9 f7
   go_wp2_with fail
   go_end0
   have hres : R3 = recS d R := by rw [HR3.out, if_neg (by rw [HSB.out]; decide), if_pos HY13.out]
   rw [hres]
   refine ⟨rfl, ⟨ext, H7.out, fun v hv => by have := H8.out v hv; have := HRS.out; omega, fun hb => ?_⟩, F7.out⟩
   rw [H9.out hb, HYG.out, if_neg (by rw [HY13.out]; decide)]
  ·have qy : (y.op == 13) = false := beq_false_of hy13
   have HY13 := Lh hy13
   clear hy13
   go_wp2_with fail
   refine wp_region_text (by kernel_rfl) (by kernel_rfl) ?_
   have CC6 := Lh CC5.out.drew
   clear e0 e3 ef d0 d2 d3 g0 g1 g2 y0
   obtain ⟨e0, e3, ef, d0, d2, d3⟩ := CC6.out.cells
   rw [HSB.out] at e3
   have g0 := CC6.out.kid 0 j HJ0.out
   have g1 := CC6.out.kid 1 b HJ1.out
   have g2 := CC6.out.kid 2 d HJ2.out
   have y0 := CC6.out.nodes.op HY.out
   go_wp2_with fail
   refine Only.normal ?_
   go_wp2_with fail
   refine (HEB3.out vars R _ (fun _ => HLN.out) CC6.out.rl CC6.out.nodes).mono ?_
   rintro e w7 ⟨rfl, h7, f7⟩
   rw [HSB.out, if_neg (by decide)] at h7
   have H7 := Lh h7
   have F7 := Lh (CC6.out.fr.trans f7)
   clear h7 f7
   go_wp2_with fail
   go_end0
   have hres : R3 = recB d R := by rw [HR3.out, if_neg (by rw [HSB.out]; decide), if_neg HY13.out]
   rw [hres]
   refine ⟨rfl, ⟨[], by rw [List.append_nil]; exact H7.out, fun v hv => by simp at hv, fun _ => rfl⟩, F7.out⟩
end
end Go.Proofs.Ytggibiodeecljaa
