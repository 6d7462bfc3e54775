/- The reference's looker: stmt: loops, do, and what is no statement. Written by gen_stmt13.py. The reference's looker: stmt: do, and what is no statement. Written by gen_stmt13.py. The reference's looker: stmt: set, its ways that are bad. Written by gen_stmt13.py. -/
import Derived.Test.YtggibiodeecljaaMBlk13
import Derived.Test.YtggibiodeecljaaMCall13
namespace Go.Proofs.Ytggibiodeecljaa
open Go.RowKit
set_option linter.unusedVariables false
section
variable (B kb tb toff cap : Nat) (ts : List Node) (htb : tb < B) (hl : ts.length ≤ 2000) (htxt : ∀ y ∈ ts, y.text.size ≤ 1099511627776) (i : Nat) (x : Node) (hi : i < ts.length) (hbe : 0 ≤ behind ts i) (hx : ts[i]? = some x) (vars : List Vr) (slots : List Int) (seen : Int → Option Value) (w : World) (hs : slots.length ≤ 2 + 3 * i) (h : RL w B kb (.slice (some ⟨tb, toff, none⟩) ts.length cap) vars ⟨slots, seen, false⟩) (hn : NodesAt w tb toff ts)
include htb hl htxt hi hbe hx hs h hn
set_option maxRecDepth 100000 in
set_option maxHeartbeats 2000000 in
theorem stmt_14_loop (hop : x.op = 14) (R : LSt) (hlp : ∀ wx, RL wx B kb (.slice (some ⟨tb, toff, none⟩) ts.length cap) vars ⟨slots, seen, false⟩ → NodesAt wx tb toff ts → Calls Try.prog 170 #[.pointer (some ⟨kb, 0, none⟩), .int .i64 i] wx fun e w' => e = .returned (.tuple #[]) ∧ RL w' B kb (.slice (some ⟨tb, toff, none⟩) ts.length cap) vars R ∧ Frm B [150, 40, 152] wx w') :
  Calls Try.prog 139 #[.pointer (some ⟨kb, 0, none⟩), .int .i64 i] w fun e w' => e = .returned (.tuple #[]) ∧ (RL w' B kb (.slice (some ⟨tb, toff, none⟩) ts.length cap) vars R) ∧ Frm B [150, 40, 152] w w' := by
 obtain ⟨c0, c1, c2, c3, c4, c5, c6⟩ := hn.all hx
 obtain ⟨k0, k3, kf⟩ := h.cells
 simp only at k3
 obtain ⟨hB, hks⟩ := h.size
 have hki := kids13_start B kb tb toff cap ts i x vars ⟨slots, seen, false⟩ w h hn htb hi hl
 obtain ⟨n, hnk⟩ : ∃ n, (kidsOf ts i).length = n := ⟨_, rfl⟩
 rw [hnk] at hki
 have HKI := Lh hki
 have HNK := Lh hnk
 have HX := Lh hx
 have HS := Lh hs
 have HBE := Lh hbe
 have HT := Lh htxt
 have H := Lh h
 have hop2 := hop
 have q11 : (x.op == 11) = false := beq_false_of (by omega)
 have q12 : (x.op == 12) = false := beq_false_of (by omega)
 have q13 : (x.op == 13) = false := beq_false_of (by omega)
 have q14 : (x.op == 14) = true := beq_true_of hop
 clear hop hop2
 have HLP := Lh hlp
 clear hlp
 clear h hn hki hx hs hbe htxt
 go_enter Try.func139, Try.ntmps139
 go_wp2_with fail
 refine HKI.out.mono ?_
 rintro e w1 ⟨A, c, base, rfl, C1⟩
 obtain ⟨e0, e3, ef, d0, d2, d3⟩ := C1.cells
 have CC1 := Lh C1
 have hz1 := C1.rl.size
 clear C1
 go_wp2_with fail
 refine (HLP.out _ CC1.out.rl CC1.out.nodes).mono ?_
 rintro e w2 ⟨rfl, h2, f2⟩
 have CC2 := Lh ((CC1.out).step (by simp) h2 f2)
 clear h2 f2 e0 e3 ef d0 d2 d3
 obtain ⟨e0, e3, ef, d0, d2, d3⟩ := CC2.out.cells
 go_wp2_with fail
 go_end0
 exact ⟨rfl, CC2.out.rl, CC2.out.fr⟩
set_option maxRecDepth 100000 in
set_option maxHeartbeats 2000000 in
theorem stmt_15_loop (hop : x.op = 15) (R : LSt) (hlp : ∀ wx, RL wx B kb (.slice (some ⟨tb, toff, none⟩) ts.length cap) vars ⟨slots, seen, false⟩ → NodesAt wx tb toff ts → Calls Try.prog 170 #[.pointer (some ⟨kb, 0, none⟩), .int .i64 i] wx fun e w' => e = .returned (.tuple #[]) ∧ RL w' B kb (.slice (some ⟨tb, toff, none⟩) ts.length cap) vars R ∧ Frm B [150, 40, 152] wx w') :
  Calls Try.prog 139 #[.pointer (some ⟨kb, 0, none⟩), .int .i64 i] w fun e w' => e = .returned (.tuple #[]) ∧ (RL w' B kb (.slice (some ⟨tb, toff, none⟩) ts.length cap) vars R) ∧ Frm B [150, 40, 152] w w' := by
 obtain ⟨c0, c1, c2, c3, c4, c5, c6⟩ := hn.all hx
 obtain ⟨k0, k3, kf⟩ := h.cells
 simp only at k3
 obtain ⟨hB, hks⟩ := h.size
 have hki := kids13_start B kb tb toff cap ts i x vars ⟨slots, seen, false⟩ w h hn htb hi hl
 obtain ⟨n, hnk⟩ : ∃ n, (kidsOf ts i).length = n := ⟨_, rfl⟩
 rw [hnk] at hki
 have HKI := Lh hki
 have HNK := Lh hnk
 have HX := Lh hx
 have HS := Lh hs
 have HBE := Lh hbe
 have HT := Lh htxt
 have H := Lh h
 have hop2 := hop
 have q11 : (x.op == 11) = false := beq_false_of (by omega)
 have q12 : (x.op == 12) = false := beq_false_of (by omega)
 have q13 : (x.op == 13) = false := beq_false_of (by omega)
 have q14 : (x.op == 14) = false := beq_false_of (by omega)
 have q15 : (x.op == 15) = true := beq_true_of hop
 clear hop hop2
 have HLP := Lh hlp
 clear hlp
 clear h hn hki hx hs hbe htxt
 go_enter Try.func139, Try.ntmps139
 go_wp2_with fail
 refine HKI.out.mono ?_
 rintro e w1 ⟨A, c, base, rfl, C1⟩
 obtain ⟨e0, e3, ef, d0, d2, d3⟩ := C1.cells
 have CC1 := Lh C1
 have hz1 := C1.rl.size
 clear C1
 go_wp2_with fail
 refine (HLP.out _ CC1.out.rl CC1.out.nodes).mono ?_
 rintro e w2 ⟨rfl, h2, f2⟩
 have CC2 := Lh ((CC1.out).step (by simp) h2 f2)
 clear h2 f2 e0 e3 ef d0 d2 d3
 obtain ⟨e0, e3, ef, d0, d2, d3⟩ := CC2.out.cells
 go_wp2_with fail
 go_end0
 exact ⟨rfl, CC2.out.rl, CC2.out.fr⟩
set_option maxRecDepth 100000 in
set_option maxHeartbeats 2000000 in
theorem stmt_16_loop (hop : x.op = 16) (R : LSt) (hlp : ∀ wx, RL wx B kb (.slice (some ⟨tb, toff, none⟩) ts.length cap) vars ⟨slots, seen, false⟩ → NodesAt wx tb toff ts → Calls Try.prog 170 #[.pointer (some ⟨kb, 0, none⟩), .int .i64 i] wx fun e w' => e = .returned (.tuple #[]) ∧ RL w' B kb (.slice (some ⟨tb, toff, none⟩) ts.length cap) vars R ∧ Frm B [150, 40, 152] wx w') :
  Calls Try.prog 139 #[.pointer (some ⟨kb, 0, none⟩), .int .i64 i] w fun e w' => e = .returned (.tuple #[]) ∧ (RL w' B kb (.slice (some ⟨tb, toff, none⟩) ts.length cap) vars R) ∧ Frm B [150, 40, 152] w w' := by
 obtain ⟨c0, c1, c2, c3, c4, c5, c6⟩ := hn.all hx
 obtain ⟨k0, k3, kf⟩ := h.cells
 simp only at k3
 obtain ⟨hB, hks⟩ := h.size
 have hki := kids13_start B kb tb toff cap ts i x vars ⟨slots, seen, false⟩ w h hn htb hi hl
 obtain ⟨n, hnk⟩ : ∃ n, (kidsOf ts i).length = n := ⟨_, rfl⟩
 rw [hnk] at hki
 have HKI := Lh hki
 have HNK := Lh hnk
 have HX := Lh hx
 have HS := Lh hs
 have HBE := Lh hbe
 have HT := Lh htxt
 have H := Lh h
 have hop2 := hop
 have q11 : (x.op == 11) = false := beq_false_of (by omega)
 have q12 : (x.op == 12) = false := beq_false_of (by omega)
 have q13 : (x.op == 13) = false := beq_false_of (by omega)
 have q14 : (x.op == 14) = false := beq_false_of (by omega)
 have q15 : (x.op == 15) = false := beq_false_of (by omega)
 have q16 : (x.op == 16) = true := beq_true_of hop
 clear hop hop2
 have HLP := Lh hlp
 clear hlp
 clear h hn hki hx hs hbe htxt
 go_enter Try.func139, Try.ntmps139
 go_wp2_with fail
 refine HKI.out.mono ?_
 rintro e w1 ⟨A, c, base, rfl, C1⟩
 obtain ⟨e0, e3, ef, d0, d2, d3⟩ := C1.cells
 have CC1 := Lh C1
 have hz1 := C1.rl.size
 clear C1
 go_wp2_with fail
 refine (HLP.out _ CC1.out.rl CC1.out.nodes).mono ?_
 rintro e w2 ⟨rfl, h2, f2⟩
 have CC2 := Lh ((CC1.out).step (by simp) h2 f2)
 clear h2 f2 e0 e3 ef d0 d2 d3
 obtain ⟨e0, e3, ef, d0, d2, d3⟩ := CC2.out.cells
 go_wp2_with fail
 go_end0
 exact ⟨rfl, CC2.out.rl, CC2.out.fr⟩
end
end Go.Proofs.Ytggibiodeecljaa
namespace Go.Proofs.Ytggibiodeecljaa
open Go.RowKit
set_option linter.unusedVariables false
theorem do_eq (rec : Nat → Bool → ER) (ts : List Node) (hrb : ∀ j, (rec j true).2.2 = true) (i : Nat) (x : Node) (hx : ts.getD i node0 = x) (s : LSt) :
  (match signOf effectsM x.n with | none => badF s | some sg => highF (callF rec ts i (kidsOf ts i) sg) s) = { s with bad := (callR rec ts 2 x (kidsOf ts i)).2.2 || !(decide ((callR rec ts 2 x (kidsOf ts i)).2.1 ≤ 256)) } := by
 have hL : listM 2 = effectsM := rfl
 unfold callR
 rw [hL]
 cases hs : signOf effectsM x.n with
 | none => simp [badF]
 | some sg =>
  simp only
  unfold callF highF
  simp only [hx]
  by_cases hk : (kidsOf ts i).length = sg.args.length
  ·by_cases hli : likeB x sg.tell x.n 0 = true
   ·simp [hk, hli]
   ·have hli := Bool.eq_false_iff.2 hli
    simp [hk, hli, callLoop_bad rec ts hrb]
  ·simp [hk]
section
variable (B kb tb toff cap : Nat) (ts : List Node) (htb : tb < B) (hl : ts.length ≤ 2000) (htxt : ∀ y ∈ ts, y.text.size ≤ 1099511627776) (i : Nat) (x : Node) (hi : i < ts.length) (hbe : 0 ≤ behind ts i) (hx : ts[i]? = some x) (vars : List Vr) (slots : List Int) (seen : Int → Option Value) (w : World) (hs : slots.length ≤ 2 + 3 * i) (h : RL w B kb (.slice (some ⟨tb, toff, none⟩) ts.length cap) vars ⟨slots, seen, false⟩) (hn : NodesAt w tb toff ts)
include htb hl htxt hi hbe hx hs h hn
set_option maxRecDepth 100000 in
set_option maxHeartbeats 2000000 in
theorem stmt_do13 (hop : x.op = 19) :
  Calls Try.prog 139 #[.pointer (some ⟨kb, 0, none⟩), .int .i64 i] w fun e w' => e = .returned (.tuple #[]) ∧ (RL w' B kb (.slice (some ⟨tb, toff, none⟩) ts.length cap) vars { (⟨slots, seen, false⟩ : LSt) with bad := (callR (fun j b => exprM ts slots seen ts.length j b) ts 2 x (kidsOf ts i)).2.2 || !(decide ((callR (fun j b => exprM ts slots seen ts.length j b) ts 2 x (kidsOf ts i)).2.1 ≤ 256)) }) ∧ Frm B [150, 40, 152] w w' := by
 have h0 := h
 obtain ⟨c0, c1, c2, c3, c4, c5, c6⟩ := hn.all hx
 obtain ⟨k0, k3, kf⟩ := h.cells
 simp only at k3
 obtain ⟨hB, hks⟩ := h.size
 have hki := kids13_start B kb tb toff cap ts i x vars ⟨slots, seen, false⟩ w h hn htb hi hl
 obtain ⟨n, hnk⟩ : ∃ n, (kidsOf ts i).length = n := ⟨_, rfl⟩
 rw [hnk] at hki
 have HKI := Lh hki
 have HNK := Lh hnk
 have HX := Lh hx
 have HS := Lh hs
 have HBE := Lh hbe
 have HT := Lh htxt
 have H := Lh h
 have hop2 := hop
 have q11 : (x.op == 11) = false := beq_false_of (by omega)
 have q12 : (x.op == 12) = false := beq_false_of (by omega)
 have q13 : (x.op == 13) = false := beq_false_of (by omega)
 have q14 : (x.op == 14) = false := beq_false_of (by omega)
 have q15 : (x.op == 15) = false := beq_false_of (by omega)
 have q16 : (x.op == 16) = false := beq_false_of (by omega)
 have q17 : (x.op == 17) = false := beq_false_of (by omega)
 have q18 : (x.op == 18) = false := beq_false_of (by omega)
 have q19 : (x.op == 19) = true := beq_true_of hop
 clear hop hop2
 have HI := Lh h0.good.2
 have hca := fun (wx : World) (h1 : RL wx B kb (.slice (some ⟨tb, toff, none⟩) ts.length cap) vars ⟨slots, seen, false⟩) h2 => call13_w B kb tb toff cap ts slots vars (by omega) htb HT.out 2 (.inr rfl) (fun j b => exprM ts slots seen ts.length j b) (3 * ts.length) (by omega) (by omega) (fun j => by rw [exprM_bad]) i x wx h1.good.1 HX.out h2 (fun j hj => by
  obtain ⟨g1, g2, g3, _⟩ := kidsOf_ok hj
  have hlen := HI.out.len
  have := HS.out
  exact expr13_any B kb tb toff cap ts slots vars seen (by omega) htb HT.out (by omega) HI.out.rel ts.length j (by omega) (by omega) g2 g3)
 obtain ⟨E, hE⟩ : ∃ E, E = callR (fun j b => exprM ts slots seen ts.length j b) ts 2 x (kidsOf ts i) := ⟨_, rfl⟩
 rw [← hE] at hca
 rw [← hE]
 have HCA := Lh hca
 clear hca h0 hE
 clear h hn hki hx hs hbe htxt
 go_enter Try.func139, Try.ntmps139
 go_wp2_with fail
 refine HKI.out.mono ?_
 rintro e w1 ⟨A, c, base, rfl, C1⟩
 obtain ⟨e0, e3, ef, d0, d2, d3⟩ := C1.cells
 have CC1 := Lh C1
 have hz1 := C1.rl.size
 clear C1
 go_wp2_with fail
 refine (HCA.out _ CC1.out.rl CC1.out.nodes).mono ?_
 rintro e w2 ⟨kd, hh, rfl, hh0, hh1, hrk, f2, hgood⟩
 have HGO := Lh hgood
 have CC2 := Lh (CC1.out.step (by simp) (RL.of hrk HI.out) f2)
 clear hrk f2 hgood e0 e3 ef d0 d2 d3
 obtain ⟨e0, e3, ef, d0, d2, d3⟩ := CC2.out.cells
 go_wp2_with fail
 refine (low13_rl B kb _ vars _ hh _ CC2.out.rl).mono ?_
 rintro e w3 ⟨rfl, h3, f3⟩
 have CC3 := Lh ((CC2.out).step (by simp) h3 f3)
 clear h3 f3 e0 e3 ef d0 d2 d3
 obtain ⟨e0, e3, ef, d0, d2, d3⟩ := CC3.out.cells
 go_wp2_with fail
 go_end0
 have hrl := CC3.out.rl
 refine ⟨rfl, ?_, CC3.out.fr⟩
 cases hb : E.2.2 with
 | true =>
  rw [hb] at hrl
  simpa using hrl
 | false =>
  rw [hb, (HGO.out hb).2] at hrl
  exact hrl
set_option maxRecDepth 100000 in
set_option maxHeartbeats 2000000 in
theorem stmt_none13 (hop : x.op ≠ 11 ∧ x.op ≠ 12 ∧ x.op ≠ 13 ∧ x.op ≠ 14 ∧ x.op ≠ 15 ∧ x.op ≠ 16 ∧ x.op ≠ 17 ∧ x.op ≠ 18 ∧ x.op ≠ 19) :
  Calls Try.prog 139 #[.pointer (some ⟨kb, 0, none⟩), .int .i64 i] w fun e w' => e = .returned (.tuple #[]) ∧ (RL w' B kb (.slice (some ⟨tb, toff, none⟩) ts.length cap) vars ⟨slots, seen, true⟩) ∧ Frm B [150, 40, 152] w w' := by
 obtain ⟨c0, c1, c2, c3, c4, c5, c6⟩ := hn.all hx
 obtain ⟨k0, k3, kf⟩ := h.cells
 simp only at k3
 obtain ⟨hB, hks⟩ := h.size
 have hki := kids13_start B kb tb toff cap ts i x vars ⟨slots, seen, false⟩ w h hn htb hi hl
 obtain ⟨n, hnk⟩ : ∃ n, (kidsOf ts i).length = n := ⟨_, rfl⟩
 rw [hnk] at hki
 have HKI := Lh hki
 have HNK := Lh hnk
 have HX := Lh hx
 have HS := Lh hs
 have HBE := Lh hbe
 have HT := Lh htxt
 have H := Lh h
 obtain ⟨h11, h12, h13, h14, h15, h16, h17, h18, h19⟩ := hop
 have q11 : (x.op == 11) = false := beq_false_of h11
 have q12 : (x.op == 12) = false := beq_false_of h12
 have q13 : (x.op == 13) = false := beq_false_of h13
 have q14 : (x.op == 14) = false := beq_false_of h14
 have q15 : (x.op == 15) = false := beq_false_of h15
 have q16 : (x.op == 16) = false := beq_false_of h16
 have q17 : (x.op == 17) = false := beq_false_of h17
 have q18 : (x.op == 18) = false := beq_false_of h18
 have q19 : (x.op == 19) = false := beq_false_of h19
 clear h11 h12 h13 h14 h15 h16 h17 h18 h19
 clear h hn hki hx hs hbe htxt
 go_enter Try.func139, Try.ntmps139
 go_wp2_with fail
 refine HKI.out.mono ?_
 rintro e w1 ⟨A, c, base, rfl, C1⟩
 obtain ⟨e0, e3, ef, d0, d2, d3⟩ := C1.cells
 have CC1 := Lh C1
 have hz1 := C1.rl.size
 clear C1
 go_wp2_with fail
 go_end0
 obtain ⟨sl, hrk, _⟩ := CC1.out.rl
 exact ⟨rfl, RL.isBad (hrk.setBad true) rfl, CC1.out.fr.trans ((hrk.frm 3 (.bool true)).more (by simp))⟩
end
end Go.Proofs.Ytggibiodeecljaa
namespace Go.Proofs.Ytggibiodeecljaa
open Go.RowKit
set_option linter.unusedVariables false
section
variable (B kb tb toff cap : Nat) (ts : List Node) (htb : tb < B) (hl : ts.length ≤ 2000) (htxt : ∀ y ∈ ts, y.text.size ≤ 1099511627776) (i : Nat) (x : Node) (hi : i < ts.length) (hbe : 0 ≤ behind ts i) (hx : ts[i]? = some x) (vars : List Vr) (slots : List Int) (seen : Int → Option Value) (w : World) (hs : slots.length ≤ 2 + 3 * i) (h : RL w B kb (.slice (some ⟨tb, toff, none⟩) ts.length cap) vars ⟨slots, seen, false⟩) (hn : NodesAt w tb toff ts)
include htb hl htxt hi hbe hx hs h hn
set_option maxRecDepth 100000 in
set_option maxHeartbeats 2000000 in
theorem stmt_set13_none1 (hop : x.op = 12) (e1 : (((kidsOf ts i).length : Int) == 1) = true) (hf : findV vars x.n = none) :
  Calls Try.prog 139 #[.pointer (some ⟨kb, 0, none⟩), .int .i64 i] w fun e w' => e = .returned (.tuple #[]) ∧ (RL w' B kb (.slice (some ⟨tb, toff, none⟩) ts.length cap) vars ⟨slots, seen, true⟩) ∧ Frm B [150, 40, 152] w w' := by
 obtain ⟨c0, c1, c2, c3, c4, c5, c6⟩ := hn.all hx
 obtain ⟨k0, k3, kf⟩ := h.cells
 simp only at k3
 obtain ⟨hB, hks⟩ := h.size
 have hki := kids13_start B kb tb toff cap ts i x vars ⟨slots, seen, false⟩ w h hn htb hi hl
 obtain ⟨n, hnk⟩ : ∃ n, (kidsOf ts i).length = n := ⟨_, rfl⟩
 rw [hnk] at hki
 have HKI := Lh hki
 have HF := Lh hf
 clear hf
 have HNK := Lh hnk
 have HX := Lh hx
 have HS := Lh hs
 have HBE := Lh hbe
 have HT := Lh htxt
 have H := Lh h
 have hop2 := hop
 have q11 : (x.op == 11) = false := beq_false_of (by omega)
 have q12 : (x.op == 12) = true := beq_true_of hop
 clear hop hop2
 rw [hnk] at e1
 clear h hn hki hx hs hbe htxt
 go_enter Try.func139, Try.ntmps139
 go_wp2_with fail
 refine HKI.out.mono ?_
 rintro e w1 ⟨A, c, base, rfl, C1⟩
 obtain ⟨e0, e3, ef, d0, d2, d3⟩ := C1.cells
 have CC1 := Lh C1
 have hz1 := C1.rl.size
 clear C1
 obtain ⟨sl0, hrk0, hgd0⟩ := CC1.out.rl
 obtain ⟨e00, hI0⟩ := hgd0 rfl
 simp only at e00
 rw [e00] at hrk0
 have hse := seen13_any B kb _ ⟨slots, vars, false⟩ x.n w1 hrk0 (by have h1 : vars.length ≤ slots.length := hI0.len; have := HS.out; show vars.length ≤ _; omega)
 simp only at hse
 rw [HF.out] at hse
 simp only [varV, Option.isSome] at hse
 have HSE := Lh hse
 have HI := Lh hI0
 clear hse hrk0 hgd0 hI0 e00
 go_wp2_with fail
 refine HSE.out.mono ?_
 rintro e w2 ⟨rfl, h2, b2⟩
 have hzz := b2.size
 have f2 : Frm B [150] w1 w2 := Frm.of_below b2 (by omega)
 have CC2a := Lh (CC1.out.step (by simp) (RL.of h2 HI.out) f2)
 have CC2 := Lh (CC2a.out.alloc (.cells #[.string ByteArray.empty, .int .i64 (0), .int .i8 (0), .bool false] 152))
 have HVB2 := Lh (Blk.new w2 152 #[.string ByteArray.empty, .int .i64 (0), .int .i8 (0), .bool false])
 have v2 := HVB2.out.cell 2
 have v3 := HVB2.out.cell 3
 clear h2 f2 b2 e0 e3 ef d0 d2 d3
 obtain ⟨e0, e3, ef, d0, d2, d3⟩ := CC2.out.cells
 go_wp2_with fail
 refine (must13_no B kb _ vars ⟨slots, seen, false⟩ _ _ (CC2.out).rl (.inl rfl)).mono ?_
 rintro e w3 ⟨rfl, h3, f3⟩
 have CC3 := Lh ((CC2.out).step (by simp) h3 f3)
 have HVB3 := Lh (f3.blk HVB2.out (by decide))
 clear v2 v3
 have v2 := HVB3.out.cell 2
 have v3 := HVB3.out.cell 3
 clear h3 f3 e0 e3 ef d0 d2 d3
 obtain ⟨e0, e3, ef, d0, d2, d3⟩ := CC3.out.cells
 go_wp2_with fail
 refine (plain13_no B kb tb toff cap ts ⟨slots, seen, true⟩ vars i x 0 x.n 0 _ (.inr rfl) (CC3.out).rl HX.out (CC3.out).nodes hl).mono ?_
 rintro e w4 ⟨rfl, h4, f4⟩
 have CC4 := Lh ((CC3.out).step (by simp) h4 f4)
 have HVB4 := Lh (f4.blk HVB3.out (by decide))
 clear v2 v3
 have v2 := HVB4.out.cell 2
 have v3 := HVB4.out.cell 3
 clear h4 f4 e0 e3 ef d0 d2 d3
 obtain ⟨e0, e3, ef, d0, d2, d3⟩ := CC4.out.cells
 have e3 : w4.cell? ⟨kb, 3, none⟩ = some (.bool true) := e3
 go_wp2_with fail
 go_end0
 exact ⟨rfl, CC4.out.rl, CC4.out.fr⟩
set_option maxRecDepth 100000 in
set_option maxHeartbeats 2000000 in
theorem stmt_set13_none0 (hop : x.op = 12) (e1 : (((kidsOf ts i).length : Int) == 1) = false) (hf : findV vars x.n = none) :
  Calls Try.prog 139 #[.pointer (some ⟨kb, 0, none⟩), .int .i64 i] w fun e w' => e = .returned (.tuple #[]) ∧ (RL w' B kb (.slice (some ⟨tb, toff, none⟩) ts.length cap) vars ⟨slots, seen, true⟩) ∧ Frm B [150, 40, 152] w w' := by
 obtain ⟨c0, c1, c2, c3, c4, c5, c6⟩ := hn.all hx
 obtain ⟨k0, k3, kf⟩ := h.cells
 simp only at k3
 obtain ⟨hB, hks⟩ := h.size
 have hki := kids13_start B kb tb toff cap ts i x vars ⟨slots, seen, false⟩ w h hn htb hi hl
 obtain ⟨n, hnk⟩ : ∃ n, (kidsOf ts i).length = n := ⟨_, rfl⟩
 rw [hnk] at hki
 have HKI := Lh hki
 have HF := Lh hf
 clear hf
 have HNK := Lh hnk
 have HX := Lh hx
 have HS := Lh hs
 have HBE := Lh hbe
 have HT := Lh htxt
 have H := Lh h
 have hop2 := hop
 have q11 : (x.op == 11) = false := beq_false_of (by omega)
 have q12 : (x.op == 12) = true := beq_true_of hop
 clear hop hop2
 rw [hnk] at e1
 clear h hn hki hx hs hbe htxt
 go_enter Try.func139, Try.ntmps139
 go_wp2_with fail
 refine HKI.out.mono ?_
 rintro e w1 ⟨A, c, base, rfl, C1⟩
 obtain ⟨e0, e3, ef, d0, d2, d3⟩ := C1.cells
 have CC1 := Lh C1
 have hz1 := C1.rl.size
 clear C1
 obtain ⟨sl0, hrk0, hgd0⟩ := CC1.out.rl
 obtain ⟨e00, hI0⟩ := hgd0 rfl
 simp only at e00
 rw [e00] at hrk0
 have hse := seen13_any B kb _ ⟨slots, vars, false⟩ x.n w1 hrk0 (by have h1 : vars.length ≤ slots.length := hI0.len; have := HS.out; show vars.length ≤ _; omega)
 simp only at hse
 rw [HF.out] at hse
 simp only [varV, Option.isSome] at hse
 have HSE := Lh hse
 have HI := Lh hI0
 clear hse hrk0 hgd0 hI0 e00
 go_wp2_with fail
 refine HSE.out.mono ?_
 rintro e w2 ⟨rfl, h2, b2⟩
 have hzz := b2.size
 have f2 : Frm B [150] w1 w2 := Frm.of_below b2 (by omega)
 have CC2a := Lh (CC1.out.step (by simp) (RL.of h2 HI.out) f2)
 have CC2 := Lh (CC2a.out.alloc (.cells #[.string ByteArray.empty, .int .i64 (0), .int .i8 (0), .bool false] 152))
 have HVB2 := Lh (Blk.new w2 152 #[.string ByteArray.empty, .int .i64 (0), .int .i8 (0), .bool false])
 have v2 := HVB2.out.cell 2
 have v3 := HVB2.out.cell 3
 clear h2 f2 b2 e0 e3 ef d0 d2 d3
 obtain ⟨e0, e3, ef, d0, d2, d3⟩ := CC2.out.cells
 go_wp2_with fail
 refine (must13_no B kb _ vars ⟨slots, seen, false⟩ _ _ (CC2.out).rl (.inl rfl)).mono ?_
 rintro e w3 ⟨rfl, h3, f3⟩
 have CC3 := Lh ((CC2.out).step (by simp) h3 f3)
 have HVB3 := Lh (f3.blk HVB2.out (by decide))
 clear v2 v3
 have v2 := HVB3.out.cell 2
 have v3 := HVB3.out.cell 3
 clear h3 f3 e0 e3 ef d0 d2 d3
 obtain ⟨e0, e3, ef, d0, d2, d3⟩ := CC3.out.cells
 go_wp2_with fail
 refine (plain13_no B kb tb toff cap ts ⟨slots, seen, true⟩ vars i x 0 x.n 0 _ (.inr rfl) (CC3.out).rl HX.out (CC3.out).nodes hl).mono ?_
 rintro e w4 ⟨rfl, h4, f4⟩
 have CC4 := Lh ((CC3.out).step (by simp) h4 f4)
 have HVB4 := Lh (f4.blk HVB3.out (by decide))
 clear v2 v3
 have v2 := HVB4.out.cell 2
 have v3 := HVB4.out.cell 3
 clear h4 f4 e0 e3 ef d0 d2 d3
 obtain ⟨e0, e3, ef, d0, d2, d3⟩ := CC4.out.cells
 have e3 : w4.cell? ⟨kb, 3, none⟩ = some (.bool true) := e3
 go_wp2_with fail
 go_end0
 exact ⟨rfl, CC4.out.rl, CC4.out.fr⟩
set_option maxRecDepth 100000 in
set_option maxHeartbeats 2000000 in
theorem stmt_set13_some0 (hop : x.op = 12) (e1 : (((kidsOf ts i).length : Int) == 1) = false) (vs vk : Int) (hf : findV vars x.n = some ⟨vs, vk, true⟩) :
  Calls Try.prog 139 #[.pointer (some ⟨kb, 0, none⟩), .int .i64 i] w fun e w' => e = .returned (.tuple #[]) ∧ (RL w' B kb (.slice (some ⟨tb, toff, none⟩) ts.length cap) vars ⟨slots, seen, true⟩) ∧ Frm B [150, 40, 152] w w' := by
 obtain ⟨c0, c1, c2, c3, c4, c5, c6⟩ := hn.all hx
 obtain ⟨k0, k3, kf⟩ := h.cells
 simp only at k3
 obtain ⟨hB, hks⟩ := h.size
 have hki := kids13_start B kb tb toff cap ts i x vars ⟨slots, seen, false⟩ w h hn htb hi hl
 obtain ⟨n, hnk⟩ : ∃ n, (kidsOf ts i).length = n := ⟨_, rfl⟩
 rw [hnk] at hki
 have HKI := Lh hki
 have HF := Lh hf
 clear hf
 have HNK := Lh hnk
 have HX := Lh hx
 have HS := Lh hs
 have HBE := Lh hbe
 have HT := Lh htxt
 have H := Lh h
 have hop2 := hop
 have q11 : (x.op == 11) = false := beq_false_of (by omega)
 have q12 : (x.op == 12) = true := beq_true_of hop
 clear hop hop2
 rw [hnk] at e1
 clear h hn hki hx hs hbe htxt
 go_enter Try.func139, Try.ntmps139
 go_wp2_with fail
 refine HKI.out.mono ?_
 rintro e w1 ⟨A, c, base, rfl, C1⟩
 obtain ⟨e0, e3, ef, d0, d2, d3⟩ := C1.cells
 have CC1 := Lh C1
 have hz1 := C1.rl.size
 clear C1
 obtain ⟨sl0, hrk0, hgd0⟩ := CC1.out.rl
 obtain ⟨e00, hI0⟩ := hgd0 rfl
 simp only at e00
 rw [e00] at hrk0
 have hse := seen13_any B kb _ ⟨slots, vars, false⟩ x.n w1 hrk0 (by have h1 : vars.length ≤ slots.length := hI0.len; have := HS.out; show vars.length ≤ _; omega)
 simp only at hse
 rw [HF.out] at hse
 simp only [varV, Option.isSome, Vr.cells] at hse
 have HSE := Lh hse
 have HI := Lh hI0
 clear hse hrk0 hgd0 hI0 e00
 go_wp2_with fail
 refine HSE.out.mono ?_
 rintro e w2 ⟨rfl, h2, b2⟩
 have hzz := b2.size
 have f2 : Frm B [150] w1 w2 := Frm.of_below b2 (by omega)
 have CC2a := Lh (CC1.out.step (by simp) (RL.of h2 HI.out) f2)
 have CC2 := Lh (CC2a.out.alloc (.cells #[.string ByteArray.empty, .int .i64 (vs), .int .i8 (vk), .bool true] 152))
 have HVB2 := Lh (Blk.new w2 152 #[.string ByteArray.empty, .int .i64 (vs), .int .i8 (vk), .bool true])
 have v2 := HVB2.out.cell 2
 have v3 := HVB2.out.cell 3
 clear h2 f2 b2 e0 e3 ef d0 d2 d3
 obtain ⟨e0, e3, ef, d0, d2, d3⟩ := CC2.out.cells
 go_wp2_with fail
 refine (must13_no B kb _ vars ⟨slots, seen, false⟩ _ _ (CC2.out).rl (.inl rfl)).mono ?_
 rintro e w3 ⟨rfl, h3, f3⟩
 have CC3 := Lh ((CC2.out).step (by simp) h3 f3)
 have HVB3 := Lh (f3.blk HVB2.out (by decide))
 clear v2 v3
 have v2 := HVB3.out.cell 2
 have v3 := HVB3.out.cell 3
 clear h3 f3 e0 e3 ef d0 d2 d3
 obtain ⟨e0, e3, ef, d0, d2, d3⟩ := CC3.out.cells
 go_wp2_with fail
 refine (plain13_no B kb tb toff cap ts ⟨slots, seen, true⟩ vars i x 0 x.n 0 _ (.inr rfl) (CC3.out).rl HX.out (CC3.out).nodes hl).mono ?_
 rintro e w4 ⟨rfl, h4, f4⟩
 have CC4 := Lh ((CC3.out).step (by simp) h4 f4)
 have HVB4 := Lh (f4.blk HVB3.out (by decide))
 clear v2 v3
 have v2 := HVB4.out.cell 2
 have v3 := HVB4.out.cell 3
 clear h4 f4 e0 e3 ef d0 d2 d3
 obtain ⟨e0, e3, ef, d0, d2, d3⟩ := CC4.out.cells
 have e3 : w4.cell? ⟨kb, 3, none⟩ = some (.bool true) := e3
 go_wp2_with fail
 go_end0
 exact ⟨rfl, CC4.out.rl, CC4.out.fr⟩
set_option maxRecDepth 100000 in
set_option maxHeartbeats 2000000 in
theorem stmt_set13_some0f (hop : x.op = 12) (e1 : (((kidsOf ts i).length : Int) == 1) = false) (vs vk : Int) (hf : findV vars x.n = some ⟨vs, vk, false⟩) :
  Calls Try.prog 139 #[.pointer (some ⟨kb, 0, none⟩), .int .i64 i] w fun e w' => e = .returned (.tuple #[]) ∧ (RL w' B kb (.slice (some ⟨tb, toff, none⟩) ts.length cap) vars ⟨slots, seen, true⟩) ∧ Frm B [150, 40, 152] w w' := by
 obtain ⟨c0, c1, c2, c3, c4, c5, c6⟩ := hn.all hx
 obtain ⟨k0, k3, kf⟩ := h.cells
 simp only at k3
 obtain ⟨hB, hks⟩ := h.size
 have hki := kids13_start B kb tb toff cap ts i x vars ⟨slots, seen, false⟩ w h hn htb hi hl
 obtain ⟨n, hnk⟩ : ∃ n, (kidsOf ts i).length = n := ⟨_, rfl⟩
 rw [hnk] at hki
 have HKI := Lh hki
 have HF := Lh hf
 clear hf
 have HNK := Lh hnk
 have HX := Lh hx
 have HS := Lh hs
 have HBE := Lh hbe
 have HT := Lh htxt
 have H := Lh h
 have hop2 := hop
 have q11 : (x.op == 11) = false := beq_false_of (by omega)
 have q12 : (x.op == 12) = true := beq_true_of hop
 clear hop hop2
 rw [hnk] at e1
 clear h hn hki hx hs hbe htxt
 go_enter Try.func139, Try.ntmps139
 go_wp2_with fail
 refine HKI.out.mono ?_
 rintro e w1 ⟨A, c, base, rfl, C1⟩
 obtain ⟨e0, e3, ef, d0, d2, d3⟩ := C1.cells
 have CC1 := Lh C1
 have hz1 := C1.rl.size
 clear C1
 obtain ⟨sl0, hrk0, hgd0⟩ := CC1.out.rl
 obtain ⟨e00, hI0⟩ := hgd0 rfl
 simp only at e00
 rw [e00] at hrk0
 have hse := seen13_any B kb _ ⟨slots, vars, false⟩ x.n w1 hrk0 (by have h1 : vars.length ≤ slots.length := hI0.len; have := HS.out; show vars.length ≤ _; omega)
 simp only at hse
 rw [HF.out] at hse
 simp only [varV, Option.isSome, Vr.cells] at hse
 have HSE := Lh hse
 have HI := Lh hI0
 clear hse hrk0 hgd0 hI0 e00
 go_wp2_with fail
 refine HSE.out.mono ?_
 rintro e w2 ⟨rfl, h2, b2⟩
 have hzz := b2.size
 have f2 : Frm B [150] w1 w2 := Frm.of_below b2 (by omega)
 have CC2a := Lh (CC1.out.step (by simp) (RL.of h2 HI.out) f2)
 have CC2 := Lh (CC2a.out.alloc (.cells #[.string ByteArray.empty, .int .i64 (vs), .int .i8 (vk), .bool false] 152))
 have HVB2 := Lh (Blk.new w2 152 #[.string ByteArray.empty, .int .i64 (vs), .int .i8 (vk), .bool false])
 have v2 := HVB2.out.cell 2
 have v3 := HVB2.out.cell 3
 clear h2 f2 b2 e0 e3 ef d0 d2 d3
 obtain ⟨e0, e3, ef, d0, d2, d3⟩ := CC2.out.cells
 go_wp2_with fail
 refine (must13_no B kb _ vars ⟨slots, seen, false⟩ _ _ (CC2.out).rl (.inl rfl)).mono ?_
 rintro e w3 ⟨rfl, h3, f3⟩
 have CC3 := Lh ((CC2.out).step (by simp) h3 f3)
 have HVB3 := Lh (f3.blk HVB2.out (by decide))
 clear v2 v3
 have v2 := HVB3.out.cell 2
 have v3 := HVB3.out.cell 3
 clear h3 f3 e0 e3 ef d0 d2 d3
 obtain ⟨e0, e3, ef, d0, d2, d3⟩ := CC3.out.cells
 go_wp2_with fail
 refine (plain13_no B kb tb toff cap ts ⟨slots, seen, true⟩ vars i x 0 x.n 0 _ (.inr rfl) (CC3.out).rl HX.out (CC3.out).nodes hl).mono ?_
 rintro e w4 ⟨rfl, h4, f4⟩
 have CC4 := Lh ((CC3.out).step (by simp) h4 f4)
 have HVB4 := Lh (f4.blk HVB3.out (by decide))
 clear v2 v3
 have v2 := HVB4.out.cell 2
 have v3 := HVB4.out.cell 3
 clear h4 f4 e0 e3 ef d0 d2 d3
 obtain ⟨e0, e3, ef, d0, d2, d3⟩ := CC4.out.cells
 have e3 : w4.cell? ⟨kb, 3, none⟩ = some (.bool true) := e3
 go_wp2_with fail
 go_end0
 exact ⟨rfl, CC4.out.rl, CC4.out.fr⟩
end
end Go.Proofs.Ytggibiodeecljaa
