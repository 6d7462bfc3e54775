/- looker.stmt at an effect. -/
import Derived.Test.YtggibiodeecljaaMBlock
import Derived.Test.YtggibiodeecljaaExpr4
import Derived.Test.YtggibiodeecljaaOper
namespace Go.Proofs.Ytggibiodeecljaa
open Go.RowKit

theorem StC.below {B kb tb toff cap : Nat} {ts : List Node} {i : Nat} {x : Node} {bk bn bq base n c : Nat} {A : Option Addr} {w0 w w' : World} {s : LSt} (h : StC B kb tb toff cap ts i x bk bn bq base n c A w0 s w) (hb : Below w.heap.size w w') : StC B kb tb toff cap ts i x bk bn bq base n c A w0 s w' := by
  have hB := h.lk.size
  have htb := h.tbB
  exact ⟨h.lk.below hb (Nat.le_refl _), h.fr.trans (Frm.of_below hb (by omega)), h.tbB, h.nodes.below hb (by omega), h.b1.below hb h.b1.lt, h.b2.below hb h.b2.lt, h.b3.below hb h.b3.lt, (Frm.of_below (B := B) (T := []) hb (by omega)).own h.own (by simp)⟩

set_option maxRecDepth 100000 in
set_option maxHeartbeats 3200000 in
theorem stmt_nodo (B kb tb toff cap : Nat) (ts : List Node) (slots : List Int) (seen : Int → Option Value) (htb : tb < B) (hl : ts.length ≤ 100000) (i : Nat) (x : Node) (hi : i < ts.length) (hbe : 0 ≤ behind ts i) (hx : ts[i]? = some x) (w : World)
    (h : LK w B kb (.slice (some ⟨tb, toff, none⟩) ts.length cap) ⟨slots, seen, false⟩) (hn : NodesAt w tb toff ts) (hop : x.op = 19) (hs : signOf effectsM x.n = none) :
    Calls Try.prog 115 #[.pointer (some ⟨kb, 0, none⟩), .int .i64 i] w fun e w' => e = .returned (.tuple #[]) ∧ LK w' B kb (.slice (some ⟨tb, toff, none⟩) ts.length cap) ⟨slots, seen, true⟩ ∧ Frm B [132, 40] w w' := by
  obtain ⟨n, hnk⟩ : ∃ n, (kidsOf ts i).length = n := ⟨_, rfl⟩
  have hnl : n ≤ 100000 := by rw [← hnk]; exact kidsOf_le hbe hl
  obtain ⟨c0, c1, c2, c3, c4, c5, c6⟩ := hn.all hx
  obtain ⟨k0, k3⟩ := h.cells
  simp only at k3
  obtain ⟨hBk, hks⟩ := h.size
  have htw : tb < w.heap.size := by omega
  have hout : x.n < 0 ∨ ((9 : Nat) : Int) ≤ x.n := by
    unfold signOf at hs
    split at hs
    · exact .inl (by omega)
    · rw [List.getElem?_eq_none_iff] at hs
      have : effectsM.length = 9 := rfl
      omega
  have HC0 := Lib.hid (stmt_kids B kb tb toff cap ts ⟨slots, seen, false⟩ i n x w hl h hn htb hi hnk)
  have HO := Lib.hid hout
  clear h hn hx hnk hbe hs hout
  have q11 : (x.op == 11) = false := beq_false_of (by omega)
  have q12 : (x.op == 12) = false := beq_false_of (by omega)
  have q13 : (x.op == 13) = false := beq_false_of (by omega)
  have q14 : (x.op == 14) = false := beq_false_of (by omega)
  have q15 : (x.op == 15) = false := beq_false_of (by omega)
  have q16 : (x.op == 16) = false := beq_false_of (by omega)
  have q17 : (x.op == 17) = false := beq_false_of (by omega)
  have q18 : (x.op == 18) = false := beq_false_of (by omega)
  have q19 : (x.op == 19) = true := beq_true_of hop
  clear hop
  go_enter Try.func115, Try.ntmps115
  go_wp2_with fail
  refine HC0.out.mono ?_
  rintro e w1 ⟨A, c, rfl, C0⟩
  obtain ⟨e1, d0, d2, d3, e3⟩ := C0.cells
  have CC0 := Lib.hid C0
  have hz0 := C0.size
  clear C0
  go_wp2_with fail
  clear HC0
  generalize w1.heap.size = bq at *
  generalize w1.alloc (Obj.cells #[Value.slice A n c] 153) = W1 at *
  have hz1 : w.heap.size + 1 < W1.heap.size := CC0.out.b2.lt
  have hne1 : w.heap.size + 1 ≠ W1.heap.size := Nat.ne_of_lt hz1
  go_cut [10, 11] (fun s10 s11 wx => SignSlot W1 wx s10 s11 none)
  case first =>
    go_region_held3 (fun w' => w'.cell? ⟨w.heap.size + 1, 2, none⟩ = some (.int .i64 x.n)) (first | exact d2 | exact hc3 | (rw [cell_far4 hne2]; exact hc3) | (rw [cell_far4 hne1]; exact hc3) | go_keep) ((first | (go_at_call 59; refine (effects_cell _ (nb := w.heap.size + 1) (by assumption)).mono ?_; rintro e w2 ⟨rfl, hsg, hbl, hz4, hc3⟩; obtain ⟨bc2, bf2⟩ := bcell hbl; have hz6 := hbl.size; (try simp only [World.size_alloc, drew_size] at bc2 bf2 hz6); (try have hz7 : W1.heap.size < w2.heap.size := hz6); have hne2 : w.heap.size + 1 ≠ w2.heap.size := Nat.ne_of_lt hz4) | (go_at_call 163; refine (sign_out_cell _ 9 9 x.n _ (by omega) HO.out (nb := w.heap.size + 1) (by assumption)).mono ?_; rintro e w3 ⟨rfl, hbl2, hz2, hc3⟩; obtain ⟨bc3, bf3⟩ := bcell hbl2; have hz3 := hbl2.size; (try simp only [World.size_alloc] at hz3 bc3 bf3); have hne3 : w.heap.size + 1 ≠ w3.heap.size := Nat.ne_of_lt hz2)))
    · go_wp2_with fail
      go_meet
      have B2 := (Below.refl W1.heap.size W1).drew.trans hbl
      have B3 := B2.trans (hbl2.mono B2.size)
      exact ⟨_, rfl, B3.alloc B3.size _, B3.size, rfl⟩
    · go_wp2_with fail
      go_meet
      have B2 := (Below.refl W1.heap.size W1).drew.trans hbl
      have B3 := (B2.alloc B2.size _).trans (hbl2.mono (Nat.le_trans B2.size (by simp)))
      exact ⟨_, rfl, (((B3.setCell B2.size _).setCell B2.size _).setCell B2.size _).setCell B2.size _, B2.size, rfl⟩
    · go_wp2_with fail
      go_meet
      have B2 := ((Below.refl W1.heap.size W1).alloc (Nat.le_refl _) _).drew.trans (hbl.mono (by simp))
      have B3 := B2.trans (hbl2.mono B2.size)
      exact ⟨_, rfl, (((B3.setCell (Nat.le_refl _) _).setCell (Nat.le_refl _) _).setCell (Nat.le_refl _) _).setCell (Nat.le_refl _) _, Nat.le_refl _, rfl⟩
  case rest =>
    obtain ⟨sb, rfl, hbw, hsb, rfl⟩ := hcut
    have CC1 := Lib.hid (CC0.out.below hbw)
    clear hbw e1 d0 d2 d3 e3
    obtain ⟨e1, d0, d2, d3, e3⟩ := CC1.out.cells
    go_wp2_with fail
    refine (must_no B kb _ slots seen _ false CC1.out.lk).mono ?_
    rintro e w2 ⟨rfl, h2, f2⟩
    go_wp2_with fail
    go_end0
    exact ⟨rfl, h2, CC1.out.fr.trans (f2.more (by simp))⟩

set_option maxRecDepth 100000 in
set_option maxHeartbeats 3200000 in
theorem stmt_do (B kb tb toff cap : Nat) (ts : List Node) (slots : List Int) (seen : Int → Option Value) (htb : tb < B) (hl : ts.length ≤ 100000) (htxt : ∀ y ∈ ts, y.text.size ≤ 1099511627776) (i : Nat) (x : Node) (s : Sign) (hi : i < ts.length) (hbe : 0 ≤ behind ts i) (hx : ts[i]? = some x) (w : World) (hg : Good ⟨slots, seen, false⟩)
    (h : LK w B kb (.slice (some ⟨tb, toff, none⟩) ts.length cap) ⟨slots, seen, false⟩) (hn : NodesAt w tb toff ts) (hop : x.op = 19) (hs : signOf effectsM x.n = some s) (V : Int) (b : Bool) (hV : callF (exprS ts ⟨slots, seen, false⟩) ts i (kidsOf ts i) s = (V, b)) :
    Calls Try.prog 115 #[.pointer (some ⟨kb, 0, none⟩), .int .i64 i] w fun e w' => e = .returned (.tuple #[]) ∧ LK w' B kb (.slice (some ⟨tb, toff, none⟩) ts.length cap) (highF (V, b) ⟨slots, seen, false⟩) ∧ Frm B [132, 40] w w' := by
  obtain ⟨n, hnk⟩ : ∃ n, (kidsOf ts i).length = n := ⟨_, rfl⟩
  have hnl : n ≤ 100000 := by rw [← hnk]; exact kidsOf_le hbe hl
  obtain ⟨c0, c1, c2, c3, c4, c5, c6⟩ := hn.all hx
  obtain ⟨k0, k3⟩ := h.cells
  simp only at k3
  obtain ⟨hBk, hks⟩ := h.size
  have htw : tb < w.heap.size := by omega
  obtain ⟨F, hF⟩ : ∃ F, s.fn = .func (Fn.func F) #[] #[] := ⟨_, rfl⟩
  have hm := signOf_mem hs
  have HC0 := Lib.hid (stmt_kids B kb tb toff cap ts ⟨slots, seen, false⟩ i n x w hl h hn htb hi hnk)
  have HF := Lib.hid hF
  have HM : Hid (0 ≤ x.n ∧ effectsM[x.n.toNat]? = some s) := ⟨hm.1, hm.2.2.1⟩
  have HMM := Lib.hid hm.2.2.2
  have HX := Lib.hid hx
  have HK := Lib.hid hnk
  have HV := Lib.hid hV
  have HT := Lib.hid htxt
  have HE : Hid (∀ j ∈ kidsOf ts i, j < ts.length ∧ ExprAt B kb tb toff cap ts slots seen (exprM ts slots seen ts.length j) j) := fun j hj => by
    have hjj := kidsOf_ok hj
    exact ⟨hjj.2.1, expr_any B kb tb toff cap ts slots seen hl htb htxt (fun n h1 h2 _ => hg.key n h1 h2) ts.length j (by omega) hjj.2.1 (by omega)⟩
  clear h hn hx hnk hbe hs hm hF hV hg htxt
  have q11 : (x.op == 11) = false := beq_false_of (by omega)
  have q12 : (x.op == 12) = false := beq_false_of (by omega)
  have q13 : (x.op == 13) = false := beq_false_of (by omega)
  have q14 : (x.op == 14) = false := beq_false_of (by omega)
  have q15 : (x.op == 15) = false := beq_false_of (by omega)
  have q16 : (x.op == 16) = false := beq_false_of (by omega)
  have q17 : (x.op == 17) = false := beq_false_of (by omega)
  have q18 : (x.op == 18) = false := beq_false_of (by omega)
  have q19 : (x.op == 19) = true := beq_true_of hop
  clear hop
  go_enter Try.func115, Try.ntmps115
  go_wp2_with fail
  refine HC0.out.mono ?_
  rintro e w1 ⟨A, c, rfl, C0⟩
  obtain ⟨e1, d0, d2, d3, e3⟩ := C0.cells
  have CC0 := Lib.hid C0
  have hz0 := C0.size
  clear C0
  go_wp2_with fail
  clear HC0
  generalize w1.heap.size = bq at *
  generalize w1.alloc (Obj.cells #[Value.slice A n c] 153) = W1 at *
  have hz1 : w.heap.size + 1 < W1.heap.size := CC0.out.b2.lt
  have hne1 : w.heap.size + 1 ≠ W1.heap.size := Nat.ne_of_lt hz1
  go_cut [10, 11] (fun s10 s11 wx => SignSlot W1 wx s10 s11 (some s))
  case first =>
    go_region_held3 (fun w' => w'.cell? ⟨w.heap.size + 1, 2, none⟩ = some (.int .i64 x.n)) (first | exact d2 | exact hc3 | (rw [cell_far4 hne2]; exact hc3) | (rw [cell_far4 hne1]; exact hc3) | go_keep) ((first | (go_at_call 59; refine (effects_cell _ (nb := w.heap.size + 1) (by assumption)).mono ?_; rintro e w2 ⟨rfl, hsg, hbl, hz4, hc3⟩; obtain ⟨bc2, bf2⟩ := bcell hbl; have hz6 := hbl.size; (try simp only [World.size_alloc, drew_size] at bc2 bf2 hz6); (try have hz7 : W1.heap.size < w2.heap.size := hz6); have hne2 : w.heap.size + 1 ≠ w2.heap.size := Nat.ne_of_lt hz4) | (go_at_call 163; refine (sign_in_cell _ _ effectsM 9 9 x.n s _ rfl (by omega) (by first | exact hsg.cast (by simp) | exact (hsg.alloc _).cast (by simp)) HM.out.1 HM.out.2 F HF.out (nb := w.heap.size + 1) (by assumption)).mono ?_; rintro e w3 ⟨g, rfl, hgB, hgb, hbl2, hz2, hc3⟩; obtain ⟨bc3, bf3⟩ := bcell hbl2; have hz3 := hbl2.size; (try simp only [World.size_alloc] at hz3 bc3 bf3); have hne3 : w.heap.size + 1 ≠ w3.heap.size := Nat.ne_of_lt hz2)))
    · go_wp2_with fail
      go_meet
      have B2 := (Below.refl W1.heap.size W1).drew.trans hbl
      have B3 := B2.trans (hbl2.mono B2.size)
      refine ⟨_, rfl, B3.alloc B3.size _, B3.size, rfl, g, ?_, hgb.alloc _⟩
      exact sign_blk HF.out (Blk.new w3 _ _)
    · go_wp2_with fail
      go_meet
      have B2 := (Below.refl W1.heap.size W1).drew.trans hbl
      have B3 := (B2.alloc B2.size _).trans (hbl2.mono (Nat.le_trans B2.size (by simp)))
      have hgne : g ≠ w2.heap.size := hgb.ne_ ((Blk.new w2 _ _).below hbl2 (by simp)) (by decide)
      refine ⟨_, rfl, (((B3.setCell B2.size _).setCell B2.size _).setCell B2.size _).setCell B2.size _, B2.size, rfl, g, ?_, (((hgb.far hgne _).far hgne _).far hgne _).far hgne _⟩
      exact sign_blk4 HF.out ((Blk.new w2 _ _).below hbl2 (by simp))
    · go_wp2_with fail
      go_meet
      have B2 := ((Below.refl W1.heap.size W1).alloc (Nat.le_refl _) _).drew.trans (hbl.mono (by simp))
      have B3 := B2.trans (hbl2.mono B2.size)
      have hb3 := (((Blk.new W1 _ _).drew.below hbl (by simp)).below hbl2 hz7)
      have hgne : g ≠ W1.heap.size := hgb.ne_ hb3 (by decide)
      refine ⟨_, rfl, (((B3.setCell (Nat.le_refl _) _).setCell (Nat.le_refl _) _).setCell (Nat.le_refl _) _).setCell (Nat.le_refl _) _, Nat.le_refl _, rfl, g, ?_, (((hgb.far hgne _).far hgne _).far hgne _).far hgne _⟩
      exact sign_blk4 HF.out hb3
  case rest =>
    obtain ⟨sb, rfl, hbw, hsb, rfl, g, hbs, hbg⟩ := hcut
    have CC1 := Lib.hid (CC0.out.below hbw)
    rw [sign_lit HF.out] at hbs
    have HS2 := Lib.hid hbs
    have HG2 := Lib.hid hbg
    clear hbw e1 d0 d2 d3 e3 hbs hbg
    obtain ⟨e1, d0, d2, d3, e3⟩ := CC1.out.cells
    go_wp2_with fail
    refine (must_yes B kb _ slots seen _ CC1.out.lk).mono ?_
    rintro e w2 ⟨rfl, h2, f2⟩
    have CC2 := Lib.hid (CC1.out.step (by simp) h2 f2)
    have S2 := Lib.hid (f2.blk HS2.out (by decide))
    have G2 := Lib.hid (f2.blk HG2.out (by decide))
    clear e1 d0 d2 d3 e3 h2 f2
    obtain ⟨e1, d0, d2, d3, e3⟩ := CC2.out.cells
    have t0 := S2.out.cell 0
    have t1 := S2.out.cell 1
    have t2 := S2.out.cell 2
    have t3 := S2.out.cell 3
    have HEX := exprM_high ts slots seen ts.length
    have HH := Lib.hid HEX
    clear HEX
    go_wp2_with fail
    go_region_held3 (fun w' => w'.cell? ⟨w.heap.size, 0, none⟩ = some (.pointer (some ⟨kb, 0, none⟩)) ∧ w'.cell? ⟨bq, 0, none⟩ = some (.slice A n c) ∧ w'.cell? ⟨sb, 0, none⟩ = some (.string s.name) ∧ w'.cell? ⟨sb, 1, none⟩ = some (.slice (some ⟨g, 0, none⟩) s.args.length s.args.length) ∧ w'.cell? ⟨sb, 2, none⟩ = some (.int .i8 s.tell) ∧ w'.cell? ⟨sb, 3, none⟩ = some (.func (Fn.func F) #[] #[])) (first | exact ⟨e1, e3, t0, t1, t2, t3⟩ | exact t5 | exact t6) ((first | (go_at_call 164; rw [← sign_lit HF.out]; refine (call_any B kb tb toff cap ts slots seen (exprM ts slots seen ts.length) (2 * ts.length) (by omega) (by omega) HH.out i x (kidsOf ts i) s g _ _ _ HX.out hl HT.out HE.out (effects_args HMM.out) G2.out.drew (by rw [HK.out]; exact CC2.out.own.drew) CC2.out.lk.drew CC2.out.nodes htb).mono ?_; rintro e w5 ⟨rfl, h5, f5⟩; have hVV : callF (exprM ts slots seen ts.length) ts i (kidsOf ts i) s = (V, b) := HV.out; rw [hVV] at h5 ⊢; have CC5 := Lib.hid (CC2.out.drew.step (by simp) h5 f5); have S5 := Lib.hid (f5.blk S2.out.drew (by decide)); have t5 : w5.cell? ⟨w.heap.size, 0, none⟩ = some (.pointer (some ⟨kb, 0, none⟩)) ∧ w5.cell? ⟨bq, 0, none⟩ = some (.slice A n c) ∧ w5.cell? ⟨sb, 0, none⟩ = some (.string s.name) ∧ w5.cell? ⟨sb, 1, none⟩ = some (.slice (some ⟨g, 0, none⟩) s.args.length s.args.length) ∧ w5.cell? ⟨sb, 2, none⟩ = some (.int .i8 s.tell) ∧ w5.cell? ⟨sb, 3, none⟩ = some (.func (Fn.func F) #[] #[]) := ⟨CC5.out.b1.cell 0, CC5.out.b3.cell 0, S5.out.cell 0, S5.out.cell 1, S5.out.cell 2, S5.out.cell 3⟩; clear h5 f5) | (go_at_call 111; refine (must_any B kb _ ⟨slots, seen, b⟩ (decide (V ≤ 256)) _ CC5.out.lk).mono ?_; rintro e w6 ⟨rfl, h6, f6⟩; have CC6 := Lib.hid (CC5.out.step (by simp) h6 f6); have S6 := Lib.hid (f6.blk S5.out (by decide)); have t6 : w6.cell? ⟨w.heap.size, 0, none⟩ = some (.pointer (some ⟨kb, 0, none⟩)) ∧ w6.cell? ⟨bq, 0, none⟩ = some (.slice A n c) ∧ w6.cell? ⟨sb, 0, none⟩ = some (.string s.name) ∧ w6.cell? ⟨sb, 1, none⟩ = some (.slice (some ⟨g, 0, none⟩) s.args.length s.args.length) ∧ w6.cell? ⟨sb, 2, none⟩ = some (.int .i8 s.tell) ∧ w6.cell? ⟨sb, 3, none⟩ = some (.func (Fn.func F) #[] #[]) := ⟨CC6.out.b1.cell 0, CC6.out.b3.cell 0, S6.out.cell 0, S6.out.cell 1, S6.out.cell 2, S6.out.cell 3⟩; clear h6 f6)))
    all_goals go_wp2_with fail
    all_goals go_end0
    all_goals exact ⟨rfl, CC6.out.lk, CC6.out.fr⟩
end Go.Proofs.Ytggibiodeecljaa
