/- looker.expr at a call of a function. -/
import Derived.Test.YtggibiodeecljaaExpr4
import Derived.Test.YtggibiodeecljaaOper
namespace Go.Proofs.Ytggibiodeecljaa
open Go.RowKit
section
variable (B kb tb toff cap : Nat) (ts : List Node) (slots : List Int) (seen : Int → Option Value) (rec : Nat → Bool → ER)

set_option maxRecDepth 100000 in
set_option maxHeartbeats 3200000 in
theorem expr_call (H : Int) (hH : 0 ≤ H) (hH2 : H ≤ 1000000) (hr : ∀ i b, 0 ≤ (rec i b).2.1 ∧ (rec i b).2.1 ≤ H) (htxt : ∀ y ∈ ts, y.text.size ≤ 1099511627776) (i : Nat) (x : Node) (s : Sign) (w : World) (hl : ts.length ≤ 100000) (hx : ts[i]? = some x) (h : LK w B kb (.slice (some ⟨tb, toff, none⟩) ts.length cap) ⟨slots, seen, false⟩) (hn : NodesAt w tb toff ts) (htb : tb < B)
    (he : ∀ j ∈ kidsOf ts i, j < ts.length ∧ ExprAt B kb tb toff cap ts slots seen (rec j) j)
    (p1 : (x.op == 30) = false) (p2 : (x.op == 31) = false) (p3 : (x.op == 32) = false) (p4 : (x.op == 33) = false) (p5 : (x.op == 49) = false) (p6 : (x.op == 50) = true) (hs : signOf funcsM x.n = some s) :
    Calls Try.prog 157 #[.pointer (some ⟨kb, 0, none⟩), .int .i64 i] w fun e w' => e = .returned (.tuple #[.int .i8 (s.tell, max 1 (callF rec ts i (kidsOf ts i) s).1, (callF rec ts i (kidsOf ts i) s).2).1, .int .i64 (s.tell, max 1 (callF rec ts i (kidsOf ts i) s).1, (callF rec ts i (kidsOf ts i) s).2).2.1]) ∧
      LK w' B kb (.slice (some ⟨tb, toff, none⟩) ts.length cap) ⟨slots, seen, (s.tell, max 1 (callF rec ts i (kidsOf ts i) s).1, (callF rec ts i (kidsOf ts i) s).2).2.2⟩ ∧ Frm B [132] w w' := by
  obtain ⟨R, hR⟩ : ∃ R : ER, R = (s.tell, max 1 (callF rec ts i (kidsOf ts i) s).1, (callF rec ts i (kidsOf ts i) s).2) := ⟨_, rfl⟩
  rw [← hR]
  have HR := Lib.hid hR
  clear hR
  have hi := (List.getElem?_eq_some_iff.1 hx).1
  obtain ⟨c0, c1, c2, c3, c4, c5, c6⟩ := hn.all hx
  obtain ⟨k0, k3⟩ := h.cells
  obtain ⟨hBk, hks⟩ := h.size
  obtain ⟨F, hF⟩ : ∃ F, s.fn = .func (Fn.func F) #[] #[] := ⟨_, rfl⟩
  have hm := signOf_mem hs
  obtain ⟨n, hnk⟩ : ∃ n, (kidsOf ts i).length = n := ⟨_, rfl⟩
  have HF := Lib.hid hF
  have HM : Hid (0 ≤ x.n ∧ funcsM[x.n.toNat]? = some s) := ⟨hm.1, hm.2.2.1⟩
  have HMM := Lib.hid hm.2.2.2
  have HH := Lib.hid h
  have HN := Lib.hid hn
  have HX := Lib.hid hx
  have HK := Lib.hid hnk
  have HE := Lib.hid he
  have HRR := Lib.hid hr
  have HT := Lib.hid htxt
  clear h hn hx hs hm hnk hF he hr htxt
  go_enter Try.func157, Try.ntmps157
  go_wp2_with (go_at_call 114; refine (kids_pre B kb tb toff cap ts _ i _ w hl HH.out HN.out htb hi [132]).mono ?_; rintro e w1 ⟨kv, rfl, hown, h1, f1, n1, b1⟩; rw [HK.out] at hown; have HOW := Lib.hid hown; obtain ⟨A, c, rfl, hkf⟩ := kids_form hown; have e0 := b1.cell 0; have e2 : w1.cell? ⟨w.heap.size, 2, none⟩ = some (.int .i64 x.n) := b1.cell 2; have HKF := Lib.hid hkf; have H1 := Lib.hid h1; have F1 := Lib.hid f1; have N1 := Lib.hid n1; have B1 := Lib.hid b1; have hz1 := b1.lt; have hne1 : w.heap.size ≠ w1.heap.size := Nat.ne_of_lt hz1; clear h1 f1 n1 b1 hown hkf)
  go_cut [13, 14] (fun s13 s14 wx => SignSlot w1 wx s13 s14 (some s))
  case first =>
    go_region_held3 (fun w' => w'.cell? ⟨w.heap.size, 2, none⟩ = some (.int .i64 x.n)) (first | exact e2 | exact hc3 | (rw [cell_far4 hne2]; exact hc3) | (rw [cell_far4 hne1]; exact hc3) | go_keep) ((first | (go_at_call 60; refine (funcs_cell _ (nb := w.heap.size) (by assumption)).mono ?_; rintro e w2 ⟨rfl, hsg, hbl, hz4, hc3⟩; obtain ⟨bc2, bf2⟩ := bcell hbl; have hz6 := hbl.size; (try simp only [World.size_alloc, drew_size] at bc2 bf2 hz6); (try have hz7 : w1.heap.size < w2.heap.size := hz6); have hne2 : w.heap.size ≠ w2.heap.size := Nat.ne_of_lt hz4) | (go_at_call 163; refine (sign_in_cell _ _ funcsM 9 9 x.n s _ rfl (by omega) (by first | exact hsg.cast (by simp) | exact (hsg.alloc _).cast (by simp)) HM.out.1 HM.out.2 F HF.out (nb := w.heap.size) (by assumption)).mono ?_; rintro e w3 ⟨g, rfl, hgB, hgb, hbl2, hz2, hc3⟩; obtain ⟨bc3, bf3⟩ := bcell hbl2; have hz3 := hbl2.size; (try simp only [World.size_alloc] at hz3 bc3 bf3); have hne3 : w.heap.size ≠ w3.heap.size := Nat.ne_of_lt hz2)))
    · go_wp2_with fail
      go_meet
      have B2 := (Below.refl w1.heap.size w1).drew.trans hbl
      have B3 := B2.trans (hbl2.mono B2.size)
      refine ⟨_, rfl, B3.alloc B3.size _, B3.size, rfl, g, ?_, hgb.alloc _⟩
      exact sign_blk HF.out (Blk.new w3 _ _)
    · go_wp2_with fail
      go_meet
      have B2 := (Below.refl w1.heap.size w1).drew.trans hbl
      have B3 := (B2.alloc B2.size _).trans (hbl2.mono (Nat.le_trans B2.size (by simp)))
      have hgne : g ≠ w2.heap.size := hgb.ne_ ((Blk.new w2 _ _).below hbl2 (by simp)) (by decide)
      refine ⟨_, rfl, (((B3.setCell B2.size _).setCell B2.size _).setCell B2.size _).setCell B2.size _, B2.size, rfl, g, ?_, (((hgb.far hgne _).far hgne _).far hgne _).far hgne _⟩
      exact sign_blk4 HF.out ((Blk.new w2 _ _).below hbl2 (by simp))
    · go_wp2_with fail
      go_meet
      have B2 := ((Below.refl w1.heap.size w1).alloc (Nat.le_refl _) _).drew.trans (hbl.mono (by simp))
      have B3 := B2.trans (hbl2.mono B2.size)
      have hb3 := (((Blk.new w1 _ _).drew.below hbl (by simp)).below hbl2 hz7)
      have hgne : g ≠ w1.heap.size := hgb.ne_ hb3 (by decide)
      refine ⟨_, rfl, (((B3.setCell (Nat.le_refl _) _).setCell (Nat.le_refl _) _).setCell (Nat.le_refl _) _).setCell (Nat.le_refl _) _, Nat.le_refl _, rfl, g, ?_, (((hgb.far hgne _).far hgne _).far hgne _).far hgne _⟩
      exact sign_blk4 HF.out hb3
  case rest =>
    obtain ⟨sb, rfl, hbw, hsb, rfl, g, hbs, hbg⟩ := hcut
    have H2 := H1.out.below hbw (Nat.le_refl _)
    have F2 := F1.out.trans (Frm.of_below hbw (by have := H1.out.size; omega))
    have N2 := N1.out.below hbw (by have := H1.out.size; omega)
    have B2 := B1.out.below hbw hz1
    rw [sign_lit HF.out] at hbs
    have q1 := hbs.cell 1
    have q2 := hbs.cell 2
    have e22 := B2.cell 2
    have HKF2 : 0 < n → ∃ gk, A = some ⟨gk, 0, none⟩ ∧ wc.ownsRow (w.heap.size + 1) 3 1 (.slice (some ⟨gk, 0, none⟩) n c) n ((kidsOf ts i).map fun j : Nat => Value.int .i64 j) := fun h0 => by
      obtain ⟨gk, h3, _, h4⟩ := HKF.out h0
      exact ⟨gk, h3, (Frm.of_below (T := []) hbw (Nat.le_refl _)).own h4 (by simp)⟩
    have HS2 := Lib.hid hbs
    have HG2 := Lib.hid hbg
    have HL2 := Lib.hid H2
    have HF2 := Lib.hid F2
    have HN2 := Lib.hid N2
    have HB2 := Lib.hid B2
    have HK2 := Lib.hid HKF2
    have HOW2 := Lib.hid ((Frm.of_below (T := []) hbw (Nat.le_refl _)).own HOW.out (by simp))
    clear H2 F2 hbw e0 e2 hbs hbg N2 B2 HKF2
    go_wp2_with fail
    refine (must_yes B kb _ slots seen _ HL2.out).mono ?_
    rintro e w2 ⟨rfl, h2, f2⟩
    have f4 := f2
    have hs4 := f4.blk HS2.out (by decide)
    have t0 := hs4.cell 0
    have t1 := hs4.cell 1
    have t2 := hs4.cell 2
    have t3 := hs4.cell 3
    have H4 := Lib.hid h2
    have F4 := Lib.hid f4
    have S4 := Lib.hid hs4
    clear h2 f2 f4 hs4 q1 q2 e22
    obtain ⟨V, hV⟩ : ∃ V, V = callF rec ts i (kidsOf ts i) s := ⟨_, rfl⟩
    have HV := Lib.hid hV
    have hRf : R = (s.tell, max 1 V.1, V.2) := by rw [HR.out, hV]
    have HRf := Lib.hid hRf
    have OW4 := Lib.hid (F4.out.own HOW2.out (by decide))
    have HNK := HK.out
    clear hV hRf
    go_wp2_with fail
    go_region_held3 (fun w' => w'.cell? ⟨sb, 0, none⟩ = some (.string s.name) ∧ w'.cell? ⟨sb, 1, none⟩ = some (.slice (some ⟨g, 0, none⟩) s.args.length s.args.length) ∧ w'.cell? ⟨sb, 2, none⟩ = some (.int .i8 s.tell) ∧ w'.cell? ⟨sb, 3, none⟩ = some (.func (Fn.func F) #[] #[])) (first | exact ⟨t0, t1, t2, t3⟩ | exact t5) ((first | (go_at_call 164; rw [← sign_lit HF.out]; refine (call_any B kb tb toff cap ts slots seen rec H hH hH2 HRR.out i x (kidsOf ts i) s g _ _ _ HX.out hl HT.out HE.out (funcs_args HMM.out) ((F4.out.blk HG2.out (by decide)).drew) (by rw [HNK]; exact OW4.out.drew) H4.out.drew (F4.out.nodes HN2.out htb) htb).mono ?_; rintro e w5 ⟨rfl, h5, f5⟩; have t5 : w5.cell? ⟨sb, 0, none⟩ = some (.string s.name) ∧ w5.cell? ⟨sb, 1, none⟩ = some (.slice (some ⟨g, 0, none⟩) s.args.length s.args.length) ∧ w5.cell? ⟨sb, 2, none⟩ = some (.int .i8 s.tell) ∧ w5.cell? ⟨sb, 3, none⟩ = some (.func (Fn.func F) #[] #[]) := ⟨(f5.blk S4.out.drew (by decide)).cell 0, (f5.blk S4.out.drew (by decide)).cell 1, (f5.blk S4.out.drew (by decide)).cell 2, (f5.blk S4.out.drew (by decide)).cell 3⟩)))
    all_goals go_wp2_with fail
    all_goals go_ret2
    all_goals simp only [← HV.out] at *
    all_goals refine ⟨by (rw [HRf.out]; first | exact ret_8_64 (show V.1 = max 1 V.1 by omega) | exact ret_8_64 (show (1 : Int) = max 1 V.1 by omega) | exact ret_8_64 (show (if (1 : Int) < V.1 then V.1 else 1) = max 1 V.1 from ite_max) | exact ret_8_64 rfl), by rw [HRf.out]; exact h5, (HF2.out.trans F4.out).drew.trans f5⟩

end
end Go.Proofs.Ytggibiodeecljaa
