/- looker.expr at a field: the field that is one. looker.expr at a call of a function. -/
import Derived.Test.YtggibiodeecljaaExpr4
namespace Go.Proofs.Ytggibiodeecljaa
open Go.RowKit
section
variable (B kb tb toff cap : Nat) (ts : List Node) (slots : List Int) (seen : Int → Option Value) (rec : Nat → Bool → ER)

set_option maxRecDepth 100000 in
set_option maxHeartbeats 3200000 in
theorem expr_field (i : Nat) (x : Node) (s : Sign) (w : World) (hl : ts.length ≤ 100000) (hx : ts[i]? = some x) (h : LK w B kb (.slice (some ⟨tb, toff, none⟩) ts.length cap) ⟨slots, seen, false⟩) (hn : NodesAt w tb toff ts) (htb : tb < B)
    (he : ∀ j ∈ kidsOf ts i, j < ts.length ∧ ExprAt B kb tb toff cap ts slots seen (rec j) j)
    (p1 : (x.op == 30) = false) (p2 : (x.op == 31) = false) (p3 : (x.op == 32) = false) (p4 : (x.op == 33) = false) (p5 : (x.op == 49) = true) (hs : signOf fieldsM x.n = some s) :
    Calls Try.prog 157 #[.pointer (some ⟨kb, 0, none⟩), .int .i64 i] w fun e w' => e = .returned (.tuple #[.int .i8 (if (kidsOf ts i).length = 1 ∧ likeB x s.tell x.n 0 = true then (s.tell, (wantedF (rec ((kidsOf ts i).getD 0 0) false) (s.args.getD 0 0)).1, (wantedF (rec ((kidsOf ts i).getD 0 0) false) (s.args.getD 0 0)).2) else (0, 0, true)).1, .int .i64 (if (kidsOf ts i).length = 1 ∧ likeB x s.tell x.n 0 = true then (s.tell, (wantedF (rec ((kidsOf ts i).getD 0 0) false) (s.args.getD 0 0)).1, (wantedF (rec ((kidsOf ts i).getD 0 0) false) (s.args.getD 0 0)).2) else (0, 0, true)).2.1]) ∧
      LK w' B kb (.slice (some ⟨tb, toff, none⟩) ts.length cap) ⟨slots, seen, (if (kidsOf ts i).length = 1 ∧ likeB x s.tell x.n 0 = true then (s.tell, (wantedF (rec ((kidsOf ts i).getD 0 0) false) (s.args.getD 0 0)).1, (wantedF (rec ((kidsOf ts i).getD 0 0) false) (s.args.getD 0 0)).2) else (0, 0, true)).2.2⟩ ∧ Frm B [132] w w' := by
  obtain ⟨R, hR⟩ : ∃ R : ER, R = (if (kidsOf ts i).length = 1 ∧ likeB x s.tell x.n 0 = true then (s.tell, (wantedF (rec ((kidsOf ts i).getD 0 0) false) (s.args.getD 0 0)).1, (wantedF (rec ((kidsOf ts i).getD 0 0) false) (s.args.getD 0 0)).2) else (0, 0, true)) := ⟨_, rfl⟩
  rw [← hR]
  have HR := Lib.hid hR
  clear hR
  have hi := (List.getElem?_eq_some_iff.1 hx).1
  obtain ⟨c0, c1, c2, c3, c4, c5, c6⟩ := hn.all hx
  obtain ⟨k0, k3⟩ := h.cells
  obtain ⟨hBk, hks⟩ := h.size
  obtain ⟨F, hF⟩ : ∃ F, s.fn = .func (Fn.func F) #[] #[] := ⟨_, rfl⟩
  have hm := signOf_mem hs
  obtain ⟨n, hnk⟩ : ∃ n, (kidsOf ts i).length = n := ⟨_, rfl⟩
  have HF := Lib.hid hF
  have HM : Hid (0 ≤ x.n ∧ fieldsM[x.n.toNat]? = some s) := ⟨hm.1, hm.2.2.1⟩
  have HMM := Lib.hid hm.2.2.2
  have HH := Lib.hid h
  have HN := Lib.hid hn
  have HX := Lib.hid hx
  have HK := Lib.hid hnk
  have HE := Lib.hid he
  clear h hn hx hs hm hnk hF he
  go_enter Try.func157, Try.ntmps157
  go_wp2_with (go_at_call 114; refine (kids_pre B kb tb toff cap ts _ i _ w hl HH.out HN.out htb hi [132]).mono ?_; rintro e w1 ⟨kv, rfl, hown, h1, f1, n1, b1⟩; rw [HK.out] at hown; obtain ⟨A, c, rfl, hkf⟩ := kids_form hown; have e0 := b1.cell 0; have e2 : w1.cell? ⟨w.heap.size, 2, none⟩ = some (.int .i64 x.n) := b1.cell 2; have HKF := Lib.hid hkf; have H1 := Lib.hid h1; have F1 := Lib.hid f1; have N1 := Lib.hid n1; have B1 := Lib.hid b1; have hz1 := b1.lt; have hne1 : w.heap.size ≠ w1.heap.size := Nat.ne_of_lt hz1; clear h1 f1 n1 b1 hown hkf)
  go_cut [11, 12] (fun s11 s12 wx => SignSlot w1 wx s11 s12 (some s))
  case first =>
    go_region_held3 (fun w' => w'.cell? ⟨w.heap.size, 2, none⟩ = some (.int .i64 x.n)) (first | exact e2 | exact hc3 | (rw [cell_far4 hne2]; exact hc3) | (rw [cell_far4 hne1]; exact hc3) | go_keep) ((first | (go_at_call 58; refine (fields_cell _ (nb := w.heap.size) (by assumption)).mono ?_; rintro e w2 ⟨rfl, hsg, hbl, hz4, hc3⟩; obtain ⟨bc2, bf2⟩ := bcell hbl; have hz6 := hbl.size; (try simp only [World.size_alloc, drew_size] at bc2 bf2 hz6); (try have hz7 : w1.heap.size < w2.heap.size := hz6); have hne2 : w.heap.size ≠ w2.heap.size := Nat.ne_of_lt hz4) | (go_at_call 163; refine (sign_in_cell _ _ fieldsM 13 13 x.n s _ rfl (by omega) (by first | exact hsg.cast (by simp) | exact (hsg.alloc _).cast (by simp)) HM.out.1 HM.out.2 F HF.out (nb := w.heap.size) (by assumption)).mono ?_; rintro e w3 ⟨g, rfl, hgB, hgb, hbl2, hz2, hc3⟩; obtain ⟨bc3, bf3⟩ := bcell hbl2; have hz3 := hbl2.size; (try simp only [World.size_alloc] at hz3 bc3 bf3); have hne3 : w.heap.size ≠ w3.heap.size := Nat.ne_of_lt hz2)))
    · go_wp2_with fail
      go_meet
      have B2 := (Below.refl w1.heap.size w1).drew.trans hbl
      have B3 := B2.trans (hbl2.mono B2.size)
      refine ⟨_, rfl, B3.alloc B3.size _, B3.size, rfl, g, ?_, hgb.alloc _⟩
      exact sign_blk HF.out (Blk.new w3 _ _)
    · go_wp2_with fail
      go_meet
      have B2 := (Below.refl w1.heap.size w1).drew.trans hbl
      have B3 := (B2.alloc B2.size _).trans (hbl2.mono (Nat.le_trans B2.size (by simp)))
      have hgne : g ≠ w2.heap.size := hgb.ne_ ((Blk.new w2 _ _).below hbl2 (by simp)) (by decide)
      refine ⟨_, rfl, (((B3.setCell B2.size _).setCell B2.size _).setCell B2.size _).setCell B2.size _, B2.size, rfl, g, ?_, (((hgb.far hgne _).far hgne _).far hgne _).far hgne _⟩
      exact sign_blk4 HF.out ((Blk.new w2 _ _).below hbl2 (by simp))
    · go_wp2_with fail
      go_meet
      have B2 := ((Below.refl w1.heap.size w1).alloc (Nat.le_refl _) _).drew.trans (hbl.mono (by simp))
      have B3 := B2.trans (hbl2.mono B2.size)
      have hb3 := (((Blk.new w1 _ _).drew.below hbl (by simp)).below hbl2 hz7)
      have hgne : g ≠ w1.heap.size := hgb.ne_ hb3 (by decide)
      refine ⟨_, rfl, (((B3.setCell (Nat.le_refl _) _).setCell (Nat.le_refl _) _).setCell (Nat.le_refl _) _).setCell (Nat.le_refl _) _, Nat.le_refl _, rfl, g, ?_, (((hgb.far hgne _).far hgne _).far hgne _).far hgne _⟩
      exact sign_blk4 HF.out hb3
  case rest =>
    obtain ⟨sb, rfl, hbw, hsb, rfl, g, hbs, hbg⟩ := hcut
    have H2 := H1.out.below hbw (Nat.le_refl _)
    have F2 := F1.out.trans (Frm.of_below hbw (by have := H1.out.size; omega))
    have N2 := N1.out.below hbw (by have := H1.out.size; omega)
    have B2 := B1.out.below hbw hz1
    rw [sign_lit HF.out] at hbs
    have q1 := hbs.cell 1
    have q2 := hbs.cell 2
    have e22 := B2.cell 2
    have HKF2 : 0 < n → ∃ gk, A = some ⟨gk, 0, none⟩ ∧ wc.ownsRow (w.heap.size + 1) 3 1 (.slice (some ⟨gk, 0, none⟩) n c) n ((kidsOf ts i).map fun j : Nat => Value.int .i64 j) := fun h0 => by
      obtain ⟨gk, h3, _, h4⟩ := HKF.out h0
      exact ⟨gk, h3, (Frm.of_below (T := []) hbw (Nat.le_refl _)).own h4 (by simp)⟩
    have HS2 := Lib.hid hbs
    have HG2 := Lib.hid hbg
    have HL2 := Lib.hid H2
    have HF2 := Lib.hid F2
    have HN2 := Lib.hid N2
    have HB2 := Lib.hid B2
    have HK2 := Lib.hid HKF2
    clear H2 F2 hbw e0 e2 hbs hbg N2 B2 HKF2
    by_cases h1 : n = 1
    · subst h1
      have hlen := HK.out
      obtain ⟨j0, hj0⟩ : ∃ j0, kidsOf ts i = [j0] := by
        match hk : kidsOf ts i, hlen with
        | [a], _ => exact ⟨a, rfl⟩
      obtain ⟨gk, rfl, hown⟩ := HK2.out (by omega)
      obtain ⟨u0, hu0⟩ : ∃ u0, s.args = [u0] := by
        have := fields_args HMM.out
        match hk : s.args, this with
        | [a], _ => exact ⟨a, rfl⟩
      have hq0 : wc.cell? ⟨gk, 0, none⟩ = some (.int .i64 j0) := by rw [hown.cellAt 0 (by omega), hj0]; rfl
      have hown3 := Lib.hid hown
      obtain ⟨hjl, hej⟩ := HE.out j0 (by rw [hj0]; simp)
      have HEJ := Lib.hid hej
      have HJ0 := Lib.hid hj0
      have HU0 := Lib.hid hu0
      have hal : s.args.length = 1 := by rw [hu0]; rfl
      clear hown hlen hej hj0 hu0
      simp only [hal] at q1 HS2
      by_cases hlike : likeB x s.tell x.n 0 = true
      · have hRf : R = (s.tell, (wantedF (rec j0 false) u0).1, (wantedF (rec j0 false) u0).2) := by
          rw [HR.out, if_pos ⟨HK.out, hlike⟩, HJ0.out, HU0.out]; rfl
        have HRf := Lib.hid hRf
        have HLK := Lib.hid hlike
        clear hRf hlike
        go_wp2_with fail
        refine (must_yes B kb _ slots seen _ HL2.out).mono ?_
        rintro e w2 ⟨rfl, h2, f2⟩
        have r2 := (f2.blk HS2.out (by decide)).cell 2
        have r3 := (f2.blk HB2.out (by decide)).cell 2
        have H3 := Lib.hid h2
        have F3 := Lib.hid f2
        clear h2 f2
        go_wp2_with fail
        refine (like_yes B kb tb toff cap ts slots seen i x s.tell x.n 0 _ HLK.out H3.out HX.out (F3.out.nodes HN2.out htb) hl).mono ?_
        rintro e w3 ⟨rfl, h3, f3⟩
        have f4 := F3.out.trans f3
        have hs4 := f4.blk HS2.out (by decide)
        have t1 := hs4.cell 1
        have t2 := hs4.cell 2
        have hg4 := f4.blk HG2.out (by decide)
        have t3 : w3.cell? ⟨g, 0, none⟩ = some (.int .i8 u0) := by rw [hg4.cell 0, HU0.out]; rfl
        have t4 : w3.cell? ⟨gk, 0, none⟩ = some (.int .i64 j0) := by rw [(f4.own hown3.out (by decide)).cellAt 0 (by omega), HJ0.out]; rfl
        have H4 := Lib.hid h3
        have F4 := Lib.hid f4
        have S4 := Lib.hid hs4
        have G4 := Lib.hid hg4
        clear h3 f3 f4 hs4 hg4 r2 r3 q1 q2 hq0 e22
        go_wp2_with fail
        go_region_held3 (fun w' => w'.cell? ⟨sb, 2, none⟩ = some (.int .i8 s.tell) ∧ w'.cell? ⟨gk, 0, none⟩ = some (.int .i64 j0) ∧ w'.cell? ⟨sb, 1, none⟩ = some (.slice (some ⟨g, 0, none⟩) 1 1) ∧ w'.cell? ⟨g, 0, none⟩ = some (.int .i8 u0)) (first | exact ⟨t2, t4, t1, t3⟩ | exact t5) ((first | (go_at_call 112; refine (wanted_any B kb tb toff cap ts slots seen (rec j0) j0 u0 false _ HEJ.out H4.out.drew (F4.out.nodes HN2.out htb)).mono ?_; rintro e w5 ⟨rfl, h5, f5⟩; have t5 : w5.cell? ⟨sb, 2, none⟩ = some (.int .i8 s.tell) ∧ w5.cell? ⟨gk, 0, none⟩ = some (.int .i64 j0) ∧ w5.cell? ⟨sb, 1, none⟩ = some (.slice (some ⟨g, 0, none⟩) 1 1) ∧ w5.cell? ⟨g, 0, none⟩ = some (.int .i8 u0) := ⟨(f5.blk S4.out.drew (by decide)).cell 2, by rw [((F4.out.drew.trans f5).own hown3.out (by decide)).cellAt 0 (by omega), HJ0.out]; rfl, (f5.blk S4.out.drew (by decide)).cell 1, by rw [(f5.blk G4.out.drew (by decide)).cell 0, HU0.out]; rfl⟩)))
        all_goals
          go_wp2_with fail
          go_ret2
          refine ⟨by (first | (rw [HRf.out]; done) | (rw [HRf.out]; rfl)), by rw [HRf.out]; exact h5, (HF2.out.trans F4.out).drew.trans f5⟩
      · have hlf : likeB x s.tell x.n 0 = false := by simpa using hlike
        have hRf : R = (0, 0, true) := by rw [HR.out, if_neg (fun h => hlike h.2)]
        have HRf := Lib.hid hRf
        have HLK := Lib.hid hlf
        clear hRf hlike hlf
        go_wp2_with fail
        refine (must_yes B kb _ slots seen _ HL2.out).mono ?_
        rintro e w2 ⟨rfl, h2, f2⟩
        have r2 := (f2.blk HS2.out (by decide)).cell 2
        have r3 := (f2.blk HB2.out (by decide)).cell 2
        have H3 := Lib.hid h2
        have F3 := Lib.hid f2
        clear h2 f2
        go_wp2_with fail
        refine (like_no B kb tb toff cap ts slots seen i x s.tell x.n 0 _ false HLK.out H3.out HX.out (F3.out.nodes HN2.out htb) hl).mono ?_
        rintro e w3 ⟨rfl, h3, f3⟩
        go_wp2_with fail
        go_ret2
        exact ⟨by (first | (rw [HRf.out]; done) | (rw [HRf.out]; rfl)), by rw [HRf.out]; exact h3, (HF2.out.trans F3.out).trans f3⟩
    · have hb1 : ((n : Int) == 1) = false := by simp; omega
      have hRf : R = (0, 0, true) := by rw [HR.out, if_neg (fun h => h1 (by rw [← HK.out]; exact h.1))]
      have HRf := Lib.hid hRf
      clear h1 hRf
      go_wp2_with fail
      refine (must_no B kb _ slots seen _ false HL2.out).mono ?_
      rintro e w2 ⟨rfl, h2, f2⟩
      go_wp2_with fail
      go_ret2
      exact ⟨by (first | (rw [HRf.out]; done) | (rw [HRf.out]; rfl)), by rw [HRf.out]; exact h2, HF2.out.trans f2⟩

end
end Go.Proofs.Ytggibiodeecljaa
namespace Go.Proofs.Ytggibiodeecljaa
open Go.RowKit
section
variable (B kb tb toff cap : Nat) (ts : List Node) (slots : List Int) (seen : Int → Option Value) (rec : Nat → Bool → ER)

set_option maxRecDepth 100000 in
set_option maxHeartbeats 3200000 in
/-- A function that is none. -/
theorem expr_nocall (i : Nat) (x : Node) (w : World) (hl : ts.length ≤ 100000) (hx : ts[i]? = some x) (h : LK w B kb (.slice (some ⟨tb, toff, none⟩) ts.length cap) ⟨slots, seen, false⟩) (hn : NodesAt w tb toff ts) (htb : tb < B)
    (p1 : (x.op == 30) = false) (p2 : (x.op == 31) = false) (p3 : (x.op == 32) = false) (p4 : (x.op == 33) = false) (p5 : (x.op == 49) = false) (p6 : (x.op == 50) = true) (hs : signOf funcsM x.n = none) :
    Calls Try.prog 157 #[.pointer (some ⟨kb, 0, none⟩), .int .i64 i] w fun e w' => e = .returned (.tuple #[.int .i8 0, .int .i64 0]) ∧
      LK w' B kb (.slice (some ⟨tb, toff, none⟩) ts.length cap) ⟨slots, seen, true⟩ ∧ Frm B [132] w w' := by
  have hi := (List.getElem?_eq_some_iff.1 hx).1
  obtain ⟨c0, c1, c2, c3, c4, c5, c6⟩ := hn.all hx
  obtain ⟨k0, k3⟩ := h.cells
  obtain ⟨hBk, hks⟩ := h.size
  have hout : x.n < 0 ∨ ((9 : Nat) : Int) ≤ x.n := by
    unfold signOf at hs
    split at hs
    · exact .inl (by omega)
    · rw [List.getElem?_eq_none_iff] at hs
      have : funcsM.length = 9 := rfl
      omega
  have HH := Lib.hid h
  have HN := Lib.hid hn
  have HX := Lib.hid hx
  have HO := Lib.hid hout
  clear h hn hx hs hout
  go_enter Try.func157, Try.ntmps157
  go_wp2_with (go_at_call 114; refine (kids_pre B kb tb toff cap ts _ i _ w hl HH.out HN.out htb hi [132]).mono ?_; rintro e w1 ⟨kv, rfl, hown, h1, f1, n1, b1⟩; obtain ⟨A, c, rfl, _⟩ := kids_form hown; have e0 := b1.cell 0; have e2 : w1.cell? ⟨w.heap.size, 2, none⟩ = some (.int .i64 x.n) := b1.cell 2; have H1 := Lib.hid h1; have F1 := Lib.hid f1; have N1 := Lib.hid n1; have B1 := Lib.hid b1; have hz1 := b1.lt; have hne1 : w.heap.size ≠ w1.heap.size := Nat.ne_of_lt hz1; clear h1 f1 n1 b1 hown)
  go_cut [13, 14] (fun s13 s14 wx => SignSlot w1 wx s13 s14 none)
  case first =>
    go_region_held3 (fun w' => w'.cell? ⟨w.heap.size, 2, none⟩ = some (.int .i64 x.n)) (first | exact e2 | exact hc3 | (rw [cell_far4 hne2]; exact hc3) | (rw [cell_far4 hne1]; exact hc3) | go_keep) ((first | (go_at_call 60; refine (funcs_cell _ (nb := w.heap.size) (by assumption)).mono ?_; rintro e w2 ⟨rfl, hsg, hbl, hz4, hc3⟩; obtain ⟨bc2, bf2⟩ := bcell hbl; have hz6 := hbl.size; (try simp only [World.size_alloc, drew_size] at bc2 bf2 hz6); (try have hz7 : w1.heap.size < w2.heap.size := hz6); have hne2 : w.heap.size ≠ w2.heap.size := Nat.ne_of_lt hz4) | (go_at_call 163; refine (sign_out_cell _ 9 9 x.n _ (by omega) HO.out (nb := w.heap.size) (by assumption)).mono ?_; rintro e w3 ⟨rfl, hbl2, hz2, hc3⟩; obtain ⟨bc3, bf3⟩ := bcell hbl2; have hz3 := hbl2.size; (try simp only [World.size_alloc] at hz3 bc3 bf3); have hne3 : w.heap.size ≠ w3.heap.size := Nat.ne_of_lt hz2)))
    · go_wp2_with fail
      go_meet
      have B2 := (Below.refl w1.heap.size w1).drew.trans hbl
      have B3 := B2.trans (hbl2.mono B2.size)
      exact ⟨_, rfl, B3.alloc B3.size _, B3.size, rfl⟩
    · go_wp2_with fail
      go_meet
      have B2 := (Below.refl w1.heap.size w1).drew.trans hbl
      have B3 := (B2.alloc B2.size _).trans (hbl2.mono (Nat.le_trans B2.size (by simp)))
      exact ⟨_, rfl, (((B3.setCell B2.size _).setCell B2.size _).setCell B2.size _).setCell B2.size _, B2.size, rfl⟩
    · go_wp2_with fail
      go_meet
      have B2 := ((Below.refl w1.heap.size w1).alloc (Nat.le_refl _) _).drew.trans (hbl.mono (by simp))
      have B3 := B2.trans (hbl2.mono B2.size)
      exact ⟨_, rfl, (((B3.setCell (Nat.le_refl _) _).setCell (Nat.le_refl _) _).setCell (Nat.le_refl _) _).setCell (Nat.le_refl _) _, Nat.le_refl _, rfl⟩
  case rest =>
    obtain ⟨sb, rfl, hbw, hsb, rfl⟩ := hcut
    have H2 := H1.out.below hbw (Nat.le_refl _)
    have F2 := F1.out.trans (Frm.of_below hbw (by have := H1.out.size; omega))
    have HL2 := Lib.hid H2
    have HF2 := Lib.hid F2
    clear H2 F2 hbw e0 e2
    go_wp2_with fail
    refine (must_no B kb _ slots seen _ false HL2.out).mono ?_
    rintro e w2 ⟨rfl, h2, f2⟩
    go_wp2_with fail
    go_ret2
    exact ⟨rfl, h2, HF2.out.trans f2⟩

end
end Go.Proofs.Ytggibiodeecljaa
