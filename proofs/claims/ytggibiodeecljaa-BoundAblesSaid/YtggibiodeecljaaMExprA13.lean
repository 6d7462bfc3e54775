/- The reference's looker: expr: a call. Written by gen_expr13.py. The reference's looker: expr: operators. Written by gen_expr13.py. The reference's looker: expr: operators. Written by gen_expr13.py. -/
import Derived.Test.YtggibiodeecljaaMCall13
namespace Go.Proofs.Ytggibiodeecljaa
open Go.RowKit
set_option linter.unusedVariables false
theorem callLoop_max (rec : Nat → Bool → ER) (ts : List Node) (a : Int) : ∀ (l : List (Nat × Int)) (b v : Int) (bad : Bool), callLoop rec ts l (max a b) v bad = (max a (callLoop rec ts l b v bad).1, (callLoop rec ts l b v bad).2)
 | [], b, v, bad => rfl
 | (kid, arg) :: r, b, v, bad => by
  simp only [callLoop]
  split
  ·exact callLoop_max rec ts a r b v _
  ·split
   ·exact callLoop_max rec ts a r b v _
   ·rw [show max (max a b) (v + (wantedF (rec kid bad) arg).1) = max a (max b (v + (wantedF (rec kid bad) arg).1)) by omega]
    exact callLoop_max rec ts a r _ _ _
theorem callLoop_bad (rec : Nat → Bool → ER) (ts : List Node) (hrb : ∀ j, (rec j true).2.2 = true) : ∀ (l : List (Nat × Int)) (b v : Int), (callLoop rec ts l b v true).2 = true
 | [], b, v => rfl
 | (kid, arg) :: r, b, v => by
  simp only [callLoop, Bool.true_or]
  split
  ·exact callLoop_bad rec ts hrb r b v
  ·split
   ·exact callLoop_bad rec ts hrb r b v
   ·have : (wantedF (rec kid true) arg).2 = true := by simp [wantedF, hrb]
    rw [this]
    exact callLoop_bad rec ts hrb r _ _
section
variable (B kb tb toff cap : Nat) (ts : List Node) (slots : List Int) (vars : List Vr) (seen : Int → Option Value) (hlt : ts.length ≤ 100000) (htb : tb < B) (htxt : ∀ y ∈ ts, y.text.size ≤ 1099511627776)
include hlt htb htxt
set_option maxRecDepth 100000 in
set_option maxHeartbeats 16000000 in
theorem expr13_call (rec : Nat → Bool → ER) (H : Int) (hH0 : 0 ≤ H) (hH1 : H ≤ 300000) (hrb : ∀ j, (rec j true).2.2 = true) (i : Nat) (x : Node) (w : World)
  (h : RK w B kb (.slice (some ⟨tb, toff, none⟩) ts.length cap) ⟨slots, vars, false⟩) (hx : ts[i]? = some x) (hn : NodesAt w tb toff ts) (hbe : 0 ≤ behind ts i) (he : ∀ j ∈ kidsOf ts i, Expr13 B kb tb toff cap ts slots vars (rec j) H j) (hop : x.op = 50) :
  Calls Try.prog 167 #[.pointer (some ⟨kb, 0, none⟩), .int .i64 i] w fun e w' => Post13 B kb (.slice (some ⟨tb, toff, none⟩) ts.length cap) slots vars w (exprF rec ts slots seen i false) (H + 3) e w' := by
 have hi : i < ts.length := (List.getElem?_eq_some_iff.1 hx).1
 obtain ⟨hB, hks⟩ := h.size
 have htw : tb < w.heap.size := by omega
 have hki := fun wx (hx' : NodesAt wx tb toff ts) (hl : tb < wx.heap.size) => kids9_any (some ⟨tb, toff, none⟩) ts cap i wx hlt (.inr ⟨tb, toff, rfl, hl, hx'⟩) hi
 have hpl := fun (s : RS) (kind n m : Int) wx hx' hn' => plain13_any B kb tb toff cap ts s i x kind n m wx hx' hx hn' hlt
 obtain ⟨R, hR⟩ : ∃ R, R = exprF rec ts slots seen i false := ⟨_, rfl⟩
 have hxg : ts.getD i node0 = x := by rw [List.getD_eq_getElem?_getD, hx]; rfl
 rw [← hR]
 unfold exprF at hR
 simp only [hxg] at hR
 rw [if_neg (by decide)] at hR
 obtain ⟨kids, hkids⟩ : ∃ kids, kids = kidsOf ts i := ⟨_, rfl⟩
 obtain ⟨nk, hnk⟩ : ∃ nk, kids.length = nk := ⟨_, rfl⟩
 have hnkb : nk ≤ 100000 := by rw [← hnk, hkids]; exact kidsOf_le hbe hlt
 rw [← hkids] at he
 simp only [← hkids, hnk] at hki hR
 obtain ⟨c0, c1, c2, c3, c4, c5, c6⟩ := hn.all hx
 obtain ⟨k0, k3, kf⟩ := h.cells
 have HKL := Lh (show ∀ j ∈ kids, j < ts.length by rw [hkids]; exact fun j hj => (kidsOf_ok hj).2.1)
 have hca := fun wx hx' hn' => call13_w B kb tb toff cap ts slots vars hlt htb htxt 1 (.inl rfl) rec H hH0 hH1 hrb i x wx hx' hx hn' (by rw [← hkids]; exact he)
 rw [← hkids] at hca
 obtain ⟨C, hC⟩ : ∃ C, C = callR rec ts 1 x kids := ⟨_, rfl⟩
 rw [← hC] at hca
 have hcr : C.2.2 = R.2.2 ∧ (R.2.2 = false → C.1 = R.1 ∧ C.2.1 = R.2.1) := by
  have hR2 := hR
  rw [if_neg (by omega), if_neg (by omega), if_neg (by omega), if_neg (by omega), if_pos hop] at hR2
  rw [hC, hR2]
  unfold callR
  rw [show listM 1 = funcsM from rfl]
  cases hs : signOf funcsM x.n with
  | none => exact ⟨rfl, fun h => by cases h⟩
  | some s =>
   simp only
   unfold callF
   simp only [hxg]
   by_cases hl : kids.length = s.args.length
   ·rw [if_pos hl]
    simp only [if_true]
    cases hk : likeB x s.tell x.n 0 with
    | true =>
     rw [if_pos ⟨hl, rfl⟩]
     have := callLoop_max rec ts 1 (kids.zip s.args) 0 0 false
     rw [show max (1 : Int) 0 = 1 from rfl] at this
     rw [show (!true) = false from rfl, this]
     exact ⟨rfl, fun _ => ⟨trivial, rfl⟩⟩
    | false =>
     rw [if_neg (fun h => by cases h.2), show (!false) = true from rfl]
     have := callLoop_bad rec ts hrb (kids.zip s.args) 1 0
     exact ⟨this, fun h => by cases h⟩
   ·rw [if_neg hl, if_neg (fun h => hl h.1)]
    exact ⟨rfl, fun h => by cases h⟩
 obtain ⟨len, hlen⟩ : ∃ len, ts.length = len := ⟨_, rfl⟩
 simp only [hlen] at hki hpl
 rw [hlen] at h hi k0 ⊢
 have hlt2 : len ≤ 100000 := by omega
 have hiI : (i : Int) < len := by omega
 have hmu := fun (s : RS) x wx hx => must13_any B kb (.slice (some ⟨tb, toff, none⟩) len cap) s x wx hx
 obtain ⟨xo, xk, xn, xm, xt, xp, xq⟩ := x
 simp only at c0 c1 c2 c3 c4 c5 c6 hR hop
 have HRK0 := Lh h
 have HPL := Lh hpl
 have HMU := Lh hmu
 have HKI := Lh hki
 have HE := Lh he
 have HN0 := Lh hn
 have HL := Lh hlen
 have HNK := Lh hnk
 have HX := Lh hx
 have HRB := Lh hrb
 have HTX := Lh htxt
 have HR := Lh hR
 have hxb := Blk.new w 42 #[.int .i8 xo, .int .i8 xk, .int .i64 xn, .int .i64 xm, .string xt, .int .i64 xp, .int .i64 xq]
 have HF0 := Lh ((Frm.refl B [150] w).alloc (by omega) (.cells #[.int .i8 xo, .int .i8 xk, .int .i64 xn, .int .i64 xm, .string xt, .int .i64 xp, .int .i64 xq] 42))
 have HXB := Lh hxb
 obtain ⟨W0, hW0⟩ : ∃ W, W = w.alloc (.cells #[.int .i8 xo, .int .i8 xk, .int .i64 xn, .int .i64 xm, .string xt, .int .i64 xp, .int .i64 xq] 42) := ⟨_, rfl⟩
 have HW0 := Lh hW0
 have zW0 : W0.heap.size = w.heap.size + 1 := by rw [hW0]; simp
 rw [← hW0] at HXB HF0
 have HRKW := Lh (show RK W0 B kb _ _ by rw [hW0]; exact HRK0.out.alloc _)
 have HNW := Lh (HF0.out.nodes HN0.out htb)
 have kw0 := HRKW.out.cells.1
 clear h hpl hmu hki he hn hlen hnk hx hrb htxt hxb hW0 hkids hR hxg hbe
 have HC := Lh hca
 have HCR := Lh hcr
 subst hop
 clear hca hcr hC
 go_enter Try.func167, Try.ntmps167
 go_wp2_with fail
 rw [← HW0.out]
 refine (HKI.out _ HNW.out (by omega)).mono ?_
 rintro e w2 ⟨kv, rfl, hown, hb2⟩
 obtain ⟨AK, ck, rfl⟩ := own_form hown
 have hz2 := hb2.size
 have HF2 := Lh (HF0.out.trans (Frm.of_below hb2 (by omega)))
 have HRK2 := Lh (HRKW.out.below hb2)
 have hx2 := HXB.out.below hb2 (by omega)
 have x20 := hx2.cell 0
 have x22 := hx2.cell 2
 obtain ⟨k02, k32, kf2⟩ := HRK2.out.cells
 have HSET := Lh (HRK2.out.setBad true)
 have HSF := Lh (HRK2.out.frm 3 (.bool true))
 have HKO := Lh hown
 have HX2 := Lh hx2
 have HN2 := Lh (HF2.out.nodes HN0.out htb)
 clear hown hb2 hx2
 go_wp2_with fail
 refine (HC.out _ (by rw [HL.out]; exact HRK2.out) HN2.out).mono ?_
 rintro e w3 ⟨k, hh, rfl, h0, h1, hr3, f3, hg⟩
 rw [HL.out] at hr3
 have HR3 := Lh hr3
 have F3 := Lh (HF2.out.trans f3)
 have HG := Lh hg
 clear hr3 f3 hg
 go_wp2_with fail
 go_ret2
 obtain ⟨e1, e2⟩ := HCR.out
 exact ⟨k, hh, rfl, h0, h1, by rw [← e1]; exact HR3.out, F3.out, fun hb => by
  obtain ⟨g1, g2⟩ := HG.out (by rw [e1]; exact hb)
  obtain ⟨g3, g4⟩ := e2 hb
  exact ⟨g1.trans g3, g2.trans g4⟩⟩
end
end Go.Proofs.Ytggibiodeecljaa
namespace Go.Proofs.Ytggibiodeecljaa
open Go.RowKit
set_option linter.unusedVariables false
section
variable (B kb tb toff cap : Nat) (ts : List Node) (slots : List Int) (vars : List Vr) (seen : Int → Option Value) (hlt : ts.length ≤ 100000) (htb : tb < B) (htxt : ∀ y ∈ ts, y.text.size ≤ 1099511627776)
include hlt htb htxt
set_option maxRecDepth 100000 in
set_option maxHeartbeats 16000000 in
theorem expr13_not (rec : Nat → Bool → ER) (H : Int) (hH0 : 0 ≤ H) (hH1 : H ≤ 300000) (hrb : ∀ j, (rec j true).2.2 = true) (i : Nat) (x : Node) (w : World)
  (h : RK w B kb (.slice (some ⟨tb, toff, none⟩) ts.length cap) ⟨slots, vars, false⟩) (hx : ts[i]? = some x) (hn : NodesAt w tb toff ts) (hbe : 0 ≤ behind ts i) (he : ∀ j ∈ kidsOf ts i, Expr13 B kb tb toff cap ts slots vars (rec j) H j) (hop : x.op = 34) (hcnt : (kidsOf ts i).length = 1) :
  Calls Try.prog 167 #[.pointer (some ⟨kb, 0, none⟩), .int .i64 i] w fun e w' => Post13 B kb (.slice (some ⟨tb, toff, none⟩) ts.length cap) slots vars w (exprF rec ts slots seen i false) (H + 3) e w' := by
 have hi : i < ts.length := (List.getElem?_eq_some_iff.1 hx).1
 obtain ⟨hB, hks⟩ := h.size
 have htw : tb < w.heap.size := by omega
 have hki := fun wx (hx' : NodesAt wx tb toff ts) (hl : tb < wx.heap.size) => kids9_any (some ⟨tb, toff, none⟩) ts cap i wx hlt (.inr ⟨tb, toff, rfl, hl, hx'⟩) hi
 have hpl := fun (s : RS) (kind n m : Int) wx hx' hn' => plain13_any B kb tb toff cap ts s i x kind n m wx hx' hx hn' hlt
 obtain ⟨R, hR⟩ : ∃ R, R = exprF rec ts slots seen i false := ⟨_, rfl⟩
 have hxg : ts.getD i node0 = x := by rw [List.getD_eq_getElem?_getD, hx]; rfl
 rw [← hR]
 unfold exprF at hR
 simp only [hxg] at hR
 rw [if_neg (by decide)] at hR
 obtain ⟨kids, hkids⟩ : ∃ kids, kids = kidsOf ts i := ⟨_, rfl⟩
 obtain ⟨nk, hnk⟩ : ∃ nk, kids.length = nk := ⟨_, rfl⟩
 have hnkb : nk ≤ 100000 := by rw [← hnk, hkids]; exact kidsOf_le hbe hlt
 rw [← hkids] at he
 simp only [← hkids, hnk] at hki hR
 obtain ⟨c0, c1, c2, c3, c4, c5, c6⟩ := hn.all hx
 obtain ⟨k0, k3, kf⟩ := h.cells
 have HKL := Lh (show ∀ j ∈ kids, j < ts.length by rw [hkids]; exact fun j hj => (kidsOf_ok hj).2.1)
 rw [if_neg (by omega), if_neg (by omega), if_neg (by omega), if_neg (by omega), if_neg (by omega)] at hR
 unfold operatorF at hR
 simp only [hxg, hnk] at hR
 rw [← hkids, hnk] at hcnt
 obtain ⟨len, hlen⟩ : ∃ len, ts.length = len := ⟨_, rfl⟩
 simp only [hlen] at hki hpl
 rw [hlen] at h hi k0 ⊢
 have hlt2 : len ≤ 100000 := by omega
 have hiI : (i : Int) < len := by omega
 have hmu := fun (s : RS) x wx hx => must13_any B kb (.slice (some ⟨tb, toff, none⟩) len cap) s x wx hx
 obtain ⟨xo, xk, xn, xm, xt, xp, xq⟩ := x
 simp only at c0 c1 c2 c3 c4 c5 c6 hR hop
 have HRK0 := Lh h
 have HPL := Lh hpl
 have HMU := Lh hmu
 have HKI := Lh hki
 have HE := Lh he
 have HN0 := Lh hn
 have HL := Lh hlen
 have HNK := Lh hnk
 have HX := Lh hx
 have HRB := Lh hrb
 have HTX := Lh htxt
 have HR := Lh hR
 have hxb := Blk.new w 42 #[.int .i8 xo, .int .i8 xk, .int .i64 xn, .int .i64 xm, .string xt, .int .i64 xp, .int .i64 xq]
 have HF0 := Lh ((Frm.refl B [150] w).alloc (by omega) (.cells #[.int .i8 xo, .int .i8 xk, .int .i64 xn, .int .i64 xm, .string xt, .int .i64 xp, .int .i64 xq] 42))
 have HXB := Lh hxb
 obtain ⟨W0, hW0⟩ : ∃ W, W = w.alloc (.cells #[.int .i8 xo, .int .i8 xk, .int .i64 xn, .int .i64 xm, .string xt, .int .i64 xp, .int .i64 xq] 42) := ⟨_, rfl⟩
 have HW0 := Lh hW0
 have zW0 : W0.heap.size = w.heap.size + 1 := by rw [hW0]; simp
 rw [← hW0] at HXB HF0
 have HRKW := Lh (show RK W0 B kb _ _ by rw [hW0]; exact HRK0.out.alloc _)
 have HNW := Lh (HF0.out.nodes HN0.out htb)
 have kw0 := HRKW.out.cells.1
 clear h hpl hmu hki he hn hlen hnk hx hrb htxt hxb hW0 hkids hR hxg hbe
 subst hop
 ·go_enter Try.func167, Try.ntmps167
  go_wp2_with fail
  rw [← HW0.out]
  refine (HKI.out _ HNW.out (by omega)).mono ?_
  rintro e w2 ⟨kv, rfl, hown, hb2⟩
  obtain ⟨AK, ck, rfl⟩ := own_form hown
  have hz2 := hb2.size
  have HF2 := Lh (HF0.out.trans (Frm.of_below hb2 (by omega)))
  have HRK2 := Lh (HRKW.out.below hb2)
  have hx2 := HXB.out.below hb2 (by omega)
  have x20 := hx2.cell 0
  have x22 := hx2.cell 2
  obtain ⟨k02, k32, kf2⟩ := HRK2.out.cells
  have HSET := Lh (HRK2.out.setBad true)
  have HSF := Lh (HRK2.out.frm 3 (.bool true))
  have HKO := Lh hown
  have HX2 := Lh hx2
  have HN2 := Lh (HF2.out.nodes HN0.out htb)
  clear hown hb2 hx2
  have hmany : nk = 1 := hcnt
  subst hmany
  obtain ⟨like, hlike⟩ : ∃ q, q = likeB ⟨34, xk, xn, xm, xt, xp, xq⟩ (operatorM 34).2 0 0 := ⟨_, rfl⟩
  obtain ⟨tl, htl⟩ : ∃ t, t = (operatorM 34).2 := ⟨_, rfl⟩
  have hR1 := HR.out
  have hR1 : R = if (True ∧ True ∧ like = true) then (tl, ((2, (wantedF (rec (kids.getD 0 0) false) 2).1, (wantedF (rec (kids.getD 0 0) false) 2).2)).2.1, ((2, (wantedF (rec (kids.getD 0 0) false) 2).1, (wantedF (rec (kids.getD 0 0) false) 2).2)).2.2) else (0, 0, true) := by
   rw [hR1]
   rw [hlike, htl]
   simp [operatorM]
  rw [← htl] at hlike
  have hpl0 := HPL.out ⟨slots, vars, false⟩ tl 0 0
  rw [← hlike] at hpl0
  have HPL0 := Lh hpl0
  have HRR := Lh hR1
  have HTL := Lh (fun wx => by have := tells13_any 34 wx (by omega); rw [← htl] at this; exact this : ∀ wx, Calls Try.prog 188 #[.int .i8 34] wx fun e w' => e = .returned (.int .i8 tl) ∧ wx = w')
  have HOPR := Lh (fun wx => by have := operands13_any 34 wx; rw [show operandsR 34 = 2 by (unfold operandsR; rfl)] at this; exact this : ∀ wx, Calls Try.prog 189 #[.int .i8 34] wx fun e w' => e = .returned (.int .i8 (2)) ∧ wx = w')
  obtain ⟨j0, hj0⟩ : ∃ j, kids[0]? = some j := ⟨_, List.getElem?_eq_getElem (by rw [HNK.out]; omega)⟩
  have hJ0 : (kids.map (fun j : Nat => (j : Int)))[0]? = some (j0 : Int) := by rw [List.getElem?_map, hj0]; rfl
  have HJM0 := Lh (List.mem_of_getElem? hj0)
  have HG0 := Lh (show kids.getD 0 0 = j0 by rw [List.getD_eq_getElem?_getD, hj0]; rfl)
  have HJ0 := Lh hJ0
  clear hR1 hpl0 hlike htl hj0 hJ0
  have hk2 : ((1 : Nat) : Int) = 1 := rfl
  go_wp2_with fail
  refine (HTL.out _).mono ?_
  rintro e w2' ⟨rfl, rfl⟩
  go_wp2_with fail
  refine (HPL0.out _ HRK2.out HN2.out).mono ?_
  rintro e w3 ⟨rfl, h3, f3⟩
  have hz3 := f3.size
  have HF3 := Lh (HF2.out.trans f3)
  have x30 := (f3.blk HX2.out (by decide)).cell 0
  have HXC := Lh (show ∀ wx, Frm B [150] w3 wx → wx.cell? ⟨w.heap.size, 0, none⟩ = some (.int .i8 34) from fun wx fx => (fx.blk (f3.blk HX2.out (by decide)) (by decide)).cell 0)
  have HKO3 := Lh (f3.own HKO.out (by decide))
  have H3 := Lh (h3.same (s' := ⟨slots, vars, !like⟩) (by simp [RS.must]))
  have HN3 := Lh (f3.nodes HN2.out htb)
  obtain ⟨kb3, ko3, ke3, kl3, kc3⟩ := (own_ints HKO3.out).1 0 _ HJ0.out
  subst ke3
  simp only [Nat.add_zero] at kc3
  clear h3 f3 x20 x22
  go_wp2_with fail
  refine (HOPR.out _).mono ?_
  rintro e w3' ⟨rfl, rfl⟩
  go_wp2_with fail
  refine (wanted13_any B kb tb toff cap ts slots vars (rec j0) H j0 2 (!like) _ (HE.out j0 HJM0.out) (by rw [HL.out]; exact H3.out) HN3.out).mono ?_
  rintro e w5 ⟨h4v, rfl, h40, h41, h5, f5, hg4⟩
  rw [HL.out] at h5
  have x50 := HXC.out _ f5
  have F5 := Lh f5
  obtain ⟨b5, hb5⟩ : ∃ b, b = (wantedF (rec j0 (!like)) 2).2 := ⟨_, rfl⟩
  have H5 := Lh (h5.same (s' := ⟨slots, vars, b5⟩) (by rw [hb5]))
  have HB5 := Lh hb5
  have HG4 := Lh hg4
  clear h5 f5 hb5 hg4
  go_wp2_with fail
  refine (HTL.out _).mono ?_
  rintro e w5' ⟨rfl, rfl⟩
  go_wp2_with fail
  go_ret2
  cases like with
  | true =>
   have hr : R = (tl, (wantedF (rec j0 false) 2).1, (wantedF (rec j0 false) 2).2) := by rw [HRR.out, if_pos ⟨trivial, trivial, rfl⟩, HG0.out]
   refine ⟨tl, h4v, rfl, h40, by omega, by rw [hr]; exact H5.out.same (by rw [HB5.out]; rfl), HF3.out.trans F5.out, fun hb => ?_⟩
   rw [hr] at hb ⊢
   exact ⟨rfl, HG4.out hb⟩
  | false =>
   have hr : R = (0, 0, true) := by rw [HRR.out, if_neg (fun h => by cases h.2.2)]
   have hbt : b5 = true := by rw [HB5.out]; simp [wantedF, HRB.out j0]
   refine ⟨tl, h4v, rfl, h40, by omega, by rw [hr, ← hbt]; exact H5.out, HF3.out.trans F5.out, fun hb => by rw [hr] at hb; cases hb⟩
end
end Go.Proofs.Ytggibiodeecljaa
namespace Go.Proofs.Ytggibiodeecljaa
open Go.RowKit
set_option linter.unusedVariables false
section
variable (B kb tb toff cap : Nat) (ts : List Node) (slots : List Int) (vars : List Vr) (seen : Int → Option Value) (hlt : ts.length ≤ 100000) (htb : tb < B) (htxt : ∀ y ∈ ts, y.text.size ≤ 1099511627776)
include hlt htb htxt
set_option maxRecDepth 100000 in
set_option maxHeartbeats 16000000 in
theorem expr13_neg (rec : Nat → Bool → ER) (H : Int) (hH0 : 0 ≤ H) (hH1 : H ≤ 300000) (hrb : ∀ j, (rec j true).2.2 = true) (i : Nat) (x : Node) (w : World)
  (h : RK w B kb (.slice (some ⟨tb, toff, none⟩) ts.length cap) ⟨slots, vars, false⟩) (hx : ts[i]? = some x) (hn : NodesAt w tb toff ts) (hbe : 0 ≤ behind ts i) (he : ∀ j ∈ kidsOf ts i, Expr13 B kb tb toff cap ts slots vars (rec j) H j) (hop : x.op = 35) (hcnt : (kidsOf ts i).length = 1) :
  Calls Try.prog 167 #[.pointer (some ⟨kb, 0, none⟩), .int .i64 i] w fun e w' => Post13 B kb (.slice (some ⟨tb, toff, none⟩) ts.length cap) slots vars w (exprF rec ts slots seen i false) (H + 3) e w' := by
 have hi : i < ts.length := (List.getElem?_eq_some_iff.1 hx).1
 obtain ⟨hB, hks⟩ := h.size
 have htw : tb < w.heap.size := by omega
 have hki := fun wx (hx' : NodesAt wx tb toff ts) (hl : tb < wx.heap.size) => kids9_any (some ⟨tb, toff, none⟩) ts cap i wx hlt (.inr ⟨tb, toff, rfl, hl, hx'⟩) hi
 have hpl := fun (s : RS) (kind n m : Int) wx hx' hn' => plain13_any B kb tb toff cap ts s i x kind n m wx hx' hx hn' hlt
 obtain ⟨R, hR⟩ : ∃ R, R = exprF rec ts slots seen i false := ⟨_, rfl⟩
 have hxg : ts.getD i node0 = x := by rw [List.getD_eq_getElem?_getD, hx]; rfl
 rw [← hR]
 unfold exprF at hR
 simp only [hxg] at hR
 rw [if_neg (by decide)] at hR
 obtain ⟨kids, hkids⟩ : ∃ kids, kids = kidsOf ts i := ⟨_, rfl⟩
 obtain ⟨nk, hnk⟩ : ∃ nk, kids.length = nk := ⟨_, rfl⟩
 have hnkb : nk ≤ 100000 := by rw [← hnk, hkids]; exact kidsOf_le hbe hlt
 rw [← hkids] at he
 simp only [← hkids, hnk] at hki hR
 obtain ⟨c0, c1, c2, c3, c4, c5, c6⟩ := hn.all hx
 obtain ⟨k0, k3, kf⟩ := h.cells
 have HKL := Lh (show ∀ j ∈ kids, j < ts.length by rw [hkids]; exact fun j hj => (kidsOf_ok hj).2.1)
 rw [if_neg (by omega), if_neg (by omega), if_neg (by omega), if_neg (by omega), if_neg (by omega)] at hR
 unfold operatorF at hR
 simp only [hxg, hnk] at hR
 rw [← hkids, hnk] at hcnt
 obtain ⟨len, hlen⟩ : ∃ len, ts.length = len := ⟨_, rfl⟩
 simp only [hlen] at hki hpl
 rw [hlen] at h hi k0 ⊢
 have hlt2 : len ≤ 100000 := by omega
 have hiI : (i : Int) < len := by omega
 have hmu := fun (s : RS) x wx hx => must13_any B kb (.slice (some ⟨tb, toff, none⟩) len cap) s x wx hx
 obtain ⟨xo, xk, xn, xm, xt, xp, xq⟩ := x
 simp only at c0 c1 c2 c3 c4 c5 c6 hR hop
 have HRK0 := Lh h
 have HPL := Lh hpl
 have HMU := Lh hmu
 have HKI := Lh hki
 have HE := Lh he
 have HN0 := Lh hn
 have HL := Lh hlen
 have HNK := Lh hnk
 have HX := Lh hx
 have HRB := Lh hrb
 have HTX := Lh htxt
 have HR := Lh hR
 have hxb := Blk.new w 42 #[.int .i8 xo, .int .i8 xk, .int .i64 xn, .int .i64 xm, .string xt, .int .i64 xp, .int .i64 xq]
 have HF0 := Lh ((Frm.refl B [150] w).alloc (by omega) (.cells #[.int .i8 xo, .int .i8 xk, .int .i64 xn, .int .i64 xm, .string xt, .int .i64 xp, .int .i64 xq] 42))
 have HXB := Lh hxb
 obtain ⟨W0, hW0⟩ : ∃ W, W = w.alloc (.cells #[.int .i8 xo, .int .i8 xk, .int .i64 xn, .int .i64 xm, .string xt, .int .i64 xp, .int .i64 xq] 42) := ⟨_, rfl⟩
 have HW0 := Lh hW0
 have zW0 : W0.heap.size = w.heap.size + 1 := by rw [hW0]; simp
 rw [← hW0] at HXB HF0
 have HRKW := Lh (show RK W0 B kb _ _ by rw [hW0]; exact HRK0.out.alloc _)
 have HNW := Lh (HF0.out.nodes HN0.out htb)
 have kw0 := HRKW.out.cells.1
 clear h hpl hmu hki he hn hlen hnk hx hrb htxt hxb hW0 hkids hR hxg hbe
 subst hop
 ·go_enter Try.func167, Try.ntmps167
  go_wp2_with fail
  rw [← HW0.out]
  refine (HKI.out _ HNW.out (by omega)).mono ?_
  rintro e w2 ⟨kv, rfl, hown, hb2⟩
  obtain ⟨AK, ck, rfl⟩ := own_form hown
  have hz2 := hb2.size
  have HF2 := Lh (HF0.out.trans (Frm.of_below hb2 (by omega)))
  have HRK2 := Lh (HRKW.out.below hb2)
  have hx2 := HXB.out.below hb2 (by omega)
  have x20 := hx2.cell 0
  have x22 := hx2.cell 2
  obtain ⟨k02, k32, kf2⟩ := HRK2.out.cells
  have HSET := Lh (HRK2.out.setBad true)
  have HSF := Lh (HRK2.out.frm 3 (.bool true))
  have HKO := Lh hown
  have HX2 := Lh hx2
  have HN2 := Lh (HF2.out.nodes HN0.out htb)
  clear hown hb2 hx2
  have hmany : nk = 1 := hcnt
  subst hmany
  obtain ⟨like, hlike⟩ : ∃ q, q = likeB ⟨35, xk, xn, xm, xt, xp, xq⟩ (operatorM 35).2 0 0 := ⟨_, rfl⟩
  obtain ⟨tl, htl⟩ : ∃ t, t = (operatorM 35).2 := ⟨_, rfl⟩
  have hR1 := HR.out
  have hR1 : R = if (True ∧ True ∧ like = true) then (tl, ((1, (wantedF (rec (kids.getD 0 0) false) 1).1, (wantedF (rec (kids.getD 0 0) false) 1).2)).2.1, ((1, (wantedF (rec (kids.getD 0 0) false) 1).1, (wantedF (rec (kids.getD 0 0) false) 1).2)).2.2) else (0, 0, true) := by
   rw [hR1]
   rw [hlike, htl]
   simp [operatorM]
  rw [← htl] at hlike
  have hpl0 := HPL.out ⟨slots, vars, false⟩ tl 0 0
  rw [← hlike] at hpl0
  have HPL0 := Lh hpl0
  have HRR := Lh hR1
  have HTL := Lh (fun wx => by have := tells13_any 35 wx (by omega); rw [← htl] at this; exact this : ∀ wx, Calls Try.prog 188 #[.int .i8 35] wx fun e w' => e = .returned (.int .i8 tl) ∧ wx = w')
  have HOPR := Lh (fun wx => by have := operands13_any 35 wx; rw [show operandsR 35 = 1 by (unfold operandsR; rfl)] at this; exact this : ∀ wx, Calls Try.prog 189 #[.int .i8 35] wx fun e w' => e = .returned (.int .i8 (1)) ∧ wx = w')
  obtain ⟨j0, hj0⟩ : ∃ j, kids[0]? = some j := ⟨_, List.getElem?_eq_getElem (by rw [HNK.out]; omega)⟩
  have hJ0 : (kids.map (fun j : Nat => (j : Int)))[0]? = some (j0 : Int) := by rw [List.getElem?_map, hj0]; rfl
  have HJM0 := Lh (List.mem_of_getElem? hj0)
  have HG0 := Lh (show kids.getD 0 0 = j0 by rw [List.getD_eq_getElem?_getD, hj0]; rfl)
  have HJ0 := Lh hJ0
  clear hR1 hpl0 hlike htl hj0 hJ0
  have hk2 : ((1 : Nat) : Int) = 1 := rfl
  go_wp2_with fail
  refine (HTL.out _).mono ?_
  rintro e w2' ⟨rfl, rfl⟩
  go_wp2_with fail
  refine (HPL0.out _ HRK2.out HN2.out).mono ?_
  rintro e w3 ⟨rfl, h3, f3⟩
  have hz3 := f3.size
  have HF3 := Lh (HF2.out.trans f3)
  have x30 := (f3.blk HX2.out (by decide)).cell 0
  have HXC := Lh (show ∀ wx, Frm B [150] w3 wx → wx.cell? ⟨w.heap.size, 0, none⟩ = some (.int .i8 35) from fun wx fx => (fx.blk (f3.blk HX2.out (by decide)) (by decide)).cell 0)
  have HKO3 := Lh (f3.own HKO.out (by decide))
  have H3 := Lh (h3.same (s' := ⟨slots, vars, !like⟩) (by simp [RS.must]))
  have HN3 := Lh (f3.nodes HN2.out htb)
  obtain ⟨kb3, ko3, ke3, kl3, kc3⟩ := (own_ints HKO3.out).1 0 _ HJ0.out
  subst ke3
  simp only [Nat.add_zero] at kc3
  clear h3 f3 x20 x22
  go_wp2_with fail
  refine (HOPR.out _).mono ?_
  rintro e w3' ⟨rfl, rfl⟩
  go_wp2_with fail
  refine (wanted13_any B kb tb toff cap ts slots vars (rec j0) H j0 1 (!like) _ (HE.out j0 HJM0.out) (by rw [HL.out]; exact H3.out) HN3.out).mono ?_
  rintro e w5 ⟨h4v, rfl, h40, h41, h5, f5, hg4⟩
  rw [HL.out] at h5
  have x50 := HXC.out _ f5
  have F5 := Lh f5
  obtain ⟨b5, hb5⟩ : ∃ b, b = (wantedF (rec j0 (!like)) 1).2 := ⟨_, rfl⟩
  have H5 := Lh (h5.same (s' := ⟨slots, vars, b5⟩) (by rw [hb5]))
  have HB5 := Lh hb5
  have HG4 := Lh hg4
  clear h5 f5 hb5 hg4
  go_wp2_with fail
  refine (HTL.out _).mono ?_
  rintro e w5' ⟨rfl, rfl⟩
  go_wp2_with fail
  go_ret2
  cases like with
  | true =>
   have hr : R = (tl, (wantedF (rec j0 false) 1).1, (wantedF (rec j0 false) 1).2) := by rw [HRR.out, if_pos ⟨trivial, trivial, rfl⟩, HG0.out]
   refine ⟨tl, h4v, rfl, h40, by omega, by rw [hr]; exact H5.out.same (by rw [HB5.out]; rfl), HF3.out.trans F5.out, fun hb => ?_⟩
   rw [hr] at hb ⊢
   exact ⟨rfl, HG4.out hb⟩
  | false =>
   have hr : R = (0, 0, true) := by rw [HRR.out, if_neg (fun h => by cases h.2.2)]
   have hbt : b5 = true := by rw [HB5.out]; simp [wantedF, HRB.out j0]
   refine ⟨tl, h4v, rfl, h40, by omega, by rw [hr, ← hbt]; exact H5.out, HF3.out.trans F5.out, fun hb => by rw [hr] at hb; cases hb⟩
end
end Go.Proofs.Ytggibiodeecljaa
