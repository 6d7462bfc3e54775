/- The reference's looker: expr: a leaf. Written by gen_expr13.py. The reference's looker: expr: a field. Written by gen_expr13.py. -/
import Derived.Test.YtggibiodeecljaaMCall13
namespace Go.Proofs.Ytggibiodeecljaa
open Go.RowKit
set_option linter.unusedVariables false
section
variable (B kb tb toff cap : Nat) (ts : List Node) (slots : List Int) (vars : List Vr) (seen : Int → Option Value) (hlt : ts.length ≤ 100000) (htb : tb < B) (htxt : ∀ y ∈ ts, y.text.size ≤ 1099511627776)
include hlt htb htxt
set_option maxRecDepth 100000 in
set_option maxHeartbeats 16000000 in
theorem expr13_leaf (rec : Nat → Bool → ER) (H : Int) (hH0 : 0 ≤ H) (hH1 : H ≤ 300000) (hrb : ∀ j, (rec j true).2.2 = true) (i : Nat) (x : Node) (w : World)
  (h : RK w B kb (.slice (some ⟨tb, toff, none⟩) ts.length cap) ⟨slots, vars, false⟩) (hx : ts[i]? = some x) (hn : NodesAt w tb toff ts) (hbe : 0 ≤ behind ts i) (he : ∀ j ∈ kidsOf ts i, Expr13 B kb tb toff cap ts slots vars (rec j) H j) (hvl : vars.length ≤ 100000) (hrel : SeenRel slots vars seen) (hop : x.op = 30 ∨ x.op = 31 ∨ x.op = 32 ∨ x.op = 33) :
  Calls Try.prog 167 #[.pointer (some ⟨kb, 0, none⟩), .int .i64 i] w fun e w' => Post13 B kb (.slice (some ⟨tb, toff, none⟩) ts.length cap) slots vars w (exprF rec ts slots seen i false) (H + 3) e w' := by
 have hi : i < ts.length := (List.getElem?_eq_some_iff.1 hx).1
 obtain ⟨hB, hks⟩ := h.size
 have htw : tb < w.heap.size := by omega
 have hki := fun wx (hx' : NodesAt wx tb toff ts) (hl : tb < wx.heap.size) => kids9_any (some ⟨tb, toff, none⟩) ts cap i wx hlt (.inr ⟨tb, toff, rfl, hl, hx'⟩) hi
 have hpl := fun (s : RS) (kind n m : Int) wx hx' hn' => plain13_any B kb tb toff cap ts s i x kind n m wx hx' hx hn' hlt
 obtain ⟨R, hR⟩ : ∃ R, R = exprF rec ts slots seen i false := ⟨_, rfl⟩
 have hxg : ts.getD i node0 = x := by rw [List.getD_eq_getElem?_getD, hx]; rfl
 rw [← hR]
 unfold exprF at hR
 simp only [hxg] at hR
 rw [if_neg (by decide)] at hR
 obtain ⟨kids, hkids⟩ : ∃ kids, kids = kidsOf ts i := ⟨_, rfl⟩
 obtain ⟨nk, hnk⟩ : ∃ nk, kids.length = nk := ⟨_, rfl⟩
 have hnkb : nk ≤ 100000 := by rw [← hnk, hkids]; exact kidsOf_le hbe hlt
 rw [← hkids] at he
 simp only [← hkids, hnk] at hki hR
 obtain ⟨c0, c1, c2, c3, c4, c5, c6⟩ := hn.all hx
 obtain ⟨k0, k3, kf⟩ := h.cells
 have HKL := Lh (show ∀ j ∈ kids, j < ts.length by rw [hkids]; exact fun j hj => (kidsOf_ok hj).2.1)
 have hle := fun wx hx' hn' => leaf13_any B kb tb toff cap ts slots vars seen hlt htb hvl hrel rec i x wx hx' hx hn' hbe hop
 have hle2 : exprF rec ts slots seen i false = R := by rw [hR]; unfold exprF; simp only [hxg, ← hkids, hnk]; rw [if_neg (by decide)]
 rw [hle2] at hle
 obtain ⟨len, hlen⟩ : ∃ len, ts.length = len := ⟨_, rfl⟩
 simp only [hlen] at hki hpl
 rw [hlen] at h hi k0 ⊢
 have hlt2 : len ≤ 100000 := by omega
 have hiI : (i : Int) < len := by omega
 have hmu := fun (s : RS) x wx hx => must13_any B kb (.slice (some ⟨tb, toff, none⟩) len cap) s x wx hx
 obtain ⟨xo, xk, xn, xm, xt, xp, xq⟩ := x
 simp only at c0 c1 c2 c3 c4 c5 c6 hR hop
 have HRK0 := Lh h
 have HPL := Lh hpl
 have HMU := Lh hmu
 have HKI := Lh hki
 have HE := Lh he
 have HN0 := Lh hn
 have HL := Lh hlen
 have HNK := Lh hnk
 have HX := Lh hx
 have HRB := Lh hrb
 have HTX := Lh htxt
 have HR := Lh hR
 have hxb := Blk.new w 42 #[.int .i8 xo, .int .i8 xk, .int .i64 xn, .int .i64 xm, .string xt, .int .i64 xp, .int .i64 xq]
 have HF0 := Lh ((Frm.refl B [150] w).alloc (by omega) (.cells #[.int .i8 xo, .int .i8 xk, .int .i64 xn, .int .i64 xm, .string xt, .int .i64 xp, .int .i64 xq] 42))
 have HXB := Lh hxb
 obtain ⟨W0, hW0⟩ : ∃ W, W = w.alloc (.cells #[.int .i8 xo, .int .i8 xk, .int .i64 xn, .int .i64 xm, .string xt, .int .i64 xp, .int .i64 xq] 42) := ⟨_, rfl⟩
 have HW0 := Lh hW0
 have zW0 : W0.heap.size = w.heap.size + 1 := by rw [hW0]; simp
 rw [← hW0] at HXB HF0
 have HRKW := Lh (show RK W0 B kb _ _ by rw [hW0]; exact HRK0.out.alloc _)
 have HNW := Lh (HF0.out.nodes HN0.out htb)
 have kw0 := HRKW.out.cells.1
 clear h hpl hmu hki he hn hlen hnk hx hrb htxt hxb hW0 hkids hR hxg hbe
 have HC := Lh hle
 clear hle hle2
 have d1 : decide (30 ≤ xo) = true := decide_eq_true (by omega)
 have d2 : decide (xo ≤ 33) = true := decide_eq_true (by omega)
 have s50 : (xo == 50) = false := by simp; omega
 have h50 : ¬ xo = 50 := by omega
 go_enter Try.func167, Try.ntmps167
 go_wp2_with fail
 rw [← HW0.out]
 refine (HKI.out _ HNW.out (by omega)).mono ?_
 rintro e w2 ⟨kv, rfl, hown, hb2⟩
 obtain ⟨AK, ck, rfl⟩ := own_form hown
 have hz2 := hb2.size
 have HF2 := Lh (HF0.out.trans (Frm.of_below hb2 (by omega)))
 have HRK2 := Lh (HRKW.out.below hb2)
 have hx2 := HXB.out.below hb2 (by omega)
 have x20 := hx2.cell 0
 have x22 := hx2.cell 2
 obtain ⟨k02, k32, kf2⟩ := HRK2.out.cells
 have HSET := Lh (HRK2.out.setBad true)
 have HSF := Lh (HRK2.out.frm 3 (.bool true))
 have HKO := Lh hown
 have HX2 := Lh hx2
 have HN2 := Lh (HF2.out.nodes HN0.out htb)
 clear hown hb2 hx2
 go_wp2_with fail
 refine (HC.out _ (by rw [HL.out]; exact HRK2.out) HN2.out).mono ?_
 rintro e w3 ⟨k, hh, rfl, h0, h1, hr3, f3, hg⟩
 rw [HL.out] at hr3
 have HR3 := Lh hr3
 have F3 := Lh (HF2.out.trans f3)
 have HG := Lh hg
 clear hr3 f3 hg
 go_wp2_with fail
 go_ret2
 exact ⟨k, hh, rfl, h0, by omega, HR3.out, F3.out, HG.out⟩
end
end Go.Proofs.Ytggibiodeecljaa
namespace Go.Proofs.Ytggibiodeecljaa
open Go.RowKit
set_option linter.unusedVariables false
theorem tableWorld3_blk (w : World) (l : List Sign) : Blk (tableWorld3 w l) (w.heap.size + l.length) 247 (tableCells3 w.heap.size l).toArray := by
 have hsz : (allocs w (l.map Sign.argsObj)).heap.size = w.heap.size + l.length := by rw [allocs_size]; simp
 rw [← hsz]
 exact Blk.new _ _ _
section
variable (B kb tb toff cap : Nat) (ts : List Node) (slots : List Int) (vars : List Vr) (seen : Int → Option Value) (hlt : ts.length ≤ 100000) (htb : tb < B) (htxt : ∀ y ∈ ts, y.text.size ≤ 1099511627776)
include hlt htb htxt
set_option maxRecDepth 100000 in
set_option maxHeartbeats 16000000 in
theorem expr13_field (rec : Nat → Bool → ER) (H : Int) (hH0 : 0 ≤ H) (hH1 : H ≤ 300000) (hrb : ∀ j, (rec j true).2.2 = true) (i : Nat) (x : Node) (w : World)
  (h : RK w B kb (.slice (some ⟨tb, toff, none⟩) ts.length cap) ⟨slots, vars, false⟩) (hx : ts[i]? = some x) (hn : NodesAt w tb toff ts) (hbe : 0 ≤ behind ts i) (he : ∀ j ∈ kidsOf ts i, Expr13 B kb tb toff cap ts slots vars (rec j) H j) (hop : x.op = 49) :
  Calls Try.prog 167 #[.pointer (some ⟨kb, 0, none⟩), .int .i64 i] w fun e w' => Post13 B kb (.slice (some ⟨tb, toff, none⟩) ts.length cap) slots vars w (exprF rec ts slots seen i false) (H + 3) e w' := by
 have hi : i < ts.length := (List.getElem?_eq_some_iff.1 hx).1
 obtain ⟨hB, hks⟩ := h.size
 have htw : tb < w.heap.size := by omega
 have hki := fun wx (hx' : NodesAt wx tb toff ts) (hl : tb < wx.heap.size) => kids9_any (some ⟨tb, toff, none⟩) ts cap i wx hlt (.inr ⟨tb, toff, rfl, hl, hx'⟩) hi
 have hpl := fun (s : RS) (kind n m : Int) wx hx' hn' => plain13_any B kb tb toff cap ts s i x kind n m wx hx' hx hn' hlt
 obtain ⟨R, hR⟩ : ∃ R, R = exprF rec ts slots seen i false := ⟨_, rfl⟩
 have hxg : ts.getD i node0 = x := by rw [List.getD_eq_getElem?_getD, hx]; rfl
 rw [← hR]
 unfold exprF at hR
 simp only [hxg] at hR
 rw [if_neg (by decide)] at hR
 obtain ⟨kids, hkids⟩ : ∃ kids, kids = kidsOf ts i := ⟨_, rfl⟩
 obtain ⟨nk, hnk⟩ : ∃ nk, kids.length = nk := ⟨_, rfl⟩
 have hnkb : nk ≤ 100000 := by rw [← hnk, hkids]; exact kidsOf_le hbe hlt
 rw [← hkids] at he
 simp only [← hkids, hnk] at hki hR
 obtain ⟨c0, c1, c2, c3, c4, c5, c6⟩ := hn.all hx
 obtain ⟨k0, k3, kf⟩ := h.cells
 have HKL := Lh (show ∀ j ∈ kids, j < ts.length by rw [hkids]; exact fun j hj => (kidsOf_ok hj).2.1)
 rw [if_neg (by omega), if_neg (by omega), if_neg (by omega), if_pos hop] at hR
 obtain ⟨len, hlen⟩ : ∃ len, ts.length = len := ⟨_, rfl⟩
 simp only [hlen] at hki hpl
 rw [hlen] at h hi k0 ⊢
 have hlt2 : len ≤ 100000 := by omega
 have hiI : (i : Int) < len := by omega
 have hmu := fun (s : RS) x wx hx => must13_any B kb (.slice (some ⟨tb, toff, none⟩) len cap) s x wx hx
 obtain ⟨xo, xk, xn, xm, xt, xp, xq⟩ := x
 simp only at c0 c1 c2 c3 c4 c5 c6 hR hop
 have HRK0 := Lh h
 have HPL := Lh hpl
 have HMU := Lh hmu
 have HKI := Lh hki
 have HE := Lh he
 have HN0 := Lh hn
 have HL := Lh hlen
 have HNK := Lh hnk
 have HX := Lh hx
 have HRB := Lh hrb
 have HTX := Lh htxt
 have HR := Lh hR
 have hxb := Blk.new w 42 #[.int .i8 xo, .int .i8 xk, .int .i64 xn, .int .i64 xm, .string xt, .int .i64 xp, .int .i64 xq]
 have HF0 := Lh ((Frm.refl B [150] w).alloc (by omega) (.cells #[.int .i8 xo, .int .i8 xk, .int .i64 xn, .int .i64 xm, .string xt, .int .i64 xp, .int .i64 xq] 42))
 have HXB := Lh hxb
 obtain ⟨W0, hW0⟩ : ∃ W, W = w.alloc (.cells #[.int .i8 xo, .int .i8 xk, .int .i64 xn, .int .i64 xm, .string xt, .int .i64 xp, .int .i64 xq] 42) := ⟨_, rfl⟩
 have HW0 := Lh hW0
 have zW0 : W0.heap.size = w.heap.size + 1 := by rw [hW0]; simp
 rw [← hW0] at HXB HF0
 have HRKW := Lh (show RK W0 B kb _ _ by rw [hW0]; exact HRK0.out.alloc _)
 have HNW := Lh (HF0.out.nodes HN0.out htb)
 have kw0 := HRKW.out.cells.1
 clear h hpl hmu hki he hn hlen hnk hx hrb htxt hxb hW0 hkids hR hxg hbe
 subst hop
 obtain ⟨fe, hfe⟩ : ∃ fe, fe = fieldsM := ⟨_, rfl⟩
 have hfl : fe.length = 13 := by rw [hfe]; rfl
 have hfi := fun wx => fields12_any wx
 have hfs := fun wx => tableWorld3_signs wx fieldsM
 have hfb := fun wx => tableWorld3_below wx fieldsM
 have hft := fun wx => tableWorld3_blk wx fieldsM
 have hfg : ∀ s ∈ fieldsM, s.args.length = 1 := fun s hs => fields_args hs
 have hR49 := HR.out
 rw [← hfe] at hR49 hfg
 simp only [← hfe, hfl] at hfi hfs hfb hft
 have HFI := Lh hfi
 have HFS := Lh hfs
 have HFB := Lh hfb
 have HFT := Lh hft
 have HFG := Lh hfg
 have HFL := Lh hfl
 clear hfi hfs hfb hft hfg hfl hfe HR
 go_enter Try.func167, Try.ntmps167
 go_wp2_with fail
 rw [← HW0.out]
 refine (HKI.out _ HNW.out (by omega)).mono ?_
 rintro e w2 ⟨kv, rfl, hown, hb2⟩
 obtain ⟨AK, ck, rfl⟩ := own_form hown
 have hz2 := hb2.size
 have HF2 := Lh (HF0.out.trans (Frm.of_below hb2 (by omega)))
 have HRK2 := Lh (HRKW.out.below hb2)
 have hx2 := HXB.out.below hb2 (by omega)
 have x20 := hx2.cell 0
 have x22 := hx2.cell 2
 obtain ⟨k02, k32, kf2⟩ := HRK2.out.cells
 have HSET := Lh (HRK2.out.setBad true)
 have HSF := Lh (HRK2.out.frm 3 (.bool true))
 have HKO := Lh hown
 have HX2 := Lh hx2
 have HN2 := Lh (HF2.out.nodes HN0.out htb)
 clear hown hb2 hx2
 go_wp2_with fail
 refine (HFI.out _).mono ?_
 rintro e w3 ⟨rfl, hw3⟩
 have hsg := HFS.out w2
 have hb3 := HFB.out w2
 have htb3 := HFT.out w2
 rw [← hw3] at hsg hb3 htb3
 have HTB := Lh htb3
 clear htb3
 have hz3 := hb3.size
 have HF3 := Lh (HF2.out.trans (Frm.of_below hb3 (by omega)))
 have HRK3 := Lh (HRK2.out.below hb3)
 have hx3 := HX2.out.below hb3 (by omega)
 have x30 := hx3.cell 0
 have x32 := hx3.cell 2
 obtain ⟨k03, k33, kf3⟩ := HRK3.out.cells
 have HSET3 := Lh (HRK3.out.setBad true)
 have HSF3 := Lh (HRK3.out.frm 3 (.bool true))
 have HKO3 := Lh ((Frm.of_below (B := 0) (T := []) hb3 (Nat.zero_le _)).own HKO.out (by simp))
 have HX3 := Lh hx3
 have HN3 := Lh (HF3.out.nodes HN0.out htb)
 clear hb3 hx3 hw3 x20 x22 k02 k32 kf2
 by_cases q1 : nk = 1
 ·have e1 : ((nk : Int) == 1) = true := by simp; omega
  cases hs : signOf fe xn with
  | none =>
   have hres : R = (0, 0, true) := by rw [hR49, hs]
   have HRES := Lh hres
   have hor : xn < 0 ∨ (0 ≤ xn ∧ (13 : Int) ≤ xn) := by
    unfold signOf at hs
    split at hs
    ·left; assumption
    ·rw [List.getElem?_eq_none_iff, HFL.out] at hs
     right; omega
   clear hs hres hR49 hsg
   subst q1
   rcases hor with hor | ⟨hor0, hor⟩
   ·have d1 : decide (xn < 0) = true := decide_eq_true hor
    go_wp2_with fail
    go_ret2
    exact ⟨0, 0, rfl, by omega, by omega, by rw [HRES.out]; exact HSET3.out, HF3.out.trans HSF3.out, fun h => by rw [HRES.out] at h; cases h⟩
   ·have d1 : decide (xn < 0) = false := decide_eq_false (by omega)
    have d2 : decide ((13 : Int) ≤ xn) = true := decide_eq_true hor
    go_wp2_with fail
    go_ret2
    exact ⟨0, 0, rfl, by omega, by omega, by rw [HRES.out]; exact HSET3.out, HF3.out.trans HSF3.out, fun h => by rw [HRES.out] at h; cases h⟩
  | some s =>
   obtain ⟨hn0, hn1, hns, hmem⟩ := signOf_mem hs
   obtain ⟨nn, rfl⟩ := Int.eq_ofNat_of_zero_le hn0
   rw [Int.toNat_natCast, HFL.out] at hn1
   rw [Int.toNat_natCast] at hns
   have hal := HFG.out s hmem
   obtain ⟨g, hg0, hg1, hgc, hgb⟩ := hsg.2.2 nn s hns
   rw [hs] at hR49
   obtain ⟨sn, sa, st, sm⟩ := s
   simp only at hR49 hal hgb
   have sc1 : w3.cell? ⟨w2.heap.size + 13, nn * 3 + 1, none⟩ = some (.slice (some ⟨g, 0, none⟩) sa.length sa.length) := hgc 1 _ rfl
   have sc2 : w3.cell? ⟨w2.heap.size + 13, nn * 3 + 2, none⟩ = some (.int .i8 st) := hgc 2 _ rfl
   rw [hal] at sc1
   obtain ⟨u, hu⟩ : ∃ u, sa[0]? = some u := ⟨_, List.getElem?_eq_getElem (by omega)⟩
   have hsu : sa.getD 0 0 = u := by rw [List.getD_eq_getElem?_getD, hu]; rfl
   have gu : w3.cell? ⟨g, 0, none⟩ = some (.int .i8 u) := by
    rw [hgb.cell 0, List.getElem?_toArray, List.getElem?_map, hu]; rfl
   obtain ⟨j, hj⟩ : ∃ j, kids[0]? = some j := ⟨_, List.getElem?_eq_getElem (by rw [HNK.out]; omega)⟩
   have hkj : kids.getD 0 0 = j := by rw [List.getD_eq_getElem?_getD, hj]; rfl
   have hjm : j ∈ kids := List.mem_of_getElem? hj
   have hKJ : (kids.map (fun j : Nat => (j : Int)))[0]? = some (j : Int) := by rw [List.getElem?_map, hj]; rfl
   obtain ⟨kb3, ko3, ke3, kl3, kc3⟩ := (own_ints HKO3.out).1 0 _ hKJ
   subst ke3
   simp only [Nat.add_zero] at kc3
   rw [hsu, hkj] at hR49
   have d1 : decide ((nn : Int) < 0) = false := decide_eq_false (by omega)
   have d2 : decide ((13 : Int) ≤ (nn : Int)) = false := decide_eq_false (by omega)
   have hnI : (nn : Int) < 13 := by omega
   obtain ⟨like, hlike⟩ : ∃ q, q = likeB ⟨49, xk, (nn : Int), xm, xt, xp, xq⟩ st (nn : Int) 0 := ⟨_, rfl⟩
   rw [← hlike] at hR49
   have hpl0 := HPL.out ⟨slots, vars, false⟩ st (nn : Int) 0
   rw [← hlike] at hpl0
   have HPL0 := Lh hpl0
   have HR49 := Lh hR49
   have HGB := Lh hgb
   have HJM := Lh hjm
   have HKJ := Lh hKJ
   have tl : w2.heap.size + 13 < w3.heap.size := hsg.2.1
   subst q1
   clear hs hns hmem hsg hgc hgb hu hsu hj hkj hjm hKJ hlike hpl0 hR49
   go_wp2_with fail
   refine wp_region_text (by kernel_rfl) (by kernel_rfl) ?_
   go_wp2_with fail
   refine (HPL0.out _ HRK3.out.drew (HN3.out.below (Below.refl _ _).drew htb)).mono ?_
   rintro e w4 ⟨rfl, h4, f4⟩
   have F34 : Frm B [150] w3 w4 := (Frm.refl _ _ _).drew.trans f4
   have HF4 := Lh (HF3.out.trans F34)
   have H4 := Lh h4
   have x40 := (F34.blk HX3.out (by decide)).cell 0
   have x42 := (F34.blk HX3.out (by decide)).cell 2
   have tb4 := F34.blk HTB.out (by decide)
   have HTB4 := Lh tb4
   have HG4 := Lh (F34.blk HGB.out (by decide))
   have HKO4 := Lh (F34.own HKO3.out (by decide))
   have HX4 := Lh (F34.blk HX3.out (by decide))
   have st1 : w4.cell? ⟨w2.heap.size + 13, nn * 3 + 1, none⟩ = some (.slice (some ⟨g, 0, none⟩) 1 1) := by rw [tb4.cell, ← HTB.out.cell]; exact sc1
   have st2 : w4.cell? ⟨w2.heap.size + 13, nn * 3 + 2, none⟩ = some (.int .i8 st) := by rw [tb4.cell, ← HTB.out.cell]; exact sc2
   have gu4 : w4.cell? ⟨g, 0, none⟩ = some (.int .i8 u) := by rw [(F34.blk HGB.out (by decide)).cell 0, ← HGB.out.cell 0]; exact gu
   obtain ⟨kb4, ko4, ke4, kl4, kc4⟩ := (own_ints (F34.own HKO3.out (by decide))).1 0 _ HKJ.out
   injection ke4 with ke4
   injection ke4 with ke4a ke4b
   subst ke4a ke4b
   simp only [Nat.add_zero] at kc4
   have HN4 := Lh (F34.nodes HN3.out htb)
   have hk5 : ∀ wx, Frm B [150] w4 wx → wx.cell? ⟨kb3, ko3, none⟩ = some (.int .i64 (j : Int)) := by
    intro wx fx
    obtain ⟨kb5, ko5, ke5, kl5, kc5⟩ := (own_ints (fx.own HKO4.out (by decide))).1 0 _ HKJ.out
    simp only [Option.some.injEq, Addr.mk.injEq, and_true] at ke5
    obtain ⟨rfl, rfl⟩ := ke5
    exact kc5
   have HK5 := Lh hk5
   clear tb4 F34 hk5
   go_wp2_with fail
   refine Only.normal ?_
   go_wp2_with fail
   go_region_held3 (fun w' => w'.cell? ⟨w.heap.size, 2, none⟩ = some (.int .i64 (nn : Int)) ∧ w'.cell? ⟨w2.heap.size + 13, nn * 3 + 2, none⟩ = some (.int .i8 st) ∧ w'.cell? ⟨w2.heap.size + 13, nn * 3 + 1, none⟩ = some (.slice (some ⟨g, 0, none⟩) 1 1) ∧ w'.cell? ⟨kb3, ko3, none⟩ = some (.int .i64 (j : Int)) ∧ w'.cell? ⟨g, 0, none⟩ = some (.int .i8 u)) (first | exact ⟨x42, st2, st1, kc4, gu4⟩ | exact C5 | go_keep) ((first | (go_at_call 136; go_loud (refine (wanted13_any B kb tb toff cap ts slots vars (rec j) H j u (!like) _ (HE.out j HJM.out) (by rw [HL.out]; exact (H4.out.same (by simp [RS.must])).drew) (HN4.out.below (Below.refl _ _).drew htb)).mono ?_; rintro e w5 ⟨hw, rfl, hw0, hw1, h5, f5, hg5⟩; rw [HL.out] at h5; have f45 : Frm B [150] w4 w5 := (Frm.refl _ _ _).drew.trans f5; have kc5 := HK5.out w5 f45; have C5 : w5.cell? ⟨w.heap.size, 2, none⟩ = some (.int .i64 (nn : Int)) ∧ w5.cell? ⟨w2.heap.size + 13, nn * 3 + 2, none⟩ = some (.int .i8 st) ∧ w5.cell? ⟨w2.heap.size + 13, nn * 3 + 1, none⟩ = some (.slice (some ⟨g, 0, none⟩) 1 1) ∧ w5.cell? ⟨kb3, ko3, none⟩ = some (.int .i64 (j : Int)) ∧ w5.cell? ⟨g, 0, none⟩ = some (.int .i8 u) := ⟨(f45.blk HX4.out (by decide)).cell 2, by rw [(f45.blk HTB4.out (by decide)).cell, ← HTB4.out.cell]; exact st2, by rw [(f45.blk HTB4.out (by decide)).cell, ← HTB4.out.cell]; exact st1, kc5, by rw [(f45.blk HG4.out (by decide)).cell 0, ← HG4.out.cell 0]; exact gu4⟩; clear kc5; have HF5 := Lh (HF4.out.trans f45); have H5 := Lh h5; have HG5 := Lh hg5; clear h5 f5 hg5 f45))))
   all_goals (
    go_wp2_with fail
    go_ret2
    cases like with
    | true =>
     have hr : R = (st, (wantedF (rec j false) u).1, (wantedF (rec j false) u).2) := by rw [HR49.out, if_pos ⟨trivial, rfl⟩]
     refine ⟨st, hw, rfl, hw0, by omega, by rw [hr]; exact H5.out, HF5.out, fun hb => ?_⟩
     rw [hr] at hb ⊢
     exact ⟨rfl, HG5.out hb⟩
    | false =>
     have hr : R = (0, 0, true) := by rw [HR49.out, if_neg (fun h => by cases h.2)]
     have hbad : (wantedF (rec j (!false)) u).2 = true := by simp [wantedF, HRB.out j]
     refine ⟨st, hw, rfl, hw0, by omega, by rw [hr]; rw [← hbad]; exact H5.out, HF5.out, fun hb => ?_⟩
     rw [hr] at hb
     cases hb)
 ·have e1 : ((nk : Int) == 1) = false := by simp; omega
  have hneI : ¬ (nk : Int) = 1 := by omega
  have hres : R = (0, 0, true) := by
   rw [hR49]
   cases signOf fe xn with
   | none => rfl
   | some s => simp only; rw [if_neg (fun h => q1 h.1)]
  have HRES := Lh hres
  clear hres hR49 hsg
  go_wp2_with fail
  go_ret2
  exact ⟨0, 0, rfl, by omega, by omega, by rw [HRES.out]; exact HSET3.out, HF3.out.trans HSF3.out, fun h => by rw [HRES.out] at h; cases h⟩
end
end Go.Proofs.Ytggibiodeecljaa
