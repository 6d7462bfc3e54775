/- The reference's cost of a node at every place, and of an ability. tableauref18.Able of every ability: the same as bound.Able's plain function. -/
import Derived.Test.YtggibiodeecljaaMNodeA
import Derived.Test.YtggibiodeecljaaMNodeB
import Derived.Test.YtggibiodeecljaaMAblAll
import Derived.Test.YtggibiodeecljaaMBound
namespace Go.Proofs.Ytggibiodeecljaa
open Go.RowKit
set_option linter.unusedVariables false
theorem node18_any (tb toff cap : Nat) (ts : List Node) (c : Int) (hl : ts.length ≤ 2000) (h0 : 1 ≤ c) (h1 : c ≤ 256) : ∀ (f i : Nat) (w : World), ts.length ≤ i + f → i < ts.length → 0 ≤ behind ts i → Fit ts f i → tb < w.heap.size → NodesAt w tb toff ts →
  Calls Try.prog 50 #[.slice (some ⟨tb, toff, none⟩) ts.length cap, .int .i64 i, .int .i64 c] w fun e w' => e = .returned (.int .i64 (gasM ts c f i)) ∧ Below w.heap.size w w'
 | 0, i, w, h2, h3, _, _, _, _ => absurd h3 (by omega)
 | f + 1, i, w, h2, h3, h4, hf, htb, hn => by
  obtain ⟨x, hx⟩ : ∃ x, ts[i]? = some x := ⟨_, List.getElem?_eq_getElem h3⟩
  have hgx : ts.getD i node0 = x := by rw [List.getD_eq_getElem?_getD, hx]; rfl
  have hr : ∀ j ∈ kidsOf ts i, ∀ wx : World, tb < wx.heap.size → NodesAt wx tb toff ts → Calls Try.prog 50 #[.slice (some ⟨tb, toff, none⟩) ts.length cap, .int .i64 j, .int .i64 c] wx fun e w' => e = .returned (.int .i64 (gasM ts c f j)) ∧ Below wx.heap.size wx w' := fun j hj wx hb hnx => by
   obtain ⟨g1, g2, g3, _⟩ := kidsOf_ok hj
   exact node18_any tb toff cap ts c hl h0 h1 f j wx (by omega) g2 g3 (hf.2 j hj) hb hnx
  have hg : ∀ j ∈ kidsOf ts i, IsGas (gasM ts c f j) := fun j hj => gasM_gas ts c (by omega) f j (hf.2 j hj)
  have ha := hf.1
  rw [hgx] at ha
  have he : gasM ts c (f + 1) i = gasR x ((kidsOf ts i).map (gasM ts c f)) c := by
   rw [gasM, hgx, gasR_eq]
   ·rw [List.length_map]; exact ha
   ·exact h0
   ·exact h1
   ·intro y hy
    obtain ⟨j, hj, rfl⟩ := List.mem_map.1 hy
    exact hg j hj
  rw [he]
  by_cases qa : x.op = 10 ∨ x.op = 11 ∨ x.op = 12 ∨ x.op = 13
  ·exact node18_a tb toff cap ts i x c _ w hl h3 h4 hx htb hn h0 h1 ha hr hg qa
  by_cases qb : x.op = 14 ∨ x.op = 15 ∨ x.op = 16
  ·exact node18_b tb toff cap ts i x c _ w hl h3 h4 hx htb hn h0 h1 ha hr hg qb
  by_cases qc : x.op = 17 ∨ x.op = 18 ∨ x.op = 30 ∨ x.op = 31 ∨ x.op = 32 ∨ x.op = 33 ∨ x.op = 34 ∨ x.op = 35
  ·exact node18_c tb toff cap ts i x c _ w hl h3 h4 hx htb hn h0 h1 ha hr hg qc
  by_cases qd : x.op = 36 ∨ x.op = 37 ∨ x.op = 39 ∨ x.op = 49 ∨ x.op = 50 ∨ x.op = 19 ∨ x.op = 51 ∨ x.op = 52
  ·exact node18_d tb toff cap ts i x c _ w hl h3 h4 hx htb hn h0 h1 ha hr hg qd
  ·exact node18_e tb toff cap ts i x c _ w hl h3 h4 hx htb hn h0 h1 ha hr hg (by omega)
end Go.Proofs.Ytggibiodeecljaa
namespace Go.Proofs.Ytggibiodeecljaa
open Go.RowKit
set_option linter.unusedVariables false
section
variable (on : Int) (SA TA : Option Addr) (slots : List Int) (sc tc : Nat) (when_ : Bool) (ts : List Node) (cards : Int) (w : World)
/-- The reference's looker of the ability in its box. -/
theorem able13_box (hT : TreeAt w TA ts) (hS : SmallsAt w SA slots) (htxt : ∀ y ∈ ts, y.text.size ≤ 1099511627776) (hrng : ∀ y ∈ ts, I64 y.n ∧ I64 y.m) {b : Bool} (hb : checkAble on slots when_ ts = b) :
  Calls Try.prog 48 #[.agg #[.int .i64 on, .slice SA slots.length sc, .bool when_, .slice TA ts.length tc]] (w.alloc (.cells #[.int .i64 on, .slice SA slots.length sc, .bool when_, .slice TA ts.length tc] 25)) fun e w' => e = .returned (.bool b) ∧ Below w.heap.size w w' ∧ Blk w' w.heap.size 25 #[.int .i64 on, .slice SA slots.length sc, .bool when_, .slice TA ts.length tc] := by
 have hb0 : Below w.heap.size w (w.alloc (.cells #[.int .i64 on, .slice SA slots.length sc, .bool when_, .slice TA ts.length tc] 25)) := (Below.refl _ _).alloc (Nat.le_refl _) _
 have hT' : TreeAt (w.alloc (.cells #[.int .i64 on, .slice SA slots.length sc, .bool when_, .slice TA ts.length tc] 25)) TA ts := hT.below hb0
 have hS' : SmallsAt (w.alloc (.cells #[.int .i64 on, .slice SA slots.length sc, .bool when_, .slice TA ts.length tc] 25)) SA slots := hS.below hb0
 refine (able13_any on SA TA slots sc tc when_ ts _ hT' hS' htxt hrng).mono ?_
 rintro e w1 ⟨rfl, h1⟩
 rw [hb]
 exact ⟨rfl, hb0.trans (h1.mono (by simp)), (Blk.new w _ _).below h1 (by simp)⟩
set_option maxRecDepth 100000 in
set_option maxHeartbeats 1000000 in
theorem bound18_no (hT : TreeAt w TA ts) (hS : SmallsAt w SA slots) (htxt : ∀ y ∈ ts, y.text.size ≤ 1099511627776) (hrng : ∀ y ∈ ts, I64 y.n ∧ I64 y.m) (hb : checkAble on slots when_ ts = false) :
  Calls Try.prog 20 #[.agg #[.int .i64 on, .slice SA slots.length sc, .bool when_, .slice TA ts.length tc], .int .i64 cards] w fun e w' => e = .returned (.tuple #[.int .i64 0, .int .i64 1]) ∧ Below w.heap.size w w' := by
 have hc := able13_box on SA TA slots sc tc when_ ts w hT hS htxt hrng hb
 have HC := Lh hc
 clear hc hT hS htxt hrng hb
 go_enter Try.func20, Try.ntmps20
 go_wp2_with fail
 refine HC.out.mono ?_
 rintro e w1 ⟨rfl, h1, h2⟩
 go_wp2_with fail
 go_ret2
 exact ⟨rfl, h1⟩
set_option maxRecDepth 100000 in
set_option maxHeartbeats 1000000 in
theorem bound18_cards (hT : TreeAt w TA ts) (hS : SmallsAt w SA slots) (htxt : ∀ y ∈ ts, y.text.size ≤ 1099511627776) (hrng : ∀ y ∈ ts, I64 y.n ∧ I64 y.m) (hb : checkAble on slots when_ ts = true) (hcc : cards < 1 ∨ 256 < cards) :
  Calls Try.prog 20 #[.agg #[.int .i64 on, .slice SA slots.length sc, .bool when_, .slice TA ts.length tc], .int .i64 cards] w fun e w' => e = .returned (.tuple #[.int .i64 0, .int .i64 1]) ∧ Below w.heap.size w w' := by
 have hc := able13_box on SA TA slots sc tc when_ ts w hT hS htxt hrng hb
 have HC := Lh hc
 clear hc hT hS htxt hrng hb
 by_cases q : cards < 1
 ·clear hcc
  go_enter Try.func20, Try.ntmps20
  go_wp2_with fail
  refine HC.out.mono ?_
  rintro e w1 ⟨rfl, h1, h2⟩
  go_wp2_with fail
  go_ret2
  exact ⟨rfl, h1⟩
 ·have q2 : 256 < cards := by omega
  clear hcc
  go_enter Try.func20, Try.ntmps20
  go_wp2_with fail
  refine HC.out.mono ?_
  rintro e w1 ⟨rfl, h1, h2⟩
  go_wp2_with fail
  go_ret2
  exact ⟨rfl, h1⟩
end
section
variable (on : Int) (SA : Option Addr) (slots : List Int) (sc tc tb toff : Nat) (ts : List Node) (cards : Int) (w : World)
set_option maxRecDepth 100000 in
set_option maxHeartbeats 1000000 in
theorem bound18_plain (htb : tb < w.heap.size) (hn : NodesAt w tb toff ts) (hS : SmallsAt w SA slots) (htxt : ∀ y ∈ ts, y.text.size ≤ 1099511627776) (hrng : ∀ y ∈ ts, I64 y.n ∧ I64 y.m) (hb : checkAble on slots false ts = true) (hc0 : 1 ≤ cards) (hc1 : cards ≤ 256) :
  Calls Try.prog 20 #[.agg #[.int .i64 on, .slice SA slots.length sc, .bool false, .slice (some ⟨tb, toff, none⟩) ts.length tc], .int .i64 cards] w fun e w' => e = .returned (.tuple #[.int .i64 (ableGas false ts cards), .int .i64 0]) ∧ Below w.heap.size w w' := by
 have hc := able13_box on SA (some ⟨tb, toff, none⟩) slots sc tc false ts w (.inr ⟨tb, toff, rfl, htb, hn⟩) hS htxt hrng hb
 obtain ⟨hl, hp, m, hm, hml, he, hfit, hwt, hwf⟩ := able_whole hb
 have hm0 : m = 0 := by
  have : blockOf false ts = 0 := rfl
  omega
 subst hm0
 have hfit2 : Fit ts ts.length 0 := hfit.le (by omega)
 have hg0 : IsGas (gasM ts cards ts.length 0) := gasM_gas ts cards (by omega) _ _ hfit2
 have hres : ableGas false ts cards = gadd 1 (gasM ts cards ts.length 0) := by unfold ableGas; rw [if_neg (by decide)]
 rw [hres]
 have hnode := fun (wx : World) (hx : Below w.heap.size w wx) => node18_any tb toff tc ts cards (by omega) hc0 hc1 ts.length 0 wx (by omega) hp (by rw [he]; omega) hfit2 (Nat.lt_of_lt_of_le htb hx.size) (hn.below hx htb)
 obtain ⟨g, hg⟩ : ∃ g, g = gasM ts cards ts.length 0 := ⟨_, rfl⟩
 rw [← hg] at hg0 hnode ⊢
 obtain ⟨p, hpp, gp, Hp⟩ : ∃ p, gadd 1 g = p ∧ IsGas p ∧ Hid (∀ wx, Calls Try.prog 49 #[.int .i64 1, .int .i64 g] wx fun e w' => e = .returned (.int .i64 p) ∧ wx = w') := ⟨_, rfl, gadd_gas one_gasN hg0.1, fun wx => plusN_any 1 g wx one_gasN hg0⟩
 rw [hpp]
 have HC := Lh hc
 have HN := Lh hnode
 clear hc hn hS htxt hrng hb hfit hfit2 hwt hwf he hm hres hg hnode hpp hg0 gp
 go_enter Try.func20, Try.ntmps20
 go_wp2_with fail
 refine HC.out.mono ?_
 rintro e w1 ⟨rfl, h1, h2⟩
 have d2 : w1.cell? ⟨w.heap.size, 2, none⟩ = some (.bool false) := h2.cell 2
 have d3 : w1.cell? ⟨w.heap.size, 3, none⟩ = some (.slice (some ⟨tb, toff, none⟩) ts.length tc) := h2.cell 3
 have B1 := Lh h1
 clear h1 h2
 go_wp2_with fail
 refine (HN.out _ B1.out).mono ?_
 rintro e w2 ⟨rfl, hb2⟩
 go_wp2_with fail
 refine (Hp.out _).mono ?_
 rintro e w3 ⟨rfl, rfl⟩
 go_wp2_with fail
 go_ret2
 exact ⟨rfl, B1.out.trans (hb2.mono B1.out.size)⟩
set_option maxRecDepth 100000 in
set_option maxHeartbeats 1000000 in
theorem bound18_when (htb : tb < w.heap.size) (hn : NodesAt w tb toff ts) (hS : SmallsAt w SA slots) (htxt : ∀ y ∈ ts, y.text.size ≤ 1099511627776) (hrng : ∀ y ∈ ts, I64 y.n ∧ I64 y.m) (hb : checkAble on slots true ts = true) (hc0 : 1 ≤ cards) (hc1 : cards ≤ 256) :
  Calls Try.prog 20 #[.agg #[.int .i64 on, .slice SA slots.length sc, .bool true, .slice (some ⟨tb, toff, none⟩) ts.length tc], .int .i64 cards] w fun e w' => e = .returned (.tuple #[.int .i64 (ableGas true ts cards), .int .i64 0]) ∧ Below w.heap.size w w' := by
 have hc := able13_box on SA (some ⟨tb, toff, none⟩) slots sc tc true ts w (.inr ⟨tb, toff, rfl, htb, hn⟩) hS htxt hrng hb
 obtain ⟨hl, hp, m, hm, hml, he, hfit, hwt, _⟩ := able_whole hb
 obtain ⟨hbm, hfit0⟩ := hwt rfl
 have hfit2 : Fit ts ts.length m := hfit.le (by omega)
 have hgas0 : IsGas (gasM ts cards ts.length 0) := gasM_gas ts cards (by omega) _ _ hfit0
 have hgas1 : IsGas (gasM ts cards ts.length m) := gasM_gas ts cards (by omega) _ _ hfit2
 have hres : ableGas true ts cards = gadd (gadd (gadd 1 1) (gasM ts cards ts.length 0)) (gasM ts cards ts.length m) := by unfold ableGas; rw [if_pos rfl, hbm, Int.toNat_natCast]
 rw [hres]
 have hn0 := fun (wx : World) (hx : Below w.heap.size w wx) => node18_any tb toff tc ts cards (by omega) hc0 hc1 ts.length 0 wx (by omega) hp (by rw [hbm]; omega) hfit0 (Nat.lt_of_lt_of_le htb hx.size) (hn.below hx htb)
 have hn1 := fun (wx : World) (hx : Below w.heap.size w wx) => node18_any tb toff tc ts cards (by omega) hc0 hc1 ts.length m wx (by omega) hml (by rw [he]; omega) hfit2 (Nat.lt_of_lt_of_le htb hx.size) (hn.below hx htb)
 obtain ⟨g0, hg0⟩ : ∃ g, g = gasM ts cards ts.length 0 := ⟨_, rfl⟩
 obtain ⟨g1, hg1⟩ : ∃ g, g = gasM ts cards ts.length m := ⟨_, rfl⟩
 rw [← hg0] at hgas0 hn0 ⊢
 rw [← hg1] at hgas1 hn1 ⊢
 have hbh := fun (wx : World) (hx : Below w.heap.size w wx) => behind9_all tb toff tc ts 0 wx (by omega) (hn.below hx htb)
 rw [hbm] at hbh
 obtain ⟨p1, e1, gp1, Hp1⟩ : ∃ p, gadd 1 1 = p ∧ IsGas p ∧ Hid (∀ wx, Calls Try.prog 49 #[.int .i64 1, .int .i64 1] wx fun e w' => e = .returned (.int .i64 p) ∧ wx = w') := ⟨_, rfl, gadd_gas one_gasN (by omega), fun wx => plusN_any 1 1 wx one_gasN one_gasN⟩
 obtain ⟨p2, e2, gp2, Hp2⟩ : ∃ p, gadd p1 g0 = p ∧ IsGas p ∧ Hid (∀ wx, Calls Try.prog 49 #[.int .i64 p1, .int .i64 g0] wx fun e w' => e = .returned (.int .i64 p) ∧ wx = w') := ⟨_, rfl, gadd_gas gp1 hgas0.1, fun wx => plusN_any p1 g0 wx gp1 hgas0⟩
 obtain ⟨p3, e3, gp3, Hp3⟩ : ∃ p, gadd p2 g1 = p ∧ IsGas p ∧ Hid (∀ wx, Calls Try.prog 49 #[.int .i64 p2, .int .i64 g1] wx fun e w' => e = .returned (.int .i64 p) ∧ wx = w') := ⟨_, rfl, gadd_gas gp2 hgas1.1, fun wx => plusN_any p2 g1 wx gp2 hgas1⟩
 rw [e1, e2, e3]
 have HC := Lh hc
 have HN0 := Lh hn0
 have HN1 := Lh hn1
 have HBH := Lh hbh
 clear hc hn hS htxt hrng hb hfit hfit2 hfit0 hwt he hm hres hg0 hg1 hn0 hn1 hbh hbm e1 e2 e3 gp1 gp2 gp3 hgas0 hgas1
 go_enter Try.func20, Try.ntmps20
 go_wp2_with fail
 refine HC.out.mono ?_
 rintro e w1 ⟨rfl, h1, h2⟩
 have d2 : w1.cell? ⟨w.heap.size, 2, none⟩ = some (.bool true) := h2.cell 2
 have d3 : w1.cell? ⟨w.heap.size, 3, none⟩ = some (.slice (some ⟨tb, toff, none⟩) ts.length tc) := h2.cell 3
 have hz1 := h2.lt
 have B1 := Lh h1
 clear h1 h2
 go_wp2_with fail
 go_region_held3 (fun w' => w'.cell? ⟨w.heap.size, 3, none⟩ = some (.slice (some ⟨tb, toff, none⟩) ts.length tc)) (first | exact d3 | exact d4) ((first | (go_at_call 49; with_reducible refine (Hp1.out _).mono ?_; rintro e w5 ⟨rfl, rfl⟩) | (go_at_call 50; refine (HN0.out _ B1.out.drew).mono ?_; rintro e w6 ⟨rfl, hb6⟩; have d4 : w6.cell? ⟨w.heap.size, 3, none⟩ = some (.slice (some ⟨tb, toff, none⟩) ts.length tc) := (hb6.cell (p := ⟨w.heap.size, 3, none⟩) hz1).trans d3; have B6 := Lh (B1.out.drew.trans (hb6.mono B1.out.drew.size))) | (go_at_call 49; with_reducible refine (Hp2.out _).mono ?_; rintro e w7 ⟨rfl, rfl⟩)))
 all_goals go_wp2_with fail
 refine (HBH.out _ B6.out).mono ?_
 rintro e w8 ⟨rfl, rfl⟩
 go_wp2_with fail
 refine (HN1.out _ B6.out).mono ?_
 rintro e w9 ⟨rfl, hb9⟩
 go_wp2_with fail
 refine (Hp3.out _).mono ?_
 rintro e w10 ⟨rfl, rfl⟩
 go_wp2_with fail
 go_ret2
 exact ⟨rfl, B6.out.trans (hb9.mono B6.out.size)⟩
end
/-- tableauref18.Able of every ability. -/
theorem bound18_any (on : Int) (SA TA : Option Addr) (slots : List Int) (sc tc : Nat) (when_ : Bool) (ts : List Node) (cards : Int) (w : World) (hT : TreeAt w TA ts) (hS : SmallsAt w SA slots) (htxt : ∀ y ∈ ts, y.text.size ≤ 1099511627776) (hrng : ∀ y ∈ ts, I64 y.n ∧ I64 y.m) :
  Calls Try.prog 20 #[.agg #[.int .i64 on, .slice SA slots.length sc, .bool when_, .slice TA ts.length tc], .int .i64 cards] w fun e w' => e = .returned (.tuple #[.int .i64 (boundM on slots when_ ts cards).1, .int .i64 (boundM on slots when_ ts cards).2]) ∧ Below w.heap.size w w' := by
 cases hb : checkAble on slots when_ ts with
 | false =>
  have e : boundM on slots when_ ts cards = (0, 1) := by unfold boundM; rw [if_neg (by rw [hb]; simp)]
  rw [e]
  exact bound18_no on SA TA slots sc tc when_ ts cards w hT hS htxt hrng hb
 | true =>
  by_cases hc : 1 ≤ cards ∧ cards ≤ 256
  ·have e : boundM on slots when_ ts cards = (ableGas when_ ts cards, 0) := by unfold boundM; rw [if_pos ⟨hb, hc⟩]
   rw [e]
   rcases hT with hnil | ⟨tb, toff, rfl, htb, hn⟩
   ·have := (able_whole hb).2.1
    rw [hnil] at this
    simp at this
   ·cases when_ with
    | false => exact bound18_plain on SA slots sc tc tb toff ts cards w htb hn hS htxt hrng hb hc.1 hc.2
    | true => exact bound18_when on SA slots sc tc tb toff ts cards w htb hn hS htxt hrng hb hc.1 hc.2
  ·have e : boundM on slots when_ ts cards = (0, 1) := by unfold boundM; rw [if_neg (fun h => hc h.2)]
   rw [e]
   exact bound18_cards on SA TA slots sc tc when_ ts cards w hT hS htxt hrng hb (by omega)
end Go.Proofs.Ytggibiodeecljaa
