/- bound.Able. bound.Able, with a condition; of every ability. -/
import Derived.Test.YtggibiodeecljaaWalkAll
import Derived.Test.YtggibiodeecljaaAbleAll
namespace Go.Proofs.Ytggibiodeecljaa
open Go.RowKit

noncomputable def boundM (on : Int) (slots : List Int) (when_ : Bool) (ts : List Node) (cards : Int) : Int × Int :=
  if checkAble on slots when_ ts = true ∧ 1 ≤ cards ∧ cards ≤ 256 then (ableGas when_ ts cards, 0) else (0, 1)

section
variable (on : Int) (SA TA : Option Addr) (slots : List Int) (sc tc : Nat) (ts : List Node) (cards : Int) (w : World)

theorem able_box (when_ : Bool) (hT : TreeAt w TA ts) (hS : SmallsAt w SA slots) (htxt : ∀ y ∈ ts, y.text.size ≤ 1099511627776) (bx : Array Value) (b : Bool) (hb : checkAble on slots when_ ts = b) :
    Calls Try.prog 37 #[.agg #[.int .i64 on, .slice SA slots.length sc, .bool when_, .slice TA ts.length tc]] (w.alloc (.cells bx 25)) fun e w' => e = .returned (.bool b) ∧ Below w.heap.size w w' ∧ Blk w' w.heap.size 25 bx := by
  have hbel : Below w.heap.size w (w.alloc (.cells bx 25)) := (Below.refl _ _).alloc (Nat.le_refl _) _
  refine (able_any on SA TA slots sc tc when_ ts _ (hT.below hbel) (hS.below hbel) htxt).mono ?_
  rintro e w' ⟨rfl, h⟩
  rw [hb]
  simp only [World.size_alloc] at h
  exact ⟨rfl, hbel.trans (h.mono (by omega)), (Blk.new w _ bx).below h (by omega)⟩

set_option maxRecDepth 100000 in
set_option maxHeartbeats 1000000 in
theorem bound_no (when_ : Bool) (hT : TreeAt w TA ts) (hS : SmallsAt w SA slots) (htxt : ∀ y ∈ ts, y.text.size ≤ 1099511627776) (hb : checkAble on slots when_ ts = false) :
    Calls Try.prog 19 #[.agg #[.int .i64 on, .slice SA slots.length sc, .bool when_, .slice TA ts.length tc], .int .i64 cards] w fun e w' => e = .returned (.tuple #[.int .i64 0, .int .i64 1]) ∧ Below w.heap.size w w' := by
  have hc := able_box on SA TA slots sc tc ts w when_ hT hS htxt #[.int .i64 on, .slice SA slots.length sc, .bool when_, .slice TA ts.length tc] false hb
  have HC := Lib.hid hc
  clear hc hT hS htxt hb
  go_enter Try.func19, Try.ntmps19
  go_wp2_with fail
  refine HC.out.mono ?_
  rintro e w1 ⟨rfl, h1, h2⟩
  go_wp2_with fail
  go_ret2
  exact ⟨rfl, h1⟩

set_option maxRecDepth 100000 in
set_option maxHeartbeats 1000000 in
theorem bound_cards (when_ : Bool) (hT : TreeAt w TA ts) (hS : SmallsAt w SA slots) (htxt : ∀ y ∈ ts, y.text.size ≤ 1099511627776) (hb : checkAble on slots when_ ts = true) (hcards : cards < 1 ∨ (1 ≤ cards ∧ 256 < cards)) :
    Calls Try.prog 19 #[.agg #[.int .i64 on, .slice SA slots.length sc, .bool when_, .slice TA ts.length tc], .int .i64 cards] w fun e w' => e = .returned (.tuple #[.int .i64 0, .int .i64 1]) ∧ Below w.heap.size w w' := by
  have hc := able_box on SA TA slots sc tc ts w when_ hT hS htxt #[.int .i64 on, .slice SA slots.length sc, .bool when_, .slice TA ts.length tc] true hb
  have HC := Lib.hid hc
  clear hc hT hS htxt hb
  rcases hcards with hc | ⟨hc, hc2⟩
  · go_enter Try.func19, Try.ntmps19
    go_wp2_with fail
    refine HC.out.mono ?_
    rintro e w1 ⟨rfl, h1, h2⟩
    go_wp2_with fail
    go_ret2
    exact ⟨rfl, h1⟩
  · have hc3 : decide (256 < cards) = true := decide_eq_true hc2
    have zp0 : (0 : Int) ≤ 1 := by decide
    have zp1 : (0 : Int) ≤ 1 := by decide
    have zp2 : (0 : Int) ≤ 1 := by decide
    have zp3 : (0 : Int) ≤ 1 := by decide
    have zp4 : (0 : Int) ≤ 1 := by decide
    have zp5 : (0 : Int) ≤ 1 := by decide
    have zp6 : (0 : Int) ≤ 1 := by decide
    have zp7 : (0 : Int) ≤ 1 := by decide
    have zp8 : (0 : Int) ≤ 1 := by decide
    have zp9 : (0 : Int) ≤ 1 := by decide
    have zp10 : (0 : Int) ≤ 1 := by decide
    have zp11 : (0 : Int) ≤ 1 := by decide
    have zp12 : (0 : Int) ≤ 1 := by decide
    have zp13 : (0 : Int) ≤ 1 := by decide
    have zp14 : (0 : Int) ≤ 1 := by decide
    have zp15 : (0 : Int) ≤ 1 := by decide
    have zp16 : (0 : Int) ≤ 1 := by decide
    go_enter Try.func19, Try.ntmps19
    go_wp2_with fail
    refine HC.out.mono ?_
    rintro e w1 ⟨rfl, h1, h2⟩
    go_wp2_with fail
    go_ret2
    exact ⟨rfl, h1⟩
end

/-- In bound.Able: the box, the walk, the sum. -/
structure BC (w0 : World) (bx : Array Value) (wb sb tb toff cap : Nat) (ts : List Node) (c at_ S : Int) (w : World) : Prop where
  fr : Below w0.heap.size w0 w
  tbB : tb < w0.heap.size
  nodes : NodesAt w tb toff ts
  b0 : Blk w w0.heap.size 25 bx
  bw : Blk w wb 85 #[.slice (some ⟨tb, toff, none⟩) ts.length cap, .int .i64 at_, .int .i64 c]
  bs : Blk w sb 86 #[.int .i64 S]
  o1 : w0.heap.size < wb
  o2 : wb < sb
section
variable {w0 w w' : World} {bx : Array Value} {wb sb tb toff cap : Nat} {ts : List Node} {c at_ S : Int}
theorem BC.went (h : BC w0 bx wb sb tb toff cap ts c at_ S w) (a' : Int) (hb : Blk w' wb 85 #[.slice (some ⟨tb, toff, none⟩) ts.length cap, .int .i64 a', .int .i64 c]) (hg : w.grownBy w' (some wb)) : BC w0 bx wb sb tb toff cap ts c a' S w' := by
  have h1 := h.o1
  have h2 := h.o2
  have h3 := h.tbB
  have h4 := h.fr.size
  have hbig : ∀ g, g ≠ wb → some g ≠ some wb := fun g hg e => hg (by injection e)
  exact ⟨h.fr.grown hg (by omega) (fun k e => by injection e with e; omega), h.tbB, gb_nodes hg h.nodes (by omega) (by omega), h.b0.grown hg (hbig _ (by omega)), hb, h.bs.grown hg (hbig _ (by omega)), h.o1, h.o2⟩
theorem BC.sum (h : BC w0 bx wb sb tb toff cap ts c at_ S w) {S' : Int} (hb : Blk w' sb 86 #[.int .i64 S']) (hg : w.grownBy w' (some sb)) : BC w0 bx wb sb tb toff cap ts c at_ S' w' := by
  have h1 := h.o1
  have h2 := h.o2
  have h3 := h.tbB
  have h4 := h.fr.size
  have hbig : ∀ g, g ≠ sb → some g ≠ some sb := fun g hg e => hg (by injection e)
  exact ⟨h.fr.grown hg (by omega) (fun k e => by injection e with e; omega), h.tbB, gb_nodes hg h.nodes (by omega) (by omega), h.b0.grown hg (hbig _ (by omega)), h.bw.grown hg (hbig _ (by omega)), hb, h.o1, h.o2⟩
theorem BC.alloc (h : BC w0 bx wb sb tb toff cap ts c at_ S w) (o : Obj) : BC w0 bx wb sb tb toff cap ts c at_ S (w.alloc o) := by
  have h4 := h.fr.size
  have h3 := h.tbB
  exact ⟨h.fr.alloc (by omega) o, h.tbB, h.nodes.below ((Below.refl w.heap.size w).alloc (Nat.le_refl _) o) (by omega), h.b0.alloc o, h.bw.alloc o, h.bs.alloc o, h.o1, h.o2⟩
end

section
variable (on : Int) (SA : Option Addr) (slots : List Int) (sc tc tb toff : Nat) (ts : List Node) (cards : Int) (w : World)

theorem bc_start {w1 : World} {bx : Array Value} (h1 : Below w.heap.size w w1) (h2 : Blk w1 w.heap.size 25 bx) (htb : tb < w.heap.size) (hn : NodesAt w tb toff ts) :
    BC w bx w1.heap.size (w1.heap.size + 1) tb toff tc ts cards 0 1 ((w1.alloc (.cells #[.slice (some ⟨tb, toff, none⟩) ts.length tc, .int .i64 0, .int .i64 cards] 85)).alloc (.cells #[.int .i64 1] 86)) := by
  have h3 := h1.size
  have hB := ((Below.refl w1.heap.size w1).alloc (Nat.le_refl _) (.cells #[.slice (some ⟨tb, toff, none⟩) ts.length tc, .int .i64 0, .int .i64 cards] 85)).alloc (by simp) (.cells #[.int .i64 1] 86)
  have r1 := Blk.new w1 85 #[.slice (some ⟨tb, toff, none⟩) ts.length tc, .int .i64 0, .int .i64 cards]
  have r2 := Blk.new (w1.alloc (.cells #[.slice (some ⟨tb, toff, none⟩) ts.length tc, .int .i64 0, .int .i64 cards] 85)) 86 #[.int .i64 1]
  simp only [World.size_alloc] at r2
  refine ⟨h1.trans (hB.mono (by omega)), htb, (hn.below h1 htb).below hB (by omega), h2.below hB h2.lt, r1.alloc _, r2, h2.lt, by omega⟩

theorem gas_two {a b : Int} (ha : IsGas a) (hb : IsGas b) : ∀ y ∈ [a, b], IsGas y := by
  intro y hy
  simp at hy
  rcases hy with rfl | rfl
  · exact ha
  · exact hb
theorem gas_one {a : Int} (ha : IsGas a) : ∀ y ∈ [a], IsGas y := by
  intro y hy
  simp at hy
  subst hy
  exact ha
theorem isGas1 : IsGas 1 := by unfold IsGas maxB; omega

set_option maxRecDepth 100000 in
set_option maxHeartbeats 1000000 in
theorem bound_plain (htb : tb < w.heap.size) (hn : NodesAt w tb toff ts) (hS : SmallsAt w SA slots) (htxt : ∀ y ∈ ts, y.text.size ≤ 1099511627776) (hb : checkAble on slots false ts = true) (hc0 : 1 ≤ cards) (hc1 : cards ≤ 256) :
    Calls Try.prog 19 #[.agg #[.int .i64 on, .slice SA slots.length sc, .bool false, .slice (some ⟨tb, toff, none⟩) ts.length tc], .int .i64 cards] w fun e w' => e = .returned (.tuple #[.int .i64 (ableGas false ts cards), .int .i64 0]) ∧ Below w.heap.size w w' := by
  have hc := able_box on SA (some ⟨tb, toff, none⟩) slots sc tc ts w false (.inr ⟨tb, toff, rfl, htb, hn⟩) hS htxt #[.int .i64 on, .slice SA slots.length sc, .bool false, .slice (some ⟨tb, toff, none⟩) ts.length tc] true hb
  obtain ⟨hl, hp, m, hm, hml, he, hfit, _, hm0⟩ := able_whole hb
  have hm0 := hm0 rfl
  subst hm0
  have hfit2 : Fit ts ts.length 0 := hfit.le (by omega)
  have hgas : IsGas (gasM ts cards ts.length 0) := gasM_gas ts cards (by omega) _ _ hfit2
  have hres : ableGas false ts cards = gadd 1 (gasM ts cards ts.length 0) := by unfold ableGas; rw [if_neg (by decide)]
  rw [hres]
  obtain ⟨g0, hg0⟩ : ∃ g, g = gasM ts cards ts.length 0 := ⟨_, rfl⟩
  rw [← hg0] at hgas ⊢
  have hnode : ∀ wb, tb ≠ wb → NodeAtW wb tb toff tc ts cards g0 0 := fun wb hne => by rw [hg0]; exact node_any hne (by omega) hc0 hc1 ts.length 0 (by omega) hp (by rw [he]; omega) hfit2
  have HC := Lib.hid hc
  have HNODE := Lib.hid hnode
  have HGAS := Lib.hid hgas
  have HN := Lib.hid hn
  clear hc hS htxt hb hfit hfit2 he hm hres hg0 hnode hgas hn
  have zp0 : (0 : Int) ≤ 1 := by decide
  have zp1 : (0 : Int) ≤ 1 := by decide
  have zp2 : (0 : Int) ≤ 1 := by decide
  have zp3 : (0 : Int) ≤ 1 := by decide
  have zp4 : (0 : Int) ≤ 1 := by decide
  have zp5 : (0 : Int) ≤ 1 := by decide
  have zp6 : (0 : Int) ≤ 1 := by decide
  have zp7 : (0 : Int) ≤ 1 := by decide
  have zp8 : (0 : Int) ≤ 1 := by decide
  have zp9 : (0 : Int) ≤ 1 := by decide
  have zp10 : (0 : Int) ≤ 1 := by decide
  have zp11 : (0 : Int) ≤ 1 := by decide
  have zp12 : (0 : Int) ≤ 1 := by decide
  have zp13 : (0 : Int) ≤ 1 := by decide
  have zp14 : (0 : Int) ≤ 1 := by decide
  have zp15 : (0 : Int) ≤ 1 := by decide
  have zp16 : (0 : Int) ≤ 1 := by decide
  have zp17 : (0 : Int) ≤ 1 := by decide
  have zp18 : (0 : Int) ≤ 1 := by decide
  have zp19 : (0 : Int) ≤ 1 := by decide
  have zp20 : (0 : Int) ≤ 1 := by decide
  have zp21 : (0 : Int) ≤ 1 := by decide
  have zp22 : (0 : Int) ≤ 1 := by decide
  have zp23 : (0 : Int) ≤ 1 := by decide
  have zp24 : (0 : Int) ≤ 1 := by decide
  have zp25 : (0 : Int) ≤ 1 := by decide
  have zp26 : (0 : Int) ≤ 1 := by decide
  have zp27 : (0 : Int) ≤ 1 := by decide
  have zp28 : (0 : Int) ≤ 1 := by decide
  have zp29 : (0 : Int) ≤ 1 := by decide
  have zp30 : (0 : Int) ≤ 1 := by decide
  have zp31 : (0 : Int) ≤ 1 := by decide
  have zp32 : (0 : Int) ≤ 1 := by decide
  have zp33 : (0 : Int) ≤ 1 := by decide
  go_enter Try.func19, Try.ntmps19
  go_wp2_with fail
  refine HC.out.mono ?_
  rintro e w1 ⟨rfl, h1, h2⟩
  have B0 := Lib.hid (bc_start tc tb toff ts cards w h1 h2 htb HN.out)
  have d2 := h2.cell 2
  have d3 := h2.cell 3
  have hz1 := h2.lt
  have hne1 : w.heap.size ≠ w1.heap.size := Nat.ne_of_lt hz1
  clear h1 h2
  go_wp2_with fail
  refine (HNODE.out w1.heap.size (by omega) _ B0.out.bw B0.out.nodes (by have := B0.out.fr.size; have := B0.out.tbB; omega)).mono ?_
  rintro e w2 ⟨rfl, hb2, hg2⟩
  have B2 := Lib.hid (B0.out.went _ hb2 hg2)
  clear hb2 hg2
  have hadd := add_any (w1.heap.size + 1) w2.heap.size 0 1 1 1 [g0] _ rfl (by omega) (B2.out.alloc (.cells #[.int .i64 g0] 86)).bs (gvals_blk (l := [g0]) (Blk.new w2 86 #[.int .i64 g0])) (by have h1 := B2.out.bs.lt; omega) (by simp) isGas1 (gas_one HGAS.out)
  have HADD := Lib.hid hadd
  clear hadd
  go_wp2_with fail
  refine HADD.out.mono ?_
  rintro e w3 ⟨rfl, hb3, hg3⟩
  have B3 := Lib.hid ((B2.out.alloc _).sum hb3 hg3)
  have cs := hb3.cell 0
  clear hb3 hg3
  go_wp2_with fail
  go_ret2
  exact ⟨rfl, B3.out.fr⟩

end
end Go.Proofs.Ytggibiodeecljaa
namespace Go.Proofs.Ytggibiodeecljaa
open Go.RowKit
section
variable (on : Int) (SA : Option Addr) (slots : List Int) (sc tc tb toff : Nat) (ts : List Node) (cards : Int) (w : World)
set_option maxRecDepth 100000 in
set_option maxHeartbeats 1000000 in
theorem bound_when (htb : tb < w.heap.size) (hn : NodesAt w tb toff ts) (hS : SmallsAt w SA slots) (htxt : ∀ y ∈ ts, y.text.size ≤ 1099511627776) (hb : checkAble on slots true ts = true) (hc0 : 1 ≤ cards) (hc1 : cards ≤ 256) :
    Calls Try.prog 19 #[.agg #[.int .i64 on, .slice SA slots.length sc, .bool true, .slice (some ⟨tb, toff, none⟩) ts.length tc], .int .i64 cards] w fun e w' => e = .returned (.tuple #[.int .i64 (ableGas true ts cards), .int .i64 0]) ∧ Below w.heap.size w w' := by
  have hc := able_box on SA (some ⟨tb, toff, none⟩) slots sc tc ts w true (.inr ⟨tb, toff, rfl, htb, hn⟩) hS htxt #[.int .i64 on, .slice SA slots.length sc, .bool true, .slice (some ⟨tb, toff, none⟩) ts.length tc] true hb
  obtain ⟨hl, hp, m, hm, hml, he, hfit, hwt, _⟩ := able_whole hb
  obtain ⟨hbm, hfit0⟩ := hwt rfl
  have hfit2 : Fit ts ts.length m := hfit.le (by omega)
  have hgas0 : IsGas (gasM ts cards ts.length 0) := gasM_gas ts cards (by omega) _ _ hfit0
  have hgas1 : IsGas (gasM ts cards ts.length m) := gasM_gas ts cards (by omega) _ _ hfit2
  have hres : ableGas true ts cards = gadd (gadd (gadd 1 1) (gasM ts cards ts.length 0)) (gasM ts cards ts.length m) := by unfold ableGas; rw [if_pos rfl, hbm, Int.toNat_natCast]
  rw [hres]
  obtain ⟨g0, hg0⟩ : ∃ g, g = gasM ts cards ts.length 0 := ⟨_, rfl⟩
  obtain ⟨g1, hg1⟩ : ∃ g, g = gasM ts cards ts.length m := ⟨_, rfl⟩
  rw [← hg0] at hgas0
  rw [← hg1] at hgas1
  rw [← hg0, ← hg1]
  have hnode0 : ∀ wb, tb ≠ wb → NodeAtW wb tb toff tc ts cards g0 0 := fun wb hne => by rw [hg0]; exact node_any hne (by omega) hc0 hc1 ts.length 0 (by omega) hp (by rw [hbm]; omega) hfit0
  have hnode1 : ∀ wb, tb ≠ wb → NodeAtW wb tb toff tc ts cards g1 m := fun wb hne => by rw [hg1]; exact node_any hne (by omega) hc0 hc1 ts.length m (by omega) hml (by rw [he]; omega) hfit2
  have HC := Lib.hid hc
  have HN0 := Lib.hid hnode0
  have HN1 := Lib.hid hnode1
  have HG0 := Lib.hid hgas0
  have HG1 := Lib.hid hgas1
  have HN := Lib.hid hn
  have HBM := Lib.hid hbm
  clear hc hS htxt hb hfit hfit2 hfit0 hwt he hm hres hg0 hg1 hnode0 hnode1 hgas0 hgas1 hn hbm
  have zp0 : (0 : Int) ≤ 1 := by decide
  have zp1 : (0 : Int) ≤ 1 := by decide
  have zp2 : (0 : Int) ≤ 1 := by decide
  have zp3 : (0 : Int) ≤ 1 := by decide
  have zp4 : (0 : Int) ≤ 1 := by decide
  have zp5 : (0 : Int) ≤ 1 := by decide
  have zp6 : (0 : Int) ≤ 1 := by decide
  have zp7 : (0 : Int) ≤ 1 := by decide
  have zp8 : (0 : Int) ≤ 1 := by decide
  have zp9 : (0 : Int) ≤ 1 := by decide
  have zp10 : (0 : Int) ≤ 1 := by decide
  have zp11 : (0 : Int) ≤ 1 := by decide
  have zp12 : (0 : Int) ≤ 1 := by decide
  have zp13 : (0 : Int) ≤ 1 := by decide
  have zp14 : (0 : Int) ≤ 1 := by decide
  have zp15 : (0 : Int) ≤ 1 := by decide
  have zp16 : (0 : Int) ≤ 1 := by decide
  have zp17 : (0 : Int) ≤ 1 := by decide
  have zp18 : (0 : Int) ≤ 1 := by decide
  have zp19 : (0 : Int) ≤ 1 := by decide
  have zp20 : (0 : Int) ≤ 1 := by decide
  have zp21 : (0 : Int) ≤ 1 := by decide
  have zp22 : (0 : Int) ≤ 1 := by decide
  have zp23 : (0 : Int) ≤ 1 := by decide
  have zp24 : (0 : Int) ≤ 1 := by decide
  have zp25 : (0 : Int) ≤ 1 := by decide
  have zp26 : (0 : Int) ≤ 1 := by decide
  have zp27 : (0 : Int) ≤ 1 := by decide
  have zp28 : (0 : Int) ≤ 1 := by decide
  have zp29 : (0 : Int) ≤ 1 := by decide
  have zp30 : (0 : Int) ≤ 1 := by decide
  have zp31 : (0 : Int) ≤ 1 := by decide
  have zp32 : (0 : Int) ≤ 1 := by decide
  have zp33 : (0 : Int) ≤ 1 := by decide
  have zp34 : (0 : Int) ≤ 1 := by decide
  have zp35 : (0 : Int) ≤ 1 := by decide
  have zp36 : (0 : Int) ≤ 1 := by decide
  have zp37 : (0 : Int) ≤ 1 := by decide
  have zp38 : (0 : Int) ≤ 1 := by decide
  have zp39 : (0 : Int) ≤ 1 := by decide
  have zp40 : (0 : Int) ≤ 1 := by decide
  have zp41 : (0 : Int) ≤ 1 := by decide
  have zp42 : (0 : Int) ≤ 1 := by decide
  have zp43 : (0 : Int) ≤ 1 := by decide
  have zp44 : (0 : Int) ≤ 1 := by decide
  have zp45 : (0 : Int) ≤ 1 := by decide
  have zp46 : (0 : Int) ≤ 1 := by decide
  have zp47 : (0 : Int) ≤ 1 := by decide
  have zp48 : (0 : Int) ≤ 1 := by decide
  have zp49 : (0 : Int) ≤ 1 := by decide
  have zp50 : (0 : Int) ≤ 1 := by decide
  go_enter Try.func19, Try.ntmps19
  go_wp2_with fail
  refine HC.out.mono ?_
  rintro e w1 ⟨rfl, h1, h2⟩
  have B0 := Lib.hid (bc_start tc tb toff ts cards w h1 h2 htb HN.out)
  have d2 := h2.cell 2
  have d3 := h2.cell 3
  have hz1 := h2.lt
  have hne1 : w.heap.size ≠ w1.heap.size := Nat.ne_of_lt hz1
  clear h1 h2
  go_wp2_with fail
  refine (HN0.out w1.heap.size (by omega) _ B0.out.bw B0.out.nodes (by have := B0.out.fr.size; have := B0.out.tbB; omega)).mono ?_
  rintro e w2 ⟨rfl, hb2, hg2⟩
  rw [HBM.out] at hb2
  have B2 := Lib.hid (B0.out.went _ hb2 hg2)
  clear hb2 hg2
  have hadd := add_any (w1.heap.size + 1) w2.heap.size 0 2 2 1 [1, g0] _ rfl (by omega) (B2.out.alloc (.cells #[.int .i64 1, .int .i64 g0] 86)).bs (gvals_blk (l := [1, g0]) (Blk.new w2 86 #[.int .i64 1, .int .i64 g0])) (by have h1 := B2.out.bs.lt; omega) (by simp) isGas1 (gas_two isGas1 HG0.out)
  have HADD := Lib.hid hadd
  clear hadd
  go_wp2_with fail
  refine HADD.out.mono ?_
  rintro e w3 ⟨rfl, hb3, hg3⟩
  have B3 := Lib.hid ((B2.out.alloc _).sum hb3 hg3)
  clear hb3 hg3
  go_wp2_with fail
  refine (HN1.out w1.heap.size (by omega) _ B3.out.bw B3.out.nodes (by have := B3.out.fr.size; have := B3.out.tbB; omega)).mono ?_
  rintro e w4 ⟨rfl, hb4, hg4⟩
  have B4 := Lib.hid (B3.out.went _ hb4 hg4)
  clear hb4 hg4
  have hadd := add_any (w1.heap.size + 1) w4.heap.size 0 1 1 (gadd (gadd 1 1) g0) [g1] _ rfl (by omega) (B4.out.alloc (.cells #[.int .i64 g1] 86)).bs (gvals_blk (l := [g1]) (Blk.new w4 86 #[.int .i64 g1])) (by have h1 := B4.out.bs.lt; omega) (by simp) (gadd_gas (gadd_gas isGas1 (by omega)) HG0.out.1) (gas_one HG1.out)
  have HADD2 := Lib.hid hadd
  clear hadd
  go_wp2_with fail
  refine HADD2.out.mono ?_
  rintro e w5 ⟨rfl, hb5, hg5⟩
  have B5 := Lib.hid ((B4.out.alloc _).sum hb5 hg5)
  have cs := hb5.cell 0
  clear hb5 hg5
  go_wp2_with fail
  go_ret2
  exact ⟨rfl, B5.out.fr⟩
end

/-- bound.Able of every ability. -/
theorem bound_any (on : Int) (SA TA : Option Addr) (slots : List Int) (sc tc : Nat) (when_ : Bool) (ts : List Node) (cards : Int) (w : World) (hT : TreeAt w TA ts) (hS : SmallsAt w SA slots) (htxt : ∀ y ∈ ts, y.text.size ≤ 1099511627776) :
    Calls Try.prog 19 #[.agg #[.int .i64 on, .slice SA slots.length sc, .bool when_, .slice TA ts.length tc], .int .i64 cards] w fun e w' => e = .returned (.tuple #[.int .i64 (boundM on slots when_ ts cards).1, .int .i64 (boundM on slots when_ ts cards).2]) ∧ Below w.heap.size w w' := by
  cases hb : checkAble on slots when_ ts with
  | false =>
    have e : boundM on slots when_ ts cards = (0, 1) := by unfold boundM; rw [if_neg (by rw [hb]; simp)]
    rw [e]
    exact bound_no on SA TA slots sc tc ts cards w when_ hT hS htxt hb
  | true =>
    by_cases hc : 1 ≤ cards ∧ cards ≤ 256
    · have e : boundM on slots when_ ts cards = (ableGas when_ ts cards, 0) := by unfold boundM; rw [if_pos ⟨hb, hc⟩]
      rw [e]
      rcases hT with hnil | ⟨tb, toff, rfl, htb, hn⟩
      · have := (able_whole hb).2.1
        rw [hnil] at this
        simp at this
      · cases when_ with
        | false => exact bound_plain on SA slots sc tc tb toff ts cards w htb hn hS htxt hb hc.1 hc.2
        | true => exact bound_when on SA slots sc tc tb toff ts cards w htb hn hS htxt hb hc.1 hc.2
    · have e : boundM on slots when_ ts cards = (0, 1) := by unfold boundM; rw [if_neg (fun h => hc h.2)]
      rw [e]
      exact bound_cards on SA TA slots sc tc ts cards w when_ hT hS htxt hb (by omega)
end Go.Proofs.Ytggibiodeecljaa
