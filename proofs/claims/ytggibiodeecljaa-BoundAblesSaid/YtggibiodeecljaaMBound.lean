/- walk.node at every place. check.Able of every ability. bound.Able. bound.Able, with a condition; of every ability. -/
import Derived.Test.YtggibiodeecljaaMWalkA
import Derived.Test.YtggibiodeecljaaMWalkB
import Derived.Test.YtggibiodeecljaaMWalkC
import Derived.Test.YtggibiodeecljaaMWalkD
import Derived.Test.YtggibiodeecljaaMAbleA
import Derived.Test.YtggibiodeecljaaMAbleB
namespace Go.Proofs.Ytggibiodeecljaa
open Go.RowKit
theorem ZLC:0≤1:=by decide
theorem arity_two {x : Node} {n : Nat} (h : arityB x n = true) (q : x.op = 13 ∨ x.op = 15 ∨ x.op = 16) : 2 ≤ n := by
 unfold arityB at h
 rcases q with q | q | q <;> rw [q] at h <;> simp at h <;> omega
theorem arity_sign {x : Node} {n : Nat} (h : arityB x n = true) : (x.op = 49 → ∃ s, signOf fieldsM x.n = some s) ∧ (x.op = 50 → ∃ s, signOf funcsM x.n = some s) ∧ (x.op = 19 → ∃ s, signOf effectsM x.n = some s) := by
 unfold arityB at h
 refine ⟨fun q => ?_, fun q => ?_, fun q => ?_⟩
 ·rw [q] at h
  cases hs : signOf fieldsM x.n with
  | some s => exact ⟨s, rfl⟩
  | none => rw [hs] at h; simp at h
 ·rw [q] at h
  cases hs : signOf funcsM x.n with
  | some s => exact ⟨s, rfl⟩
  | none => rw [hs] at h; simp at h
 ·rw [q] at h
  cases hs : signOf effectsM x.n with
  | some s => exact ⟨s, rfl⟩
  | none => rw [hs] at h; simp at h
theorem node_any {wb tb toff cap : Nat} {ts : List Node} {c : Int} (hne : tb ≠ wb) (hl : ts.length ≤ 100000) (hc0 : 1 ≤ c) (hc1 : c ≤ 256) : ∀ (f i : Nat), ts.length ≤ i + f → i < ts.length → 0 ≤ behind ts i → Fit ts f i →
  NodeAtW wb tb toff cap ts c (gasM ts c f i) i
 | 0, i, h1, h2, _, _ => absurd h2 (by omega)
 | f + 1, i, h1, h2, h3, h4 => by
  intro w hw hn htb
  obtain ⟨x, hx⟩ : ∃ x, ts[i]? = some x := ⟨_, List.getElem?_eq_getElem h2⟩
  have hgx : ts.getD i node0 = x := by rw [List.getD_eq_getElem?_getD, hx]; rfl
  obtain ⟨har, hfk⟩ := h4
  rw [hgx] at har
  have hr : ∀ j ∈ kidsOf ts i, NodeAtW wb tb toff cap ts c (gasM ts c f j) j ∧ IsGas (gasM ts c f j) := fun j hj => by
   have hj2 := kidsOf_ok hj
   exact ⟨node_any hne hl hc0 hc1 f j (by omega) hj2.2.1 hj2.2.2.1 (hfk j hj), gasM_gas ts c (by omega) f j (hfk j hj)⟩
  rw [gasM, hgx]
  have h2k := arity_two har
  have h14 := arity_rounds har
  obtain ⟨s1, s2, s3⟩ := arity_sign har
  by_cases q51 : x.op = 51
  ·exact node_51 wb tb toff cap ts c hne hl hc0 hc1 i x h2 hx h3 _ w hw hn htb hr q51
  by_cases q52 : x.op = 52
  ·exact node_52 wb tb toff cap ts c hne hl hc0 hc1 i x h2 hx h3 _ w hw hn htb hr q52
  by_cases q10 : x.op = 10
  ·exact node_10 wb tb toff cap ts c hne hl hc0 hc1 i x h2 hx h3 _ w hw hn htb hr q10
  by_cases q13 : x.op = 13
  ·exact node_if wb tb toff cap ts c hne hl hc0 hc1 i x h2 hx h3 _ w hw hn htb hr q13 (h2k (.inl q13))
  by_cases q16 : x.op = 16
  ·exact node_choose wb tb toff cap ts c hne hl hc0 hc1 i x h2 hx h3 _ w hw hn htb hr q16 (h2k (.inr (.inr q16)))
  by_cases q14 : x.op = 14
  ·obtain ⟨a, b, d⟩ := h14 q14
   exact node_repeat wb tb toff cap ts c hne hl hc0 hc1 i x h2 hx h3 _ w hw hn htb hr q14 (by omega) b d
  by_cases q15 : x.op = 15
  ·exact node_each wb tb toff cap ts c hne hl hc0 hc1 i x h2 hx h3 _ w hw hn htb hr q15 (h2k (.inr (.inl q15)))
  by_cases q49 : x.op = 49
  ·obtain ⟨s, hs⟩ := s1 q49
   exact node_field wb tb toff cap ts c hne hl hc0 hc1 i x h2 hx h3 _ w hw hn htb hr q49 s hs
  by_cases q50 : x.op = 50
  ·obtain ⟨s, hs⟩ := s2 q50
   exact node_call wb tb toff cap ts c hne hl hc0 hc1 i x h2 hx h3 _ w hw hn htb hr q50 s hs
  by_cases q19 : x.op = 19
  ·obtain ⟨s, hs⟩ := s3 q19
   exact node_do wb tb toff cap ts c hne hl hc0 hc1 i x h2 hx h3 _ w hw hn htb hr q19 s hs
  by_cases q36 : x.op = 36
  ·exact node_w36 wb tb toff cap ts c hne hl hc0 hc1 i x h2 hx h3 _ w hw hn htb hr q36
  by_cases q37 : x.op = 37
  ·exact node_w37 wb tb toff cap ts c hne hl hc0 hc1 i x h2 hx h3 _ w hw hn htb hr q37
  by_cases q39 : x.op = 39
  ·exact node_w39 wb tb toff cap ts c hne hl hc0 hc1 i x h2 hx h3 _ w hw hn htb hr q39
  exact node_wrest wb tb toff cap ts c hne hl hc0 hc1 i x h2 hx h3 _ w hw hn htb hr ⟨q51, q52, q10, q13, q16, q14, q15, q49, q50, q19, q36, q37, q39⟩
/-- What check.Able's yes says of an ability. -/
theorem able_whole {on : Int} {slots : List Int} {when_ : Bool} {ts : List Node} (h : checkAble on slots when_ ts = true) : ts.length ≤ 2000 ∧ 0 < ts.length ∧
  ∃ m : Nat, blockOf when_ ts = m ∧ m < ts.length ∧ behind ts m = ts.length ∧ Fit ts (ts.length + 1) m ∧ (when_ = true → behind ts 0 = m ∧ Fit ts (ts.length) 0) ∧ (when_ = false → m = 0) := by
 unfold checkAble at h
 simp only [Bool.and_eq_true, decide_eq_true_eq, Bool.not_eq_true'] at h
 obtain ⟨⟨⟨⟨⟨⟨h0, h1⟩, h2⟩, h3⟩, h4⟩, h5⟩, h6⟩ := h
 unfold wholeB at h4
 simp only [Bool.and_eq_true, decide_eq_true_eq] at h4
 obtain ⟨hb, he⟩ := h4
 obtain ⟨m, hm⟩ := Int.eq_ofNat_of_zero_le hb
 rw [hm, Int.toNat_natCast] at he
 have hml : m < ts.length := by
  by_cases h : m < ts.length
  ·exact h
  ·have e : behind ts m = -1 := by unfold behind; rw [if_neg h]
   rw [e] at he; omega
 have hb1 : (look1 when_ ts).bad = false := by
  unfold look2 at h5
  split at h5
  ·rename_i hh; rw [hh] at h5; cases h5
  ·rename_i hh; simpa using hh
 have hb2 : ((sbM ts (ts.length + 1)).2 m (look1 when_ ts)).bad = false := by
  unfold look2 at h5
  rw [if_neg (by rw [hb1]; decide), hm, Int.toNat_natCast] at h5
  exact h5
 refine ⟨h3, by omega, m, hm, hml, he, (sbM_fit ts (ts.length + 1) (Nat.le_refl _)).2 m _ hb2, fun hw => ?_, fun hw => ?_⟩
 ·subst hw
  refine ⟨by unfold blockOf at hm; rw [if_pos rfl] at hm; exact hm, ?_⟩
  unfold look1 at hb1
  rw [if_pos rfl] at hb1
  unfold valueF highF at hb1
  simp only [wantedF, Bool.or_eq_false_iff] at hb1
  exact exprM_fit _ _ _ _ hb1.1.1
 ·subst hw
  unfold blockOf at hm
  rw [if_neg (by decide)] at hm
  omega
end Go.Proofs.Ytggibiodeecljaa
namespace Go.Proofs.Ytggibiodeecljaa
open Go.RowKit
theorem ret_false {R : World → Prop} {b : Bool} (h : b = false) {e : Ending} {w : World} (hh : e = .returned (.bool false) ∧ R w) : e = .returned (.bool b) ∧ R w := by rw [h]; exact hh
theorem able_any (on : Int) (SA TA : Option Addr) (slots : List Int) (sc tc : Nat) (when_ : Bool) (ts : List Node) (w : World) (hT : TreeAt w TA ts) (hS : SmallsAt w SA slots) (htxt : ∀ y ∈ ts, y.text.size ≤ 1099511627776) :
  Calls Try.prog 37 #[.agg #[.int .i64 on, .slice SA slots.length sc, .bool when_, .slice TA ts.length tc]] w fun e w' => e = .returned (.bool (checkAble on slots when_ ts)) ∧ Below w.heap.size w w' := by
 by_cases h0 : 0 ≤ on
 case neg =>
  refine (able_early on SA TA slots.length sc ts.length tc when_ w (.inl (by omega))).mono fun e w' hh => ret_false (R := fun w' => Below w.heap.size w w') ?_ hh
  unfold checkAble; simp [h0]
 by_cases h1 : on ≤ 4
 case neg =>
  refine (able_early on SA TA slots.length sc ts.length tc when_ w (.inr (.inl ⟨h0, by omega⟩))).mono fun e w' hh => ret_false (R := fun w' => Below w.heap.size w w') ?_ hh
  unfold checkAble; simp [h1]
 by_cases h2 : slots.length ≤ 32
 case neg =>
  refine (able_early on SA TA slots.length sc ts.length tc when_ w (.inr (.inr (.inl ⟨h0, h1, by omega⟩)))).mono fun e w' hh => ret_false (R := fun w' => Below w.heap.size w w') ?_ hh
  unfold checkAble; simp [h2]
 by_cases h3 : ts.length ≤ 2000
 case neg =>
  refine (able_early on SA TA slots.length sc ts.length tc when_ w (.inr (.inr (.inr ⟨h0, h1, h2, by omega⟩)))).mono fun e w' hh => ret_false (R := fun w' => Below w.heap.size w w') ?_ hh
  unfold checkAble; simp [h3]
 have hE : checkAble on slots when_ ts = (wholeB when_ ts && !(look2 when_ ts).bad && decide ((look2 when_ ts).slots = slots)) := by
  unfold checkAble; simp [h0, h1, h2, h3]
 rw [hE]
 rcases hT with hnil | ⟨tb, toff, rfl, htb, hn⟩
 ·subst hnil
  have hb : ∀ k, behind [] k = -1 := fun k => by unfold behind; simp
  have hw : wholeB when_ [] = false := by
   unfold wholeB
   rw [hb]
   simp
  rw [hw]
  cases when_ with
  | false => exact able_nil_false on SA TA slots.length sc tc w h0 h1 h2
  | true => exact able_nil_true on SA TA slots.length sc tc w h0 h1 h2
 by_cases hpos : 0 < ts.length
 case neg =>
  have hnil : ts = [] := List.length_eq_zero_iff.1 (by omega)
  subst hnil
  have hb : ∀ k, behind [] k = -1 := fun k => by unfold behind; simp
  have hw : wholeB when_ [] = false := by
   unfold wholeB
   rw [hb]
   simp
  rw [hw]
  cases when_ with
  | false => exact able_nil_false on SA _ slots.length sc tc w h0 h1 h2
  | true => exact able_nil_true on SA _ slots.length sc tc w h0 h1 h2
 have hlen : ∀ (k : Nat) (s : LSt), k < ts.length → 0 ≤ behind ts k → s.slots = [3, 4] → ((sbM ts (ts.length + 1)).2 k s).slots.length ≤ 1099511627776 := fun k s hk hb hs => by
  have h5 := behind_le hb
  have hbk : k < (behind ts k).toNat := by
   rw [behind_eq] at hb ⊢
   rcases hz : (sizes ts.length ts)[k]? with _ | _ | z <;> rw [hz] at hb <;> simp only at hb ⊢
   ·omega
   ·omega
   ·have := size_pos hz; omega
  have := (sbM_len ts (ts.length + 1)).2 k s hb hbk (by rw [hs]; simp only [List.length_cons, List.length_nil]; omega)
  omega
 cases when_ with
 | false =>
  have hwb : wholeB false ts = decide (behind ts 0 = ts.length) := by
   unfold wholeB blockOf
   simp
  rw [hwb]
  by_cases hb : behind ts 0 = ts.length
  case neg =>
   refine (able_plain_no on SA slots sc tb toff tc ts w h0 h1 h2 h3 htb hn hS htxt hpos hb).mono fun e w' hh => ret_false (R := fun w' => Below w.heap.size w w') ?_ hh
   simp [hb]
  have hl2 : look2 false ts = (sbM ts (ts.length + 1)).2 0 look0 := by
   have e1 : look1 false ts = look0 := rfl
   unfold look2
   rw [e1]
   rfl
  rw [hl2]
  cases hbad : ((sbM ts (ts.length + 1)).2 0 look0).bad with
  | true =>
   refine (able_plain_bad on SA slots sc tb toff tc ts w h0 h1 h2 h3 htb hn hS htxt hpos hb hbad).mono fun e w' hh => ret_false (R := fun w' => Below w.heap.size w w') ?_ hh
   simp
  | false =>
   have e : (decide (behind ts 0 = ts.length) && !false && decide (((sbM ts (ts.length + 1)).2 0 look0).slots = slots)) = decide (((sbM ts (ts.length + 1)).2 0 look0).slots = slots) := by simp [hb]
   rw [e]
   exact able_plain_good on SA slots sc tb toff tc ts w h0 h1 h2 h3 htb hn hS htxt hpos hb hbad (hlen 0 look0 hpos (by rw [hb]; omega) rfl)
 | true =>
  by_cases hneg : behind ts 0 < 0
  ·refine (able_when_neg on SA slots sc tb toff tc ts w h0 h1 h2 h3 htb hn hS htxt hpos hneg).mono fun e w' hh => ret_false (R := fun w' => Below w.heap.size w w') ?_ hh
   have : wholeB true ts = false := by
    unfold wholeB blockOf
    have : ¬ 0 ≤ behind ts 0 := by omega
    simp [this]
   rw [this]; rfl
  obtain ⟨m, hm⟩ := Int.eq_ofNat_of_zero_le (Int.not_lt.1 hneg)
  have hbo : blockOf true ts = m := by unfold blockOf; rw [if_pos rfl]; exact hm
  have hwb : wholeB true ts = decide (behind ts m = ts.length) := by
   unfold wholeB
   rw [hbo]
   simp
  rw [hwb]
  by_cases hb : behind ts m = ts.length
  case neg =>
   refine (able_when_no on SA slots sc tb toff tc ts w h0 h1 h2 h3 htb hn hS htxt hpos m hm hb).mono fun e w' hh => ret_false (R := fun w' => Below w.heap.size w w') ?_ hh
   simp [hb]
  have hml : m < ts.length := by
   by_cases h : m < ts.length
   ·exact h
   ·have e : behind ts m = -1 := by unfold behind; rw [if_neg h]
    rw [e] at hb; omega
  have hl1 : look1 true ts = valueF ts 0 2 look0 := by unfold look1; rw [if_pos rfl]
  have hl2 : look2 true ts = if (valueF ts 0 2 look0).bad = true then valueF ts 0 2 look0 else (sbM ts (ts.length + 1)).2 m (valueF ts 0 2 look0) := by
   unfold look2
   rw [hl1, hbo]
   rfl
  rw [hl2]
  cases hv1 : (valueF ts 0 2 look0).bad with
  | true =>
   rw [if_pos rfl]
   refine (able_when_bad1 on SA slots sc tb toff tc ts w h0 h1 h2 h3 htb hn hS htxt hpos m hm hml hb hv1).mono fun e w' hh => ret_false (R := fun w' => Below w.heap.size w w') ?_ hh
   rw [hv1]; simp
  | false =>
   rw [if_neg (by decide)]
   cases hbad : ((sbM ts (ts.length + 1)).2 m (valueF ts 0 2 look0)).bad with
   | true =>
    refine (able_when_bad on SA slots sc tb toff tc ts w h0 h1 h2 h3 htb hn hS htxt hpos m hm hml hb hv1 hbad).mono fun e w' hh => ret_false (R := fun w' => Below w.heap.size w w') ?_ hh
    simp
   | false =>
    have e : (decide (behind ts m = ts.length) && !false && decide (((sbM ts (ts.length + 1)).2 m (valueF ts 0 2 look0)).slots = slots)) = decide (((sbM ts (ts.length + 1)).2 m (valueF ts 0 2 look0)).slots = slots) := by simp [hb]
    rw [e]
    exact able_when_good on SA slots sc tb toff tc ts w h0 h1 h2 h3 htb hn hS htxt hpos m hm hml hb hv1 hbad (hlen m _ hml (by rw [hb]; omega) rfl)
end Go.Proofs.Ytggibiodeecljaa
namespace Go.Proofs.Ytggibiodeecljaa
open Go.RowKit
noncomputable def boundM (on : Int) (slots : List Int) (when_ : Bool) (ts : List Node) (cards : Int) : Int × Int :=
 if checkAble on slots when_ ts = true ∧ 1 ≤ cards ∧ cards ≤ 256 then (ableGas when_ ts cards, 0) else (0, 1)
section
variable (on : Int) (SA TA : Option Addr) (slots : List Int) (sc tc : Nat) (ts : List Node) (cards : Int) (w : World)
theorem able_box (when_ : Bool) (hT : TreeAt w TA ts) (hS : SmallsAt w SA slots) (htxt : ∀ y ∈ ts, y.text.size ≤ 1099511627776) (bx : Array Value) (b : Bool) (hb : checkAble on slots when_ ts = b) :
  Calls Try.prog 37 #[.agg #[.int .i64 on, .slice SA slots.length sc, .bool when_, .slice TA ts.length tc]] (w.alloc (.cells bx 25)) fun e w' => e = .returned (.bool b) ∧ Below w.heap.size w w' ∧ Blk w' w.heap.size 25 bx := by
 have hbel : Below w.heap.size w (w.alloc (.cells bx 25)) := (Below.refl _ _).alloc (Nat.le_refl _) _
 refine (able_any on SA TA slots sc tc when_ ts _ (hT.below hbel) (hS.below hbel) htxt).mono ?_
 rintro e w' ⟨rfl, h⟩
 rw [hb]
 simp only [World.size_alloc] at h
 exact ⟨rfl, hbel.trans (h.mono (by omega)), (Blk.new w _ bx).below h (by omega)⟩
set_option maxRecDepth 100000 in
set_option maxHeartbeats 1000000 in
theorem bound_no (when_ : Bool) (hT : TreeAt w TA ts) (hS : SmallsAt w SA slots) (htxt : ∀ y ∈ ts, y.text.size ≤ 1099511627776) (hb : checkAble on slots when_ ts = false) :
  Calls Try.prog 19 #[.agg #[.int .i64 on, .slice SA slots.length sc, .bool when_, .slice TA ts.length tc], .int .i64 cards] w fun e w' => e = .returned (.tuple #[.int .i64 0, .int .i64 1]) ∧ Below w.heap.size w w' := by
 have hc := able_box on SA TA slots sc tc ts w when_ hT hS htxt #[.int .i64 on, .slice SA slots.length sc, .bool when_, .slice TA ts.length tc] false hb
 have HC := Lh hc
 clear hc hT hS htxt hb
 go_enter Try.func19, Try.ntmps19
 go_wp2_with fail
 refine HC.out.mono ?_
 rintro e w1 ⟨rfl, h1, h2⟩
 go_wp2_with fail
 go_ret2
 exact ⟨rfl, h1⟩
set_option maxRecDepth 100000 in
set_option maxHeartbeats 1000000 in
theorem bound_cards (when_ : Bool) (hT : TreeAt w TA ts) (hS : SmallsAt w SA slots) (htxt : ∀ y ∈ ts, y.text.size ≤ 1099511627776) (hb : checkAble on slots when_ ts = true) (hcards : cards < 1 ∨ (1 ≤ cards ∧ 256 < cards)) :
  Calls Try.prog 19 #[.agg #[.int .i64 on, .slice SA slots.length sc, .bool when_, .slice TA ts.length tc], .int .i64 cards] w fun e w' => e = .returned (.tuple #[.int .i64 0, .int .i64 1]) ∧ Below w.heap.size w w' := by
 have hc := able_box on SA TA slots sc tc ts w when_ hT hS htxt #[.int .i64 on, .slice SA slots.length sc, .bool when_, .slice TA ts.length tc] true hb
 have HC := Lh hc
 clear hc hT hS htxt hb
 rcases hcards with hc | ⟨hc, hc2⟩
 ·go_enter Try.func19, Try.ntmps19
  go_wp2_with fail
  refine HC.out.mono ?_
  rintro e w1 ⟨rfl, h1, h2⟩
  go_wp2_with fail
  go_ret2
  exact ⟨rfl, h1⟩
 ·have hc3 : decide (256 < cards) = true := decide_eq_true hc2
  have z0:0≤1:=ZLC
  have z1:0≤1:=ZLC
  have z2:0≤1:=ZLC
  have z3:0≤1:=ZLC
  have z4:0≤1:=ZLC
  have z5:0≤1:=ZLC
  have z6:0≤1:=ZLC
  have z7:0≤1:=ZLC
  have z8:0≤1:=ZLC
  have z9:0≤1:=ZLC
  have z10:0≤1:=ZLC
  have z11:0≤1:=ZLC
  have z12:0≤1:=ZLC
  have z13:0≤1:=ZLC
  have z14:0≤1:=ZLC
  have z15:0≤1:=ZLC
  have z16:0≤1:=ZLC
  go_enter Try.func19, Try.ntmps19
  go_wp2_with fail
  refine HC.out.mono ?_
  rintro e w1 ⟨rfl, h1, h2⟩
  go_wp2_with fail
  go_ret2
  exact ⟨rfl, h1⟩
end
/-- In bound.Able: the box, the walk, the sum. -/
structure BC (w0 : World) (bx : Array Value) (wb sb tb toff cap : Nat) (ts : List Node) (c at_ S : Int) (w : World) : Prop where
 fr : Below w0.heap.size w0 w
 tbB : tb < w0.heap.size
 nodes : NodesAt w tb toff ts
 b0 : Blk w w0.heap.size 25 bx
 bw : Blk w wb 85 #[.slice (some ⟨tb, toff, none⟩) ts.length cap, .int .i64 at_, .int .i64 c]
 bs : Blk w sb 86 #[.int .i64 S]
 o1 : w0.heap.size < wb
 o2 : wb < sb
section
variable {w0 w w' : World} {bx : Array Value} {wb sb tb toff cap : Nat} {ts : List Node} {c at_ S : Int}
theorem BC.went (h : BC w0 bx wb sb tb toff cap ts c at_ S w) (a' : Int) (hb : Blk w' wb 85 #[.slice (some ⟨tb, toff, none⟩) ts.length cap, .int .i64 a', .int .i64 c]) (hg : w.grownBy w' (some wb)) : BC w0 bx wb sb tb toff cap ts c a' S w' := by
 have h1 := h.o1
 have h2 := h.o2
 have h3 := h.tbB
 have h4 := h.fr.size
 have hbig : ∀ g, g ≠ wb → some g ≠ some wb := fun g hg e => hg (by injection e)
 exact ⟨h.fr.grown hg (by omega) (fun k e => by injection e with e; omega), h.tbB, gb_nodes hg h.nodes (by omega) (by omega), h.b0.grown hg (hbig _ (by omega)), hb, h.bs.grown hg (hbig _ (by omega)), h.o1, h.o2⟩
theorem BC.sum (h : BC w0 bx wb sb tb toff cap ts c at_ S w) {S' : Int} (hb : Blk w' sb 86 #[.int .i64 S']) (hg : w.grownBy w' (some sb)) : BC w0 bx wb sb tb toff cap ts c at_ S' w' := by
 have h1 := h.o1
 have h2 := h.o2
 have h3 := h.tbB
 have h4 := h.fr.size
 have hbig : ∀ g, g ≠ sb → some g ≠ some sb := fun g hg e => hg (by injection e)
 exact ⟨h.fr.grown hg (by omega) (fun k e => by injection e with e; omega), h.tbB, gb_nodes hg h.nodes (by omega) (by omega), h.b0.grown hg (hbig _ (by omega)), h.bw.grown hg (hbig _ (by omega)), hb, h.o1, h.o2⟩
theorem BC.alloc (h : BC w0 bx wb sb tb toff cap ts c at_ S w) (o : Obj) : BC w0 bx wb sb tb toff cap ts c at_ S (w.alloc o) := by
 have h4 := h.fr.size
 have h3 := h.tbB
 exact ⟨h.fr.alloc (by omega) o, h.tbB, h.nodes.below ((Below.refl w.heap.size w).alloc (Nat.le_refl _) o) (by omega), h.b0.alloc o, h.bw.alloc o, h.bs.alloc o, h.o1, h.o2⟩
end
section
variable (on : Int) (SA : Option Addr) (slots : List Int) (sc tc tb toff : Nat) (ts : List Node) (cards : Int) (w : World)
theorem bc_start {w1 : World} {bx : Array Value} (h1 : Below w.heap.size w w1) (h2 : Blk w1 w.heap.size 25 bx) (htb : tb < w.heap.size) (hn : NodesAt w tb toff ts) :
  BC w bx w1.heap.size (w1.heap.size + 1) tb toff tc ts cards 0 1 ((w1.alloc (.cells #[.slice (some ⟨tb, toff, none⟩) ts.length tc, .int .i64 0, .int .i64 cards] 85)).alloc (.cells #[.int .i64 1] 86)) := by
 have h3 := h1.size
 have hB := ((Below.refl w1.heap.size w1).alloc (Nat.le_refl _) (.cells #[.slice (some ⟨tb, toff, none⟩) ts.length tc, .int .i64 0, .int .i64 cards] 85)).alloc (by simp) (.cells #[.int .i64 1] 86)
 have r1 := Blk.new w1 85 #[.slice (some ⟨tb, toff, none⟩) ts.length tc, .int .i64 0, .int .i64 cards]
 have r2 := Blk.new (w1.alloc (.cells #[.slice (some ⟨tb, toff, none⟩) ts.length tc, .int .i64 0, .int .i64 cards] 85)) 86 #[.int .i64 1]
 simp only [World.size_alloc] at r2
 refine ⟨h1.trans (hB.mono (by omega)), htb, (hn.below h1 htb).below hB (by omega), h2.below hB h2.lt, r1.alloc _, r2, h2.lt, by omega⟩
theorem gas_two {a b : Int} (ha : IsGas a) (hb : IsGas b) : ∀ y ∈ [a, b], IsGas y := by
 intro y hy
 simp at hy
 rcases hy with rfl | rfl
 ·exact ha
 ·exact hb
theorem gas_one {a : Int} (ha : IsGas a) : ∀ y ∈ [a], IsGas y := by
 intro y hy
 simp at hy
 subst hy
 exact ha
theorem isGas1 : IsGas 1 := by unfold IsGas maxB; omega
set_option maxRecDepth 100000 in
set_option maxHeartbeats 1000000 in
theorem bound_plain (htb : tb < w.heap.size) (hn : NodesAt w tb toff ts) (hS : SmallsAt w SA slots) (htxt : ∀ y ∈ ts, y.text.size ≤ 1099511627776) (hb : checkAble on slots false ts = true) (hc0 : 1 ≤ cards) (hc1 : cards ≤ 256) :
  Calls Try.prog 19 #[.agg #[.int .i64 on, .slice SA slots.length sc, .bool false, .slice (some ⟨tb, toff, none⟩) ts.length tc], .int .i64 cards] w fun e w' => e = .returned (.tuple #[.int .i64 (ableGas false ts cards), .int .i64 0]) ∧ Below w.heap.size w w' := by
 have hc := able_box on SA (some ⟨tb, toff, none⟩) slots sc tc ts w false (.inr ⟨tb, toff, rfl, htb, hn⟩) hS htxt #[.int .i64 on, .slice SA slots.length sc, .bool false, .slice (some ⟨tb, toff, none⟩) ts.length tc] true hb
 obtain ⟨hl, hp, m, hm, hml, he, hfit, _, hm0⟩ := able_whole hb
 have hm0 := hm0 rfl
 subst hm0
 have hfit2 : Fit ts ts.length 0 := hfit.le (by omega)
 have hgas : IsGas (gasM ts cards ts.length 0) := gasM_gas ts cards (by omega) _ _ hfit2
 have hres : ableGas false ts cards = gadd 1 (gasM ts cards ts.length 0) := by unfold ableGas; rw [if_neg (by decide)]
 rw [hres]
 obtain ⟨g0, hg0⟩ : ∃ g, g = gasM ts cards ts.length 0 := ⟨_, rfl⟩
 rw [← hg0] at hgas ⊢
 have hnode : ∀ wb, tb ≠ wb → NodeAtW wb tb toff tc ts cards g0 0 := fun wb hne => by rw [hg0]; exact node_any hne (by omega) hc0 hc1 ts.length 0 (by omega) hp (by rw [he]; omega) hfit2
 have HC := Lh hc
 have HNODE := Lh hnode
 have HGAS := Lh hgas
 have HN := Lh hn
 clear hc hS htxt hb hfit hfit2 he hm hres hg0 hnode hgas hn
 have z0:0≤1:=ZLC
 have z1:0≤1:=ZLC
 have z2:0≤1:=ZLC
 have z3:0≤1:=ZLC
 have z4:0≤1:=ZLC
 have z5:0≤1:=ZLC
 have z6:0≤1:=ZLC
 have z7:0≤1:=ZLC
 have z8:0≤1:=ZLC
 have z9:0≤1:=ZLC
 have z10:0≤1:=ZLC
 have z11:0≤1:=ZLC
 have z12:0≤1:=ZLC
 have z13:0≤1:=ZLC
 have z14:0≤1:=ZLC
 have z15:0≤1:=ZLC
 have z16:0≤1:=ZLC
 have z17:0≤1:=ZLC
 have z18:0≤1:=ZLC
 have z19:0≤1:=ZLC
 have z20:0≤1:=ZLC
 have z21:0≤1:=ZLC
 have z22:0≤1:=ZLC
 have z23:0≤1:=ZLC
 have z24:0≤1:=ZLC
 have z25:0≤1:=ZLC
 have z26:0≤1:=ZLC
 have z27:0≤1:=ZLC
 have z28:0≤1:=ZLC
 have z29:0≤1:=ZLC
 have z30:0≤1:=ZLC
 have z31:0≤1:=ZLC
 have z32:0≤1:=ZLC
 have z33:0≤1:=ZLC
 go_enter Try.func19, Try.ntmps19
 go_wp2_with fail
 refine HC.out.mono ?_
 rintro e w1 ⟨rfl, h1, h2⟩
 have B0 := Lh (bc_start tc tb toff ts cards w h1 h2 htb HN.out)
 have d2 := h2.cell 2
 have d3 := h2.cell 3
 have hz1 := h2.lt
 have hne1 : w.heap.size ≠ w1.heap.size := Nat.ne_of_lt hz1
 clear h1 h2
 go_wp2_with fail
 refine (HNODE.out w1.heap.size (by omega) _ B0.out.bw B0.out.nodes (by have := B0.out.fr.size; have := B0.out.tbB; omega)).mono ?_
 rintro e w2 ⟨rfl, hb2, hg2⟩
 have B2 := Lh (B0.out.went _ hb2 hg2)
 clear hb2 hg2
 have hadd := add_any (w1.heap.size + 1) w2.heap.size 0 1 1 1 [g0] _ rfl (by omega) (B2.out.alloc (.cells #[.int .i64 g0] 86)).bs (gvals_blk (l := [g0]) (Blk.new w2 86 #[.int .i64 g0])) (by have h1 := B2.out.bs.lt; omega) (by simp) isGas1 (gas_one HGAS.out)
 have HADD := Lh hadd
 clear hadd
 go_wp2_with fail
 refine HADD.out.mono ?_
 rintro e w3 ⟨rfl, hb3, hg3⟩
 have B3 := Lh ((B2.out.alloc _).sum hb3 hg3)
 have cs := hb3.cell 0
 clear hb3 hg3
 go_wp2_with fail
 go_ret2
 exact ⟨rfl, B3.out.fr⟩
end
end Go.Proofs.Ytggibiodeecljaa
namespace Go.Proofs.Ytggibiodeecljaa
open Go.RowKit
section
variable (on : Int) (SA : Option Addr) (slots : List Int) (sc tc tb toff : Nat) (ts : List Node) (cards : Int) (w : World)
set_option maxRecDepth 100000 in
set_option maxHeartbeats 1000000 in
theorem bound_when (htb : tb < w.heap.size) (hn : NodesAt w tb toff ts) (hS : SmallsAt w SA slots) (htxt : ∀ y ∈ ts, y.text.size ≤ 1099511627776) (hb : checkAble on slots true ts = true) (hc0 : 1 ≤ cards) (hc1 : cards ≤ 256) :
  Calls Try.prog 19 #[.agg #[.int .i64 on, .slice SA slots.length sc, .bool true, .slice (some ⟨tb, toff, none⟩) ts.length tc], .int .i64 cards] w fun e w' => e = .returned (.tuple #[.int .i64 (ableGas true ts cards), .int .i64 0]) ∧ Below w.heap.size w w' := by
 have hc := able_box on SA (some ⟨tb, toff, none⟩) slots sc tc ts w true (.inr ⟨tb, toff, rfl, htb, hn⟩) hS htxt #[.int .i64 on, .slice SA slots.length sc, .bool true, .slice (some ⟨tb, toff, none⟩) ts.length tc] true hb
 obtain ⟨hl, hp, m, hm, hml, he, hfit, hwt, _⟩ := able_whole hb
 obtain ⟨hbm, hfit0⟩ := hwt rfl
 have hfit2 : Fit ts ts.length m := hfit.le (by omega)
 have hgas0 : IsGas (gasM ts cards ts.length 0) := gasM_gas ts cards (by omega) _ _ hfit0
 have hgas1 : IsGas (gasM ts cards ts.length m) := gasM_gas ts cards (by omega) _ _ hfit2
 have hres : ableGas true ts cards = gadd (gadd (gadd 1 1) (gasM ts cards ts.length 0)) (gasM ts cards ts.length m) := by unfold ableGas; rw [if_pos rfl, hbm, Int.toNat_natCast]
 rw [hres]
 obtain ⟨g0, hg0⟩ : ∃ g, g = gasM ts cards ts.length 0 := ⟨_, rfl⟩
 obtain ⟨g1, hg1⟩ : ∃ g, g = gasM ts cards ts.length m := ⟨_, rfl⟩
 rw [← hg0] at hgas0
 rw [← hg1] at hgas1
 rw [← hg0, ← hg1]
 have hnode0 : ∀ wb, tb ≠ wb → NodeAtW wb tb toff tc ts cards g0 0 := fun wb hne => by rw [hg0]; exact node_any hne (by omega) hc0 hc1 ts.length 0 (by omega) hp (by rw [hbm]; omega) hfit0
 have hnode1 : ∀ wb, tb ≠ wb → NodeAtW wb tb toff tc ts cards g1 m := fun wb hne => by rw [hg1]; exact node_any hne (by omega) hc0 hc1 ts.length m (by omega) hml (by rw [he]; omega) hfit2
 have HC := Lh hc
 have HN0 := Lh hnode0
 have HN1 := Lh hnode1
 have HG0 := Lh hgas0
 have HG1 := Lh hgas1
 have HN := Lh hn
 have HBM := Lh hbm
 clear hc hS htxt hb hfit hfit2 hfit0 hwt he hm hres hg0 hg1 hnode0 hnode1 hgas0 hgas1 hn hbm
 have z0:0≤1:=ZLC
 have z1:0≤1:=ZLC
 have z2:0≤1:=ZLC
 have z3:0≤1:=ZLC
 have z4:0≤1:=ZLC
 have z5:0≤1:=ZLC
 have z6:0≤1:=ZLC
 have z7:0≤1:=ZLC
 have z8:0≤1:=ZLC
 have z9:0≤1:=ZLC
 have z10:0≤1:=ZLC
 have z11:0≤1:=ZLC
 have z12:0≤1:=ZLC
 have z13:0≤1:=ZLC
 have z14:0≤1:=ZLC
 have z15:0≤1:=ZLC
 have z16:0≤1:=ZLC
 have z17:0≤1:=ZLC
 have z18:0≤1:=ZLC
 have z19:0≤1:=ZLC
 have z20:0≤1:=ZLC
 have z21:0≤1:=ZLC
 have z22:0≤1:=ZLC
 have z23:0≤1:=ZLC
 have z24:0≤1:=ZLC
 have z25:0≤1:=ZLC
 have z26:0≤1:=ZLC
 have z27:0≤1:=ZLC
 have z28:0≤1:=ZLC
 have z29:0≤1:=ZLC
 have z30:0≤1:=ZLC
 have z31:0≤1:=ZLC
 have z32:0≤1:=ZLC
 have z33:0≤1:=ZLC
 have z34:0≤1:=ZLC
 have z35:0≤1:=ZLC
 have z36:0≤1:=ZLC
 have z37:0≤1:=ZLC
 have z38:0≤1:=ZLC
 have z39:0≤1:=ZLC
 have z40:0≤1:=ZLC
 have z41:0≤1:=ZLC
 have z42:0≤1:=ZLC
 have z43:0≤1:=ZLC
 have z44:0≤1:=ZLC
 have z45:0≤1:=ZLC
 have z46:0≤1:=ZLC
 have z47:0≤1:=ZLC
 have z48:0≤1:=ZLC
 have z49:0≤1:=ZLC
 have z50:0≤1:=ZLC
 go_enter Try.func19, Try.ntmps19
 go_wp2_with fail
 refine HC.out.mono ?_
 rintro e w1 ⟨rfl, h1, h2⟩
 have B0 := Lh (bc_start tc tb toff ts cards w h1 h2 htb HN.out)
 have d2 := h2.cell 2
 have d3 := h2.cell 3
 have hz1 := h2.lt
 have hne1 : w.heap.size ≠ w1.heap.size := Nat.ne_of_lt hz1
 clear h1 h2
 go_wp2_with fail
 refine (HN0.out w1.heap.size (by omega) _ B0.out.bw B0.out.nodes (by have := B0.out.fr.size; have := B0.out.tbB; omega)).mono ?_
 rintro e w2 ⟨rfl, hb2, hg2⟩
 rw [HBM.out] at hb2
 have B2 := Lh (B0.out.went _ hb2 hg2)
 clear hb2 hg2
 have hadd := add_any (w1.heap.size + 1) w2.heap.size 0 2 2 1 [1, g0] _ rfl (by omega) (B2.out.alloc (.cells #[.int .i64 1, .int .i64 g0] 86)).bs (gvals_blk (l := [1, g0]) (Blk.new w2 86 #[.int .i64 1, .int .i64 g0])) (by have h1 := B2.out.bs.lt; omega) (by simp) isGas1 (gas_two isGas1 HG0.out)
 have HADD := Lh hadd
 clear hadd
 go_wp2_with fail
 refine HADD.out.mono ?_
 rintro e w3 ⟨rfl, hb3, hg3⟩
 have B3 := Lh ((B2.out.alloc _).sum hb3 hg3)
 clear hb3 hg3
 go_wp2_with fail
 refine (HN1.out w1.heap.size (by omega) _ B3.out.bw B3.out.nodes (by have := B3.out.fr.size; have := B3.out.tbB; omega)).mono ?_
 rintro e w4 ⟨rfl, hb4, hg4⟩
 have B4 := Lh (B3.out.went _ hb4 hg4)
 clear hb4 hg4
 have hadd := add_any (w1.heap.size + 1) w4.heap.size 0 1 1 (gadd (gadd 1 1) g0) [g1] _ rfl (by omega) (B4.out.alloc (.cells #[.int .i64 g1] 86)).bs (gvals_blk (l := [g1]) (Blk.new w4 86 #[.int .i64 g1])) (by have h1 := B4.out.bs.lt; omega) (by simp) (gadd_gas (gadd_gas isGas1 (by omega)) HG0.out.1) (gas_one HG1.out)
 have HADD2 := Lh hadd
 clear hadd
 go_wp2_with fail
 refine HADD2.out.mono ?_
 rintro e w5 ⟨rfl, hb5, hg5⟩
 have B5 := Lh ((B4.out.alloc _).sum hb5 hg5)
 have cs := hb5.cell 0
 clear hb5 hg5
 go_wp2_with fail
 go_ret2
 exact ⟨rfl, B5.out.fr⟩
end
/-- bound.Able of every ability. -/
theorem bound_any (on : Int) (SA TA : Option Addr) (slots : List Int) (sc tc : Nat) (when_ : Bool) (ts : List Node) (cards : Int) (w : World) (hT : TreeAt w TA ts) (hS : SmallsAt w SA slots) (htxt : ∀ y ∈ ts, y.text.size ≤ 1099511627776) :
  Calls Try.prog 19 #[.agg #[.int .i64 on, .slice SA slots.length sc, .bool when_, .slice TA ts.length tc], .int .i64 cards] w fun e w' => e = .returned (.tuple #[.int .i64 (boundM on slots when_ ts cards).1, .int .i64 (boundM on slots when_ ts cards).2]) ∧ Below w.heap.size w w' := by
 cases hb : checkAble on slots when_ ts with
 | false =>
  have e : boundM on slots when_ ts cards = (0, 1) := by unfold boundM; rw [if_neg (by rw [hb]; simp)]
  rw [e]
  exact bound_no on SA TA slots sc tc ts cards w when_ hT hS htxt hb
 | true =>
  by_cases hc : 1 ≤ cards ∧ cards ≤ 256
  ·have e : boundM on slots when_ ts cards = (ableGas when_ ts cards, 0) := by unfold boundM; rw [if_pos ⟨hb, hc⟩]
   rw [e]
   rcases hT with hnil | ⟨tb, toff, rfl, htb, hn⟩
   ·have := (able_whole hb).2.1
    rw [hnil] at this
    simp at this
   ·cases when_ with
    | false => exact bound_plain on SA slots sc tc tb toff ts cards w htb hn hS htxt hb hc.1 hc.2
    | true => exact bound_when on SA slots sc tc tb toff ts cards w htb hn hS htxt hb hc.1 hc.2
  ·have e : boundM on slots when_ ts cards = (0, 1) := by unfold boundM; rw [if_neg (fun h => hc h.2)]
   rw [e]
   exact bound_cards on SA TA slots sc tc ts cards w when_ hT hS htxt hb (by omega)
end Go.Proofs.Ytggibiodeecljaa
