/- check.Able of every ability. -/
import Derived.Test.YtggibiodeecljaaMAbleA
import Derived.Test.YtggibiodeecljaaMAbleB
namespace Go.Proofs.Ytggibiodeecljaa
open Go.RowKit

theorem ret_false {R : World → Prop} {b : Bool} (h : b = false) {e : Ending} {w : World} (hh : e = .returned (.bool false) ∧ R w) : e = .returned (.bool b) ∧ R w := by rw [h]; exact hh

theorem able_any (on : Int) (SA TA : Option Addr) (slots : List Int) (sc tc : Nat) (when_ : Bool) (ts : List Node) (w : World) (hT : TreeAt w TA ts) (hS : SmallsAt w SA slots) (htxt : ∀ y ∈ ts, y.text.size ≤ 1099511627776) :
    Calls Try.prog 37 #[.agg #[.int .i64 on, .slice SA slots.length sc, .bool when_, .slice TA ts.length tc]] w fun e w' => e = .returned (.bool (checkAble on slots when_ ts)) ∧ Below w.heap.size w w' := by
  by_cases h0 : 0 ≤ on
  case neg =>
    refine (able_early on SA TA slots.length sc ts.length tc when_ w (.inl (by omega))).mono fun e w' hh => ret_false (R := fun w' => Below w.heap.size w w') ?_ hh
    unfold checkAble; simp [h0]
  by_cases h1 : on ≤ 4
  case neg =>
    refine (able_early on SA TA slots.length sc ts.length tc when_ w (.inr (.inl ⟨h0, by omega⟩))).mono fun e w' hh => ret_false (R := fun w' => Below w.heap.size w w') ?_ hh
    unfold checkAble; simp [h1]
  by_cases h2 : slots.length ≤ 32
  case neg =>
    refine (able_early on SA TA slots.length sc ts.length tc when_ w (.inr (.inr (.inl ⟨h0, h1, by omega⟩)))).mono fun e w' hh => ret_false (R := fun w' => Below w.heap.size w w') ?_ hh
    unfold checkAble; simp [h2]
  by_cases h3 : ts.length ≤ 2000
  case neg =>
    refine (able_early on SA TA slots.length sc ts.length tc when_ w (.inr (.inr (.inr ⟨h0, h1, h2, by omega⟩)))).mono fun e w' hh => ret_false (R := fun w' => Below w.heap.size w w') ?_ hh
    unfold checkAble; simp [h3]
  have hE : checkAble on slots when_ ts = (wholeB when_ ts && !(look2 when_ ts).bad && decide ((look2 when_ ts).slots = slots)) := by
    unfold checkAble; simp [h0, h1, h2, h3]
  rw [hE]
  rcases hT with hnil | ⟨tb, toff, rfl, htb, hn⟩
  · subst hnil
    have hb : ∀ k, behind [] k = -1 := fun k => by unfold behind; simp
    have hw : wholeB when_ [] = false := by
      unfold wholeB
      rw [hb]
      simp
    rw [hw]
    cases when_ with
    | false => exact able_nil_false on SA TA slots.length sc tc w h0 h1 h2
    | true => exact able_nil_true on SA TA slots.length sc tc w h0 h1 h2
  by_cases hpos : 0 < ts.length
  case neg =>
    have hnil : ts = [] := List.length_eq_zero_iff.1 (by omega)
    subst hnil
    have hb : ∀ k, behind [] k = -1 := fun k => by unfold behind; simp
    have hw : wholeB when_ [] = false := by
      unfold wholeB
      rw [hb]
      simp
    rw [hw]
    cases when_ with
    | false => exact able_nil_false on SA _ slots.length sc tc w h0 h1 h2
    | true => exact able_nil_true on SA _ slots.length sc tc w h0 h1 h2
  have hlen : ∀ (k : Nat) (s : LSt), k < ts.length → 0 ≤ behind ts k → s.slots = [3, 4] → ((sbM ts (ts.length + 1)).2 k s).slots.length ≤ 1099511627776 := fun k s hk hb hs => by
    have h5 := behind_le hb
    have hbk : k < (behind ts k).toNat := by
      rw [behind_eq] at hb ⊢
      rcases hz : (sizes ts.length ts)[k]? with _ | _ | z <;> rw [hz] at hb <;> simp only at hb ⊢
      · omega
      · omega
      · have := size_pos hz; omega
    have := (sbM_len ts (ts.length + 1)).2 k s hb hbk (by rw [hs]; simp only [List.length_cons, List.length_nil]; omega)
    omega
  cases when_ with
  | false =>
    have hwb : wholeB false ts = decide (behind ts 0 = ts.length) := by
      unfold wholeB blockOf
      simp
    rw [hwb]
    by_cases hb : behind ts 0 = ts.length
    case neg =>
      refine (able_plain_no on SA slots sc tb toff tc ts w h0 h1 h2 h3 htb hn hS htxt hpos hb).mono fun e w' hh => ret_false (R := fun w' => Below w.heap.size w w') ?_ hh
      simp [hb]
    have hl2 : look2 false ts = (sbM ts (ts.length + 1)).2 0 look0 := by
      have e1 : look1 false ts = look0 := rfl
      unfold look2
      rw [e1]
      rfl
    rw [hl2]
    cases hbad : ((sbM ts (ts.length + 1)).2 0 look0).bad with
    | true =>
      refine (able_plain_bad on SA slots sc tb toff tc ts w h0 h1 h2 h3 htb hn hS htxt hpos hb hbad).mono fun e w' hh => ret_false (R := fun w' => Below w.heap.size w w') ?_ hh
      simp
    | false =>
      have e : (decide (behind ts 0 = ts.length) && !false && decide (((sbM ts (ts.length + 1)).2 0 look0).slots = slots)) = decide (((sbM ts (ts.length + 1)).2 0 look0).slots = slots) := by simp [hb]
      rw [e]
      exact able_plain_good on SA slots sc tb toff tc ts w h0 h1 h2 h3 htb hn hS htxt hpos hb hbad (hlen 0 look0 hpos (by rw [hb]; omega) rfl)
  | true =>
    by_cases hneg : behind ts 0 < 0
    · refine (able_when_neg on SA slots sc tb toff tc ts w h0 h1 h2 h3 htb hn hS htxt hpos hneg).mono fun e w' hh => ret_false (R := fun w' => Below w.heap.size w w') ?_ hh
      have : wholeB true ts = false := by
        unfold wholeB blockOf
        have : ¬ 0 ≤ behind ts 0 := by omega
        simp [this]
      rw [this]; rfl
    obtain ⟨m, hm⟩ := Int.eq_ofNat_of_zero_le (Int.not_lt.1 hneg)
    have hbo : blockOf true ts = m := by unfold blockOf; rw [if_pos rfl]; exact hm
    have hwb : wholeB true ts = decide (behind ts m = ts.length) := by
      unfold wholeB
      rw [hbo]
      simp
    rw [hwb]
    by_cases hb : behind ts m = ts.length
    case neg =>
      refine (able_when_no on SA slots sc tb toff tc ts w h0 h1 h2 h3 htb hn hS htxt hpos m hm hb).mono fun e w' hh => ret_false (R := fun w' => Below w.heap.size w w') ?_ hh
      simp [hb]
    have hml : m < ts.length := by
      by_cases h : m < ts.length
      · exact h
      · have e : behind ts m = -1 := by unfold behind; rw [if_neg h]
        rw [e] at hb; omega
    have hl1 : look1 true ts = valueF ts 0 2 look0 := by unfold look1; rw [if_pos rfl]
    have hl2 : look2 true ts = if (valueF ts 0 2 look0).bad = true then valueF ts 0 2 look0 else (sbM ts (ts.length + 1)).2 m (valueF ts 0 2 look0) := by
      unfold look2
      rw [hl1, hbo]
      rfl
    rw [hl2]
    cases hv1 : (valueF ts 0 2 look0).bad with
    | true =>
      rw [if_pos rfl]
      refine (able_when_bad1 on SA slots sc tb toff tc ts w h0 h1 h2 h3 htb hn hS htxt hpos m hm hml hb hv1).mono fun e w' hh => ret_false (R := fun w' => Below w.heap.size w w') ?_ hh
      rw [hv1]; simp
    | false =>
      rw [if_neg (by decide)]
      cases hbad : ((sbM ts (ts.length + 1)).2 m (valueF ts 0 2 look0)).bad with
      | true =>
        refine (able_when_bad on SA slots sc tb toff tc ts w h0 h1 h2 h3 htb hn hS htxt hpos m hm hml hb hv1 hbad).mono fun e w' hh => ret_false (R := fun w' => Below w.heap.size w w') ?_ hh
        simp
      | false =>
        have e : (decide (behind ts m = ts.length) && !false && decide (((sbM ts (ts.length + 1)).2 m (valueF ts 0 2 look0)).slots = slots)) = decide (((sbM ts (ts.length + 1)).2 m (valueF ts 0 2 look0)).slots = slots) := by simp [hb]
        rw [e]
        exact able_when_good on SA slots sc tb toff tc ts w h0 h1 h2 h3 htb hn hS htxt hpos m hm hml hb hv1 hbad (hlen m _ hml (by rw [hb]; omega) rfl)
end Go.Proofs.Ytggibiodeecljaa
