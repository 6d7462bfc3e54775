/- walk.node at every place. -/
import Derived.Test.YtggibiodeecljaaMWalkA
import Derived.Test.YtggibiodeecljaaMWalkB
import Derived.Test.YtggibiodeecljaaMWalkC
import Derived.Test.YtggibiodeecljaaMWalkD
namespace Go.Proofs.Ytggibiodeecljaa
open Go.RowKit

theorem arity_two {x : Node} {n : Nat} (h : arityB x n = true) (q : x.op = 13 ∨ x.op = 15 ∨ x.op = 16) : 2 ≤ n := by
  unfold arityB at h
  rcases q with q | q | q <;> rw [q] at h <;> simp at h <;> omega
theorem arity_sign {x : Node} {n : Nat} (h : arityB x n = true) : (x.op = 49 → ∃ s, signOf fieldsM x.n = some s) ∧ (x.op = 50 → ∃ s, signOf funcsM x.n = some s) ∧ (x.op = 19 → ∃ s, signOf effectsM x.n = some s) := by
  unfold arityB at h
  refine ⟨fun q => ?_, fun q => ?_, fun q => ?_⟩
  · rw [q] at h
    cases hs : signOf fieldsM x.n with
    | some s => exact ⟨s, rfl⟩
    | none => rw [hs] at h; simp at h
  · rw [q] at h
    cases hs : signOf funcsM x.n with
    | some s => exact ⟨s, rfl⟩
    | none => rw [hs] at h; simp at h
  · rw [q] at h
    cases hs : signOf effectsM x.n with
    | some s => exact ⟨s, rfl⟩
    | none => rw [hs] at h; simp at h

theorem node_any {wb tb toff cap : Nat} {ts : List Node} {c : Int} (hne : tb ≠ wb) (hl : ts.length ≤ 100000) (hc0 : 1 ≤ c) (hc1 : c ≤ 256) : ∀ (f i : Nat), ts.length ≤ i + f → i < ts.length → 0 ≤ behind ts i → Fit ts f i →
    NodeAtW wb tb toff cap ts c (gasM ts c f i) i
  | 0, i, h1, h2, _, _ => absurd h2 (by omega)
  | f + 1, i, h1, h2, h3, h4 => by
    intro w hw hn htb
    obtain ⟨x, hx⟩ : ∃ x, ts[i]? = some x := ⟨_, List.getElem?_eq_getElem h2⟩
    have hgx : ts.getD i node0 = x := by rw [List.getD_eq_getElem?_getD, hx]; rfl
    obtain ⟨har, hfk⟩ := h4
    rw [hgx] at har
    have hr : ∀ j ∈ kidsOf ts i, NodeAtW wb tb toff cap ts c (gasM ts c f j) j ∧ IsGas (gasM ts c f j) := fun j hj => by
      have hj2 := kidsOf_ok hj
      exact ⟨node_any hne hl hc0 hc1 f j (by omega) hj2.2.1 hj2.2.2.1 (hfk j hj), gasM_gas ts c (by omega) f j (hfk j hj)⟩
    rw [gasM, hgx]
    have h2k := arity_two har
    have h14 := arity_rounds har
    obtain ⟨s1, s2, s3⟩ := arity_sign har
    by_cases q51 : x.op = 51
    · exact node_51 wb tb toff cap ts c hne hl hc0 hc1 i x h2 hx h3 _ w hw hn htb hr q51
    by_cases q52 : x.op = 52
    · exact node_52 wb tb toff cap ts c hne hl hc0 hc1 i x h2 hx h3 _ w hw hn htb hr q52
    by_cases q10 : x.op = 10
    · exact node_10 wb tb toff cap ts c hne hl hc0 hc1 i x h2 hx h3 _ w hw hn htb hr q10
    by_cases q13 : x.op = 13
    · exact node_if wb tb toff cap ts c hne hl hc0 hc1 i x h2 hx h3 _ w hw hn htb hr q13 (h2k (.inl q13))
    by_cases q16 : x.op = 16
    · exact node_choose wb tb toff cap ts c hne hl hc0 hc1 i x h2 hx h3 _ w hw hn htb hr q16 (h2k (.inr (.inr q16)))
    by_cases q14 : x.op = 14
    · obtain ⟨a, b, d⟩ := h14 q14
      exact node_repeat wb tb toff cap ts c hne hl hc0 hc1 i x h2 hx h3 _ w hw hn htb hr q14 (by omega) b d
    by_cases q15 : x.op = 15
    · exact node_each wb tb toff cap ts c hne hl hc0 hc1 i x h2 hx h3 _ w hw hn htb hr q15 (h2k (.inr (.inl q15)))
    by_cases q49 : x.op = 49
    · obtain ⟨s, hs⟩ := s1 q49
      exact node_field wb tb toff cap ts c hne hl hc0 hc1 i x h2 hx h3 _ w hw hn htb hr q49 s hs
    by_cases q50 : x.op = 50
    · obtain ⟨s, hs⟩ := s2 q50
      exact node_call wb tb toff cap ts c hne hl hc0 hc1 i x h2 hx h3 _ w hw hn htb hr q50 s hs
    by_cases q19 : x.op = 19
    · obtain ⟨s, hs⟩ := s3 q19
      exact node_do wb tb toff cap ts c hne hl hc0 hc1 i x h2 hx h3 _ w hw hn htb hr q19 s hs
    by_cases q36 : x.op = 36
    · exact node_w36 wb tb toff cap ts c hne hl hc0 hc1 i x h2 hx h3 _ w hw hn htb hr q36
    by_cases q37 : x.op = 37
    · exact node_w37 wb tb toff cap ts c hne hl hc0 hc1 i x h2 hx h3 _ w hw hn htb hr q37
    by_cases q39 : x.op = 39
    · exact node_w39 wb tb toff cap ts c hne hl hc0 hc1 i x h2 hx h3 _ w hw hn htb hr q39
    exact node_wrest wb tb toff cap ts c hne hl hc0 hc1 i x h2 hx h3 _ w hw hn htb hr ⟨q51, q52, q10, q13, q16, q14, q15, q49, q50, q19, q36, q37, q39⟩

/-- What check.Able's yes says of an ability. -/
theorem able_whole {on : Int} {slots : List Int} {when_ : Bool} {ts : List Node} (h : checkAble on slots when_ ts = true) : ts.length ≤ 2000 ∧ 0 < ts.length ∧
    ∃ m : Nat, blockOf when_ ts = m ∧ m < ts.length ∧ behind ts m = ts.length ∧ Fit ts (ts.length + 1) m ∧ (when_ = true → behind ts 0 = m ∧ Fit ts (ts.length) 0) ∧ (when_ = false → m = 0) := by
  unfold checkAble at h
  simp only [Bool.and_eq_true, decide_eq_true_eq, Bool.not_eq_true'] at h
  obtain ⟨⟨⟨⟨⟨⟨h0, h1⟩, h2⟩, h3⟩, h4⟩, h5⟩, h6⟩ := h
  unfold wholeB at h4
  simp only [Bool.and_eq_true, decide_eq_true_eq] at h4
  obtain ⟨hb, he⟩ := h4
  obtain ⟨m, hm⟩ := Int.eq_ofNat_of_zero_le hb
  rw [hm, Int.toNat_natCast] at he
  have hml : m < ts.length := by
    by_cases h : m < ts.length
    · exact h
    · have e : behind ts m = -1 := by unfold behind; rw [if_neg h]
      rw [e] at he; omega
  have hb1 : (look1 when_ ts).bad = false := by
    unfold look2 at h5
    split at h5
    · rename_i hh; rw [hh] at h5; cases h5
    · rename_i hh; simpa using hh
  have hb2 : ((sbM ts (ts.length + 1)).2 m (look1 when_ ts)).bad = false := by
    unfold look2 at h5
    rw [if_neg (by rw [hb1]; decide), hm, Int.toNat_natCast] at h5
    exact h5
  refine ⟨h3, by omega, m, hm, hml, he, (sbM_fit ts (ts.length + 1) (Nat.le_refl _)).2 m _ hb2, fun hw => ?_, fun hw => ?_⟩
  · subst hw
    refine ⟨by unfold blockOf at hm; rw [if_pos rfl] at hm; exact hm, ?_⟩
    unfold look1 at hb1
    rw [if_pos rfl] at hb1
    unfold valueF highF at hb1
    simp only [wantedF, Bool.or_eq_false_iff] at hb1
    exact exprM_fit _ _ _ _ hb1.1.1
  · subst hw
    unfold blockOf at hm
    rw [if_neg (by decide)] at hm
    omega
end Go.Proofs.Ytggibiodeecljaa
