/- looker.expr at every place. -/
import Derived.Test.YtggibiodeecljaaExpr5
import Derived.Test.YtggibiodeecljaaExpr6
import Derived.Test.YtggibiodeecljaaExpr7
namespace Go.Proofs.Ytggibiodeecljaa
open Go.RowKit

theorem beq_true_of {a b : Int} (h : a = b) : (a == b) = true := by simp [h]
theorem beq_false_of {a b : Int} (h : ¬ a = b) : (a == b) = false := by simp [h]

theorem expr_any (B kb tb toff cap : Nat) (ts : List Node) (slots : List Int) (seen : Int → Option Value) (hl : ts.length ≤ 100000) (htb : tb < B) (htxt : ∀ y ∈ ts, y.text.size ≤ 1099511627776)
    (hseen : ∀ n, (seen n).isSome = true → 0 ≤ n → n < 1048576 → n < slots.length) : ∀ (f i : Nat), ts.length ≤ i + f → i < ts.length → f ≤ 100001 → ExprAt B kb tb toff cap ts slots seen (exprM ts slots seen f i) i
  | 0, i, h1, h2, _ => absurd h2 (by omega)
  | f + 1, i, h1, h2, h3 => by
    have ih := expr_any B kb tb toff cap ts slots seen hl htb htxt hseen f
    intro bad w h hn
    have hE : exprM ts slots seen (f + 1) i bad = exprF (exprM ts slots seen f) ts slots seen i bad := rfl
    rw [hE]
    have hx : ts[i]? = some (ts.getD i node0) := by rw [List.getD_eq_getElem?_getD, List.getElem?_eq_getElem h2]; rfl
    generalize hg : ts.getD i node0 = x at hx
    have hk : ∀ j ∈ kidsOf ts i, j < ts.length ∧ ExprAt B kb tb toff cap ts slots seen (exprM ts slots seen f j) j := fun j hj => by
      have := kidsOf_ok hj
      exact ⟨this.2.1, ih j (by omega) this.2.1 (by omega)⟩
    have hr : ∀ i b, 0 ≤ (exprM ts slots seen f i b).2.1 ∧ (exprM ts slots seen f i b).2.1 ≤ 2 * f := exprM_high ts slots seen f
    generalize hrec : exprM ts slots seen f = rec at hk hr
    unfold exprF
    simp only [hg]
    cases bad with
    | true => simp only [if_pos]; exact expr_bad B kb tb toff cap ts slots seen i w h
    | false =>
      rw [if_neg (by decide : ¬ (false = true))]
      by_cases q1 : x.op = 30
      · rw [if_pos q1]; exact expr_num B kb tb toff cap ts slots seen i x w hl hx h hn htb (beq_true_of q1)
      rw [if_neg q1]
      by_cases q2 : x.op = 31 ∨ x.op = 32
      · rw [if_pos q2]
        refine expr_truth B kb tb toff cap ts slots seen i x w hl hx h hn htb (beq_false_of q1) ?_
        by_cases q : x.op = 31
        · exact .inl (beq_true_of q)
        · exact .inr ⟨beq_false_of q, beq_true_of (by omega)⟩
      rw [if_neg q2]
      have e1 := beq_false_of q1
      have e2 : (x.op == 31) = false := beq_false_of fun h => q2 (.inl h)
      have e3 : (x.op == 32) = false := beq_false_of fun h => q2 (.inr h)
      by_cases q4 : x.op = 33
      · rw [if_pos q4]
        by_cases hs : (seen x.n).isSome = true ∧ 0 ≤ x.n ∧ x.n < 1048576 ∧ (kidsOf ts i).length = 0
        · rw [if_pos hs]
          obtain ⟨s1, s2, s3, s4⟩ := hs
          exact expr_name B kb tb toff cap ts slots seen i x w hl hx h hn htb q4 s1 s2 s3 s4 (hseen _ s1 s2 s3)
        · rw [if_neg hs]
          exact expr_noname B kb tb toff cap ts slots seen i x w hl hx h hn htb q4 hs
      rw [if_neg q4]
      have e4 := beq_false_of q4
      by_cases q5 : x.op = 49
      · rw [if_pos q5]
        cases hs : signOf fieldsM x.n with
        | none => exact expr_nofield B kb tb toff cap ts slots seen i x w hl hx h hn htb e1 e2 e3 e4 (beq_true_of q5) hs
        | some s => exact expr_field B kb tb toff cap ts slots seen rec i x s w hl hx h hn htb hk e1 e2 e3 e4 (beq_true_of q5) hs
      rw [if_neg q5]
      have e5 := beq_false_of q5
      by_cases q6 : x.op = 50
      · rw [if_pos q6]
        cases hs : signOf funcsM x.n with
        | none => exact expr_nocall B kb tb toff cap ts slots seen i x w hl hx h hn htb e1 e2 e3 e4 e5 (beq_true_of q6) hs
        | some s => exact expr_call B kb tb toff cap ts slots seen rec (2 * f) (by omega) (by omega) hr htxt i x s w hl hx h hn htb hk e1 e2 e3 e4 e5 (beq_true_of q6) hs
      rw [if_neg q6]
      exact expr_oper B kb tb toff cap ts slots seen rec (2 * f) (by omega) hr i x w hl hx h hn htb hk e1 e2 e3 e4 e5 (beq_false_of q6)
end Go.Proofs.Ytggibiodeecljaa
