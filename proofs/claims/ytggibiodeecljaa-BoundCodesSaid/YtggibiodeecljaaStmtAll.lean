/- looker.stmt and looker.block at every place. -/
import Derived.Test.YtggibiodeecljaaMStmtA
import Derived.Test.YtggibiodeecljaaMStmtB
import Derived.Test.YtggibiodeecljaaMStmtC
import Derived.Test.YtggibiodeecljaaStmt10
import Derived.Test.YtggibiodeecljaaStmt12
namespace Go.Proofs.Ytggibiodeecljaa
open Go.RowKit

theorem many0 (n : Nat) : containsM [0] n = decide (n = 0) := contains1 0 n
theorem many1 (n : Nat) : containsM [1] n = decide (n = 1) := contains1 1 n
theorem many2 (n : Nat) : containsM [2] n = decide (n = 2) := contains1 2 n
theorem many23 (n : Nat) : containsM [2, 3] n = decide (n = 2 ∨ n = 3) := contains2 2 3 n

theorem Lib.len1 {l : List Nat} (h : l.length = 1) : ∃ j, l = [j] := by
  match l, h with
  | [j], _ => exact ⟨j, rfl⟩

theorem stmt_any {B kb tb toff cap : Nat} {ts : List Node} {recS recB : Nat → LSt → LSt} (htb : tb < B) (hl : ts.length ≤ 100000) (htxt : ∀ y ∈ ts, y.text.size ≤ 1099511627776) {i : Nat} (hi : i < ts.length) (hbe : 0 ≤ behind ts i)
    (R : Recs B kb tb toff cap ts recS recB i) : SAt 115 B kb tb toff cap ts (stmtF ts recS recB) i := by
  intro s w hb hg hs h hn
  obtain ⟨x, hx⟩ : ∃ x, ts[i]? = some x := ⟨_, List.getElem?_eq_getElem hi⟩
  have hgx : ts.getD i node0 = x := by rw [List.getD_eq_getElem?_getD, hx]; rfl
  obtain ⟨slots, seen, bad⟩ := s
  simp only at hb hs
  subst hb
  unfold stmtF
  simp only [hgx]
  have bads : badF ⟨slots, seen, false⟩ = ⟨slots, seen, true⟩ := rfl
  by_cases q11 : x.op = 11
  · rw [if_pos q11]
    by_cases hk : (kidsOf ts i).length = 1
    · have hm : containsM [1] (kidsOf ts i).length = true := by rw [many1]; simpa using hk
      obtain ⟨j, hj⟩ := Lib.len1 hk
      by_cases hli : likeB x 0 x.n 0 = true
      · rw [if_pos ⟨hk, hli⟩]
        have e0 : (kidsOf ts i).getD 0 0 = j := by rw [hj]; rfl
        rw [e0]
        obtain ⟨kd, hgt, bd, hex⟩ : ∃ kd hgt bd, exprS ts ⟨slots, seen, false⟩ j false = (kd, hgt, bd) := ⟨_, _, _, rfl⟩
        rw [hex]
        exact stmt_let B kb tb toff cap ts slots seen htb hl htxt i x hi hbe hx w hg hs h hn hm q11 hli j [] hj kd hgt bd hex
      · rw [if_neg (fun h => hli h.2), bads]
        exact stmt_like_no11 B kb tb toff cap ts slots seen htb hl htxt i x hi hbe hx w hg hs h hn q11 hm (by simpa using hli)
    · rw [if_neg (fun h => hk h.1), bads]
      exact stmt_many_no11 B kb tb toff cap ts slots seen htb hl htxt i x hi hbe hx w hg hs h hn q11 (by rw [many1]; simpa using hk)
  rw [if_neg q11]
  by_cases q12 : x.op = 12
  · rw [if_pos q12]
    obtain ⟨L, hL, hLd⟩ : ∃ L, lookB (seen x.n) = L ∧ (seen x.n).getD (.bool false) = .bool L := by
      cases hsn : seen x.n with
      | none => exact ⟨false, rfl, rfl⟩
      | some v =>
        obtain ⟨b, rfl⟩ := hg.val x.n v hsn
        exact ⟨b, rfl, rfl⟩
    rw [hL]
    by_cases hk : (kidsOf ts i).length = 1
    · have hm : containsM [1] (kidsOf ts i).length = true := by rw [many1]; simpa using hk
      by_cases hr : x.n < 0
      · rw [if_neg (fun h => by have := h.2.1.1; omega), bads]
        exact stmt_set_no_neg B kb tb toff cap ts slots seen htb hl htxt i x hi hbe hx w hg hs h hn q12 hm hr
      have hr := Int.not_lt.1 hr
      by_cases hr2 : 1048576 ≤ x.n
      · rw [if_neg (fun h => by have := h.2.1.2.1; omega), bads]
        exact stmt_set_no_big B kb tb toff cap ts slots seen htb hl htxt i x hi hbe hx w hg hs h hn q12 hm hr hr2
      have hr2 := Int.not_le.1 hr2
      cases L with
      | false =>
        rw [if_neg (fun h => by cases h.2.1.2.2), bads]
        exact stmt_set_no_look B kb tb toff cap ts slots seen htb hl htxt i x hi hbe hx w hg hs h hn q12 hm hr hr2 hLd
      | true =>
        by_cases hli : likeB x 0 x.n 0 = true
        · rw [if_pos ⟨hk, ⟨hr, hr2, rfl⟩, hli⟩]
          obtain ⟨j, hj⟩ := Lib.len1 hk
          have e0 : (kidsOf ts i).getD 0 0 = j := by rw [hj]; rfl
          rw [e0]
          have hin : x.n < slots.length := by
            refine hg.key x.n ?_ hr
            show (seen x.n).isSome = true
            cases hsn : seen x.n with
            | none => rw [hsn] at hLd; simp at hLd
            | some v => rfl
          exact stmt_set B kb tb toff cap ts slots seen htb hl htxt i x hi hbe hx w hg hs h hn q12 hm hr hr2 hLd hli j [] hj hin
        · rw [if_neg (fun h => hli h.2.2), bads]
          exact stmt_set_like B kb tb toff cap ts slots seen htb hl htxt i x hi hbe hx w hg hs h hn q12 hm hr hr2 hLd (by simpa using hli)
    · rw [if_neg (fun h => hk h.1), bads]
      have hm : containsM [1] (kidsOf ts i).length = false := by rw [many1]; simpa using hk
      by_cases hr : x.n < 0
      · exact stmt_set_many_neg B kb tb toff cap ts slots seen htb hl htxt i x hi hbe hx w hg hs h hn q12 hm hr
      have hr := Int.not_lt.1 hr
      by_cases hr2 : 1048576 ≤ x.n
      · exact stmt_set_many_big B kb tb toff cap ts slots seen htb hl htxt i x hi hbe hx w hg hs h hn q12 hm hr hr2
      have hr2 := Int.not_le.1 hr2
      cases L with
      | false => exact stmt_set_many_look B kb tb toff cap ts slots seen htb hl htxt i x hi hbe hx w hg hs h hn q12 hm hr hr2 hLd
      | true => exact stmt_set_many_yes B kb tb toff cap ts slots seen htb hl htxt i x hi hbe hx w hg hs h hn q12 hm hr hr2 hLd
  rw [if_neg q12]
  by_cases q13 : x.op = 13
  · rw [if_pos q13]
    by_cases hk : (kidsOf ts i).length = 2 ∨ (kidsOf ts i).length = 3
    · have hm : containsM [2, 3] (kidsOf ts i).length = true := by rw [many23]; simpa using hk
      by_cases hli : likeB x 0 0 0 = true
      · rw [if_pos ⟨hk, hli⟩]
        obtain ⟨j, r, hj⟩ : ∃ j r, kidsOf ts i = j :: r := by
          cases hj : kidsOf ts i with
          | nil => rw [hj] at hk; simp at hk
          | cons j r => exact ⟨j, r, rfl⟩
        have e0 : (kidsOf ts i).getD 0 0 = j := by rw [hj]; rfl
        have e1 : (kidsOf ts i).drop 1 = r := by rw [hj]; rfl
        rw [e0, e1]
        exact stmt_if B kb tb toff cap ts slots seen htb hl htxt i x hi hbe hx w hg hs h hn hm q13 hli j r hj (by omega) recS recB R
      · rw [if_neg (fun h => hli h.2), bads]
        exact stmt_like_no13 B kb tb toff cap ts slots seen htb hl htxt i x hi hbe hx w hg hs h hn q13 hm (by simpa using hli)
    · rw [if_neg (fun h => hk h.1), bads]
      exact stmt_many_no13 B kb tb toff cap ts slots seen htb hl htxt i x hi hbe hx w hg hs h hn q13 (by rw [many23]; simpa using hk)
  rw [if_neg q13]
  by_cases q14 : x.op = 14
  · rw [if_pos q14]
    by_cases hk : (kidsOf ts i).length = 1
    · have hm : containsM [1] (kidsOf ts i).length = true := by rw [many1]; simpa using hk
      by_cases hr : 0 ≤ x.n
      · by_cases hr2 : x.n ≤ 255
        · by_cases hli : likeB x 0 x.n x.m = true
          · rw [if_pos ⟨hk, ⟨hr, hr2⟩, hli⟩]
            obtain ⟨j, hj⟩ := Lib.len1 hk
            have := stmt_repeat B kb tb toff cap ts slots seen htb hl htxt i x hi hbe hx w hg hs h hn hm q14 hr hr2 hli j [] hj recS recB R
            rw [← hj] at this
            exact this
          · rw [if_neg (fun h => hli h.2.2), bads]
            exact stmt_repeat_like B kb tb toff cap ts slots seen htb hl htxt i x hi hbe hx w hg hs h hn hm q14 hr hr2 (by simpa using hli)
        · rw [if_neg (fun h => hr2 h.2.1.2), bads]
          exact stmt_repeat_no2 B kb tb toff cap ts slots seen htb hl htxt i x hi hbe hx w hg hs h hn hm q14 hr hr2
      · rw [if_neg (fun h => hr h.2.1.1), bads]
        exact stmt_repeat_no1 B kb tb toff cap ts slots seen htb hl htxt i x hi hbe hx w hg hs h hn hm q14 (by omega)
    · rw [if_neg (fun h => hk h.1), bads]
      exact stmt_many_no14 B kb tb toff cap ts slots seen htb hl htxt i x hi hbe hx w hg hs h hn q14 (by rw [many1]; simpa using hk)
  rw [if_neg q14]
  by_cases q15 : x.op = 15
  · rw [if_pos q15]
    by_cases hk : (kidsOf ts i).length = 2
    · have hm : containsM [2] (kidsOf ts i).length = true := by rw [many2]; simpa using hk
      by_cases hr : 0 ≤ x.n
      · by_cases hr2 : wrap64 (x.m - 1) = x.n
        · by_cases hli : likeB x 0 x.n x.m = true
          · rw [if_pos ⟨hk, ⟨hr, hr2⟩, hli⟩]
            obtain ⟨j, r, hj⟩ : ∃ j r, kidsOf ts i = j :: r := by
              cases hj : kidsOf ts i with
              | nil => rw [hj] at hk; simp at hk
              | cons j r => exact ⟨j, r, rfl⟩
            have e0 : (kidsOf ts i).getD 0 0 = j := by rw [hj]; rfl
            have e1 : (kidsOf ts i).drop 1 = r := by rw [hj]; rfl
            rw [e0, e1]
            exact stmt_each B kb tb toff cap ts slots seen htb hl htxt i x hi hbe hx w hg hs h hn hm q15 hr (beq_true_of hr2) hli j r hj (by omega) recS recB R
          · rw [if_neg (fun h => hli h.2.2), bads]
            exact stmt_each_like B kb tb toff cap ts slots seen htb hl htxt i x hi hbe hx w hg hs h hn hm q15 hr (beq_true_of hr2) (by simpa using hli)
        · rw [if_neg (fun h => hr2 h.2.1.2), bads]
          exact stmt_each_no2 B kb tb toff cap ts slots seen htb hl htxt i x hi hbe hx w hg hs h hn hm q15 hr (beq_false_of hr2)
      · rw [if_neg (fun h => hr h.2.1.1), bads]
        exact stmt_each_no1 B kb tb toff cap ts slots seen htb hl htxt i x hi hbe hx w hg hs h hn hm q15 (by omega)
    · rw [if_neg (fun h => hk h.1), bads]
      exact stmt_many_no15 B kb tb toff cap ts slots seen htb hl htxt i x hi hbe hx w hg hs h hn q15 (by rw [many2]; simpa using hk)
  rw [if_neg q15]
  by_cases q16 : x.op = 16
  · rw [if_pos q16]
    by_cases hk : (kidsOf ts i).length = 2 ∨ (kidsOf ts i).length = 3
    · have hm : containsM [2, 3] (kidsOf ts i).length = true := by rw [many23]; simpa using hk
      by_cases hli : likeB x 0 x.n 0 = true
      · rw [if_pos ⟨hk, hli⟩]
        have hch := kidsOf_chain hbe
        match hj : kidsOf ts i, hk, hch with
        | [j, b], _, _ =>
          rw [if_neg (by simp)]
          exact stmt_choose2 B kb tb toff cap ts slots seen htb hl htxt i x hi hbe hx w hg hs h hn hm q16 hli j [b] hj (by rw [hj]; simp) recS recB R b (by rw [hj]; rfl) (by rw [hj]; rfl)
        | [j, b, d], _, ⟨e1, g1, g2, e2, g3, g4, e3, g5, g6, _⟩ =>
          obtain ⟨S, hS⟩ : ∃ S, S = forget x.n (blocksF ts recS recB 0 [b] (declareF x.n false [3] (valueF ts j 6 ⟨slots, seen, false⟩))) := ⟨_, rfl⟩
          have hS' : forget x.n (blocksF ts recS recB 0 (List.take 1 (List.drop 1 [j, b, d])) (declareF x.n false [3] (valueF ts ([j, b, d].getD 0 0) 6 ⟨slots, seen, false⟩))) = S := hS.symm
          rw [hS']
          cases hbad : S.bad with
          | true =>
            rw [if_neg (by simp)]
            rw [hS] at hbad ⊢
            exact stmt_choose3bad B kb tb toff cap ts slots seen htb hl htxt i x hi hbe hx w hg hs h hn hm q16 hli j [b, d] hj (by rw [hj]; simp) recS recB R b (by rw [hj]; rfl) (by rw [hj]; rfl) hbad
          | false =>
            rw [if_pos ⟨rfl, rfl⟩]
            rw [hS] at hbad ⊢
            refine stmt_choose3 B kb tb toff cap ts slots seen htb hl htxt i x hi hbe hx w hg hs h hn hm q16 hli j [b, d] hj (by rw [hj]; simp) recS recB R b (by rw [hj]; rfl) d (by rw [hj]; rfl) (by rw [hj]; rfl) hbad ?_
            subst e1
            rw [← e2] at g3 g4 e3
            subst e3
            exact blocksF_len ts recS recB R.lS R.lB [b] 0 b _ _ ⟨rfl, g3, g4, rfl⟩ (Nat.le_trans (declareF_len _ _ _ _) (by show slots.length + 1 ≤ _; omega))
        | [], hk, _ => simp at hk
        | [_], hk, _ => simp at hk
        | _ :: _ :: _ :: _ :: _, hk, _ => simp at hk
      · rw [if_neg (fun h => hli h.2), bads]
        exact stmt_like_no16 B kb tb toff cap ts slots seen htb hl htxt i x hi hbe hx w hg hs h hn q16 hm (by simpa using hli)
    · rw [if_neg (fun h => hk h.1), bads]
      exact stmt_many_no16 B kb tb toff cap ts slots seen htb hl htxt i x hi hbe hx w hg hs h hn q16 (by rw [many23]; simpa using hk)
  rw [if_neg q16]
  by_cases q178 : x.op = 17 ∨ x.op = 18
  · rw [if_pos q178]
    by_cases hk : (kidsOf ts i).length = 0
    · have hm : containsM [0] (kidsOf ts i).length = true := by rw [many0]; simpa using hk
      rw [hk]
      cases hli : likeB x 0 0 0 with
      | true =>
        rcases q178 with q | q
        · exact stmt_stop17 B kb tb toff cap ts slots seen htb hl htxt i x hi hbe hx w hg hs h hn q hm hli
        · exact stmt_stop18 B kb tb toff cap ts slots seen htb hl htxt i x hi hbe hx w hg hs h hn q hm hli
      | false =>
        rcases q178 with q | q
        · exact stmt_like_no17 B kb tb toff cap ts slots seen htb hl htxt i x hi hbe hx w hg hs h hn q hm hli
        · exact stmt_like_no18 B kb tb toff cap ts slots seen htb hl htxt i x hi hbe hx w hg hs h hn q hm hli
    · have hm : containsM [0] (kidsOf ts i).length = false := by rw [many0]; simpa using hk
      have e : (!decide ((kidsOf ts i).length = 0)) = true := by simp [hk]
      rw [e, Bool.true_or]
      rcases q178 with q | q
      · exact stmt_many_no17 B kb tb toff cap ts slots seen htb hl htxt i x hi hbe hx w hg hs h hn q hm
      · exact stmt_many_no18 B kb tb toff cap ts slots seen htb hl htxt i x hi hbe hx w hg hs h hn q hm
  rw [if_neg q178]
  by_cases q19 : x.op = 19
  · rw [if_pos q19]
    cases hsg : signOf effectsM x.n with
    | none => exact stmt_nodo B kb tb toff cap ts slots seen htb hl i x hi hbe hx w h hn q19 hsg
    | some sg =>
      obtain ⟨V, b, hV⟩ : ∃ V b, callF (exprS ts ⟨slots, seen, false⟩) ts i (kidsOf ts i) sg = (V, b) := ⟨_, _, rfl⟩
      simp only [hV]
      exact stmt_do B kb tb toff cap ts slots seen htb hl htxt i x sg hi hbe hx w hg h hn q19 hsg V b hV
  rw [if_neg q19, bads]
  exact stmt_none B kb tb toff cap ts slots seen htb hl htxt i x hi hbe hx w hg hs h hn ⟨q11, q12, q13, q14, q15, q16, fun h => q178 (.inl h), fun h => q178 (.inr h), q19⟩

/-- Both, at every place. -/
theorem sb_any {B kb tb toff cap : Nat} {ts : List Node} (htb : tb < B) (hl : ts.length ≤ 100000) (htxt : ∀ y ∈ ts, y.text.size ≤ 1099511627776) : ∀ (f i : Nat), ts.length ≤ i + f → i < ts.length → 0 ≤ behind ts i →
    SAt 115 B kb tb toff cap ts (sbM ts f).1 i ∧ SAt 79 B kb tb toff cap ts (sbM ts f).2 i
  | 0, i, h1, h2, _ => absurd h2 (by omega)
  | f + 1, i, h1, h2, h3 => by
    have hk : ∀ j ∈ kidsOf ts i, j < ts.length ∧ SAt 115 B kb tb toff cap ts (sbM ts f).1 j ∧ SAt 79 B kb tb toff cap ts (sbM ts f).2 j := fun j hj => by
      have := kidsOf_ok hj
      exact ⟨this.2.1, sb_any htb hl htxt f j (by omega) this.2.1 this.2.2.1⟩
    exact ⟨stmt_any htb hl htxt h2 h3 ⟨(sbM_good ts f).1, (sbM_good ts f).2, (sbM_len ts f).1, (sbM_len ts f).2, hk⟩,
      block_any B kb tb toff cap ts (sbM ts f).1 htb hl (sbM_good ts f).1 (sbM_len ts f).1 i h2 h3 (fun j hj => ⟨(hk j hj).1, (hk j hj).2.1⟩)⟩
end Go.Proofs.Ytggibiodeecljaa
