/- What the looker's yes says of a tree's shape. No program in sight. The gas that is enough: plain functions, and what follows of them. No program in sight. -/
import Derived.Test.YtggibiodeecljaaStmtM
namespace Go.Proofs.Ytggibiodeecljaa
open Go.RowKit

/-- How many kids a node has, by its Op; which numbers it may bear. -/
def arityB (x : Node) (n : Nat) : Bool :=
  if x.op = 10 then true
  else if x.op = 11 ∨ x.op = 12 then n == 1
  else if x.op = 13 then n == 2 || n == 3
  else if x.op = 14 then n == 1 && decide (0 ≤ x.n) && decide (x.n ≤ 255)
  else if x.op = 15 then n == 2
  else if x.op = 16 then n == 2 || n == 3
  else if x.op = 17 ∨ x.op = 18 then n == 0
  else if x.op = 19 then match signOf effectsM x.n with | none => false | some s => n == s.args.length
  else if x.op = 30 ∨ x.op = 31 ∨ x.op = 32 ∨ x.op = 33 then n == 0
  else if x.op = 34 ∨ x.op = 35 then n == 1
  else if x.op = 49 then n == 1 && (signOf fieldsM x.n).isSome
  else if x.op = 50 then match signOf funcsM x.n with | none => false | some s => n == s.args.length
  else if x.op = 51 ∨ x.op = 52 then n == 0
  else if 36 ≤ x.op ∧ x.op ≤ 48 then n == 2
  else false

/-- A tree all of whose nodes have as many kids as they want (down to so many levels). -/
def Fit (ts : List Node) : Nat → Nat → Prop
  | 0, _ => True
  | f + 1, i => arityB (ts.getD i node0) (kidsOf ts i).length = true ∧ ∀ k ∈ kidsOf ts i, Fit ts f k

section
variable {ts : List Node}
theorem Fit.le : ∀ {f g i : Nat}, Fit ts f i → g ≤ f → Fit ts g i
  | _, 0, _, _, _ => trivial
  | 0, g + 1, _, _, h => absurd h (by omega)
  | f + 1, g + 1, i, hf, h => ⟨hf.1, fun k hk => (hf.2 k hk).le (by omega)⟩
theorem exprM_true (slots : List Int) (seen : Int → Option Value) (f i : Nat) : (exprM ts slots seen f i true).2.2 = true := by
  cases f with
  | zero => rfl
  | succ f => simp [exprM, exprF]

theorem zip_mem {α β : Type} : ∀ {l : List α} {m : List β} {x : α}, x ∈ l → l.length = m.length → ∃ y, (x, y) ∈ l.zip m
  | [], m, x, h, _ => by simp at h
  | a :: l, [], x, h, e => by simp at e
  | a :: l, b :: m, x, h, e => by
    rcases List.mem_cons.1 h with rfl | h
    · exact ⟨b, by simp⟩
    · obtain ⟨y, hy⟩ := zip_mem (m := m) h (by simpa using e)
      exact ⟨y, by simp [hy]⟩

section
variable {rec : Nat → Bool → ER} (hrec : ∀ i, (rec i true).2.2 = true) (f : Nat) (hfit : ∀ i, (rec i false).2.2 = false → Fit ts f i)
include hrec
theorem callLoop_true : ∀ (l : List (Nat × Int)) (high values : Int), (callLoop rec ts l high values true).2 = true
  | [], _, _ => rfl
  | (kid, arg) :: r, high, values => by
    simp only [callLoop]
    split
    · simp only [Bool.true_or]; exact callLoop_true r _ _
    · split
      · simp only [Bool.true_or]; exact callLoop_true r _ _
      · simp only [wantedF, hrec, Bool.true_or]; exact callLoop_true r _ _
include hfit
theorem callLoop_fit : ∀ (l : List (Nat × Int)) (high values : Int), (callLoop rec ts l high values false).2 = false → ∀ k u, (k, u) ∈ l → (kidsOf ts k).length = 0 ∧ (ts.getD k node0).op = 51 ∨ (kidsOf ts k).length = 0 ∧ (ts.getD k node0).op = 52 ∨ Fit ts f k
  | [], _, _, _, k, u, h => by simp at h
  | (kid, arg) :: r, high, values, hb, k, u, h => by
    have hleaf : ∀ {y : Int}, (ts.getD kid node0).kids = 0 → (kidsOf ts kid).length = 0 := fun {_} h => by
      unfold kidsOf
      split
      · rfl
      · rw [kidsFrom_length, h]; rfl
    simp only [callLoop] at hb
    split at hb
    · rename_i ha
      generalize hc : (false || !((ts.getD kid node0).op == 51 && (ts.getD kid node0).kids == 0 && decide (0 ≤ (ts.getD kid node0).n) && decide ((ts.getD kid node0).n ≤ 3)) || !(likeB (ts.getD kid node0) 0 (ts.getD kid node0).n 0)) = c at hb
      cases c with
      | true => rw [callLoop_true hrec] at hb; cases hb
      | false =>
        simp only [Bool.or_eq_false_iff, Bool.not_eq_false', Bool.and_eq_true, beq_iff_eq, decide_eq_true_eq] at hc
        rcases List.mem_cons.1 h with h | h
        · cases h; exact .inl ⟨hleaf (y := 0) hc.1.2.1.1.2, hc.1.2.1.1.1⟩
        · exact callLoop_fit r _ _ hb k u h
    · split at hb
      · generalize hc : (false || !((ts.getD kid node0).op == 52 && (ts.getD kid node0).kids == 0 && rightM (ts.getD kid node0).text) || !(likeB (ts.getD kid node0) 0 0 0)) = c at hb
        cases c with
        | true => rw [callLoop_true hrec] at hb; cases hb
        | false =>
          simp only [Bool.or_eq_false_iff, Bool.not_eq_false', Bool.and_eq_true, beq_iff_eq] at hc
          rcases List.mem_cons.1 h with h | h
          · cases h; exact .inr (.inl ⟨hleaf (y := 0) hc.1.2.1.2, hc.1.2.1.1⟩)
          · exact callLoop_fit r _ _ hb k u h
      · generalize hc : (wantedF (rec kid false) arg).2 = c at hb
        cases c with
        | true => rw [callLoop_true hrec] at hb; cases hb
        | false =>
          simp only [wantedF, Bool.or_eq_false_iff] at hc
          rcases List.mem_cons.1 h with h | h
          · cases h; exact .inr (.inr (hfit _ hc.1))
          · exact callLoop_fit r _ _ hb k u h
omit hrec hfit in
theorem fit_leaf {k : Nat} (h : (kidsOf ts k).length = 0) (hop : (ts.getD k node0).op = 51 ∨ (ts.getD k node0).op = 52) : Fit ts f k := by
  cases f with
  | zero => trivial
  | succ f =>
    refine ⟨?_, fun j hj => ?_⟩
    · rw [h]; unfold arityB
      rcases hop with h | h <;> rw [h] <;> rfl
    · rw [List.length_eq_zero_iff.1 h] at hj; simp at hj
theorem callF_fit {i : Nat} {s : Sign} (h : (callF rec ts i (kidsOf ts i) s).2 = false) : (kidsOf ts i).length = s.args.length ∧ ∀ k ∈ kidsOf ts i, Fit ts f k := by
  unfold callF at h
  simp only at h
  split at h
  · rename_i hc
    refine ⟨hc.1, fun k hk => ?_⟩
    obtain ⟨u, hu⟩ := zip_mem hk hc.1
    rcases callLoop_fit hrec f hfit _ _ _ h k u hu with ⟨h1, h2⟩ | ⟨h1, h2⟩ | h
    · exact fit_leaf f h1 (.inl h2)
    · exact fit_leaf f h1 (.inr h2)
    · exact h
  · cases h
omit hrec in
theorem operatorF_fit {i : Nat} (h : (operatorF rec ts i (kidsOf ts i)).2.2 = false) : arityB (ts.getD i node0) (kidsOf ts i).length = true ∧ ∀ k ∈ kidsOf ts i, Fit ts f k := by
  unfold operatorF at h
  simp only at h
  by_cases hm : (ts.getD i node0).op = 34 ∨ (ts.getD i node0).op = 35
  · simp only [hm, if_true] at h
    split at h
    · rename_i hc
      obtain ⟨hr, hl, -⟩ := hc
      match hk : kidsOf ts i, hl with
      | [a], _ =>
        rw [hk] at h
        have h1 : ¬ ((1 : Nat) = 2) := by omega
        simp only [h1, false_and, if_false] at h
        refine ⟨?_, fun k hk => ?_⟩
        · unfold arityB
          rcases hm with h | h <;> rw [h] <;> rfl
        · rw [List.mem_singleton] at hk
          subst hk
          have hq : ¬ ((ts.getD i node0).op = 38 ∨ (ts.getD i node0).op = 39) := by omega
          simp only [hq, if_false, wantedF, Bool.or_eq_false_iff] at h
          exact hfit _ h.1
    · cases h
  · simp only [hm, if_false] at h
    split at h
    · rename_i hc
      obtain ⟨hr, hl, -⟩ := hc
      match hk : kidsOf ts i, hl with
      | [a, b], _ =>
        rw [hk] at h
        simp only [true_and] at h
        have e0 : ([a, b] : List Nat).getD 0 0 = a := rfl
        have e1 : ([a, b] : List Nat).getD 1 0 = b := rfl
        rw [e0, e1] at h
        have hab : (rec a false).2.2 = false ∧ (rec b false).2.2 = false := by
          by_cases q : (ts.getD i node0).op = 38 ∨ (ts.getD i node0).op = 39
          · simp only [q, if_true] at h
            split at h
            · rename_i hf
              exact ⟨(Bool.or_eq_false_iff.1 hf).1, (Bool.or_eq_false_iff.1 h).1⟩
            · rename_i hf
              exact absurd h hf
          · simp only [q, if_false] at h
            split at h
            · rename_i hf
              exact ⟨(Bool.or_eq_false_iff.1 hf).1, (Bool.or_eq_false_iff.1 h).1⟩
            · rename_i hf
              exact absurd h hf
        obtain ⟨h1, h2⟩ := hab
        refine ⟨?_, fun k hk => ?_⟩
        · unfold arityB
          have n1 : ¬ (ts.getD i node0).op = 10 := by omega
          have n2 : ¬ ((ts.getD i node0).op = 11 ∨ (ts.getD i node0).op = 12) := by omega
          have n3 : ¬ (ts.getD i node0).op = 13 := by omega
          have n4 : ¬ (ts.getD i node0).op = 14 := by omega
          have n5 : ¬ (ts.getD i node0).op = 15 := by omega
          have n6 : ¬ (ts.getD i node0).op = 16 := by omega
          have n7 : ¬ ((ts.getD i node0).op = 17 ∨ (ts.getD i node0).op = 18) := by omega
          have n8 : ¬ (ts.getD i node0).op = 19 := by omega
          have n9 : ¬ ((ts.getD i node0).op = 30 ∨ (ts.getD i node0).op = 31 ∨ (ts.getD i node0).op = 32 ∨ (ts.getD i node0).op = 33) := by omega
          have n10 : ¬ (ts.getD i node0).op = 49 := by omega
          have n11 : ¬ (ts.getD i node0).op = 50 := by omega
          have n12 : ¬ ((ts.getD i node0).op = 51 ∨ (ts.getD i node0).op = 52) := by omega
          have n13 : 36 ≤ (ts.getD i node0).op ∧ (ts.getD i node0).op ≤ 48 := by omega
          rw [if_neg n1, if_neg n2, if_neg n3, if_neg n4, if_neg n5, if_neg n6, if_neg n7, if_neg n8, if_neg n9, if_neg hm, if_neg n10, if_neg n11, if_neg n12, if_pos n13]
          rfl
        · simp only [List.mem_cons, List.not_mem_nil, or_false] at hk
          rcases hk with rfl | rfl
          · exact hfit _ h1
          · exact hfit _ h2
    · cases h
end

theorem exprM_fit (slots : List Int) (seen : Int → Option Value) : ∀ (f i : Nat), (exprM ts slots seen f i false).2.2 = false → Fit ts f i
  | 0, _, _ => trivial
  | f + 1, i, h => by
    have ih := exprM_fit slots seen f
    have ht := exprM_true (ts := ts) slots seen f
    have h0 : ∀ P : Prop, (kidsOf ts i).length = 0 → ∀ k ∈ kidsOf ts i, P := fun P h k hk => by rw [List.length_eq_zero_iff.1 h] at hk; simp at hk
    rw [exprM] at h
    generalize exprM ts slots seen f = rec at h ih ht
    show _ ∧ _
    unfold exprF at h
    simp only [Bool.false_eq_true, if_false] at h
    split at h
    · rename_i q
      simp only [Bool.or_eq_false_iff, Bool.not_eq_false', Bool.and_eq_true, decide_eq_true_eq] at h
      refine ⟨by unfold arityB; rw [q, h.1.2]; rfl, fun k hk => h0 _ h.1.2 k hk⟩
    split at h
    · rename_i q
      simp only [Bool.or_eq_false_iff, Bool.not_eq_false', decide_eq_true_eq] at h
      refine ⟨by unfold arityB; rw [h.1]; rcases q with q | q <;> rw [q] <;> rfl, fun k hk => h0 _ h.1 k hk⟩
    split at h
    · rename_i q
      split at h
      · rename_i hc
        refine ⟨by unfold arityB; rw [hc.2.2.2, q]; rfl, fun k hk => h0 _ hc.2.2.2 k hk⟩
      · cases h
    split at h
    · rename_i q
      split at h
      · cases h
      · rename_i s hs
        split at h
        · rename_i hc
          refine ⟨by unfold arityB; rw [hc.1, q, hs]; rfl, fun k hk => ?_⟩
          simp only [wantedF, Bool.or_eq_false_iff] at h
          match hk2 : kidsOf ts i, hc.1 with
          | [a], _ =>
            rw [hk2] at hk h
            rw [List.mem_singleton] at hk
            subst hk
            exact ih _ h.1
        · cases h
    split at h
    · rename_i q
      split at h
      · cases h
      · rename_i s hs
        have := callF_fit ht f ih h
        refine ⟨by unfold arityB; rw [q, hs, this.1]; simp, this.2⟩
    · exact operatorF_fit f ih h

/-- A step of the looker: nothing bad behind it says that its tree is fit. -/
def FitsS (ts : List Node) (f : Nat) (r : Nat → LSt → LSt) : Prop := ∀ i s, (r i s).bad = false → Fit ts f i
section
variable {recS recB : Nat → LSt → LSt} {f : Nat} (hS : FitsS ts f recS) (hB : FitsS ts f recB)
include hS hB
theorem blocksF_fit : ∀ (l : List Nat) (i : Nat) (s : LSt), (blocksF ts recS recB i l s).bad = false → s.bad = false ∧ ∀ k ∈ l, Fit ts f k
  | [], i, s, h => ⟨h, fun k hk => by simp at hk⟩
  | k :: r, i, s, h => by
    rw [blocksF] at h
    have ih := blocksF_fit r _ _ h
    obtain ⟨h1, h2⟩ := ih
    split at h1
    · rename_i hb; rw [hb] at h1; cases h1
    · rename_i hb
      refine ⟨by simpa using hb, fun j hj => ?_⟩
      rcases List.mem_cons.1 hj with rfl | hj
      · split at h1
        · exact hS _ _ h1
        · exact hB _ _ h1
      · exact h2 j hj
omit hB in
theorem blockLoop_fit : ∀ (l : List Nat) (own : List Int) (s : LSt), (blockLoop ts recS l own s).bad = false → s.bad = false ∧ ∀ k ∈ l, Fit ts f k
  | [], [], s, h => ⟨h, fun k hk => by simp at hk⟩
  | [], n :: o, s, h => by
    have := blockLoop_fit [] o (forget n s) (by simpa only [blockLoop, List.foldl_cons] using h)
    exact ⟨this.1, fun k hk => by simp at hk⟩
  | k :: r, own, s, h => by
    rw [blockLoop] at h
    split at h
    · rename_i hb; rw [hb] at h; cases h
    · rename_i hb
      obtain ⟨h1, h2⟩ := blockLoop_fit r _ _ h
      refine ⟨by simpa using hb, fun j hj => ?_⟩
      rcases List.mem_cons.1 hj with rfl | hj
      · exact hS _ _ h1
      · exact h2 j hj
omit hB in
theorem blockF_fit : FitsS ts (f + 1) (blockF ts recS) := by
  intro i s h
  unfold blockF at h
  simp only at h
  split at h
  · rename_i hc
    refine ⟨by unfold arityB; rw [if_pos hc.1], (blockLoop_fit hS _ _ _ h).2⟩
  · cases h
theorem stmtF_fit (hf : f ≤ ts.length) : FitsS ts (f + 1) (stmtF ts recS recB) := by
  intro i s h
  have h0 : ∀ P : Prop, (kidsOf ts i).length = 0 → ∀ k ∈ kidsOf ts i, P := fun P h k hk => by rw [List.length_eq_zero_iff.1 h] at hk; simp at hk
  have hE : ∀ {s : LSt} {k : Nat}, (exprS ts s k false).2.2 = false → Fit ts f k := fun h => (exprM_fit _ _ _ _ h).le hf
  have hV : ∀ {s : LSt} {k : Nat} {kd : Int}, s.bad = false → (valueF ts k kd s).bad = false → Fit ts f k := fun hb h => by
    unfold valueF highF at h
    rw [hb] at h
    simp only [wantedF, Bool.or_eq_false_iff] at h
    exact hE h.1.1
  have hVb : ∀ {s : LSt} {k : Nat} {kd : Int}, (valueF ts k kd s).bad = false → s.bad = false := fun {s k kd} h => by
    unfold valueF highF at h
    simp only [wantedF, Bool.or_eq_false_iff] at h
    cases hb : s.bad with
    | false => rfl
    | true => have h1 := h.1.1; rw [hb] at h1; unfold exprS at h1; rw [exprM_true] at h1; cases h1
  have hD : ∀ {n : Int} {b : Bool} {l : List Int} {s : LSt}, (declareF n b l s).bad = false → s.bad = false := fun {n b l s} h => by
    unfold declareF at h
    split at h
    · exact h
    · rename_i hb; simpa using hb
  have hb := fun l i s h => blocksF_fit (ts := ts) hS hB l i s h
  show _ ∧ _
  unfold stmtF at h
  simp only at h
  split at h
  · rename_i q
    split at h
    · rename_i hc
      have h1 := hD h
      simp only [highF, Bool.or_eq_false_iff] at h1
      refine ⟨by unfold arityB; rw [hc.1, q]; rfl, fun k hk => ?_⟩
      match hk2 : kidsOf ts i, hc.1 with
      | [a], _ => rw [hk2] at hk h1; rw [List.mem_singleton] at hk; subst hk; exact hE h1.1
    · cases h
  split at h
  · rename_i q
    split at h
    · rename_i hc
      refine ⟨by unfold arityB; rw [hc.1, q]; rfl, fun k hk => ?_⟩
      match hk2 : kidsOf ts i, hc.1 with
      | [a], _ => rw [hk2] at hk h; rw [List.mem_singleton] at hk; subst hk; exact hV (hVb h) h
    · cases h
  split at h
  · rename_i q
    split at h
    · rename_i hc
      have h1 := hb _ _ _ h
      refine ⟨by unfold arityB; rw [q]; rcases hc.1 with e | e <;> rw [e] <;> rfl, fun k hk => ?_⟩
      match hk2 : kidsOf ts i, hc.1 with
      | a :: r, _ =>
        rw [hk2] at hk h1
        rcases List.mem_cons.1 hk with rfl | hk
        · exact hV (hVb h1.1) h1.1
        · exact h1.2 k (by simpa using hk)
      | [], hl => simp at hl
    · cases h
  split at h
  · rename_i q
    split at h
    · rename_i hc
      have h1 := hb _ _ _ h
      refine ⟨by unfold arityB; rw [q, hc.1]; simpa using hc.2.1, h1.2⟩
    · cases h
  split at h
  · rename_i q
    split at h
    · rename_i hc
      have h1 := hb _ _ _ h
      refine ⟨by unfold arityB; rw [q, hc.1]; rfl, fun k hk => ?_⟩
      match hk2 : kidsOf ts i, hc.1 with
      | a :: r, _ =>
        rw [hk2] at hk h1
        rcases List.mem_cons.1 hk with rfl | hk
        · exact hV (hVb (hD h1.1)) (hD h1.1)
        · exact h1.2 k (by simpa using hk)
    · cases h
  split at h
  · rename_i q
    split at h
    · rename_i hc
      have har : arityB (ts.getD i node0) (kidsOf ts i).length = true := by unfold arityB; rw [q]; rcases hc.1 with e | e <;> rw [e] <;> rfl
      refine ⟨har, ?_⟩
      have key : ∀ l, (forget (ts.getD i node0).n (blocksF ts recS recB 0 l (declareF (ts.getD i node0).n false [3] (valueF ts ((kidsOf ts i).getD 0 0) 6 s)))).bad = false → Fit ts f ((kidsOf ts i).getD 0 0) ∧ ∀ k ∈ l, Fit ts f k := fun l h => by
        have h1 := hb _ _ _ (show (blocksF ts recS recB 0 l _).bad = false from h)
        exact ⟨hV (hVb (hD h1.1)) (hD h1.1), h1.2⟩
      match hk2 : kidsOf ts i, hc.1 with
      | [a, b], _ =>
        rw [hk2] at h key
        rw [if_neg (by simp)] at h
        obtain ⟨k1, k2⟩ := key _ h
        intro k hk
        simp only [List.mem_cons, List.not_mem_nil, or_false] at hk
        rcases hk with rfl | rfl
        · exact k1
        · exact k2 _ (by simp)
      | [a, b, d], _ =>
        rw [hk2] at h key
        by_cases hb2 : (forget (ts.getD i node0).n (blocksF ts recS recB 0 (List.take 1 (List.drop 1 [a, b, d])) (declareF (ts.getD i node0).n false [3] (valueF ts ([a, b, d].getD 0 0) 6 s)))).bad = false
        · rw [if_pos ⟨rfl, hb2⟩] at h
          obtain ⟨k1, k2⟩ := key _ hb2
          intro k hk
          simp only [List.mem_cons, List.not_mem_nil, or_false] at hk
          rcases hk with rfl | rfl | rfl
          · exact k1
          · exact k2 _ (by simp)
          · exact hB _ _ h
        · rw [if_neg (by simp only [not_and]; exact fun _ => hb2)] at h
          exact absurd h hb2
      | [], hl => simp at hl
      | [_], hl => simp at hl
      | _ :: _ :: _ :: _ :: _, hl => simp at hl
    · cases h
  split at h
  · rename_i q
    simp only [Bool.or_eq_false_iff, Bool.not_eq_false', decide_eq_true_eq] at h
    refine ⟨by unfold arityB; rw [h.1]; rcases q with q | q <;> rw [q] <;> rfl, fun k hk => h0 _ h.1 k hk⟩
  split at h
  · rename_i q
    split at h
    · cases h
    · rename_i sg hs
      simp only [highF, Bool.or_eq_false_iff] at h
      have := callF_fit (ts := ts) (rec := exprS ts s) (fun j => exprM_true _ _ _ _) f (fun j hj => hE hj) h.1
      refine ⟨by unfold arityB; rw [q, hs, this.1]; simp, this.2⟩
  · cases h
end
theorem sbM_fit (ts : List Node) : ∀ f, f ≤ ts.length + 1 → FitsS ts f (sbM ts f).1 ∧ FitsS ts f (sbM ts f).2
  | 0, _ => ⟨fun _ _ _ => trivial, fun _ _ _ => trivial⟩
  | f + 1, h => ⟨stmtF_fit (sbM_fit ts f (by omega)).1 (sbM_fit ts f (by omega)).2 (by omega), blockF_fit (sbM_fit ts f (by omega)).1⟩
end
end Go.Proofs.Ytggibiodeecljaa
namespace Go.Proofs.Ytggibiodeecljaa
open Go.RowKit

def maxB : Int := 4611686018427387904
def gadd (a b : Int) : Int := if maxB - a < b then maxB else a + b
def gtimes (a n : Int) : Int := if 0 < n ∧ maxB.tdiv n < a then maxB else a * n
def signGas (s : Sign) (c : Int) : Int := if s.many then 1 + c else 1
def costsF (l : List Sign) (n c : Int) : Int := match signOf l n with | none => 1 | some s => signGas s c
def gsides (l : List Int) (block : Int) : Int := if l.length < 3 then block else max (gadd block 1) (l.getD 2 0)
/-- bound's walk.node: the node's own part, its kids' costs known. -/
def gasF (x : Node) (l : List Int) (c : Int) : Int :=
  let sum := l.foldl gadd 0
  if x.op = 51 ∨ x.op = 52 ∨ x.op = 10 then sum
  else if x.op = 13 then gadd (gadd (l.getD 0 0) 1) (gsides l (l.getD 1 0))
  else if x.op = 16 then gadd (gadd (l.getD 0 0) 1) (gsides l (gadd (l.getD 1 0) 1))
  else if x.op = 14 then gadd (gadd 2 (gtimes 4 (x.n + 1))) (gtimes (gadd (l.getD 0 0) 5) x.n)
  else if x.op = 15 then gadd (gadd (gadd (l.getD 0 0) 3) (c + 1)) (gtimes (gadd (l.getD 1 0) 2) c)
  else if x.op = 49 then gadd sum (costsF fieldsM x.n c)
  else if x.op = 50 then gadd sum (costsF funcsM x.n c)
  else if x.op = 19 then gadd sum (costsF effectsM x.n c)
  else if x.op = 36 ∨ x.op = 37 then gadd (gadd (gadd sum 1) 1) 1
  else if x.op = 39 then gadd (gadd sum 1) 1
  else gadd sum 1
noncomputable def gasM (ts : List Node) (c : Int) : Nat → Nat → Int
  | 0, _ => 0
  | f + 1, i => gasF (ts.getD i node0) ((kidsOf ts i).map (gasM ts c f)) c
/-- bound.Able, of an ability that may be. -/
noncomputable def ableGas (when_ : Bool) (ts : List Node) (c : Int) : Int :=
  if when_ then gadd (gadd (gadd 1 1) (gasM ts c ts.length 0)) (gasM ts c ts.length (behind ts 0).toNat) else gadd 1 (gasM ts c ts.length 0)

/-- A cost: none below nought, none above the end. -/
def IsGas (a : Int) : Prop := 0 ≤ a ∧ a ≤ maxB
theorem gadd_eq {a b : Int} (_ha : IsGas a) (_hb : IsGas b) : gadd a b = min maxB (a + b) := by
  unfold gadd IsGas at *; split <;> omega
theorem gadd_gas {a b : Int} (_ha : IsGas a) (_hb : 0 ≤ b) : IsGas (gadd a b) := by
  unfold gadd IsGas at *; split <;> constructor <;> omega
theorem gadd_mono {a a' b b' : Int} (h1 : a ≤ a') (h2 : b ≤ b') (_ha : IsGas a') (_hb : 0 ≤ b') : gadd a b ≤ gadd a' b' := by
  unfold gadd IsGas maxB at *; split <;> split <;> omega
theorem gadd_ge {a b : Int} (_ha : IsGas a) (_hb : 0 ≤ b) : a ≤ gadd a b := by
  unfold gadd IsGas maxB at *; split <;> omega
theorem gtimes_eq {a n : Int} (_ha : 0 ≤ a) (hn : 0 ≤ n) : gtimes a n = min maxB (a * n) := by
  unfold gtimes
  have hM : (0 : Int) ≤ maxB := by decide
  rw [Int.tdiv_eq_ediv_of_nonneg hM]
  by_cases h0 : 0 < n
  · by_cases h1 : maxB / n < a
    · rw [if_pos ⟨h0, h1⟩]
      have : maxB < a * n := by rw [Int.ediv_lt_iff_lt_mul h0] at h1; exact h1
      omega
    · rw [if_neg (fun h => h1 h.2)]
      have : a * n ≤ maxB := by
        have h2 : a ≤ maxB / n := by omega
        exact (Int.le_ediv_iff_mul_le h0).1 h2
      omega
  · rw [if_neg (fun h => h0 h.1)]
    obtain rfl : n = 0 := by omega
    rw [Int.mul_zero]
    omega
theorem gtimes_gas {a n : Int} (ha : 0 ≤ a) (hn : 0 ≤ n) : IsGas (gtimes a n) := by
  rw [gtimes_eq ha hn]
  have : 0 ≤ a * n := Int.mul_nonneg ha hn
  have hM : (0 : Int) ≤ maxB := by decide
  unfold IsGas; omega
theorem gtimes_mono {a a' n n' : Int} (ha : 0 ≤ a) (hn : 0 ≤ n) (h1 : a ≤ a') (h2 : n ≤ n') : gtimes a n ≤ gtimes a' n' := by
  rw [gtimes_eq ha hn, gtimes_eq (by omega) (by omega)]
  have : a * n ≤ a' * n' := Int.mul_le_mul h1 h2 hn (by omega)
  omega
theorem signGas_pos (s : Sign) {c : Int} (hc : 0 ≤ c) : 1 ≤ signGas s c := by unfold signGas; split <;> omega
theorem costsF_pos (l : List Sign) (n : Int) {c : Int} (hc : 0 ≤ c) : 1 ≤ costsF l n c := by
  unfold costsF; split
  · omega
  · exact signGas_pos _ hc
theorem costsF_mono (l : List Sign) (n : Int) {c c' : Int} (h : c ≤ c') : costsF l n c ≤ costsF l n c' := by
  unfold costsF; split
  · omega
  · unfold signGas; split <;> omega
theorem costsF_le (l : List Sign) (n : Int) {c : Int} (hc : 0 ≤ c) : costsF l n c ≤ 1 + c := by
  unfold costsF; split
  · omega
  · unfold signGas; split <;> omega

theorem zero_gas : IsGas 0 := by unfold IsGas maxB; omega
theorem foldl_gas : ∀ (l : List Int) (a : Int), IsGas a → (∀ x ∈ l, IsGas x) → IsGas (l.foldl gadd a)
  | [], _, h, _ => h
  | x :: l, a, h, hl => foldl_gas l _ (gadd_gas h (hl x (by simp)).1) (fun y hy => hl y (by simp [hy]))
theorem getD_gas {l : List Int} (hl : ∀ x ∈ l, IsGas x) (i : Nat) : IsGas (l.getD i 0) := by
  rw [List.getD_eq_getElem?_getD]
  cases h : l[i]? with
  | none => exact zero_gas
  | some x => exact hl x (List.mem_of_getElem? h)
theorem gsides_gas {l : List Int} {b : Int} (hl : ∀ x ∈ l, IsGas x) (hb : IsGas b) : IsGas (gsides l b) := by
  have h1 := gadd_gas hb (b := 1) (by omega)
  have h2 := getD_gas hl 2
  unfold gsides IsGas at *
  split <;> constructor <;> omega
theorem gasF_gas (x : Node) (l : List Int) (c : Int) (hc : 0 ≤ c) (hx : x.op = 14 → 0 ≤ x.n) (hl : ∀ x ∈ l, IsGas x) : IsGas (gasF x l c) := by
  have hs := foldl_gas l 0 zero_gas hl
  have h0 := getD_gas hl 0
  have h1 := getD_gas hl 1
  have g1 : (0 : Int) ≤ 1 := by omega
  unfold gasF
  simp only
  split
  · exact hs
  split
  · exact gadd_gas (gadd_gas h0 g1) (gsides_gas hl h1).1
  split
  · exact gadd_gas (gadd_gas h0 g1) (gsides_gas hl (gadd_gas h1 g1)).1
  split
  · rename_i q
    have := hx q
    exact gadd_gas (gadd_gas (by unfold IsGas maxB; omega) (gtimes_gas (by omega) (by omega)).1) (gtimes_gas (gadd_gas h0 (by omega)).1 this).1
  split
  · exact gadd_gas (gadd_gas (gadd_gas h0 (by omega)) (by omega)) (gtimes_gas (gadd_gas h1 (by omega)).1 hc).1
  split
  · exact gadd_gas hs (by have := costsF_pos fieldsM x.n hc; omega)
  split
  · exact gadd_gas hs (by have := costsF_pos funcsM x.n hc; omega)
  split
  · exact gadd_gas hs (by have := costsF_pos effectsM x.n hc; omega)
  split
  · exact gadd_gas (gadd_gas (gadd_gas hs g1) g1) g1
  split
  · exact gadd_gas (gadd_gas hs g1) g1
  · exact gadd_gas hs g1

/-- So small are the numbers of rounds in a tree that fits. -/
theorem arity_rounds {x : Node} {n : Nat} (h : arityB x n = true) (q : x.op = 14) : n = 1 ∧ 0 ≤ x.n ∧ x.n ≤ 255 := by
  unfold arityB at h
  rw [q] at h
  have e : (if (14 : Int) = 10 then true else if (14 : Int) = 11 ∨ (14 : Int) = 12 then n == 1 else if (14 : Int) = 13 then n == 2 || n == 3 else if (14 : Int) = 14 then n == 1 && decide (0 ≤ x.n) && decide (x.n ≤ 255) else false) = (n == 1 && decide (0 ≤ x.n) && decide (x.n ≤ 255)) := rfl
  have h2 : (n == 1 && decide (0 ≤ x.n) && decide (x.n ≤ 255)) = true := h
  simp only [Bool.and_eq_true, beq_iff_eq, decide_eq_true_eq] at h2
  omega

theorem gasM_gas (ts : List Node) (c : Int) (hc : 0 ≤ c) : ∀ (f i : Nat), Fit ts f i → IsGas (gasM ts c f i)
  | 0, _, _ => zero_gas
  | f + 1, i, h => by
    refine gasF_gas _ _ _ hc (fun q => (arity_rounds h.1 q).2.1) fun y hy => ?_
    obtain ⟨k, hk, rfl⟩ := List.mem_map.1 hy
    exact gasM_gas ts c hc f k (h.2 k hk)

/-- Two rows of costs, each of the one no more than its of the other. -/
def RowLe : List Int → List Int → Prop
  | [], [] => True
  | a :: l, b :: m => a ≤ b ∧ RowLe l m
  | _, _ => False
theorem RowLe.length : ∀ {l m : List Int}, RowLe l m → l.length = m.length
  | [], [], _ => rfl
  | a :: l, b :: m, h => by simp [RowLe.length h.2]
theorem RowLe.getD : ∀ {l m : List Int} (i : Nat), RowLe l m → l.getD i 0 ≤ m.getD i 0
  | [], [], _, _ => by simp
  | a :: l, b :: m, 0, h => h.1
  | a :: l, b :: m, i + 1, h => by
    have := RowLe.getD i h.2
    simpa using this
theorem RowLe.map {α : Type} {f g : α → Int} : ∀ (l : List α), (∀ x ∈ l, f x ≤ g x) → RowLe (l.map f) (l.map g)
  | [], _ => trivial
  | x :: l, h => ⟨h x (by simp), RowLe.map l fun y hy => h y (by simp [hy])⟩
theorem RowLe.foldl : ∀ {l m : List Int} {a b : Int}, RowLe l m → a ≤ b → IsGas b → (∀ x ∈ m, IsGas x) → l.foldl gadd a ≤ m.foldl gadd b
  | [], [], _, _, _, h, _, _ => h
  | x :: l, y :: m, a, b, h, hab, hb, hm => by
    rw [List.foldl_cons, List.foldl_cons]
    have hy := hm y (by simp)
    exact RowLe.foldl h.2 (gadd_mono hab h.1 hb hy.1) (gadd_gas hb hy.1) fun z hz => hm z (by simp [hz])

theorem gsides_mono {l m : List Int} {b b' : Int} (h : RowLe l m) (hb : b ≤ b') (hb' : IsGas b') : gsides l b ≤ gsides m b' := by
  have h1 := gadd_mono hb (Int.le_refl 1) hb' (by omega)
  have h2 := h.getD 2
  have h3 := h.length
  unfold gsides
  split <;> split <;> omega
set_option maxHeartbeats 2000000 in
theorem gasF_mono (x : Node) {l m : List Int} {c c' : Int} (h0c : 0 ≤ c) (hc : c ≤ c') (hx : x.op = 14 → 0 ≤ x.n) (h : RowLe l m) (hl : ∀ x ∈ l, IsGas x) (hm : ∀ x ∈ m, IsGas x) : gasF x l c ≤ gasF x m c' := by
  have hs := h.foldl (Int.le_refl 0) zero_gas hm
  have gs := foldl_gas m 0 zero_gas hm
  have a0 := h.getD 0
  have a1 := h.getD 1
  have g0 := getD_gas hm 0
  have g1 := getD_gas hm 1
  have l0 := getD_gas hl 0
  have l1 := getD_gas hl 1
  have u : (0 : Int) ≤ 1 := by omega
  have hone : (1 : Int) ≤ 1 := by omega
  have add1 : ∀ {a b : Int}, a ≤ b → IsGas b → gadd a 1 ≤ gadd b 1 := fun h hb => gadd_mono h hone hb u
  unfold gasF
  simp only
  split
  · exact hs
  split
  · exact gadd_mono (add1 a0 g0) (gsides_mono h a1 g1) (gadd_gas g0 u) (gsides_gas hm g1).1
  split
  · exact gadd_mono (add1 a0 g0) (gsides_mono h (add1 a1 g1) (gadd_gas g1 u)) (gadd_gas g0 u) (gsides_gas hm (gadd_gas g1 u)).1
  split
  · rename_i q
    have hn := hx q
    have five : (0 : Int) ≤ 5 := by omega
    have k2 : IsGas 2 := by unfold IsGas maxB; omega
    have k4 : IsGas (gtimes 4 (x.n + 1)) := gtimes_gas (by omega) (by omega)
    have k5 : gadd (l.getD 0 0) 5 ≤ gadd (m.getD 0 0) 5 := gadd_mono a0 (Int.le_refl 5) g0 five
    have k6 : gtimes (gadd (l.getD 0 0) 5) x.n ≤ gtimes (gadd (m.getD 0 0) 5) x.n := gtimes_mono (gadd_gas l0 five).1 hn k5 (Int.le_refl x.n)
    have k7 : IsGas (gtimes (gadd (m.getD 0 0) 5) x.n) := gtimes_gas (gadd_gas g0 five).1 hn
    exact gadd_mono (Int.le_refl (gadd 2 (gtimes 4 (x.n + 1)))) k6 (gadd_gas k2 k4.1) k7.1
  split
  · have three : (0 : Int) ≤ 3 := by omega
    have two : (0 : Int) ≤ 2 := by omega
    have hc' : 0 ≤ c' := by omega
    have hc1 : c + 1 ≤ c' + 1 := by omega
    have hc2 : 0 ≤ c' + 1 := by omega
    have k1 : gadd (l.getD 0 0) 3 ≤ gadd (m.getD 0 0) 3 := gadd_mono a0 (Int.le_refl 3) g0 three
    have k2 := gadd_mono k1 hc1 (gadd_gas g0 three) hc2
    have k3 : gadd (l.getD 1 0) 2 ≤ gadd (m.getD 1 0) 2 := gadd_mono a1 (Int.le_refl 2) g1 two
    have k4 := gtimes_mono (gadd_gas l1 two).1 h0c k3 hc
    have k5 : IsGas (gtimes (gadd (m.getD 1 0) 2) c') := gtimes_gas (gadd_gas g1 two).1 hc'
    exact gadd_mono k2 k4 (gadd_gas (gadd_gas g0 three) hc2) k5.1
  split
  · exact gadd_mono hs (costsF_mono _ _ hc) gs (by have := costsF_pos fieldsM x.n (c := c') (by omega); omega)
  split
  · exact gadd_mono hs (costsF_mono _ _ hc) gs (by have := costsF_pos funcsM x.n (c := c') (by omega); omega)
  split
  · exact gadd_mono hs (costsF_mono _ _ hc) gs (by have := costsF_pos effectsM x.n (c := c') (by omega); omega)
  split
  · exact add1 (add1 (add1 hs gs) (gadd_gas gs u)) (gadd_gas (gadd_gas gs u) u)
  split
  · exact add1 (add1 hs gs) (gadd_gas gs u)
  · exact add1 hs gs
theorem gasM_mono (ts : List Node) {c c' : Int} (h0 : 0 ≤ c) (hc : c ≤ c') : ∀ (f i : Nat), Fit ts f i → gasM ts c f i ≤ gasM ts c' f i
  | 0, _, _ => Int.le_refl _
  | f + 1, i, h => by
    refine gasF_mono _ h0 hc (fun q => (arity_rounds h.1 q).2.1) (RowLe.map _ fun k hk => gasM_mono ts h0 hc f k (h.2 k hk)) ?_ ?_
    · intro y hy
      obtain ⟨k, hk, rfl⟩ := List.mem_map.1 hy
      exact gasM_gas ts c h0 f k (h.2 k hk)
    · intro y hy
      obtain ⟨k, hk, rfl⟩ := List.mem_map.1 hy
      exact gasM_gas ts c' (by omega) f k (h.2 k hk)

/-- Fuel beyond what is left of the list says nothing. -/
theorem gasM_fuel (ts : List Node) (c : Int) : ∀ (f g i : Nat), ts.length ≤ i + f → ts.length ≤ i + g → i < ts.length → gasM ts c f i = gasM ts c g i
  | 0, g, i, h1, _, h3 => absurd h3 (by omega)
  | f + 1, 0, i, _, h2, h3 => absurd h3 (by omega)
  | f + 1, g + 1, i, h1, h2, h3 => by
    rw [gasM, gasM]
    congr 1
    refine List.map_congr_left fun k hk => ?_
    have := kidsOf_ok hk
    exact gasM_fuel ts c f g k (by omega) (by omega) (by omega)
theorem Fit.fuel {ts : List Node} : ∀ {f g i : Nat}, Fit ts f i → ts.length ≤ i + f → i < ts.length → Fit ts g i
  | _, 0, _, _, _, _ => trivial
  | 0, g + 1, i, _, h1, h2 => absurd h2 (by omega)
  | f + 1, g + 1, i, h, h1, _ => ⟨h.1, fun k hk => by
    have := kidsOf_ok hk
    exact (h.2 k hk).fuel (by omega) (by omega)⟩
end Go.Proofs.Ytggibiodeecljaa
