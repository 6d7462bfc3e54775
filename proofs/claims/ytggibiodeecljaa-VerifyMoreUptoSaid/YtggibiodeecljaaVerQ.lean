/- verify.Code's loop, as plain functions: what a round keeps; with more slots and a stop behind the same rounds. No program in sight. -/
import Derived.Test.YtggibiodeecljaaVerP
import Derived.Test.YtggibiodeecljaaHeapM
namespace Go.Proofs.Ytggibiodeecljaa
open Go.RowKit
set_option linter.unusedVariables false

/-- How many offsets have no shape. -/
def freeV : Nat → (Int → Option (List Int)) → Nat
  | 0, _ => 0
  | n + 1, st => freeV n st + (if (st (n : Int)).isNone = true then 1 else 0)
theorem free_far (st : Int → Option (List Int)) (tg : Int) (s : List Int) : ∀ n : Nat, (n : Int) ≤ tg → freeV n (setV st tg s) = freeV n st
  | 0, _ => rfl
  | n + 1, h => by
    have e : setV st tg s (n : Int) = st (n : Int) := by unfold setV; rw [if_neg (by omega)]
    rw [freeV, freeV, free_far st tg s n (by omega), e]
theorem free_set (st : Int → Option (List Int)) (tg : Int) (s : List Int) (h0 : 0 ≤ tg) (h2 : st tg = none) : ∀ n : Nat, tg < n → freeV n (setV st tg s) + 1 = freeV n st
  | 0, h => by omega
  | n + 1, h => by
    rw [freeV, freeV]
    by_cases e : tg = n
    · subst e
      have e2 : setV st (n : Int) s (n : Int) = some s := by unfold setV; rw [if_pos rfl]
      rw [free_far st n s n (by omega), e2, h2]
      rfl
    · have := free_set st tg s h0 h2 n (by omega)
      have e2 : setV st tg s (n : Int) = st (n : Int) := by unfold setV; rw [if_neg (by omega)]
      rw [e2]
      omega
theorem free_none (n : Nat) : freeV n (fun _ => none) = n := by
  induction n with
  | zero => rfl
  | succ n ih => rw [freeV, ih]; rfl
section
variable {P : HEnt → Prop}
theorem atH_all {l : List HEnt} (h0 : P (0, 0)) (h : ∀ e ∈ l, P e) (i : Nat) : P (atH l i) := by
  unfold atH
  rw [List.getD_eq_getElem?_getD]
  cases hq : l[i]? with
  | none => exact h0
  | some e => exact h e (List.mem_of_getElem? hq)
theorem swapH_all {l : List HEnt} (h0 : P (0, 0)) (h : ∀ e ∈ l, P e) (i k : Nat) : ∀ e ∈ swapH l i k, P e := fun e he => by
  unfold swapH at he
  rcases List.mem_or_eq_of_mem_set he with he | he
  · rcases List.mem_or_eq_of_mem_set he with he | he
    · exact h e he
    · rw [he]; exact atH_all h0 h k
  · rw [he]; exact atH_all h0 h i
theorem upH_all (h0 : P (0, 0)) : ∀ (f i : Nat) (l : List HEnt), (∀ e ∈ l, P e) → ∀ e ∈ upH f i l, P e
  | 0, i, l, h => h
  | f + 1, i, l, h => by
    rw [upH]
    split
    · exact upH_all h0 f _ _ (swapH_all h0 h _ _)
    · exact h
theorem putH_all (h0 : P (0, 0)) {l : List HEnt} {e : HEnt} (h : ∀ e ∈ l, P e) (he : P e) : ∀ y ∈ putH l e, P y := by
  unfold putH
  refine upH_all h0 _ _ _ fun y hy => ?_
  rcases List.mem_append.1 hy with hy | hy
  · exact h y hy
  · rw [List.mem_singleton.1 hy]; exact he
theorem downH_all (h0 : P (0, 0)) : ∀ (f i : Nat) (l : List HEnt), (∀ e ∈ l, P e) → ∀ e ∈ downH f i l, P e
  | 0, i, l, h => h
  | f + 1, i, l, h => by
    rw [downH]
    split
    · exact h
    split
    · exact downH_all h0 f _ _ (swapH_all h0 h _ _)
    · exact h
theorem takeH_all (h0 : P (0, 0)) {l : List HEnt} (h : ∀ e ∈ l, P e) : ∀ y ∈ takeH l, P y := by
  unfold takeH
  refine downH_all h0 _ _ _ fun y hy => ?_
  unfold cutH at hy
  rcases List.mem_or_eq_of_mem_set (List.mem_of_mem_take hy) with hy | hy
  · exact h y hy
  · rw [hy]; exact atH_all h0 h _
end
/-- What the rounds keep. -/
structure VOk (len m : Nat) (v : VS) : Prop where
  cnt : v.heap.length + freeV len v.stacks = m
  came0 : 0 ≤ v.came
  came : v.came + freeV len v.stacks = len
  heap : ∀ e ∈ v.heap, 0 ≤ e.1 ∧ e.1 < len
  top : ∀ y, y < 0 ∨ (len : Int) ≤ y → v.stacks y = none
  high : ∀ y s, v.stacks y = some s → s.length ≤ 256
  zero : v.stacks 0 = some []
theorem VOk.start {len : Nat} (h : 0 < len) : VOk len len startV := by
  have hf : freeV len (setV (fun _ => none) 0 []) + 1 = len := by
    rw [free_set (fun _ => none) 0 [] (Int.le_refl _) rfl len (by omega), free_none]
  refine ⟨?_, by decide, ?_, fun e he => ?_, fun y hy => ?_, fun y s hs => ?_, rfl⟩
  · show 1 + freeV len (setV (fun _ => none) 0 []) = len; omega
  · show (1 : Int) + (freeV len (setV (fun _ => none) 0 []) : Int) = len; omega
  · have : e = (0, 0) := List.mem_singleton.1 he
    rw [this]; simp; omega
  · show setV (fun _ => none) 0 [] y = none
    unfold setV
    rw [if_neg (by omega)]
  · have : setV (fun _ => none) 0 [] y = some s := hs
    unfold setV at this
    split at this
    · injection this with this; rw [← this]; decide
    · cases this
theorem VOk.push {len m : Nat} {v : VS} (h : VOk len m v) {tg : Int} {st : List Int} (h0 : 0 ≤ tg) (h1 : tg < len) (h2 : v.stacks tg = none) (h3 : st.length ≤ 256) : VOk len m ⟨setV v.stacks tg st, putH v.heap (tg, v.came), v.came + 1⟩ := by
  have hf := free_set v.stacks tg st h0 h2 len h1
  have h4 := h.cnt
  have h5 := h.came
  have h6 := h.came0
  refine ⟨?_, ?_, ?_, ?_, fun y hy => ?_, fun y s hs => ?_, ?_⟩
  · simp only [putH_len]; omega
  · simp only; omega
  · simp only; omega
  · exact putH_all (P := fun e => 0 ≤ e.1 ∧ e.1 < len) ⟨Int.le_refl _, by show (0 : Int) < len; omega⟩ h.heap ⟨h0, h1⟩
  · show setV v.stacks tg st y = none
    unfold setV
    rw [if_neg (by omega)]
    exact h.top y hy
  · have hs' : setV v.stacks tg st y = some s := hs
    unfold setV at hs'
    split at hs'
    · injection hs' with e; rw [← e]; exact h3
    · exact h.high y s hs'
  · show setV v.stacks tg st 0 = some []
    unfold setV
    by_cases e : (0 : Int) = tg
    · rw [← e, h.zero] at h2; cases h2
    · rw [if_neg e]; exact h.zero
theorem VOk.take {len m : Nat} {v : VS} (h : VOk len m v) (hne : v.heap ≠ []) : VOk len (m - 1) ⟨v.stacks, takeH v.heap, v.came⟩ ∧ 1 ≤ m ∧ 0 ≤ (atH v.heap 0).1 ∧ (atH v.heap 0).1 < len := by
  have h4 := h.cnt
  have h1 : 1 ≤ v.heap.length := by cases hq : v.heap with | nil => exact absurd hq hne | cons a r => simp
  obtain ⟨a, ha⟩ : ∃ a, a ∈ v.heap := by cases hq : v.heap with | nil => exact absurd hq hne | cons a r => exact ⟨a, by simp⟩
  have hl := h.heap a ha
  have hP : 0 ≤ ((0, 0) : HEnt).1 ∧ ((0, 0) : HEnt).1 < (len : Int) := ⟨Int.le_refl _, by show (0 : Int) < len; omega⟩
  refine ⟨⟨?_, h.came0, h.came, takeH_all (P := fun e => 0 ≤ e.1 ∧ e.1 < len) hP h.heap, h.top, h.high, h.zero⟩, by omega, atH_all (P := fun e => 0 ≤ e.1 ∧ e.1 < len) hP h.heap 0⟩
  simp only [takeH_len]
  omega
theorem give_ok {len m : Nat} {v : VS} (h : VOk len m v) {frm tg : Int} {st : List Int} (h0 : 0 ≤ tg) (h3 : st.length ≤ 256) : VOk len m (giveV len frm tg st v).1 := by
  unfold giveV
  by_cases c1 : (len : Int) ≤ tg
  · rw [if_pos c1]; exact h
  rw [if_neg c1]
  cases hs : v.stacks tg with
  | some s =>
    simp only
    by_cases c2 : s = st
    · rw [if_pos c2]; exact h
    · rw [if_neg c2]; exact h
  | none => exact h.push h0 (by omega) hs h3
theorem look_ok {len m : Nat} {v : VS} {slots : List Int} {x : Ins} (h : VOk len m v) (h0 : 0 ≤ x.at_ + sizeI x.op) (ht : ∀ tg, targetV x = some tg → 0 ≤ tg) : VOk len m (lookV len slots x v).1 := by
  unfold lookV
  simp only
  split
  · exact h
  split
  · exact h
  split
  · exact h
  rename_i c3
  split
  · exact h
  have hb : ((List.take (((v.stacks x.at_).getD []).length - (takesV slots x).1.length) ((v.stacks x.at_).getD [])) ++ (takesV slots x).2).length ≤ 256 := by omega
  have hr : VOk len m (if x.op = 30 then (v, none) else giveV len x.at_ (x.at_ + sizeI x.op) ((List.take (((v.stacks x.at_).getD []).length - (takesV slots x).1.length) ((v.stacks x.at_).getD [])) ++ (takesV slots x).2) v : VS × Option (Int × Int)).1 := by
    split
    · exact h
    · exact give_ok h h0 hb
  split
  · exact hr
  · cases htg : targetV x with
    | none => exact hr
    | some tg =>
      simp only
      refine give_ok hr (ht tg htg) ?_
      split
      · have : (List.take (((v.stacks x.at_).getD []).length - (takesV slots x).1.length) ((v.stacks x.at_).getD []) ++ (takesV slots x).2).length = (List.take (((v.stacks x.at_).getD []).length - (takesV slots x).1.length) ((v.stacks x.at_).getD [])).length + (takesV slots x).2.length := List.length_append
        omega
      · exact hb
/-- What is looked at: an instruction, or none. -/
theorem insAt_mem {l : List Ins} {o : Int} {x : Ins} (h : insAt l o = some x) : x ∈ l ∧ x.at_ = o := by
  unfold insAt at h
  exact ⟨List.mem_of_find?_eq_some h, by simpa using List.find?_some h⟩
theorem ins0_num (slots : List Int) (ints texts : Int) : numbersV slots ints texts ins0 = 0 := by
  unfold numbersV
  rw [if_neg (by simp [ins0]), if_neg (by simp [ins0]), if_neg (by simp [ins0])]
  rfl
/-- The instruction that a round looks at. -/
structure AtOk (len : Nat) (slots : List Int) (ints texts : Int) (x : Ins) : Prop where
  a0 : 0 ≤ x.a
  at0 : 0 ≤ x.at_
  lt : x.at_ < len
  num : numbersV slots ints texts x = 0
  next : 0 ≤ x.at_ + sizeI x.op
  tg : ∀ tg, targetV x = some tg → 0 ≤ tg
theorem at_ok {len : Nat} {slots : List Int} {ints texts : Int} {l : List Ins} (hl : ∀ x ∈ l, InsOk len slots ints texts x) (h0 : 0 < len) (o : Int) : AtOk len slots ints texts ((insAt l o).getD ins0) := by
  cases hq : insAt l o with
  | none => exact ⟨by decide, by decide, by show (0 : Int) < len; omega, ins0_num _ _ _, by decide, fun tg h => by have h' : (none : Option Int) = some tg := h; cases h'⟩
  | some x =>
    obtain ⟨hm, _⟩ := insAt_mem hq
    have h := hl x hm
    refine ⟨h.a0, h.at0, h.lt, h.num, ?_, fun tg ht => ?_⟩
    · show 0 ≤ x.at_ + sizeI x.op
      have := h.at0
      have := h.size
      omega
    · have ht' : targetV x = some tg := ht
      unfold targetV at ht'
      have := h.a0
      have := h.c0
      split at ht'
      · injection ht' with e; omega
      · split at ht'
        · injection ht' with e; omega
        · cases ht'
end Go.Proofs.Ytggibiodeecljaa
