/- verify.Code as plain functions: what the looks keep; more slots, pools and a stop behind change nothing. No program in sight. -/
import Derived.Test.YtggibiodeecljaaVer3
namespace Go.Proofs.Ytggibiodeecljaa
open Go.RowKit
set_option linter.unusedVariables false

/-- An instruction that the second look let by. -/
structure InsOk (len : Nat) (slots : List Int) (ints texts : Int) (x : Ins) : Prop where
  a0 : 0 ≤ x.a
  b0 : 0 ≤ x.b
  c0 : 0 ≤ x.c
  at0 : 0 ≤ x.at_
  lt : x.at_ < len
  size : 1 ≤ sizeI x.op
  fits : x.at_ + sizeI x.op ≤ len
  num : numbersV slots ints texts x = 0
theorem getD_snoc {b : List Int} {j : Nat} (h : j < b.length) (t : List Int) : (b ++ t).getD j 0 = b.getD j 0 := by
  rw [List.getD_eq_getElem?_getD, List.getD_eq_getElem?_getD, List.getElem?_append_left h]
theorem readM_parts {b : List Int} {o : Int} {x : Ins} (h : readM b o = (x, 0)) : 0 ≤ o ∧ o < b.length ∧ ∃ p, formOf (b.getD o.toNat 0) = some p ∧ sizeK p.2 ≤ (b.length : Int) - o - 1 ∧ x = ⟨o, b.getD o.toNat 0, opA p.2 b o.toNat, opB p.2 b o.toNat, opC p.2 b o.toNat⟩ := by
  unfold readM at h
  split at h
  · exact absurd (Prod.mk.inj h).2 (by decide)
  · rename_i h1
    split at h
    · exact absurd (Prod.mk.inj h).2 (by decide)
    · rename_i p hp
      split at h
      · exact absurd (Prod.mk.inj h).2 (by decide)
      · rename_i h2
        exact ⟨by omega, by omega, p, hp, by omega, (Prod.mk.inj h).1.symm⟩
theorem readM_snoc {b : List Int} {o : Int} {x : Ins} (h : readM b o = (x, 0)) (t : List Int) : readM (b ++ t) o = (x, 0) := by
  obtain ⟨h0, h1, p, hp, hs, rfl⟩ := readM_parts h
  unfold readM
  rw [if_neg (by simp; omega), getD_snoc (by omega), hp]
  simp only
  rw [if_neg (by simp; omega)]
  have hk := form_kind hp
  obtain ⟨n, k⟩ := p
  simp only at hk hs ⊢
  rcases hk with rfl | rfl | rfl | rfl
  · rfl
  · have hs1 : (1 : Int) ≤ (b.length : Int) - o - 1 := hs
    have e1 := getD_snoc (b := b) (j := o.toNat + 1) (by omega) t
    simp only [List.getD_eq_getElem?_getD] at *
    simp [opA, opB, opC, e1]
  · have hs1 : (2 : Int) ≤ (b.length : Int) - o - 1 := hs
    have e1 := getD_snoc (b := b) (j := o.toNat + 1) (by omega) t
    have e2 := getD_snoc (b := b) (j := o.toNat + 2) (by omega) t
    simp only [List.getD_eq_getElem?_getD] at *
    simp [opA, opB, opC, e1, e2]
  · have hs1 : (4 : Int) ≤ (b.length : Int) - o - 1 := hs
    have e1 := getD_snoc (b := b) (j := o.toNat + 1) (by omega) t
    have e2 := getD_snoc (b := b) (j := o.toNat + 2) (by omega) t
    have e3 := getD_snoc (b := b) (j := o.toNat + 3) (by omega) t
    have e4 := getD_snoc (b := b) (j := o.toNat + 4) (by omega) t
    simp only [List.getD_eq_getElem?_getD] at *
    simp [opA, opB, opC, e1, e2, e3, e4]
theorem readM_fine {b slots : List Int} {ints texts : Int} (hb : ∀ x ∈ b, 0 ≤ x ∧ x ≤ 255) {o : Int} {x : Ins} (h : readM b o = (x, 0)) (hn : numbersV slots ints texts x = 0) : InsOk b.length slots ints texts x ∧ x.at_ = o := by
  obtain ⟨h1, h2, h3, h4⟩ := readM_ok hb h
  obtain ⟨h5, h6, p, hp, hs, hx⟩ := readM_parts h
  refine ⟨⟨h2, h3, ?_, by omega, by omega, h4, ?_, hn⟩, h1⟩
  · rw [hx]
    show 0 ≤ opC p.2 b o.toNat
    have := getD_byte hb (o.toNat + 3)
    have := getD_byte hb (o.toNat + 4)
    unfold opC
    split <;> omega
  · rw [h1, hx]
    show o + sizeI (b.getD o.toNat 0) ≤ b.length
    unfold sizeI
    rw [hp]
    simp only
    omega
theorem poolV_more {ints texts ints' texts' : Int} (hi : ints ≤ ints') (ht : texts ≤ texts') (op : Int) : (poolV ints texts op = none ∧ poolV ints' texts' op = none) ∨ ∃ m m', poolV ints texts op = some m ∧ poolV ints' texts' op = some m' ∧ m ≤ m' := by
  unfold poolV
  by_cases c1 : op = 1
  · rw [if_pos c1, if_pos c1]; exact .inr ⟨_, _, rfl, rfl, hi⟩
  rw [if_neg c1, if_neg c1]
  by_cases c2 : op = 45
  · rw [if_pos c2, if_pos c2]; exact .inr ⟨_, _, rfl, rfl, ht⟩
  rw [if_neg c2, if_neg c2]
  by_cases c3 : op = 41
  · rw [if_pos c3]; exact .inr ⟨_, _, rfl, rfl, Int.le_refl _⟩
  rw [if_neg c3]
  by_cases c4 : op = 46
  · rw [if_pos c4]; exact .inr ⟨_, _, rfl, rfl, Int.le_refl _⟩
  rw [if_neg c4]
  by_cases c5 : op = 60
  · rw [if_pos c5]; exact .inr ⟨_, _, rfl, rfl, Int.le_refl _⟩
  rw [if_neg c5]
  exact .inl ⟨rfl, rfl⟩
theorem numbersV_more {slots : List Int} (t : List Int) {ints texts ints' texts' : Int} {x : Ins} (hi : ints ≤ ints') (ht : texts ≤ texts') (ha : 0 ≤ x.a) (hb : 0 ≤ x.b) (h : numbersV slots ints texts x = 0) : numbersV (slots ++ t) ints' texts' x = 0 := by
  have hl : ((slots ++ t).length : Int) = slots.length + t.length := by simp
  unfold numbersV at h ⊢
  by_cases h1 : x.op = 4 ∨ x.op = 5
  · rw [if_pos h1] at h ⊢
    by_cases q : (slots.length : Int) ≤ x.a
    · rw [if_pos q] at h; cases h
    · rw [if_neg (by rw [hl]; omega)]
  rw [if_neg h1] at h ⊢
  by_cases h2 : x.op = 32
  · rw [if_pos h2] at h ⊢
    by_cases q : (slots.length : Int) ≤ x.a ∨ (slots.length : Int) ≤ x.b
    · rw [if_pos q] at h; cases h
    rw [if_neg q] at h
    rw [if_neg (by rw [hl]; omega), getD_snoc (by omega), getD_snoc (by omega)]
    exact h
  rw [if_neg h2] at h ⊢
  by_cases h3 : x.op = 24
  · rw [if_pos h3] at h ⊢; exact h
  rw [if_neg h3] at h ⊢
  rcases poolV_more hi ht x.op with ⟨e1, e2⟩ | ⟨m, m', e1, e2, e3⟩
  · rw [e2]
  · rw [e1] at h
    rw [e2]
    simp only at h ⊢
    by_cases q : m ≤ x.a
    · rw [if_pos q] at h; cases h
    · rw [if_neg (by omega)]
theorem takesV_more {slots : List Int} (t : List Int) {ints texts : Int} {x : Ins} (ha : 0 ≤ x.a) (h : numbersV slots ints texts x = 0) : takesV (slots ++ t) x = takesV slots x := by
  have key : x.op = 4 ∨ x.op = 5 → (slots ++ t).getD x.a.toNat 0 = slots.getD x.a.toNat 0 := fun h1 => by
    unfold numbersV at h
    rw [if_pos h1] at h
    by_cases q : (slots.length : Int) ≤ x.a
    · rw [if_pos q] at h; cases h
    · exact getD_snoc (by omega) t
  unfold takesV
  by_cases h4 : x.op = 4
  · rw [key (.inl h4)]
  by_cases h5 : x.op = 5
  · rw [key (.inr h5)]
  simp only [h4, h5, if_false]
/-- What the second look keeps. -/
theorem scan_ok {b slots : List Int} {ints texts : Int} (hb : ∀ x ∈ b, 0 ≤ x ∧ x ≤ 255) : ∀ f o acc l, (∀ x ∈ acc, InsOk b.length slots ints texts x) → scanV b slots ints texts f o acc = .inl l → ∀ x ∈ l, InsOk b.length slots ints texts x
  | 0, o, acc, l, ha, h => by
    rw [scanV] at h
    rw [← Sum.inl.inj h]
    exact ha
  | f + 1, o, acc, l, ha, h => by
    rw [scanV] at h
    by_cases c1 : b.length ≤ o
    · rw [if_pos c1] at h
      rw [← Sum.inl.inj h]
      exact ha
    rw [if_neg c1] at h
    by_cases c2 : (readM b o).2 ≠ 0
    · rw [if_pos c2] at h; cases h
    rw [if_neg c2] at h
    by_cases c3 : numbersV slots ints texts (readM b o).1 ≠ 0
    · rw [if_pos c3] at h; cases h
    rw [if_neg c3] at h
    have hx := readM_fine (x := (readM b o).1) hb (Prod.ext rfl (by omega)) (by omega : numbersV slots ints texts (readM b o).1 = 0)
    refine scan_ok hb f _ _ l (fun y hy => ?_) h
    rcases List.mem_append.1 hy with hy | hy
    · exact ha y hy
    · rw [List.mem_singleton.1 hy]; exact hx.1
def stopI (n : Nat) : Ins := ⟨n, 34, 0, 0, 0⟩
theorem readM_stop (b : List Int) : readM (b ++ [34]) (b.length : Nat) = (stopI b.length, 0) := by
  have e : (b ++ [34]).getD b.length 0 = 34 := by rw [List.getD_eq_getElem?_getD]; simp
  have hf : ∃ n, formOf 34 = some (n, 0) := ⟨_, rfl⟩
  obtain ⟨n, hf⟩ := hf
  unfold readM
  rw [if_neg (by simp; omega), Int.toNat_natCast, e, hf]
  simp only
  rw [if_neg (by have : sizeK 0 = 0 := rfl; rw [this]; simp; omega)]
  rfl
theorem stop_size : sizeI 34 = 1 := by rfl
theorem scan_more {b slots : List Int} (t : List Int) {ints texts ints' texts' : Int} (hi : ints ≤ ints') (ht : texts ≤ texts') (hb : ∀ x ∈ b, 0 ≤ x ∧ x ≤ 255) : ∀ f (o : Nat) acc l, b.length ≤ o + f → o ≤ b.length → scanV b slots ints texts f o acc = .inl l → ∀ f', b.length + 1 ≤ o + f' → scanV (b ++ [34]) (slots ++ t) ints' texts' f' o acc = .inl (l ++ [stopI b.length]) := by
  have hstop : ∀ f' acc, 1 ≤ f' → scanV (b ++ [34]) (slots ++ t) ints' texts' f' b.length acc = .inl (acc ++ [stopI b.length]) := fun f' acc hf => by
    obtain ⟨g, rfl⟩ : ∃ g, f' = g + 1 := ⟨f' - 1, by omega⟩
    have hn : numbersV (slots ++ t) ints' texts' (stopI b.length) = 0 := by
      unfold numbersV
      rw [if_neg (by simp [stopI]), if_neg (by simp [stopI]), if_neg (by simp [stopI])]
      rfl
    rw [scanV, if_neg (by simp), readM_stop, if_neg (by simp), if_neg (by simp [hn])]
    have e : b.length + (sizeI (stopI b.length).op).toNat = b.length + 1 := rfl
    simp only
    rw [e]
    cases g with
    | zero => rw [scanV]
    | succ g => rw [scanV, if_pos (by simp)]
  intro f
  induction f with
  | zero =>
    intro o acc l h1 h2 h f' h3
    rw [scanV] at h
    have : o = b.length := by omega
    subst this
    rw [← Sum.inl.inj h]
    exact hstop f' acc (by omega)
  | succ f ih =>
    intro o acc l h1 h2 h f' h3
    rw [scanV] at h
    by_cases c1 : b.length ≤ o
    · rw [if_pos c1] at h
      have : o = b.length := by omega
      subst this
      rw [← Sum.inl.inj h]
      exact hstop f' acc (by omega)
    rw [if_neg c1] at h
    by_cases c2 : (readM b o).2 ≠ 0
    · rw [if_pos c2] at h; cases h
    rw [if_neg c2] at h
    by_cases c3 : numbersV slots ints texts (readM b o).1 ≠ 0
    · rw [if_pos c3] at h; cases h
    rw [if_neg c3] at h
    have hr : readM b o = ((readM b o).1, 0) := Prod.ext rfl (by simpa using c2)
    obtain ⟨hx, hxa⟩ := readM_fine hb hr (by simpa using c3)
    have hr2 := readM_snoc hr [34]
    obtain ⟨g, rfl⟩ : ∃ g, f' = g + 1 := ⟨f' - 1, by omega⟩
    rw [scanV, if_neg (by simp; omega), hr2, if_neg (by simp)]
    simp only
    rw [if_neg (by simpa using numbersV_more t hi ht hx.a0 hx.b0 hx.num)]
    have s1 := hx.size
    have s2 := hx.fits
    exact ih _ _ l (by omega) (by omega) h g (by omega)
theorem insAt_more (l : List Ins) (x : Ins) (o : Int) (h : o ≠ x.at_) : insAt (l ++ [x]) o = insAt l o := by
  unfold insAt
  rw [List.find?_append]
  have : ([x] : List Ins).find? (fun y => y.at_ == o) = none := List.find?_eq_none.2 fun y hy => by simp at hy; subst hy; simp; omega
  rw [this]
  simp
theorem insAt_some (l : List Ins) (x : Ins) (o : Int) (h : (insAt l o).isSome = true) : (insAt (l ++ [x]) o).isSome = true := by
  unfold insAt at h ⊢
  rw [List.find?_append]
  cases hq : l.find? (fun y => y.at_ == o) with
  | none => rw [hq] at h; cases h
  | some y => rfl
theorem jumps_more (l : List Ins) (n : Nat) : ∀ r, jumpsV l r = none → jumpsV (l ++ [stopI n]) (r ++ [stopI n]) = none
  | [], _ => rfl
  | x :: r, h => by
    rw [jumpsV] at h
    rw [List.cons_append, jumpsV]
    cases hx : targetV x with
    | none => rw [hx] at h; exact jumps_more l n r h
    | some tg =>
      rw [hx] at h
      simp only at h ⊢
      by_cases q : (insAt l tg).isSome = true
      · rw [if_pos q] at h
        rw [if_pos (insAt_some l _ tg q)]
        exact jumps_more l n r h
      · rw [if_neg q] at h; cases h
end Go.Proofs.Ytggibiodeecljaa
