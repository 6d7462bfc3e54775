/- verify.Code as plain functions: with more slots, pools and a stop behind the same answer; the answer's form. No program in sight. -/
import Derived.Test.YtggibiodeecljaaVerQ
namespace Go.Proofs.Ytggibiodeecljaa
open Go.RowKit
set_option linter.unusedVariables false

theorem give_more {len : Nat} {v v' : VS} {frm tg : Int} {st : List Int} (h : giveV len frm tg st v = (v', none)) : giveV (len + 1) frm tg st v = (v', none) := by
  unfold giveV at h ⊢
  by_cases c1 : (len : Int) ≤ tg
  · rw [if_pos c1] at h; cases h
  rw [if_neg c1] at h
  rw [if_neg (by omega)]
  exact h
theorem look_more {len : Nat} {slots t : List Int} {ints texts : Int} {x : Ins} {v v' : VS} (hx : AtOk len slots ints texts x) (h : lookV len slots x v = (v', none)) : lookV (len + 1) (slots ++ t) x v = (v', none) := by
  unfold lookV at h ⊢
  rw [takesV_more t hx.a0 hx.num]
  simp only at h ⊢
  by_cases c1 : ((v.stacks x.at_).getD []).length < (takesV slots x).1.length
  · rw [if_pos c1] at h; cases h
  rw [if_neg c1] at h ⊢
  by_cases c2 : ((v.stacks x.at_).getD []).drop (((v.stacks x.at_).getD []).length - (takesV slots x).1.length) ≠ (takesV slots x).1
  · rw [if_pos c2] at h; cases h
  rw [if_neg c2] at h ⊢
  by_cases c3 : 256 < (((v.stacks x.at_).getD []).take (((v.stacks x.at_).getD []).length - (takesV slots x).1.length) ++ (takesV slots x).2).length
  · rw [if_pos c3] at h; cases h
  rw [if_neg c3] at h ⊢
  by_cases c4 : x.op = 34 ∨ x.op = 35
  · rw [if_pos c4] at h ⊢; exact h
  rw [if_neg c4] at h ⊢
  obtain ⟨r, hr⟩ : ∃ r, (if x.op = 30 then (v, none) else giveV len x.at_ (x.at_ + sizeI x.op) (((v.stacks x.at_).getD []).take (((v.stacks x.at_).getD []).length - (takesV slots x).1.length) ++ (takesV slots x).2) v) = r := ⟨_, rfl⟩
  rw [hr] at h
  obtain ⟨v1, f⟩ := r
  cases f with
  | some f => cases h
  | none =>
    have hr2 : (if x.op = 30 then (v, none) else giveV (len + 1) x.at_ (x.at_ + sizeI x.op) (((v.stacks x.at_).getD []).take (((v.stacks x.at_).getD []).length - (takesV slots x).1.length) ++ (takesV slots x).2) v) = (v1, none) := by
      by_cases c5 : x.op = 30
      · rw [if_pos c5] at hr ⊢; exact hr
      · rw [if_neg c5] at hr ⊢; exact give_more hr
    rw [hr2]
    simp only at h ⊢
    cases htg : targetV x with
    | none => rw [htg] at h; exact h
    | some tg =>
      rw [htg] at h
      exact give_more h
theorem loop_more {len : Nat} {slots t : List Int} {ints texts : Int} {l : List Ins} (h0 : 0 < len) (hl : ∀ x ∈ l, InsOk len slots ints texts x) : ∀ (f m : Nat) (v v' : VS), VOk len m v → m ≤ f → loopV len slots l f v = (v', none) → (∃ m', VOk len m' v') ∧ ∀ f', m ≤ f' → loopV (len + 1) (slots ++ t) (l ++ [stopI len]) f' v = (v', none)
  | 0, m, v, v', hv, hm, h => by
    rw [loopV] at h
    have e : v = v' := (Prod.mk.inj h).1
    subst e
    refine ⟨⟨m, hv⟩, fun f' hf => ?_⟩
    have hh : v.heap = [] := by
      have := hv.cnt
      cases hq : v.heap with
      | nil => rfl
      | cons a r => rw [hq] at this; simp at this; omega
    cases f' with
    | zero => rw [loopV]
    | succ g => rw [loopV, if_pos hh]
  | f + 1, m, v, v', hv, hm, h => by
    rw [loopV] at h
    by_cases hh : v.heap = []
    · rw [if_pos hh] at h
      have e : v = v' := (Prod.mk.inj h).1
      subst e
      refine ⟨⟨m, hv⟩, fun f' hf => ?_⟩
      cases f' with
      | zero => rw [loopV]
      | succ g => rw [loopV, if_pos hh]
    rw [if_neg hh] at h
    obtain ⟨hv2, hm1, ha0, ha1⟩ := hv.take hh
    have hx := at_ok hl h0 (atH v.heap 0).1
    obtain ⟨r, hr⟩ : ∃ r, lookV len slots ((insAt l (atH v.heap 0).1).getD ins0) ⟨v.stacks, takeH v.heap, v.came⟩ = r := ⟨_, rfl⟩
    have hv3 : VOk len (m - 1) r.1 := by rw [← hr]; exact look_ok hv2 hx.next hx.tg
    simp only [hr] at h
    obtain ⟨v1, fl⟩ := r
    cases fl with
    | some fl => cases h
    | none =>
      simp only at h hv3
      obtain ⟨he, hq⟩ := loop_more h0 hl f (m - 1) v1 v' hv3 (by omega) h
      refine ⟨he, fun f' hf => ?_⟩
      obtain ⟨g, rfl⟩ : ∃ g, f' = g + 1 := ⟨f' - 1, by omega⟩
      rw [loopV, if_neg hh, insAt_more l (stopI len) _ (by show (atH v.heap 0).1 ≠ (len : Int); omega)]
      simp only [look_more hx hr]
      exact hq g (by omega)
theorem shapes_more {len : Nat} {f : Int → Option (List Int)} (h : f (len : Int) = none) : shapesV (len + 1) f = shapesV len f := by
  unfold shapesV
  rw [List.range_succ, List.filterMap_append]
  simp [h]
/-- Faults are faults. -/
theorem limits_few (b slots : List Int) (ints texts : Int) : limitsV b slots ints texts = 56 ∨ limitsV b slots ints texts = 43 ∨ limitsV b slots ints texts = 49 ∨ limitsV b slots ints texts = 0 := by
  unfold limitsV
  split
  · exact .inl rfl
  split
  · exact .inr (.inl rfl)
  split
  · exact .inr (.inr (.inl rfl))
  · exact .inr (.inr (.inr rfl))
theorem scan_bad {b slots : List Int} {ints texts : Int} : ∀ f o acc e a, scanV b slots ints texts f o acc = .inr (e, a) → e ≠ 0 ∧ 0 ≤ a
  | 0, o, acc, e, a, h => by rw [scanV] at h; cases h
  | f + 1, o, acc, e, a, h => by
    rw [scanV] at h
    by_cases c1 : b.length ≤ o
    · rw [if_pos c1] at h; cases h
    rw [if_neg c1] at h
    by_cases c2 : (readM b o).2 ≠ 0
    · rw [if_pos c2] at h
      have := Sum.inr.inj h
      have e1 := (Prod.mk.inj this).1
      have e2 := (Prod.mk.inj this).2
      exact ⟨by rw [← e1]; exact c2, by omega⟩
    rw [if_neg c2] at h
    by_cases c3 : numbersV slots ints texts (readM b o).1 ≠ 0
    · rw [if_pos c3] at h
      have := Sum.inr.inj h
      have e1 := (Prod.mk.inj this).1
      have e2 := (Prod.mk.inj this).2
      exact ⟨by rw [← e1]; exact c3, by omega⟩
    rw [if_neg c3] at h
    exact scan_bad f _ _ e a h
theorem jumps_bad {l : List Ins} (hl : ∀ x ∈ l, 0 ≤ x.at_) : ∀ r e a, (∀ x ∈ r, 0 ≤ x.at_) → jumpsV l r = some (e, a) → e ≠ 0 ∧ 0 ≤ a
  | [], e, a, _, h => by rw [jumpsV] at h; cases h
  | x :: r, e, a, hr, h => by
    rw [jumpsV] at h
    have hr2 : ∀ y ∈ r, 0 ≤ y.at_ := fun y hy => hr y (by simp [hy])
    cases hx : targetV x with
    | none => rw [hx] at h; exact jumps_bad hl r e a hr2 h
    | some tg =>
      rw [hx] at h
      simp only at h
      by_cases q : (insAt l tg).isSome = true
      · rw [if_pos q] at h; exact jumps_bad hl r e a hr2 h
      · rw [if_neg q] at h
        have := Option.some.inj h
        have e1 := (Prod.mk.inj this).1
        have e2 := (Prod.mk.inj this).2
        have := hr x (by simp)
        exact ⟨by omega, by omega⟩
theorem give_bad {len : Nat} {v : VS} {frm tg : Int} {st : List Int} {e a : Int} (h0 : 0 ≤ frm) (h1 : 0 ≤ tg) (h : (giveV len frm tg st v).2 = some (e, a)) : e ≠ 0 ∧ 0 ≤ a := by
  have key : ∀ (p q : Int), 0 ≤ q → p ≠ 0 → some (p, q) = some (e, a) → e ≠ 0 ∧ 0 ≤ a := fun p q h2 h3 h4 => by
    have := Option.some.inj h4
    have e1 := (Prod.mk.inj this).1
    have e2 := (Prod.mk.inj this).2
    exact ⟨by omega, by omega⟩
  unfold giveV at h
  by_cases c1 : (len : Int) ≤ tg
  · rw [if_pos c1] at h; exact key _ _ h0 (by decide) h
  rw [if_neg c1] at h
  cases hs : v.stacks tg with
  | some s =>
    rw [hs] at h
    simp only at h
    by_cases c2 : s = st
    · rw [if_pos c2] at h; cases h
    · rw [if_neg c2] at h; exact key _ _ h1 (by decide) h
  | none => rw [hs] at h; cases h
theorem look_bad {len : Nat} {v : VS} {slots : List Int} {x : Ins} {e a : Int} (h0 : 0 ≤ x.at_) (hn : 0 ≤ x.at_ + sizeI x.op) (ht : ∀ tg, targetV x = some tg → 0 ≤ tg) (h : (lookV len slots x v).2 = some (e, a)) : e ≠ 0 ∧ 0 ≤ a := by
  have key : ∀ (p q : Int), 0 ≤ q → p ≠ 0 → some (p, q) = some (e, a) → e ≠ 0 ∧ 0 ≤ a := fun p q h2 h3 h4 => by
    have := Option.some.inj h4
    have e1 := (Prod.mk.inj this).1
    have e2 := (Prod.mk.inj this).2
    exact ⟨by omega, by omega⟩
  unfold lookV at h
  simp only at h
  by_cases c1 : ((v.stacks x.at_).getD []).length < (takesV slots x).1.length
  · rw [if_pos c1] at h; exact key _ _ h0 (by decide) h
  rw [if_neg c1] at h
  by_cases c2 : ((v.stacks x.at_).getD []).drop (((v.stacks x.at_).getD []).length - (takesV slots x).1.length) ≠ (takesV slots x).1
  · rw [if_pos c2] at h; exact key _ _ h0 (by decide) h
  rw [if_neg c2] at h
  by_cases c3 : 256 < (((v.stacks x.at_).getD []).take (((v.stacks x.at_).getD []).length - (takesV slots x).1.length) ++ (takesV slots x).2).length
  · rw [if_pos c3] at h; exact key _ _ h0 (by decide) h
  rw [if_neg c3] at h
  by_cases c4 : x.op = 34 ∨ x.op = 35
  · rw [if_pos c4] at h; cases h
  rw [if_neg c4] at h
  obtain ⟨r, hr⟩ : ∃ r, (if x.op = 30 then (v, none) else giveV len x.at_ (x.at_ + sizeI x.op) (((v.stacks x.at_).getD []).take (((v.stacks x.at_).getD []).length - (takesV slots x).1.length) ++ (takesV slots x).2) v) = r := ⟨_, rfl⟩
  rw [hr] at h
  obtain ⟨v1, f⟩ := r
  cases f with
  | some f =>
    simp only at h
    by_cases c5 : x.op = 30
    · rw [if_pos c5] at hr; cases hr
    · rw [if_neg c5] at hr
      have hf : f = (e, a) := Option.some.inj h
      subst hf
      exact give_bad h0 hn (by rw [hr])
  | none =>
    simp only at h
    cases htg : targetV x with
    | none => rw [htg] at h; cases h
    | some tg =>
      rw [htg] at h
      exact give_bad h0 (ht tg htg) h
theorem loop_bad {len : Nat} {slots : List Int} {ints texts : Int} {l : List Ins} (h0 : 0 < len) (hl : ∀ x ∈ l, InsOk len slots ints texts x) {e a : Int} : ∀ (f : Nat) (v v' : VS), loopV len slots l f v = (v', some (e, a)) → e ≠ 0 ∧ 0 ≤ a
  | 0, v, v', h => by rw [loopV] at h; cases h
  | f + 1, v, v', h => by
    rw [loopV] at h
    by_cases hh : v.heap = []
    · rw [if_pos hh] at h; cases h
    rw [if_neg hh] at h
    have hx := at_ok hl h0 (atH v.heap 0).1
    obtain ⟨r, hr⟩ : ∃ r, lookV len slots ((insAt l (atH v.heap 0).1).getD ins0) ⟨v.stacks, takeH v.heap, v.came⟩ = r := ⟨_, rfl⟩
    simp only [hr] at h
    obtain ⟨v1, fl⟩ := r
    cases fl with
    | some fl =>
      have e1 : some fl = some (e, a) := (Prod.mk.inj h).2
      have e2 : fl = (e, a) := Option.some.inj e1
      subst e2
      exact look_bad hx.at0 hx.next hx.tg (by rw [hr])
    | none => exact loop_bad h0 hl f v1 v' h
/-- The answer of code that may run. -/
structure CodeOk (b slots : List Int) (ints texts : Int) (l : List Ins) (v : VS) : Prop where
  lim : limitsV b slots ints texts = 0
  pos : 0 < b.length
  scan : scanV b slots ints texts b.length 0 [] = .inl l
  ins : ∀ x ∈ l, InsOk b.length slots ints texts x
  jumps : jumpsV l l = none
  loop : loopV b.length slots l b.length startV = (v, none)
  ok : ∃ m, VOk b.length m v
theorem limits_pos {b slots : List Int} {ints texts : Int} (h : limitsV b slots ints texts = 0) : b.length ≤ 65535 ∧ slots.length ≤ 32 ∧ slots.any (fun k => decide (k < 1) || decide (6 < k)) = false ∧ 0 ≤ ints ∧ ints ≤ 4096 ∧ 0 ≤ texts ∧ texts ≤ 4096 ∧ 2 ≤ slots.length ∧ slots.getD 0 0 = 3 ∧ slots.getD 1 0 = 4 ∧ 0 < b.length := by
  unfold limitsV at h
  by_cases c1 : 65535 < b.length ∨ 32 < slots.length ∨ slots.any (fun k => decide (k < 1) || decide (6 < k)) = true ∨ ints < 0 ∨ 4096 < ints ∨ texts < 0 ∨ 4096 < texts
  · rw [if_pos c1] at h; cases h
  rw [if_neg c1] at h
  by_cases c2 : slots.length < 2 ∨ slots.getD 0 0 ≠ 3 ∨ slots.getD 1 0 ≠ 4
  · rw [if_pos c2] at h; cases h
  rw [if_neg c2] at h
  by_cases c3 : b.length = 0
  · rw [if_pos c3] at h; cases h
  obtain ⟨q, hq⟩ : ∃ q, slots.any (fun k => decide (k < 1) || decide (6 < k)) = q := ⟨_, rfl⟩
  rw [hq] at c1 ⊢
  cases q with
  | true => exact absurd (.inr (.inr (.inl rfl))) c1
  | false => exact ⟨by omega, by omega, rfl, by omega, by omega, by omega, by omega, by omega, by omega, by omega, by omega⟩
theorem code_ways (b slots : List Int) (ints texts : Int) (hb : ∀ x ∈ b, 0 ≤ x ∧ x ≤ 255) : (∃ e a, codeV b slots ints texts = ([], 0, e, a) ∧ e ≠ 0 ∧ 0 ≤ a) ∨ ∃ l v, CodeOk b slots ints texts l v ∧ codeV b slots ints texts = (shapesV b.length v.stacks, highV (shapesV b.length v.stacks), 0, 0) := by
  unfold codeV
  by_cases c1 : limitsV b slots ints texts ≠ 0
  · rw [if_pos c1]; exact .inl ⟨_, _, rfl, c1, Int.le_refl _⟩
  rw [if_neg c1]
  have hlim : limitsV b slots ints texts = 0 := by omega
  have hpos : 0 < b.length := (limits_pos hlim).2.2.2.2.2.2.2.2.2.2
  cases hs : scanV b slots ints texts b.length 0 [] with
  | inr p =>
    obtain ⟨e, a⟩ := p
    obtain ⟨h1, h2⟩ := scan_bad _ _ _ _ _ hs
    exact .inl ⟨e, a, rfl, h1, h2⟩
  | inl l =>
    have hl := scan_ok hb _ _ _ _ (by simp) hs
    simp only
    cases hj : jumpsV l l with
    | some p =>
      obtain ⟨e, a⟩ := p
      obtain ⟨h1, h2⟩ := jumps_bad (fun x hx => (hl x hx).at0) l e a (fun x hx => (hl x hx).at0) hj
      exact .inl ⟨e, a, rfl, h1, h2⟩
    | none =>
      simp only
      obtain ⟨r, hr⟩ : ∃ r, loopV b.length slots l b.length startV = r := ⟨_, rfl⟩
      rw [hr]
      obtain ⟨v, fl⟩ := r
      cases fl with
      | some p =>
        obtain ⟨e, a⟩ := p
        obtain ⟨h1, h2⟩ := loop_bad hpos hl _ _ _ hr
        exact .inl ⟨e, a, rfl, h1, h2⟩
      | none => exact .inr ⟨l, v, ⟨hlim, hpos, hs, hl, hj, hr, (loop_more (t := []) hpos hl _ _ _ _ (VOk.start hpos) (Nat.le_refl _) hr).1⟩, rfl⟩
/-- THE LAW: more slots, pools and a stop behind. -/
theorem code_more {b slots t : List Int} {ints texts ints' texts' : Int} (hb : ∀ x ∈ b, 0 ≤ x ∧ x ≤ 255) {l : List Ins} {v : VS} (h : CodeOk b slots ints texts l v)
    (hi : ints ≤ ints') (hi2 : ints' ≤ 4096) (ht : texts ≤ texts') (ht2 : texts' ≤ 4096) (hl : b.length + 1 ≤ 65535) (hs : (slots ++ t).length ≤ 32) (hk : ∀ k ∈ t, 1 ≤ k ∧ k ≤ 6) :
    codeV (b ++ [34]) (slots ++ t) ints' texts' = (shapesV b.length v.stacks, highV (shapesV b.length v.stacks), 0, 0) := by
  obtain ⟨p1, p2, p3, p4, p5, p6, p7, p8, p9, p10, p11⟩ := limits_pos h.lim
  have hlb : (b ++ [34]).length = b.length + 1 := by simp
  have hls : (slots ++ t).length = slots.length + t.length := by simp
  have hany : (slots ++ t).any (fun k => decide (k < 1) || decide (6 < k)) = false := by
    rw [List.any_append, p3, Bool.false_or, List.any_eq_false]
    intro k hm
    have := hk k hm
    simp
    omega
  have hlim : limitsV (b ++ [34]) (slots ++ t) ints' texts' = 0 := by
    unfold limitsV
    rw [hany, hlb, if_neg (by simp only [Bool.false_eq_true, false_or]; omega), getD_snoc (by omega), getD_snoc (by omega), if_neg (by omega), if_neg (by omega)]
  obtain ⟨m, hm⟩ := h.ok
  have hloop := (loop_more (t := t) h.pos h.ins _ _ _ _ (VOk.start h.pos) (Nat.le_refl _) h.loop).2 (b.length + 1) (by omega)
  unfold codeV
  rw [if_neg (by omega), hlb, scan_more t hi ht hb b.length 0 [] l (by omega) (by omega) h.scan (b.length + 1) (by omega)]
  simp only
  rw [jumps_more l b.length l h.jumps]
  simp only
  rw [hloop]
  simp only
  rw [shapes_more (hm.top _ (.inr (Int.le_refl _)))]
/-- The offsets rise. -/
theorem shapes_rise (len : Nat) (f : Int → Option (List Int)) : (shapesV len f).Pairwise (fun p q => p.1 < q.1) := by
  unfold shapesV
  refine List.Pairwise.filterMap _ ?_ List.pairwise_lt_range
  intro a a' ha p hp q hq
  simp only [Option.map_eq_some_iff] at hp hq
  obtain ⟨s, _, rfl⟩ := hp
  obtain ⟨s', _, rfl⟩ := hq
  show (a : Int) < (a' : Int)
  omega
theorem shapes_mem {len : Nat} {f : Int → Option (List Int)} {p : Int × List Int} : p ∈ shapesV len f ↔ 0 ≤ p.1 ∧ p.1 < len ∧ f p.1 = some p.2 := by
  unfold shapesV
  simp only [List.mem_filterMap, List.mem_range, Option.map_eq_some_iff]
  constructor
  · rintro ⟨o, ho, s, hs, rfl⟩
    exact ⟨by show (0 : Int) ≤ o; omega, by show (o : Int) < len; omega, hs⟩
  · rintro ⟨h0, h1, h2⟩
    refine ⟨p.1.toNat, by omega, p.2, ?_, ?_⟩
    · rw [Int.toNat_of_nonneg h0]; exact h2
    · rw [Int.toNat_of_nonneg h0]
theorem high_le (l : List (Int × List Int)) (n : Int) (h : ∀ p ∈ l, (p.2.length : Int) ≤ n) : ∀ m : Int, m ≤ n → l.foldl (fun m p => max m (p.2.length : Int)) m ≤ n := by
  induction l with
  | nil => exact fun m hm => hm
  | cons a r ih =>
    intro m hm
    rw [List.foldl_cons]
    have ha := h a (by simp)
    exact ih (fun p hp => h p (by simp [hp])) _ (by omega)
theorem code_high {b slots : List Int} {ints texts : Int} {l : List Ins} {v : VS} (h : CodeOk b slots ints texts l v) : highV (shapesV b.length v.stacks) ≤ 256 := by
  obtain ⟨m, hm⟩ := h.ok
  refine high_le _ _ (fun p hp => ?_) 0 (by omega)
  have := hm.high _ _ (shapes_mem.1 hp).2.2
  omega
/-- Whatever list of the shapes with its offsets rising is the answer's. -/
theorem rise_eq : ∀ {l m : List (Int × List Int)}, l.Pairwise (fun p q => p.1 < q.1) → m.Pairwise (fun p q => p.1 < q.1) → (∀ p, p ∈ l ↔ p ∈ m) → l = m
  | [], [], _, _, _ => rfl
  | [], b :: m, _, _, h => absurd ((h b).2 (by simp)) (by simp)
  | a :: l, [], _, _, h => absurd ((h a).1 (by simp)) (by simp)
  | a :: l, b :: m, hl, hm, h => by
    rw [List.pairwise_cons] at hl hm
    have e : a = b := by
      rcases List.mem_cons.1 ((h a).1 (by simp)) with q | q
      · exact q
      · rcases List.mem_cons.1 ((h b).2 (by simp)) with q2 | q2
        · exact q2.symm
        · have := hm.1 a q
          have := hl.1 b q2
          omega
    subst e
    rw [rise_eq hl.2 hm.2 fun p => ⟨fun hp => ?_, fun hp => ?_⟩]
    · rcases List.mem_cons.1 ((h p).1 (by simp [hp])) with q | q
      · have := hl.1 p hp; rw [q] at this; omega
      · exact q
    · rcases List.mem_cons.1 ((h p).2 (by simp [hp])) with q | q
      · have := hm.1 p hp; rw [q] at this; omega
      · exact q
end Go.Proofs.Ytggibiodeecljaa
