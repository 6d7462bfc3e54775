/- 'for k, v := range m' over a map as a function: each entry once, in whatever order; the loop may lay blocks. No program in sight. -/
import Derived.Test.YtggibiodeecljaaMaps
import Derived.Laws.IdiomRangeMap
namespace Go.Proofs.Ytggibiodeecljaa
open Go.RowKit
set_option linter.unusedVariables false

theorem nodup_at {α β : Type} {f : α → β} {l : List α} (h : (l.map f).Nodup) {i j : Nat} {a b : α} (hi : l[i]? = some a) (hj : l[j]? = some b) (e : f a = f b) : i = j := by
  obtain ⟨h1, rfl⟩ := List.getElem?_eq_some_iff.1 hi
  obtain ⟨h2, rfl⟩ := List.getElem?_eq_some_iff.1 hj
  have hp := List.pairwise_iff_getElem.1 h
  have key : ∀ x y (hx : x < l.length) (hy : y < l.length), x < y → f l[x] ≠ f l[y] := fun x y hx hy hxy => by
    have := hp x y (by simpa using hx) (by simpa using hy) hxy
    simpa using this
  rcases Nat.lt_trichotomy i j with q | q | q
  · exact absurd e (key i j h1 h2 q)
  · exact q
  · exact absurd e.symm (key j i h2 h1 q)
theorem run_next_at {P : Program} (w : World) (ty : TypeId) (r bm since c0 : Nat) (seen : Array Nat) (es : Array MapEntry) (clock : Nat) (hb : w.heap[bm]? = some (.map es clock)) (hr : w.heap[r]? = some (.mapIter (some bm) since seen c0)) (hold : ∀ x ∈ es.toList, x.born < since) (hsc : since ≤ c0) :
    ((leftOf es seen).size = 0 ∧ (Instr.next (.pointer (some ⟨r, 0, none⟩)) false ty).run P w = .ok (.tuple #[.bool false]) w) ∨
    ∃ e ∈ (leftOf es seen).toList, ∃ w1 : World, (w1 = w ∨ w1 = w.drew) ∧ (Instr.next (.pointer (some ⟨r, 0, none⟩)) false ty).run P w = .ok (.tuple #[.bool true, e.key, e.val]) { w1 with heap := w.heap.setIfInBounds r (.mapIter (some bm) since (seen.push e.born) clock) } := by
  simp only [Instr.next, getObj, Sem.run_bind, Sem.run, hr, hb, Result.andThen, next_test_false seen es since c0 hold hsc, Bool.false_eq_true, if_false]
  unfold leftOf
  have hmem : ∀ x ∈ (Array.filter (fun e => !seen.contains e.born) es).toList, x.born < since := fun x hx => hold x (by simp at hx ⊢; exact hx.1)
  generalize Array.filter (fun e => !seen.contains e.born) es = L at hmem ⊢
  have e1 : L.filter (fun x => decide (x.born < since)) = L := Array.filter_eq_self.2 (fun x hx => by simpa using hmem x (by simpa using hx))
  have e2 : L.filter (fun x => decide (x.born ≥ since)) = #[] := by
    rw [Array.filter_eq_empty_iff]
    intro x hx
    have := hmem x (by simpa using hx)
    simp
    omega
  simp only [e1, e2, Array.append_empty]
  by_cases h0 : L.size = 0
  · left
    have : L = #[] := Array.eq_empty_of_size_eq_zero h0
    subst this
    refine ⟨rfl, ?_⟩
    simp [choose, Sem.run, Question.forced]
  · right
    have hne : L.isEmpty = false := by simp [Array.isEmpty, h0]
    simp only [hne, Bool.false_eq_true, if_false, Array.empty_append, Array.size_map]
    have hch : ∃ (j : Nat) (w1 : World), j < L.size ∧ (w1 = w ∨ w1 = w.drew) ∧ (choose (Question.mapNext L.size)).run P w = .ok j w1 := by
      by_cases hf : L.size ≤ 1
      · exact ⟨0, w, by omega, .inl rfl, by simp [choose, Sem.run, Question.forced, hf]⟩
      · exact ⟨_, w.drew, Nat.mod_lt _ (by omega), .inr rfl, by
          simp only [choose, Sem.run, Question.forced, decide_eq_true_eq, hf, if_false, Question.cut]
          rfl⟩
    obtain ⟨j, w1, hj, hal, hrun⟩ := hch
    refine ⟨L[j], by simp, w1, hal, ?_⟩
    have hh : w1.heap = w.heap := by rcases hal with rfl | rfl <;> rfl
    have hset : ∀ (o' : Obj), (setObj r o').run P w1 = .ok () { w1 with heap := w.heap.setIfInBounds r o' } := fun o' => by
      simp only [setObj, Sem.run, hh, hr]
    simp only [hrun, Array.getElem?_map, Array.getElem?_eq_getElem hj, Option.map_some, Sem.run_bind, hset, Result.andThen]
    rfl
theorem run_entry_at {P : Program} (w : World) (r bm since : Nat) (seen : Array Nat) (es : Array MapEntry) (clock : Nat) (e : MapEntry) (hb : w.heap[bm]? = some (.map es clock)) (hr : w.heap[r]? = some (.mapIter (some bm) since (seen.push e.born) clock)) (he : e ∈ es.toList) (hn : (es.toList.map (·.born)).Nodup) :
    (Instr.entry (.pointer (some ⟨r, 0, none⟩))).run P w = .ok (.tuple #[e.key, e.val]) w := by
  have hf : es.find? (·.born == e.born) = some e := by rw [← Array.find?_toList]; exact find_born e es.toList hn he
  simp only [Instr.entry, getObj, Sem.run_bind, Sem.run, hr, hb, Result.andThen, Array.back?_push, bne_self_eq_false, Bool.false_eq_true, if_false, hf]
  rfl

section
variable {P : Program} {k : TypeId} {κ : Type} (K : KeyT P k κ)
/-- A loop over map b under way: block r is its iterator; 'done' has been handed out; cnt entries are left. -/
def RangeAt (w : World) (b r : Nat) (f : κ → Option Value) (done : List (κ × Value)) (cnt : Nat) : Prop :=
  ∃ (es : Array MapEntry) (clock since c0 : Nat) (seen : Array Nat) (l : List (κ × Value)), w.heap[b]? = some (.map es clock) ∧ w.heap[r]? = some (.mapIter (some b) since seen c0) ∧ Ents K l es.toList ∧ (l.map (·.1)).Nodup ∧ (∀ x, f x = look K l x) ∧ Stamps es.toList clock ∧
    clock ≤ since ∧ since ≤ c0 ∧ since ≤ clock ∧ (leftOf es seen).size = cnt ∧ (done.map (·.1)).Nodup ∧ (∀ p ∈ done, f p.1 = some p.2) ∧ ∀ (i : Nat) (e : MapEntry) (p : κ × Value), es.toList[i]? = some e → l[i]? = some p → (seen.contains e.born = true ↔ p ∈ done) ∧ (seen.contains e.born = false → p.1 ∉ done.map (·.1))
theorem RangeAt.mk_ {w : World} {b r cnt : Nat} {f : κ → Option Value} {done : List (κ × Value)} (h : RangeAt K w b r f done cnt) : MK K w b f := by
  obtain ⟨es, clock, since, c0, seen, l, h1, h2, h3, h4, h5, h6, _⟩ := h
  exact ⟨es, clock, l, h1, h3, h4, h5, h6⟩
theorem RangeAt.kept {w w' : World} {b r cnt : Nat} {f : κ → Option Value} {done : List (κ × Value)} (h : RangeAt K w b r f done cnt) (hb : w'.heap[b]? = w.heap[b]?) (hr : w'.heap[r]? = w.heap[r]?) : RangeAt K w' b r f done cnt := by
  obtain ⟨es, clock, since, c0, seen, l, h1, h2, h3⟩ := h
  exact ⟨es, clock, since, c0, seen, l, hb.trans h1, hr.trans h2, h3⟩
theorem RangeAt.lt {w : World} {b r cnt : Nat} {f : κ → Option Value} {done : List (κ × Value)} (h : RangeAt K w b r f done cnt) : b < w.heap.size ∧ r < w.heap.size ∧ b ≠ r := by
  obtain ⟨es, clock, since, c0, seen, l, h1, h2, h3⟩ := h
  refine ⟨(Array.getElem?_eq_some_iff.1 h1).1, (Array.getElem?_eq_some_iff.1 h2).1, ?_⟩
  rintro rfl
  rw [h1] at h2
  cases h2
theorem RangeAt.done {w : World} {b r cnt : Nat} {f : κ → Option Value} {done : List (κ × Value)} (h : RangeAt K w b r f done cnt) : (done.map (·.1)).Nodup ∧ ∀ p ∈ done, f p.1 = some p.2 := by
  obtain ⟨es, clock, since, c0, seen, l, _, _, _, _, _, _, _, _, _, _, h1, h2, _⟩ := h
  exact ⟨h1, h2⟩
theorem MK.range {w : World} {b : Nat} {f : κ → Option Value} (h : MK K w b f) {t e : TypeId} (ht : P.underlying t = some (.map k e)) :
    ∃ w' cnt, (Instr.range t (.map (some b))).run P w = .ok (.pointer (some ⟨w.heap.size, 0, none⟩)) w' ∧ RangeAt K w' b w.heap.size f [] cnt ∧ Below w.heap.size w w' := by
  obtain ⟨es, clock, l, hb, he, hn, hf, hst⟩ := h
  have hlt := (Array.getElem?_eq_some_iff.1 hb).1
  refine ⟨w.alloc (.mapIter (some b) clock #[] clock), (leftOf es #[]).size, run_range_map w t k e b es clock ht hb, ⟨es, clock, clock, clock, #[], l, ?_, heap_alloc_new w _, he, hn, hf, hst, Nat.le_refl _, Nat.le_refl _, Nat.le_refl _, rfl, by simp, fun p hp => by simp at hp, fun i e p _ _ => by simp⟩, (Below.refl _ _).alloc (Nat.le_refl _) _⟩
  rw [heap_alloc_old w _ hlt, hb]
theorem look_mem {l : List (κ × Value)} (hn : (l.map (·.1)).Nodup) {x : κ} {v : Value} : look K l x = some v ↔ (x, v) ∈ l := by
  unfold look
  constructor
  · intro h
    cases hq : l.find? (fun p => K.eqb x p.1) with
    | none => rw [hq] at h; cases h
    | some p =>
      rw [hq] at h
      have h1 := List.mem_of_find?_eq_some hq
      have h2 : x = p.1 := (K.eqb_iff _ _).1 (by simpa using List.find?_some (p := fun p : κ × Value => K.eqb x p.1) hq)
      injection h with h
      rw [h2, ← h]
      exact h1
  · intro h
    induction l with
    | nil => cases h
    | cons p l ih =>
      rw [List.map_cons, List.nodup_cons] at hn
      rw [List.find?_cons]
      rcases List.mem_cons.1 h with h | h
      · rw [← h]
        have : K.eqb x x = true := (K.eqb_iff _ _).2 rfl
        simp [this]
      · have hne : K.eqb x p.1 = false := by
          cases hq : K.eqb x p.1 with
          | false => rfl
          | true =>
            have := (K.eqb_iff _ _).1 hq
            exact absurd (by rw [← this]; exact List.mem_map_of_mem h) hn.1
        rw [hne]
        exact ih hn.2 h
theorem RangeAt.next {w : World} {b r cnt : Nat} {f : κ → Option Value} {done : List (κ × Value)} (h : RangeAt K w b r f done cnt) :
    (cnt = 0 ∧ (∀ x v, f x = some v ↔ (x, v) ∈ done) ∧ (done.map (·.1)).Nodup ∧ ∀ ty, (Instr.next (.pointer (some ⟨r, 0, none⟩)) false ty).run P w = .ok (.tuple #[.bool false]) w) ∨
    ∃ x v w' cnt', f x = some v ∧ x ∉ done.map (·.1) ∧ cnt' < cnt ∧ RangeAt K w' b r f (done ++ [(x, v)]) cnt' ∧ w.grownBy w' (some r) ∧ w'.heap.size = w.heap.size ∧ (∀ ty, (Instr.next (.pointer (some ⟨r, 0, none⟩)) false ty).run P w = .ok (.tuple #[.bool true, K.emb x, v]) w') ∧ (Instr.entry (.pointer (some ⟨r, 0, none⟩))).run P w' = .ok (.tuple #[K.emb x, v]) w' := by
  obtain ⟨hltb, hltr, hbr⟩ := h.lt
  obtain ⟨es, clock, since, c0, seen, l, hb, hr, he, hn, hf, hst, h1, h2, h3, h4, h5, h7, h6⟩ := h
  have hlen : es.toList.length = l.length := by have := congrArg List.length he; simpa [Ents] using this
  have hat : ∀ (i : Nat) (e : MapEntry) (p : κ × Value), es.toList[i]? = some e → l[i]? = some p → e.key = K.emb p.1 ∧ e.val = p.2 := fun i e p hi hp => by
    have := ents_at K he i
    rw [hi, hp] at this
    simpa using this
  rcases run_next_at (P := P) w 0 r b since c0 seen es clock hb hr (fun x hx => Nat.lt_of_lt_of_le (hst.2 x hx) h1) h2 with ⟨h0, _⟩ | ⟨e, hel, w1, hw1, hrun⟩
  · refine .inl ⟨by omega, fun x v => ?_, h5, fun ty => ?_⟩
    · have hall := all_seen es seen h0
      rw [hf, look_mem K hn]
      constructor
      · intro hm
        obtain ⟨i, hi, hq⟩ := List.getElem_of_mem hm
        have hi2 : i < es.toList.length := by omega
        exact (h6 i es.toList[i] (x, v) (List.getElem?_eq_getElem hi2) (by rw [List.getElem?_eq_getElem hi, hq])).1.1 (hall _ (List.getElem_mem hi2))
      · intro hd
        have h8 := h7 (x, v) hd
        rw [hf] at h8
        exact (look_mem K hn).1 h8
    · rcases run_next_at (P := P) w ty r b since c0 seen es clock hb hr (fun x hx => Nat.lt_of_lt_of_le (hst.2 x hx) h1) h2 with ⟨_, h⟩ | ⟨e, hel, _⟩
      · exact h
      · have : (leftOf es seen).toList.length = 0 := by simpa using h0
        rw [List.length_eq_zero_iff] at this
        rw [this] at hel
        cases hel
  · obtain ⟨hm, hns⟩ := mem_left hel
    obtain ⟨i, hi, hie⟩ := List.getElem_of_mem hm
    have hil : i < l.length := by omega
    have hei : es.toList[i]? = some e := by rw [List.getElem?_eq_getElem hi, hie]
    have hli : l[i]? = some l[i] := List.getElem?_eq_getElem hil
    obtain ⟨hk1, hk2⟩ := hat i e l[i] hei hli
    obtain ⟨h8, h9⟩ := h6 i e l[i] hei hli
    have hfx : f l[i].1 = some l[i].2 := by rw [hf]; exact (look_mem K hn).2 (List.getElem_mem hil)
    have hnd := h9 hns
    have hw1h : w1.heap = w.heap := by rcases hw1 with rfl | rfl <;> rfl
    have hw1o : w1.os = w.os ∧ w1.tape = w.tape ∧ w1.output = w.output := by rcases hw1 with rfl | rfl <;> exact ⟨rfl, rfl, rfl⟩
    have hrun' : ∀ ty, (Instr.next (.pointer (some ⟨r, 0, none⟩)) false ty).run P w = .ok (.tuple #[.bool true, K.emb l[i].1, l[i].2]) { w1 with heap := w.heap.setIfInBounds r (.mapIter (some b) since (seen.push e.born) clock) } := fun ty => by
      have : (Instr.next (.pointer (some ⟨r, 0, none⟩)) false ty).run P w = (Instr.next (.pointer (some ⟨r, 0, none⟩)) false 0).run P w := rfl
      rw [this, hrun, hk1, hk2]
    have hb' : (w.heap.setIfInBounds r (.mapIter (some b) since (seen.push e.born) clock))[b]? = some (.map es clock) := by
      rw [Array.getElem?_setIfInBounds, if_neg (fun h => hbr h.symm)]; exact hb
    have hr' : (w.heap.setIfInBounds r (.mapIter (some b) since (seen.push e.born) clock))[r]? = some (.mapIter (some b) since (seen.push e.born) clock) := by
      rw [Array.getElem?_setIfInBounds, if_pos rfl, if_pos hltr]
    refine .inr ⟨l[i].1, l[i].2, { w1 with heap := w.heap.setIfInBounds r (.mapIter (some b) since (seen.push e.born) clock) }, (leftOf es (seen.push e.born)).size, hfx, hnd, ?_, ⟨es, clock, since, clock, seen.push e.born, l, hb', hr', he, hn, hf, hst, h1, h3, h3, rfl, ?_, ?_, ?_⟩, ⟨hw1o.1, hw1o.2.1, hw1o.2.2, by simp, fun j _ hj => ?_⟩, by simp, hrun', ?_⟩
    · rw [← h4]; exact left_shrinks es seen e hel
    · rw [List.map_append, List.nodup_append]
      refine ⟨h5, by simp, ?_⟩
      intro a ha c hc
      simp only [List.map_cons, List.map_nil, List.mem_singleton] at hc
      subst hc
      rintro rfl
      exact hnd ha
    · intro p hp
      rcases List.mem_append.1 hp with hp | hp
      · exact h7 p hp
      · rw [List.mem_singleton.1 hp]; exact hfx
    · intro j e2 p2 hj hp2
      obtain ⟨g1, g2⟩ := h6 j e2 p2 hj hp2
      rw [contains_push]
      by_cases hej : e2.born = e.born
      · have hee : e2 = e := born_inj hst.1 (List.mem_of_getElem? hj) hm hej
        subst hee
        have hij : i = j := nodup_at hst.1 hei hj rfl
        subst hij
        rw [hli] at hp2
        injection hp2 with hp2
        subst hp2
        refine ⟨⟨fun _ => by simp, fun _ => by simp⟩, fun h => by simp at h⟩
      · have hb2 : (e2.born == e.born) = false := by simpa using hej
        rw [hb2, Bool.or_false]
        have hpne : p2.1 ≠ l[i].1 := fun hpe => by
          have hij : j = i := nodup_at hn hp2 hli hpe
          subst hij
          rw [hei] at hj
          injection hj with hj
          exact hej (by rw [hj])
        refine ⟨⟨fun hs => List.mem_append.2 (.inl (g1.1 hs)), fun hs => ?_⟩, fun hs => ?_⟩
        · rcases List.mem_append.1 hs with hs | hs
          · exact g1.2 hs
          · exact absurd (by rw [List.mem_singleton.1 hs]) hpne
        · rw [List.map_append]
          intro hm2
          rcases List.mem_append.1 hm2 with hm2 | hm2
          · exact g2 hs hm2
          · exact hpne (by simpa using hm2)
    · show (w.heap.setIfInBounds r _)[j]? = w.heap[j]?
      rw [Array.getElem?_setIfInBounds, if_neg (fun h => hj (by rw [h]))]
    · have := run_entry_at (P := P) { w1 with heap := w.heap.setIfInBounds r (.mapIter (some b) since (seen.push e.born) clock) } r b since seen es clock e hb' hr' hm hst.1
      rw [this, hk1, hk2]
end
end Go.Proofs.Ytggibiodeecljaa
