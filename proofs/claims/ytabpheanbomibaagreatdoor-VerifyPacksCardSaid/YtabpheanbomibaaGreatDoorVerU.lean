/- 'for k, v := range m' over a map as a function: each entry once, in whatever order; the loop may lay blocks. No program in sight. verify.Code: what its walk leans on. verify.Code, whole. -/
import Derived.Laws.IdiomRangeMap
import Derived.Test.YtabpheanbomibaaGreatDoorSmall
import Derived.Test.YtabpheanbomibaaGreatDoorVer11
import Derived.Test.YtabpheanbomibaaGreatDoorVer3
import Derived.Test.YtabpheanbomibaaGreatDoorVer7
import Derived.Test.YtabpheanbomibaaGreatDoorVerS
import Derived.Test.YtabpheanbomibaaGreatDoorVerZ
namespace Go.Proofs.YtabpheanbomibaaGreatDoor
open Go.RowKit
set_option linter.unusedVariables false

theorem nodup_at {α β : Type} {f : α → β} {l : List α} (h : (l.map f).Nodup) {i j : Nat} {a b : α} (hi : l[i]? = some a) (hj : l[j]? = some b) (e : f a = f b) : i = j := by
  obtain ⟨h1, rfl⟩ := List.getElem?_eq_some_iff.1 hi
  obtain ⟨h2, rfl⟩ := List.getElem?_eq_some_iff.1 hj
  have hp := List.pairwise_iff_getElem.1 h
  have key : ∀ x y (hx : x < l.length) (hy : y < l.length), x < y → f l[x] ≠ f l[y] := fun x y hx hy hxy => by
    have := hp x y (by simpa using hx) (by simpa using hy) hxy
    simpa using this
  rcases Nat.lt_trichotomy i j with q | q | q
  · exact absurd e (key i j h1 h2 q)
  · exact q
  · exact absurd e.symm (key j i h2 h1 q)
theorem run_next_at {P : Program} (w : World) (ty : TypeId) (r bm since c0 : Nat) (seen : Array Nat) (es : Array MapEntry) (clock : Nat) (hb : w.heap[bm]? = some (.map es clock)) (hr : w.heap[r]? = some (.mapIter (some bm) since seen c0)) (hold : ∀ x ∈ es.toList, x.born < since) (hsc : since ≤ c0) :
    ((leftOf es seen).size = 0 ∧ (Instr.next (.pointer (some ⟨r, 0, none⟩)) false ty).run P w = .ok (.tuple #[.bool false]) w) ∨
    ∃ e ∈ (leftOf es seen).toList, ∃ w1 : World, (w1 = w ∨ w1 = w.drew) ∧ (Instr.next (.pointer (some ⟨r, 0, none⟩)) false ty).run P w = .ok (.tuple #[.bool true, e.key, e.val]) { w1 with heap := w.heap.setIfInBounds r (.mapIter (some bm) since (seen.push e.born) clock) } := by
  simp only [Instr.next, getObj, Sem.run_bind, Sem.run, hr, hb, Result.andThen, next_test_false seen es since c0 hold hsc, Bool.false_eq_true, if_false]
  unfold leftOf
  have hmem : ∀ x ∈ (Array.filter (fun e => !seen.contains e.born) es).toList, x.born < since := fun x hx => hold x (by simp at hx ⊢; exact hx.1)
  generalize Array.filter (fun e => !seen.contains e.born) es = L at hmem ⊢
  have e1 : L.filter (fun x => decide (x.born < since)) = L := Array.filter_eq_self.2 (fun x hx => by simpa using hmem x (by simpa using hx))
  have e2 : L.filter (fun x => decide (x.born ≥ since)) = #[] := by
    rw [Array.filter_eq_empty_iff]
    intro x hx
    have := hmem x (by simpa using hx)
    simp
    omega
  simp only [e1, e2, Array.append_empty]
  by_cases h0 : L.size = 0
  · left
    have : L = #[] := Array.eq_empty_of_size_eq_zero h0
    subst this
    refine ⟨rfl, ?_⟩
    simp [choose, Sem.run, Question.forced]
  · right
    have hne : L.isEmpty = false := by simp [Array.isEmpty, h0]
    simp only [hne, Bool.false_eq_true, if_false, Array.empty_append, Array.size_map]
    have hch : ∃ (j : Nat) (w1 : World), j < L.size ∧ (w1 = w ∨ w1 = w.drew) ∧ (choose (Question.mapNext L.size)).run P w = .ok j w1 := by
      by_cases hf : L.size ≤ 1
      · exact ⟨0, w, by omega, .inl rfl, by simp [choose, Sem.run, Question.forced, hf]⟩
      · exact ⟨_, w.drew, Nat.mod_lt _ (by omega), .inr rfl, by
          simp only [choose, Sem.run, Question.forced, decide_eq_true_eq, hf, if_false, Question.cut]
          rfl⟩
    obtain ⟨j, w1, hj, hal, hrun⟩ := hch
    refine ⟨L[j], by simp, w1, hal, ?_⟩
    have hh : w1.heap = w.heap := by rcases hal with rfl | rfl <;> rfl
    have hset : ∀ (o' : Obj), (setObj r o').run P w1 = .ok () { w1 with heap := w.heap.setIfInBounds r o' } := fun o' => by
      simp only [setObj, Sem.run, hh, hr]
    simp only [hrun, Array.getElem?_map, Array.getElem?_eq_getElem hj, Option.map_some, Sem.run_bind, hset, Result.andThen]
    rfl
theorem run_entry_at {P : Program} (w : World) (r bm since : Nat) (seen : Array Nat) (es : Array MapEntry) (clock : Nat) (e : MapEntry) (hb : w.heap[bm]? = some (.map es clock)) (hr : w.heap[r]? = some (.mapIter (some bm) since (seen.push e.born) clock)) (he : e ∈ es.toList) (hn : (es.toList.map (·.born)).Nodup) :
    (Instr.entry (.pointer (some ⟨r, 0, none⟩))).run P w = .ok (.tuple #[e.key, e.val]) w := by
  have hf : es.find? (·.born == e.born) = some e := by rw [← Array.find?_toList]; exact find_born e es.toList hn he
  simp only [Instr.entry, getObj, Sem.run_bind, Sem.run, hr, hb, Result.andThen, Array.back?_push, bne_self_eq_false, Bool.false_eq_true, if_false, hf]
  rfl

section
variable {P : Program} {k : TypeId} {κ : Type} (K : KeyT P k κ)
/-- A loop over map b under way: block r is its iterator; 'done' has been handed out; cnt entries are left. -/
def RangeAt (w : World) (b r : Nat) (f : κ → Option Value) (done : List (κ × Value)) (cnt : Nat) : Prop :=
  ∃ (es : Array MapEntry) (clock since c0 : Nat) (seen : Array Nat) (l : List (κ × Value)), w.heap[b]? = some (.map es clock) ∧ w.heap[r]? = some (.mapIter (some b) since seen c0) ∧ Ents K l es.toList ∧ (l.map (·.1)).Nodup ∧ (∀ x, f x = look K l x) ∧ Stamps es.toList clock ∧
    clock ≤ since ∧ since ≤ c0 ∧ since ≤ clock ∧ (leftOf es seen).size = cnt ∧ (done.map (·.1)).Nodup ∧ (∀ p ∈ done, f p.1 = some p.2) ∧ ∀ (i : Nat) (e : MapEntry) (p : κ × Value), es.toList[i]? = some e → l[i]? = some p → (seen.contains e.born = true ↔ p ∈ done) ∧ (seen.contains e.born = false → p.1 ∉ done.map (·.1))
theorem RangeAt.mk_ {w : World} {b r cnt : Nat} {f : κ → Option Value} {done : List (κ × Value)} (h : RangeAt K w b r f done cnt) : MK K w b f := by
  obtain ⟨es, clock, since, c0, seen, l, h1, h2, h3, h4, h5, h6, _⟩ := h
  exact ⟨es, clock, l, h1, h3, h4, h5, h6⟩
theorem RangeAt.kept {w w' : World} {b r cnt : Nat} {f : κ → Option Value} {done : List (κ × Value)} (h : RangeAt K w b r f done cnt) (hb : w'.heap[b]? = w.heap[b]?) (hr : w'.heap[r]? = w.heap[r]?) : RangeAt K w' b r f done cnt := by
  obtain ⟨es, clock, since, c0, seen, l, h1, h2, h3⟩ := h
  exact ⟨es, clock, since, c0, seen, l, hb.trans h1, hr.trans h2, h3⟩
theorem RangeAt.lt {w : World} {b r cnt : Nat} {f : κ → Option Value} {done : List (κ × Value)} (h : RangeAt K w b r f done cnt) : b < w.heap.size ∧ r < w.heap.size ∧ b ≠ r := by
  obtain ⟨es, clock, since, c0, seen, l, h1, h2, h3⟩ := h
  refine ⟨(Array.getElem?_eq_some_iff.1 h1).1, (Array.getElem?_eq_some_iff.1 h2).1, ?_⟩
  rintro rfl
  rw [h1] at h2
  cases h2
theorem RangeAt.done {w : World} {b r cnt : Nat} {f : κ → Option Value} {done : List (κ × Value)} (h : RangeAt K w b r f done cnt) : (done.map (·.1)).Nodup ∧ ∀ p ∈ done, f p.1 = some p.2 := by
  obtain ⟨es, clock, since, c0, seen, l, _, _, _, _, _, _, _, _, _, _, h1, h2, _⟩ := h
  exact ⟨h1, h2⟩
theorem MK.range {w : World} {b : Nat} {f : κ → Option Value} (h : MK K w b f) {t e : TypeId} (ht : P.underlying t = some (.map k e)) :
    ∃ w' cnt, (Instr.range t (.map (some b))).run P w = .ok (.pointer (some ⟨w.heap.size, 0, none⟩)) w' ∧ RangeAt K w' b w.heap.size f [] cnt ∧ Below w.heap.size w w' := by
  obtain ⟨es, clock, l, hb, he, hn, hf, hst⟩ := h
  have hlt := (Array.getElem?_eq_some_iff.1 hb).1
  refine ⟨w.alloc (.mapIter (some b) clock #[] clock), (leftOf es #[]).size, run_range_map w t k e b es clock ht hb, ⟨es, clock, clock, clock, #[], l, ?_, heap_alloc_new w _, he, hn, hf, hst, Nat.le_refl _, Nat.le_refl _, Nat.le_refl _, rfl, by simp, fun p hp => by simp at hp, fun i e p _ _ => by simp⟩, (Below.refl _ _).alloc (Nat.le_refl _) _⟩
  rw [Below.heap_alloc w _ _ hlt, hb]
theorem look_mem {l : List (κ × Value)} (hn : (l.map (·.1)).Nodup) {x : κ} {v : Value} : look K l x = some v ↔ (x, v) ∈ l := by
  unfold look
  constructor
  · intro h
    cases hq : l.find? (fun p => K.eqb x p.1) with
    | none => rw [hq] at h; cases h
    | some p =>
      rw [hq] at h
      have h1 := List.mem_of_find?_eq_some hq
      have h2 : x = p.1 := (K.eqb_iff _ _).1 (by simpa using List.find?_some (p := fun p : κ × Value => K.eqb x p.1) hq)
      injection h with h
      rw [h2, ← h]
      exact h1
  · intro h
    induction l with
    | nil => cases h
    | cons p l ih =>
      rw [List.map_cons, List.nodup_cons] at hn
      rw [List.find?_cons]
      rcases List.mem_cons.1 h with h | h
      · rw [← h]
        have : K.eqb x x = true := (K.eqb_iff _ _).2 rfl
        simp [this]
      · have hne : K.eqb x p.1 = false := by
          cases hq : K.eqb x p.1 with
          | false => rfl
          | true =>
            have := (K.eqb_iff _ _).1 hq
            exact absurd (by rw [← this]; exact List.mem_map_of_mem h) hn.1
        rw [hne]
        exact ih hn.2 h
theorem RangeAt.next {w : World} {b r cnt : Nat} {f : κ → Option Value} {done : List (κ × Value)} (h : RangeAt K w b r f done cnt) :
    (cnt = 0 ∧ (∀ x v, f x = some v ↔ (x, v) ∈ done) ∧ (done.map (·.1)).Nodup ∧ ∀ ty, (Instr.next (.pointer (some ⟨r, 0, none⟩)) false ty).run P w = .ok (.tuple #[.bool false]) w) ∨
    ∃ x v w' cnt', f x = some v ∧ x ∉ done.map (·.1) ∧ cnt' < cnt ∧ RangeAt K w' b r f (done ++ [(x, v)]) cnt' ∧ w.grownBy w' (some r) ∧ w'.heap.size = w.heap.size ∧ (∀ ty, (Instr.next (.pointer (some ⟨r, 0, none⟩)) false ty).run P w = .ok (.tuple #[.bool true, K.emb x, v]) w') ∧ (Instr.entry (.pointer (some ⟨r, 0, none⟩))).run P w' = .ok (.tuple #[K.emb x, v]) w' := by
  obtain ⟨hltb, hltr, hbr⟩ := h.lt
  obtain ⟨es, clock, since, c0, seen, l, hb, hr, he, hn, hf, hst, h1, h2, h3, h4, h5, h7, h6⟩ := h
  have hlen : es.toList.length = l.length := by have := congrArg List.length he; simpa [Ents] using this
  have hat : ∀ (i : Nat) (e : MapEntry) (p : κ × Value), es.toList[i]? = some e → l[i]? = some p → e.key = K.emb p.1 ∧ e.val = p.2 := fun i e p hi hp => by
    have := ents_at K he i
    rw [hi, hp] at this
    simpa using this
  rcases run_next_at (P := P) w 0 r b since c0 seen es clock hb hr (fun x hx => Nat.lt_of_lt_of_le (hst.2 x hx) h1) h2 with ⟨h0, _⟩ | ⟨e, hel, w1, hw1, hrun⟩
  · refine .inl ⟨by omega, fun x v => ?_, h5, fun ty => ?_⟩
    · have hall := all_seen es seen h0
      rw [hf, look_mem K hn]
      constructor
      · intro hm
        obtain ⟨i, hi, hq⟩ := List.getElem_of_mem hm
        have hi2 : i < es.toList.length := by omega
        exact (h6 i es.toList[i] (x, v) (List.getElem?_eq_getElem hi2) (by rw [List.getElem?_eq_getElem hi, hq])).1.1 (hall _ (List.getElem_mem hi2))
      · intro hd
        have h8 := h7 (x, v) hd
        rw [hf] at h8
        exact (look_mem K hn).1 h8
    · rcases run_next_at (P := P) w ty r b since c0 seen es clock hb hr (fun x hx => Nat.lt_of_lt_of_le (hst.2 x hx) h1) h2 with ⟨_, h⟩ | ⟨e, hel, _⟩
      · exact h
      · have : (leftOf es seen).toList.length = 0 := by simpa using h0
        rw [List.length_eq_zero_iff] at this
        rw [this] at hel
        cases hel
  · obtain ⟨hm, hns⟩ := mem_left hel
    obtain ⟨i, hi, hie⟩ := List.getElem_of_mem hm
    have hil : i < l.length := by omega
    have hei : es.toList[i]? = some e := by rw [List.getElem?_eq_getElem hi, hie]
    have hli : l[i]? = some l[i] := List.getElem?_eq_getElem hil
    obtain ⟨hk1, hk2⟩ := hat i e l[i] hei hli
    obtain ⟨h8, h9⟩ := h6 i e l[i] hei hli
    have hfx : f l[i].1 = some l[i].2 := by rw [hf]; exact (look_mem K hn).2 (List.getElem_mem hil)
    have hnd := h9 hns
    have hw1h : w1.heap = w.heap := by rcases hw1 with rfl | rfl <;> rfl
    have hw1o : w1.os = w.os ∧ w1.tape = w.tape ∧ w1.output = w.output := by rcases hw1 with rfl | rfl <;> exact ⟨rfl, rfl, rfl⟩
    have hrun' : ∀ ty, (Instr.next (.pointer (some ⟨r, 0, none⟩)) false ty).run P w = .ok (.tuple #[.bool true, K.emb l[i].1, l[i].2]) { w1 with heap := w.heap.setIfInBounds r (.mapIter (some b) since (seen.push e.born) clock) } := fun ty => by
      have : (Instr.next (.pointer (some ⟨r, 0, none⟩)) false ty).run P w = (Instr.next (.pointer (some ⟨r, 0, none⟩)) false 0).run P w := rfl
      rw [this, hrun, hk1, hk2]
    have hb' : (w.heap.setIfInBounds r (.mapIter (some b) since (seen.push e.born) clock))[b]? = some (.map es clock) := by
      rw [Array.getElem?_setIfInBounds, if_neg (fun h => hbr h.symm)]; exact hb
    have hr' : (w.heap.setIfInBounds r (.mapIter (some b) since (seen.push e.born) clock))[r]? = some (.mapIter (some b) since (seen.push e.born) clock) := by
      rw [Array.getElem?_setIfInBounds, if_pos rfl, if_pos hltr]
    refine .inr ⟨l[i].1, l[i].2, { w1 with heap := w.heap.setIfInBounds r (.mapIter (some b) since (seen.push e.born) clock) }, (leftOf es (seen.push e.born)).size, hfx, hnd, ?_, ⟨es, clock, since, clock, seen.push e.born, l, hb', hr', he, hn, hf, hst, h1, h3, h3, rfl, ?_, ?_, ?_⟩, ⟨hw1o.1, hw1o.2.1, hw1o.2.2, by simp, fun j _ hj => ?_⟩, by simp, hrun', ?_⟩
    · rw [← h4]; exact left_shrinks es seen e hel
    · rw [List.map_append, List.nodup_append]
      refine ⟨h5, by simp, ?_⟩
      intro a ha c hc
      simp only [List.map_cons, List.map_nil, List.mem_singleton] at hc
      subst hc
      rintro rfl
      exact hnd ha
    · intro p hp
      rcases List.mem_append.1 hp with hp | hp
      · exact h7 p hp
      · rw [List.mem_singleton.1 hp]; exact hfx
    · intro j e2 p2 hj hp2
      obtain ⟨g1, g2⟩ := h6 j e2 p2 hj hp2
      rw [contains_push]
      by_cases hej : e2.born = e.born
      · have hee : e2 = e := born_inj hst.1 (List.mem_of_getElem? hj) hm hej
        subst hee
        have hij : i = j := nodup_at hst.1 hei hj rfl
        subst hij
        rw [hli] at hp2
        injection hp2 with hp2
        subst hp2
        refine ⟨⟨fun _ => by simp, fun _ => by simp⟩, fun h => by simp at h⟩
      · have hb2 : (e2.born == e.born) = false := by simpa using hej
        rw [hb2, Bool.or_false]
        have hpne : p2.1 ≠ l[i].1 := fun hpe => by
          have hij : j = i := nodup_at hn hp2 hli hpe
          subst hij
          rw [hei] at hj
          injection hj with hj
          exact hej (by rw [hj])
        refine ⟨⟨fun hs => List.mem_append.2 (.inl (g1.1 hs)), fun hs => ?_⟩, fun hs => ?_⟩
        · rcases List.mem_append.1 hs with hs | hs
          · exact g1.2 hs
          · exact absurd (by rw [List.mem_singleton.1 hs]) hpne
        · rw [List.map_append]
          intro hm2
          rcases List.mem_append.1 hm2 with hm2 | hm2
          · exact g2 hs hm2
          · exact hpne (by simpa using hm2)
    · show (w.heap.setIfInBounds r _)[j]? = w.heap[j]?
      rw [Array.getElem?_setIfInBounds, if_neg (fun h => hj (by rw [h]))]
    · have := run_entry_at (P := P) { w1 with heap := w.heap.setIfInBounds r (.mapIter (some b) since (seen.push e.born) clock) } r b since seen es clock e hb' hr' hm hst.1
      rw [this, hk1, hk2]
end
end Go.Proofs.YtabpheanbomibaaGreatDoor
namespace Go.Proofs.YtabpheanbomibaaGreatDoor
open Go.RowKit
set_option linter.unusedVariables false

/-- A least number with a property. -/
theorem least_ex {P : Nat → Prop} (h : ∃ m, P m) : ∃ m, P m ∧ ∀ k, P k → m ≤ k := by
  obtain ⟨m, hm⟩ := h
  induction m using Nat.strongRecOn with
  | ind m ih =>
    by_cases hq : ∃ k, k < m ∧ P k
    · obtain ⟨k, hk, hp⟩ := hq
      exact ih k hk hp
    · exact ⟨m, hm, fun k hk => Nat.le_of_not_lt fun hlt => hq ⟨k, hlt, hk⟩⟩
noncomputable def least (P : Nat → Prop) : Nat := Classical.epsilon fun m => P m ∧ ∀ k, P k → m ≤ k
theorem least_spec {P : Nat → Prop} (h : ∃ m, P m) : P (least P) ∧ ∀ k, P k → least P ≤ k := Classical.epsilon_spec (least_ex h)
theorem least_lt {P Q : Nat → Prop} {m m' : Nat} (hm : m = least P) (hq : Q m') (h : m' < m) : least Q < least P := by
  have := (least_spec ⟨m', hq⟩).2 m' hq
  omega
theorem readV_ok {b slots : List Int} {ints texts : Int} (hb : ∀ x ∈ b, 0 ≤ x ∧ x ≤ 255) {l : List Ins} (h : readV b slots ints texts = .inl l) : ∀ x ∈ l, InsOk b.length slots ints texts x := by
  unfold readV at h
  cases hs : scanV b slots ints texts b.length 0 [] with
  | inr p => rw [hs] at h; cases h
  | inl l' =>
    rw [hs] at h
    simp only at h
    cases hj : jumpsV l' (l'.filter isJ) with
    | some p => rw [hj] at h; cases h
    | none =>
      rw [hj] at h
      injection h with h
      subst h
      exact scan_ok hb _ _ _ _ (by simp) hs
/-- The answer as the rounds bring it forth. -/
abbrev AnsV := List (Int × List Int) × Int × Int × Int
def endV (len : Nat) : VS × Option (Int × Int) → AnsV
  | (_, some (e, o)) => ([], 0, e, o)
  | (v, none) => (shapesV len v.stacks, highV (shapesV len v.stacks), 0, 0)
def endR (len : Nat) (slots : List Int) : List Ins ⊕ (Int × Int) → AnsV
  | .inr (e, o) => ([], 0, e, o)
  | .inl l => endV len (loopV len slots l len startV)
theorem codeV_read (b slots : List Int) (ints texts : Int) (h : limitsV b slots ints texts = 0) : codeV b slots ints texts = endR b.length slots (readV b slots ints texts) := by
  unfold codeV readV
  rw [if_neg (by omega)]
  cases scanV b slots ints texts b.length 0 [] with
  | inr p => rfl
  | inl l =>
    simp only
    rw [jumpsV_filter]
    cases jumpsV l l with
    | some p => rfl
    | none =>
      simp only [endR]
      obtain ⟨r, hr⟩ : ∃ r, loopV b.length slots l b.length startV = r := ⟨_, rfl⟩
      rw [hr]
      obtain ⟨v, fl⟩ := r
      cases fl with
      | none => rfl
      | some p => rfl
def LoopAt (wr : World) (B kb ib sb hb : Nat) (bv sv : Value) (ints texts : Int) (slots : List Int) (len : Nat) (T : AnsV) : Option (Int × Int) → Nat → Prop
  | some p, _ => T = ([], 0, p.1, p.2)
  | none, m => ∃ l f v, VAt wr B kb ib sb hb bv sv ints texts l v ∧ VOk len m v ∧ m ≤ f ∧ m ≤ len ∧ (∀ x ∈ l, InsOk len slots ints texts x) ∧ T = endV len (loopV len slots l f v)
def TR (B : Nat) (W8 wr : World) (kb ib sb hb : Nat) (bv sv : Value) (ints texts : Int) (slots : List Int) (len : Nat) (T : AnsV) (v13 : Value) (m : Nat) : Prop :=
  ∃ res, FaultAt wr B v13 res ∧ LoopAt wr B kb ib sb hb bv sv ints texts slots len T res m ∧ Frm B TH W8 wr
/-- The checker as Code makes it. -/
theorem VAt.start {W1 W4 : World} {bv sv : Value} {ints texts : Int} {B : Nat} (hB : B ≤ W1.heap.size)
    (m4 : MK keyI W4 (W1.heap.size + 1) (upd keyI (fun _ => none) (0 : Int) (some (.slice none 0 0)))) (g4 : ((W1.alloc (.map #[] 0)).alloc (.map #[] 0)).grownBy W4 (some (W1.heap.size + 1))) :
    VAt ((W4.alloc (.cells #[.func (.func 29) #[] #[], .slice none 0 0, .int .i64 0] 140)).alloc (.cells #[bv, sv, .int .i64 ints, .int .i64 texts, .map (some W1.heap.size), .map (some (W1.heap.size + 1)), .pointer (some ⟨W4.heap.size, 0, none⟩)] 92)) B (W4.heap.size + 1) W1.heap.size (W1.heap.size + 1) W4.heap.size bv sv ints texts [] ⟨setV (fun _ => none) 0 [], [], 0⟩ := by
  have hs4 := g4.size
  simp only [World.size_alloc] at hs4
  have mi : MK keyI W4 W1.heap.size (fun _ => none) := ((MK.made keyI W1).alloc keyI _).grown keyI g4 (by simp)
  refine ⟨?_, by omega, hB, by omega, by omega, ((mi.alloc keyI _).alloc keyI _).congr keyI (fun y => rfl), ⟨_, (m4.alloc keyI _).alloc keyI _, fun y => ?_, LoneF.set (fun x y a k c a' k' c' h => by cases h) (N := 0) (fun y a k c h => by cases h) (fun a h => by cases h)⟩, ⟨.slice none 0 0, by omega, (Blk.new W4 _ _).alloc _, World.ownsRow_nil _ _ _ _⟩⟩
  · have := Blk.new (W4.alloc (.cells #[.func (.func 29) #[] #[], .slice none 0 0, .int .i64 0] 140)) 92 #[bv, sv, .int .i64 ints, .int .i64 texts, .map (some W1.heap.size), .map (some (W1.heap.size + 1)), .pointer (some ⟨W4.heap.size, 0, none⟩)]
    rw [World.size_alloc] at this
    exact this
  · show match setV (fun _ => none) 0 [] y with | none => _ | some s => _
    unfold setV
    rw [upd_int]
    by_cases e : y = 0
    · rw [if_pos e, if_pos e]
      exact ⟨none, 0, rfl, World.ownsRow_nil _ _ _ _⟩
    · rw [if_neg e, if_neg e]
theorem FaultAt.frm {w w' : World} {B : Nat} {r : Value} {res : Option (Int × Int)} {T : List TypeId} (h : FaultAt w B r res) (hf : Frm B T w w') (ht : 102 ∉ T) : FaultAt w' B r res := by
  cases res with
  | none => exact h
  | some p =>
    obtain ⟨e, o⟩ := p
    obtain ⟨fb, h1, h2, h3⟩ := h
    exact ⟨fb, h1, h2, hf.blk h3 ht⟩
def StartAt (w7 : World) (B kb ib sb hb : Nat) (bv sv : Value) (ints texts : Int) (slots : List Int) (len : Nat) (T : AnsV) (v7 : Value) : Prop :=
  ∃ res, FaultAt w7 B v7 res ∧ match res with
    | some p => T = ([], 0, p.1, p.2)
    | none => ∃ l, VAt w7 B kb ib sb hb bv sv ints texts l ⟨setV (fun _ => none) 0 [], [], 0⟩ ∧ (∀ x ∈ l, InsOk len slots ints texts x) ∧ T = endV len (loopV len slots l len startV)
theorem start_of {W6 w7 : World} {B kb ib sb hb : Nat} {bv sv v7 : Value} {ints texts : Int} {b slots : List Int} {T : AnsV} {rv : List Ins ⊕ (Int × Int)} (hv : VAt W6 B kb ib sb hb bv sv ints texts [] ⟨setV (fun _ => none) 0 [], [], 0⟩) (hok : ReadOk w7 B ib v7 rv) (hf : FrmI ib B W6 w7)
    (hT : T = endR b.length slots rv)
    (hi : ∀ l, rv = .inl l → ∀ x ∈ l, InsOk b.length slots ints texts x) : StartAt w7 B kb ib sb hb bv sv ints texts slots b.length T v7 := by
  cases rv with
  | inr p =>
    obtain ⟨e, o⟩ := p
    exact ⟨some (e, o), hok, hT⟩
  | inl l =>
    obtain ⟨rfl, hm⟩ := hok
    obtain ⟨F, h7, h8, hlo⟩ := hv.stk
    refine ⟨none, rfl, l, ⟨hv.ck.frm hf.frm, hv.hkb, hv.hib, hv.hsb, hv.ne, hm, ⟨F, hf.mk_ h7 (fun e => hv.ne e.symm), h8.frm hf.frm (by simp), hlo⟩, hv.heap.keep hf.frm⟩, hi l rfl, ?_⟩
    rw [hT]
    rfl
theorem TR.start {w7 w9 : World} {B kb ib sb hb len : Nat} {bv sv v7 : Value} {ints texts : Int} {slots : List Int} {T : AnsV} (h : StartAt w7 B kb ib sb hb bv sv ints texts slots len T v7) (o : Obj) (hh : HeapAt w9 B hb (putH [] ((0 : Int), (0 : Int))) (0 + 1)) (hf : FrmH B TH (w7.alloc o) w9) (hB : B ≤ w7.heap.size) (h0 : 0 < len) :
    TR B w9 w9 kb ib sb hb bv sv ints texts slots len T v7 len := by
  obtain ⟨res, h1, h2⟩ := h
  have hb5 := (Below.refl w7.heap.size w7).alloc (Nat.le_refl _) o
  have h3 := (h1.frm (Frm.of_below (T := []) hb5 hB) (by simp)).frm hf.frm (by decide)
  refine ⟨res, h3, ?_, Frm.refl _ _ _⟩
  cases res with
  | some p => exact h2
  | none =>
    obtain ⟨l, hv, hi, hT⟩ := h2
    exact ⟨l, len, startV, (hv.below hb5).put hf hh, VOk.start h0, Nat.le_refl _, Nat.le_refl _, hi, hT⟩
/-- A row of shapes, from what the loop over the table has handed out. -/
def Rows2 (ls : List ShE) (done : List (Int × Value)) : Prop := done = ls.map fun x => (x.at_, Value.slice x.A x.n x.c)
def highS (ls : List ShE) : Int := ls.foldl (fun m x => max m (x.n : Int)) 0
theorem shapes_end {w : World} {B len m : Nat} {F : Int → Option Value} {st : VS} {ls l' : List ShE} {done : List (Int × Value)} {v : Value} (hok : VOk len m st) (hst : StkF w B F st.stacks) (hlo : LoneF F) (hd : Rows2 ls done) (hall : ∀ x v, F x = some v ↔ (x, v) ∈ done) (hnd : (done.map (·.1)).Nodup)
    (hp : l'.Perm ls) (hs : l'.Pairwise (fun a b => a.at_ ≤ b.at_)) (ho : w.ownsRow B 69 2 v ls.length (shVals l')) : ShapesAt w B v (shapesV len st.stacks) ∧ highS ls = highV (shapesV len st.stacks) := by
  have hF : ∀ x ∈ ls, F x.at_ = some (.slice x.A x.n x.c) := fun x hx => (hall _ _).2 (by rw [hd]; exact List.mem_map.2 ⟨x, hx, rfl⟩)
  have hst2 : ∀ x ∈ ls, ∃ s, st.stacks x.at_ = some s ∧ x.n = s.length ∧ w.ownsRow B 82 1 (.slice x.A s.length x.c) s.length (s.map (Value.int .i8)) := fun x hx => by
    have h1 := hst x.at_
    have h2 := hF x hx
    cases hq : st.stacks x.at_ with
    | none => rw [hq] at h1; rw [h1] at h2; cases h2
    | some s =>
      rw [hq] at h1
      obtain ⟨A, c, h3, h4⟩ := h1
      rw [h3] at h2
      injection h2 with h2
      injection h2 with e1 e2 e3
      refine ⟨s, rfl, e2.symm, ?_⟩
      rw [← e1, ← e3]
      exact h4
  have hmap : l'.map (fun x => (x.at_, (st.stacks x.at_).getD [])) = shapesV len st.stacks := by
    refine rise_eq ?_ (shapes_rise len st.stacks) fun p => ?_
    · have hnd2 : (l'.map (·.at_)).Nodup := by
        have h1 : (ls.map (·.at_)).Nodup := by rw [hd] at hnd; simpa [Function.comp_def] using hnd
        exact (hp.map _).nodup_iff.2 h1
      rw [List.pairwise_map]
      rw [List.Nodup, List.pairwise_map] at hnd2
      exact List.Pairwise.imp₂ (fun a b h1 h2 => by show a.at_ < b.at_; omega) hs hnd2
    · rw [shapes_mem, List.mem_map]
      constructor
      · rintro ⟨x, hx, rfl⟩
        obtain ⟨s, h1, _⟩ := hst2 x (hp.mem_iff.1 hx)
        have h2 : 0 ≤ x.at_ ∧ x.at_ < len := by
          by_cases q : x.at_ < 0 ∨ (len : Int) ≤ x.at_
          · rw [hok.top _ q] at h1; cases h1
          · omega
        exact ⟨h2.1, h2.2, by show st.stacks x.at_ = some ((st.stacks x.at_).getD []); rw [h1]; rfl⟩
      · rintro ⟨h0, h1, h2⟩
        have h3 := hst p.1
        rw [h2] at h3
        obtain ⟨A, c, h4, h5⟩ := h3
        have h6 := (hall _ _).1 h4
        rw [hd] at h6
        obtain ⟨x, hx, he⟩ := List.mem_map.1 h6
        injection he with he1 he2
        refine ⟨x, hp.mem_iff.2 hx, ?_⟩
        rw [he1, h2]
        rfl
  refine ⟨⟨l', by rw [hp.length_eq]; exact ho, by rw [← hmap, List.length_map], fun i x p hi hq => ?_, fun x hx y hy a b ha hb hab => ?_⟩, ?_⟩
  · rw [← hmap, List.getElem?_map, hi] at hq
    injection hq with hq
    subst hq
    obtain ⟨s, h1, h2, h3⟩ := hst2 x (hp.mem_iff.1 (List.mem_of_getElem? hi))
    refine ⟨rfl, ?_, ?_⟩
    · show x.n = ((st.stacks x.at_).getD []).length
      rw [h1]; exact h2
    · show w.ownsRow B 82 1 (.slice x.A ((st.stacks x.at_).getD []).length x.c) ((st.stacks x.at_).getD []).length (((st.stacks x.at_).getD []).map (Value.int .i8))
      rw [h1]; exact h3
  · have h1 := hF x (hp.mem_iff.1 hx)
    have h2 := hF y (hp.mem_iff.1 hy)
    rw [ha] at h1
    rw [hb] at h2
    exact hlo _ _ _ _ _ _ _ _ h1 h2 hab
  · have h1 : highS l' = highS ls := by
      unfold highS
      exact hp.foldl_eq' (fun x _ y _ z => by show max (max z (x.n : Int)) (y.n : Int) = max (max z (y.n : Int)) (x.n : Int); omega) 0
    have h2 : ∀ (l : List ShE) (m : Int), (∀ x ∈ l, x ∈ ls) → l.foldl (fun m x => max m (x.n : Int)) m = (l.map (fun x => (x.at_, (st.stacks x.at_).getD []))).foldl (fun m p => max m (p.2.length : Int)) m := by
      intro l
      induction l with
      | nil => exact fun m _ => rfl
      | cons a r ih =>
        intro m h
        rw [List.map_cons, List.foldl_cons, List.foldl_cons]
        obtain ⟨s, h3, h4, _⟩ := hst2 a (h a (by simp))
        rw [ih _ (fun x hx => h x (by simp [hx])), h3, h4]
        rfl
    rw [← h1, ← hmap]
    exact h2 l' 0 (fun x hx => hp.mem_iff.1 hx)
/-- A loop's iterator moved. -/
theorem Frm.iter {B : Nat} {T : List TypeId} {a w w' : World} {P : Program} {k : TypeId} {κ : Type} {K : KeyT P k κ} {b r cnt : Nat} {f : κ → Option Value} {done : List (κ × Value)} (h : Frm B T a w) (hr : RangeAt K w b r f done cnt) (hB : B ≤ r) (hg : w.grownBy w' (some r)) (hs : B ≤ w.heap.size) : Frm B T a w' := by
  obtain ⟨es, clock, since, c0, seen, l, h1, h2, h3⟩ := hr
  refine h.trans ⟨⟨hg.os, hg.tape, hg.output, hg.size, fun i hi => hg.block i (by omega) (by simp; omega)⟩, fun g cs t fr hgc ht => hg.block g (Array.getElem?_eq_some_iff.1 hgc).1 ?_⟩
  rintro e
  injection e with e
  subst e
  rw [h2] at hgc
  cases hgc
theorem loop_step {len : Nat} {slots : List Int} {l : List Ins} {f m : Nat} {st : Int → Option (List Int)} {hp : List HEnt} {cm : Int} (hne : hp ≠ []) (hmf : m ≤ f) (hm1 : 1 ≤ m) :
    loopV len slots l f ⟨st, hp, cm⟩ = (match (lookV len slots ((insAt l (atH hp 0).1).getD ins0) ⟨st, takeH hp, cm⟩).2 with
      | some e => ((lookV len slots ((insAt l (atH hp 0).1).getD ins0) ⟨st, takeH hp, cm⟩).1, some e)
      | none => loopV len slots l (f - 1) (lookV len slots ((insAt l (atH hp 0).1).getD ins0) ⟨st, takeH hp, cm⟩).1) := by
  obtain ⟨g, rfl⟩ : ∃ g, f = g + 1 := ⟨f - 1, by omega⟩
  rw [loopV, if_neg hne]
  rfl
theorem TR.step {W8 w3 : World} {B kb ib sb hb len : Nat} {bv sv r : Value} {ints texts : Int} {slots : List Int} {T : AnsV} {l : List Ins} {f m : Nat} {st : Int → Option (List Int)} {hp : List HEnt} {cm : Int}
    (h0 : 0 < len) (hO : VOk len m ⟨st, hp, cm⟩) (hne : hp ≠ []) (hmf : m ≤ f) (hml : m ≤ len) (hins : ∀ x ∈ l, InsOk len slots ints texts x) (hT : T = endV len (loopV len slots l f ⟨st, hp, cm⟩))
    (hfa : FaultAt w3 B r (lookV len slots ((insAt l (atH hp 0).1).getD ins0) ⟨st, takeH hp, cm⟩).2) (hv : VAt w3 B kb ib sb hb bv sv ints texts l (lookV len slots ((insAt l (atH hp 0).1).getD ins0) ⟨st, takeH hp, cm⟩).1) (hfr : Frm B TH W8 w3) :
    TR B W8 w3 kb ib sb hb bv sv ints texts slots len T r (m - 1) := by
  obtain ⟨hv2, hm1, ha0, ha1⟩ := hO.take hne
  have hx := at_ok hins h0 (atH hp 0).1
  have hst := loop_step (len := len) (slots := slots) (l := l) (st := st) (cm := cm) hne hmf hm1
  have hok : VOk len (m - 1) (lookV len slots ((insAt l (atH hp 0).1).getD ins0) ⟨st, takeH hp, cm⟩).1 := look_ok hv2 hx.next hx.tg
  rw [hst] at hT
  obtain ⟨R, hR⟩ : ∃ R, lookV len slots ((insAt l (atH hp 0).1).getD ins0) ⟨st, takeH hp, cm⟩ = R := ⟨_, rfl⟩
  rw [hR] at hT hfa hv hok
  obtain ⟨v1, fl⟩ := R
  refine ⟨fl, hfa, ?_, hfr⟩
  cases fl with
  | some p => exact hT
  | none => exact ⟨l, f - 1, v1, hv, hok, by omega, by omega, hins, hT⟩
theorem zero_insV (w : World) : (zeroValue 100).run Tryz.prog w = .ok (.agg ins0.cells) w := by kernel_rfl
theorem info_shape : (Tryz.prog.info? 69).map (fun i => (i.zero, i.size, i.bytes)) = some (some (.agg #[.int .i64 0, .slice none 0 0]), 2, 32) := by kernel_rfl
theorem shape_el : ElT Tryz.prog 29 69 2 32 := ⟨Tryz.underlying29, by decide, by
  obtain ⟨i0, hi, hz0, hz1, hz2⟩ := info_parts info_shape
  exact ⟨i0, _, hi, hz0, hz1, hz2, rfl⟩⟩
theorem shVals_snoc (l : List ShE) (x : ShE) : shVals (l ++ [x]) = shVals l ++ [.int .i64 x.at_, .slice x.A x.n x.c] := by simp [shVals, encS]
theorem highS_snoc (l : List ShE) (x : ShE) : highS (l ++ [x]) = max (highS l) (x.n : Int) := by simp [highS]
theorem nodup_lt : ∀ (n : Nat) (l : List Int), l.Nodup → (∀ x ∈ l, 0 ≤ x ∧ x < n) → l.length ≤ n
  | 0, l, hn, h => by
    cases l with
    | nil => simp
    | cons a r => have := h a (by simp); omega
  | n + 1, l, hn, h => by
    by_cases hm : (n : Int) ∈ l
    · have h1 := nodup_lt n (l.erase (n : Int)) (hn.erase _) (fun x hx => by
        have h2 := (List.Nodup.mem_erase_iff hn).1 hx
        have h3 := h x h2.2
        have h4 := h2.1
        omega)
      rw [List.length_erase_of_mem hm] at h1
      omega
    · have h1 := nodup_lt n l hn (fun x hx => by
        have h3 := h x hx
        have h4 : x ≠ n := fun e => hm (e ▸ hx)
        omega)
      omega
theorem rows_len {w : World} {B n m sb r cnt : Nat} {F : Int → Option Value} {st : VS} {done : List (Int × Value)} {ls : List ShE} (hra : RangeAt keyI w sb r F done cnt) (hd : Rows2 ls done) (hS : StkF w B F st.stacks) (hok : VOk n m st) : ls.length ≤ n := by
  obtain ⟨h1, h2⟩ := hra.done keyI
  have h3 := nodup_lt n (done.map (·.1)) h1 (fun x hx => by
    obtain ⟨p, hp, rfl⟩ := List.mem_map.1 hx
    have h4 := h2 p hp
    by_cases q : p.1 < 0 ∨ (n : Int) ≤ p.1
    · have h5 := hS p.1
      rw [hok.top _ q] at h5
      rw [h5] at h4
      cases h4
    · omega)
  rw [hd] at h3
  simpa using h3
theorem stk_at {w : World} {B n m : Nat} {F : Int → Option Value} {st : VS} (hS : StkF w B F st.stacks) (hok : VOk n m st) {x : Int} {v : Value} (h : F x = some v) : ∃ (A : Option Addr) (k c : Nat), v = .slice A k c ∧ 0 ≤ x ∧ x < n ∧ k ≤ 256 := by
  have h1 := hS x
  cases hq : st.stacks x with
  | none => rw [hq] at h1; rw [h1] at h; cases h
  | some s =>
    rw [hq] at h1
    obtain ⟨A, c, h2, h3⟩ := h1
    rw [h2] at h
    injection h with h
    refine ⟨A, s.length, c, h.symm, ?_, ?_, hok.high x s hq⟩
    all_goals
      by_cases q : x < 0 ∨ (n : Int) ≤ x
      · rw [hok.top _ q] at hq; cases hq
      · omega
theorem rows_some {w : World} {B n m : Nat} {F : Int → Option Value} {st : VS} {done : List (Int × Value)} {ls : List ShE} (hd : Rows2 ls done) (hS : StkF w B F st.stacks) (hok : VOk n m st) (hall : ∀ x v, F x = some v ↔ (x, v) ∈ done) : 0 < ls.length := by
  have h1 := hS 0
  rw [hok.zero] at h1
  obtain ⟨A, c, h2, _⟩ := h1
  have h3 := (hall _ _).1 h2
  rw [hd] at h3
  obtain ⟨x, hx, _⟩ := List.mem_map.1 h3
  exact List.length_pos_of_mem hx
theorem insF_at (l : List Ins) (o : Int) : (insF l o).getD (.agg ins0.cells) = .agg ((insAt l o).getD ins0).cells := by
  unfold insF
  cases insAt l o with
  | none => rfl
  | some x => rfl
def RR (B : Nat) (W11 wr : World) (sb r : Nat) (F : Int → Option Value) (v8 v9 : Value) (cnt : Nat) : Prop :=
  ∃ (done : List (Int × Value)) (ls : List ShE), RangeAt keyI wr sb r F done cnt ∧ Rows2 ls done ∧ wr.ownsRow W11.heap.size 69 2 v8 ls.length (shVals ls) ∧ v9 = .int .i64 (highS ls) ∧ Frm B [] W11 wr
end Go.Proofs.YtabpheanbomibaaGreatDoor
namespace Go.Proofs.YtabpheanbomibaaGreatDoor
open Go.RowKit
set_option linter.unusedVariables false

section
variable (w : World) (BA SA : Option Addr) (b slots : List Int) (bc sc : Nat) (ints texts : Int)
/-- What Code answers. -/
def CodeEnd (w w' : World) (e : Ending) (T : AnsV) : Prop := ∃ v, e = .returned (.tuple #[v, .int .i64 T.2.1, .agg #[.int .i64 T.2.2.1, .int .i64 T.2.2.2, .int .i64 0, .int .i64 0]]) ∧ ShapesAt w' w.heap.size v T.1 ∧ (T.2.2.1 ≠ 0 → v = .slice none 0 0) ∧ Below w.heap.size w w'
set_option maxRecDepth 100000 in
set_option maxHeartbeats 16000000 in
theorem code_good (hbt : BytesAt w BA b) (hbc : b.length ≤ bc) (hs : slots.length ≤ 281474976710656) (hS : SmallsAt w SA slots) (hl : limitsV b slots ints texts = 0) :
    Calls Tryz.prog 8 #[.slice BA b.length bc, .slice SA slots.length sc, .int .i64 ints, .int .i64 texts] w fun e w' => CodeEnd w w' e (codeV b slots ints texts) := by
  obtain ⟨p1, p2, p3, p4, p5, p6, p7, p8, p9, p10, p11⟩ := limits_pos hl
  have hlm := fun wx (hx : Below w.heap.size w wx) => limits_any BA SA b slots bc sc ints texts wx (by omega) hs (hS.below hx)
  simp only [hl] at hlm
  obtain ⟨T, hT⟩ : ∃ T, codeV b slots ints texts = T := ⟨_, rfl⟩
  have hT2 := codeV_read b slots ints texts hl
  rw [hT] at hT2 ⊢
  have hins := fun l (h : readV b slots ints texts = .inl l) => readV_ok hbt.byte h
  have hread := fun (W6 : World) (kb ib sb hb : Nat) h1 h2 h3 h4 h5 => vreadI_any w W6 kb ib sb hb BA SA b slots bc sc ints texts h1 h2 h3 h4 hbt hS h5 p1 hbc (by omega)
  have hsx : ∀ wx, Below w.heap.size w wx → SmallsAt wx SA slots := fun wx h => hS.below h
  have hlook := fun (wx : World) (kb ib sb hb : Nat) (l : List Ins) (v : VS) (x : Ins) hV hS hx0 hxn hB hat hat2 hsl hh h0 hc => look_any wx w.heap.size kb ib sb hb BA SA b.length bc sc slots ints texts l v x hV hS (by omega) hx0 hxn p1 hB hat hat2 hsl hh h0 hc
  obtain ⟨n, hn⟩ : ∃ n, b.length = n := ⟨_, rfl⟩
  obtain ⟨ns, hns⟩ : ∃ n, slots.length = n := ⟨_, rfl⟩
  obtain ⟨B, hBe⟩ : ∃ B, w.heap.size = B := ⟨_, rfl⟩
  unfold CodeEnd
  rw [hn, hns] at hlm hread hlook ⊢
  rw [hn] at hT2 hins p1 p11
  rw [hBe] at hlm hread hsx hlook ⊢
  have HL := Lib.hid hlm
  have HRD := Lib.hid hread
  have HLK := Lib.hid hlook
  have HT := Lib.hid hT2
  have HI := Lib.hid hins
  have HSX := Lib.hid hsx
  have HN := Lib.hid hn
  clear hlm hS hl hn hns hread hlook hT2 hT hins hsx hbt
  go_enter Tryz.func8, Tryz.ntmps8
  go_wp2_with fail
  refine (HL.out _ (by rw [← hBe]; exact (Below.refl _ _).alloc (Nat.le_refl _) _)).mono ?_
  rintro e w1 ⟨rfl, rfl⟩
  have hmm := @run_makeMap Tryz.prog
  obtain ⟨W1, hW1⟩ : ∃ W1, W1 = w.alloc (.cells #[.int .i64 0, .int .i64 0, .int .i64 0, .int .i64 0] 32) := ⟨_, rfl⟩
  have hB1 : Below B w W1 := by rw [hW1, ← hBe]; exact (Below.refl _ _).alloc (Nat.le_refl _) _
  have hg1 : Blk W1 B 32 #[.int .i64 0, .int .i64 0, .int .i64 0, .int .i64 0] := by rw [hW1, ← hBe]; exact Blk.new _ _ _
  have hz1 : W1.heap.size = B + 1 := by rw [hW1, World.size_alloc, hBe]
  rw [← hW1]
  have m0 := MK.made keyI (W1.alloc (.map #[] 0))
  rw [World.size_alloc] at m0
  obtain ⟨W4, hr4, m4, g4⟩ := m0.update keyI Tryz.underlying87 (0 : Int) (.slice none 0 0)
  have hr5 : (Instr.mapUpdate 87 (.map (some (W1.heap.size + 1))) (.int .i64 0) (.slice none 0 0)).run Tryz.prog ((W1.alloc (.map #[] 0)).alloc (.map #[] 0)) = .ok () W4 := hr4
  have hv6 := VAt.start (B := B) (bv := .slice BA n bc) (sv := .slice SA ns sc) (ints := ints) (texts := texts) (by omega) m4 g4
  have hz4 := g4.size
  simp only [World.size_alloc] at hz4
  have hB4 : Below B w W4 := (hB1.alloc (by omega) (.map #[] 0)).alloc (by simp; omega) (.map #[] 0) |>.trans ⟨g4.os, g4.tape, g4.output, g4.size, fun i hi => g4.block i (by simp; omega) (by simp; omega)⟩
  have hg4 : Blk W4 B 32 #[.int .i64 0, .int .i64 0, .int .i64 0, .int .i64 0] := ((hg1.alloc _).alloc _).grown g4 (by simp; omega)
  have HV6 := Lib.hid hv6
  have HB4 := Lib.hid hB4
  have HG4 := Lib.hid hg4
  have HZ1 := Lib.hid hz1
  have HZ4 := Lib.hid hz4
  clear hW1 m4 g4 m0 hr4 hv6 hB4 hg4 hB1 hg1 hz1 hz4
  go_wp2_with fail
  refine (newheap_any _).mono ?_
  rintro e w2 ⟨rfl, rfl⟩
  go_wp2_with fail
  have hv := HV6.out
  obtain ⟨W6, hW6⟩ : ∃ W6, W6 = (W4.alloc (.cells #[.func (.func 29) #[] #[], .slice none 0 0, .int .i64 0] 140)).alloc (.cells #[.slice BA n bc, .slice SA ns sc, .int .i64 ints, .int .i64 texts, .map (some W1.heap.size), .map (some (W1.heap.size + 1)), .pointer (some ⟨W4.heap.size, 0, none⟩)] 92) := ⟨_, rfl⟩
  have hB6 : Below B w W6 := by rw [hW6]; exact (HB4.out.alloc (by have := HZ4.out; have := HZ1.out; omega) _).alloc (by have := HZ4.out; have := HZ1.out; simp; omega) _
  have hg6 : Blk W6 B 32 #[.int .i64 0, .int .i64 0, .int .i64 0, .int .i64 0] := by rw [hW6]; exact (HG4.out.alloc _).alloc _
  rw [← hW6] at hv ⊢
  obtain ⟨kb, hkb⟩ : ∃ k, k = W4.heap.size + 1 := ⟨_, rfl⟩
  obtain ⟨hb, hhb⟩ : ∃ k, k = W4.heap.size := ⟨_, rfl⟩
  obtain ⟨ib, hib⟩ : ∃ k, k = W1.heap.size := ⟨_, rfl⟩
  obtain ⟨sb, hsb⟩ : ∃ k, k = W1.heap.size + 1 := ⟨_, rfl⟩
  rw [← hkb, ← hsb, ← hhb, ← hib] at hv
  rw [← hkb]
  have hz4 := HZ4.out
  have hz1 := HZ1.out
  have hzW6 : kb < W6.heap.size := hv.ck.lt
  have HV := Lib.hid hv
  have hrd := HRD.out W6 kb ib sb hb hB6 hv.ck hv.hkb hv.hib (hv.ins.congr keyI (fun _ => rfl))
  have HRD2 := Lib.hid hrd
  have HB6 := Lib.hid hB6
  have HG6 := Lib.hid hg6
  clear hv hrd hB6 hg6 hW6 HV6 HB4 HG4 HRD hr5 hkb hsb hhb hib hz4 hz1 HZ1 HZ4 hmm
  refine HRD2.out.mono ?_
  rintro e w7 ⟨v7, rfl, hok, hf7⟩
  have hk7 := HV.out.ck.frm hf7.frm
  have hh7 : HeapAt w7 B hb [] 0 := HV.out.heap.keep hf7.frm
  have hkB := HV.out.hkb
  have hg7 := hf7.frm.blk HG6.out (by simp)
  have hB7 := HB6.out.trans hf7.below
  have hz7 := hf7.size
  have k6 : w7.cell? ⟨kb, 6, none⟩ = some (.pointer (some ⟨hb, 0, none⟩)) := Blk.cell hk7 6
  have hb5 := (Below.refl w7.heap.size w7).alloc (Nat.le_refl _) (.cells #[.int .i64 0] 3)
  have hput := put_any (w7.alloc (.cells #[.int .i64 0] 3)) 0 w7.heap.size (hh7.below hb5) ((Blk.new w7 3 #[.int .i64 0]).cell 0) (by simp) (by simp; omega) (by simp) (by omega) (by omega)
  obtain ⟨rv, hrv⟩ : ∃ r, readV b slots ints texts = r := ⟨_, rfl⟩
  rw [hrv] at hok
  have ht := HT.out
  rw [hrv] at ht
  have hi := HI.out
  rw [hrv] at hi
  have hst := start_of (b := b) (slots := slots) (T := T) (rv := rv) HV.out hok hf7 (by rw [HN.out]; exact ht) (by rw [HN.out]; exact hi)
  rw [HN.out] at hst
  have HST := Lib.hid hst
  have HP := Lib.hid hput
  have HG7 := Lib.hid hg7
  have HK7 := Lib.hid hk7
  have HB7 := Lib.hid hB7
  clear hst hput hg7 hk7 hB7 hok ht hi hh7 hb5 hrv HT HI HRD2 hf7
  have hBz7 : B ≤ w7.heap.size := by have := HV.out.hkb; omega
  go_wp2_with fail
  refine HP.out.mono ?_
  rintro e w9 ⟨rfl, hh9, hf9⟩
  have htr := TR.start HST.out _ hh9 hf9 hBz7 (by omega)
  have hg9 := hf9.frm.blk (HG7.out.alloc (.cells #[.int .i64 0] 3)) (by decide)
  have hB9 : Below B w w9 := (HB7.out.alloc hBz7 _).trans hf9.frm.below
  have hBz9 : B < w9.heap.size := hg9.lt
  have HTR := Lib.hid htr
  have HG9 := Lib.hid hg9
  have HB9 := Lib.hid hB9
  clear htr hg9 hB9 hh9 hf9 HST HP HG7 HK7 HB7
  go_wp2_with fail
  go_loopw [13, 14, 15] (fun v13 _ _ wr => ∃ m, TR B w9 wr kb ib sb hb (.slice BA n bc) (.slice SA ns sc) ints texts slots n T v13 m) (fun v13 _ _ wr => least fun m => TR B w9 wr kb ib sb hb (.slice BA n bc) (.slice SA ns sc) ints texts slots n T v13 m)
  case atStart => exact ⟨_, HTR.out⟩
  case round =>
    have hsp := least_spec hrel
    obtain ⟨m, hm⟩ : ∃ m, m = least (TR B w9 wr kb ib sb hb (.slice BA n bc) (.slice SA ns sc) ints texts slots n T u13) := ⟨_, rfl⟩
    rw [← hm] at hsp
    obtain ⟨⟨res, hfa, hla, hfr⟩, _⟩ := hsp
    have HM := Lib.hid hm
    have HFR := Lib.hid hfr
    clear hrel hm hfr
    have hgr := HFR.out.blk HG9.out (by decide)
    have hBr := HB9.out.trans HFR.out.below
    have hBz : B < wr.heap.size := hgr.lt
    cases res with
    | some p =>
      obtain ⟨e0, o0⟩ := p
      obtain ⟨fb, rfl, hfb, hblk⟩ := hfa
      have hT : T = ([], 0, e0, o0) := hla
      have hne : fb ≠ B := hblk.ne_ hgr (by decide)
      have f0 := hblk.cell 0
      have f1 := hblk.cell 1
      have f2 := hblk.cell 2
      have f3 := hblk.cell 3
      have g0 := hgr.cell 0
      have g1 := hgr.cell 1
      have g2 := hgr.cell 2
      have g3 := hgr.cell 3
      have z0 := hgr.frozen 0
      have z1 := hgr.frozen 1
      have z2 := hgr.frozen 2
      have z3 := hgr.frozen 3
      have HGR := Lib.hid hgr
      have HBR := Lib.hid hBr
      have HT := Lib.hid hT
      clear hgr hBr hT hla hblk HG9 HB9 HFR HTR HV
      go_wp2_with fail
      refine wp_region_text (by kernel_rfl) (by kernel_rfl) ?_
      go_wp2_with fail
      refine Only.normal ?_
      go_wp2_with fail
      have b0 := HGR.out
      have b1 := b0.set_ 0 (.int .i64 e0)
      have b2 := b1.set_ 1 (.int .i64 o0)
      have b3 := b2.set_ 2 (.int .i64 0)
      have b4 := b3.set_ 3 (.int .i64 0)
      have hfw := (((Frm.refl B [32] wr).set_ (i := 0) b0 (Nat.le_refl _) (by simp) (.int .i64 e0)).set_ (i := 1) b1 (Nat.le_refl _) (by simp) (.int .i64 o0)).set_ (i := 2) b2 (Nat.le_refl _) (by simp) (.int .i64 0) |>.set_ (i := 3) b3 (Nat.le_refl _) (by simp) (.int .i64 0)
      refine bodyPost_ret (results_ttc rfl _ _ B 32 #[.int .i64 e0, .int .i64 o0, .int .i64 0, .int .i64 0] (0, 0) _ rfl b4.drew Tryz.underlying32 rfl fault_info) rfl ?_
      rw [HT.out]
      exact ⟨_, rfl, ShapesAt.none_ _ _, fun _ => rfl, (HBR.out.trans hfw.below).drew⟩
    | none =>
      obtain rfl : u13 = .pointer none := hfa
      obtain ⟨l, f, v, hV, hO, hmf, hml, hins, hT⟩ := hla
      obtain ⟨st, hp, cm⟩ := v
      have k6 : wr.cell? ⟨kb, 6, none⟩ = some (.pointer (some ⟨hb, 0, none⟩)) := Blk.cell hV.ck 6
      by_cases hh : hp = []
      · subst hh
        have htk := take_none wr hV.heap
        have k5 : wr.cell? ⟨kb, 5, none⟩ = some (.map (some sb)) := Blk.cell hV.ck 5
        obtain ⟨F, hF, hSF, hLF⟩ := hV.stk
        have HLF := Lib.hid hLF
        clear hLF
        obtain ⟨w11, cnt0, hrange, hra, hbe⟩ := hF.range keyI Tryz.underlying87
        have hT2 : T = (shapesV n st, highV (shapesV n st), 0, 0) := by
          rw [hT]
          cases f with
          | zero => rfl
          | succ f => rw [loopV, if_pos rfl]; rfl
        have hgr2 := hgr.below hbe hgr.lt
        have hBr2 : Below B w w11 := hBr.trans (hbe.mono (by omega))
        have hz11 := hbe.size
        obtain ⟨r, hr⟩ : ∃ r, wr.heap.size = r := ⟨_, rfl⟩
        rw [hr] at hrange hra
        have hBr3 : B < r := by omega
        have hSF2 := hSF.frm (Frm.of_below (T := []) hbe (by omega : B ≤ wr.heap.size)) (by simp)
        have HTK := Lib.hid htk
        have HO := Lib.hid hO
        have HSF := Lib.hid hSF2
        have HRA := Lib.hid hra
        have HT := Lib.hid hT2
        have HG11 := Lib.hid hgr2
        have HB11 := Lib.hid hBr2
        have hB11 : B < w11.heap.size := by omega
        clear htk hO hSF hSF2 hra hT hT2 hgr2 hBr2 hgr hBr hV hF hbe hz11 hr hins hmf hml HG9 HB9 HFR HTR HV HM
        go_wp2_with fail
        refine HTK.out.mono ?_
        rintro e wz ⟨rfl, rfl⟩
        go_wp2_with fail
        go_loopw [8, 9, 16, 17] (fun v8 v9 _ _ wx => ∃ cnt, RR B w11 wx sb r F v8 v9 cnt) (fun v8 v9 _ _ wx => least fun cnt => RR B w11 wx sb r F v8 v9 cnt)
        case atStart => exact ⟨_, [], [], HRA.out, rfl, World.ownsRow_nil _ _ _ _, rfl, Frm.refl _ _ _⟩
        case round =>
          have hsp := least_spec hrel
          obtain ⟨cnt, hm⟩ : ∃ cnt, cnt = least (fun cnt => RR B w11 wr sb r F u8 u9 cnt) := ⟨_, rfl⟩
          rw [← hm] at hsp
          obtain ⟨⟨done, ls, hra, hr2, hown, rfl, hfr⟩, _⟩ := hsp
          have HM := Lib.hid hm
          clear hrel hm
          have hSw := HSF.out.frm hfr (by simp)
          have hlen := rows_len hra hr2 hSw HO.out
          have hgw := hfr.blk HG11.out (by simp)
          have hzw := hfr.size
          obtain ⟨A8, c8, rfl⟩ := own_form hown
          rcases hra.next (P := Tryz.prog) keyI with ⟨_, hall, hnd, hnx⟩ | ⟨x, val, w2, cnt', hx, hxn, hlt, hra2, hg2, hsz2, hnx, hent⟩
          · have hpos := rows_some hr2 hSw HO.out hall
            obtain ⟨g, rfl⟩ : ∃ g, A8 = some ⟨g, 0, none⟩ := by
              rcases hown.2 with ⟨_, e⟩ | ⟨g, cap, cur, e, _⟩
              · omega
              · injection e with e
                exact ⟨g, e⟩
            have hs := sort_any (w := wr) (g := g) (cap := c8) (B := w11.heap.size) ls.toArray (by simpa using hown) (by simp; omega)
            simp only [List.size_toArray] at hs
            obtain ⟨nl, hnl⟩ : ∃ k, ls.length = k := ⟨_, rfl⟩
            obtain ⟨hi, hhi⟩ : ∃ k, highS ls = k := ⟨_, rfl⟩
            rw [hnl] at hs hlen ⊢
            rw [hhi]
            have HNL := Lib.hid hnl
            have HHI := Lib.hid hhi
            have HS := Lib.hid hs
            have HGW := Lib.hid hgw
            have HBW := Lib.hid (HB11.out.trans hfr.below)
            have HSW := Lib.hid hSw
            have HR2 := Lib.hid hr2
            have HALL := Lib.hid hall
            have HND := Lib.hid hnd
            clear hra hr2 hown hfr hSw hgw hnl hhi hs hall hnd hpos
            go_wp2_with fail
            refine HS.out.mono ?_
            rintro e w7 ⟨rfl, l', hpm, hso, ho7, hf7⟩
            have hg7 := hf7.blk HGW.out (by simp)
            have hz7 := hf7.size
            have g0 := hg7.cell 0
            have g1 := hg7.cell 1
            have g2 := hg7.cell 2
            have g3 := hg7.cell 3
            have z0 := hg7.frozen 0
            have z1 := hg7.frozen 1
            have z2 := hg7.frozen 2
            have z3 := hg7.frozen 3
            have HPM := Lib.hid hpm
            have HSO := Lib.hid hso
            have HO7 := Lib.hid ho7
            have HF7 := Lib.hid hf7
            have HG7 := Lib.hid hg7
            clear hpm hso ho7 hf7 hg7
            go_wp2_with fail
            have b0 := HG7.out
            have b1 := b0.set_ 0 (.int .i64 0)
            have b2 := b1.set_ 1 (.int .i64 0)
            have b3 := b2.set_ 2 (.int .i64 0)
            have b4 := b3.set_ 3 (.int .i64 0)
            have hfw := (((Frm.refl B [32] w7).set_ (i := 0) b0 (Nat.le_refl _) (by simp) (.int .i64 0)).set_ (i := 1) b1 (Nat.le_refl _) (by simp) (.int .i64 0)).set_ (i := 2) b2 (Nat.le_refl _) (by simp) (.int .i64 0) |>.set_ (i := 3) b3 (Nat.le_refl _) (by simp) (.int .i64 0)
            have hst := (HSW.out.frm HF7.out (by simp)).frm hfw (by simp)
            have hrow := hfw.own HO7.out (by simp)
            obtain ⟨hsh, hhigh⟩ := shapes_end HO.out hst HLF.out HR2.out HALL.out HND.out (by simpa using HPM.out) HSO.out (own_base (by rw [HNL.out]; exact hrow) (by omega : B ≤ w11.heap.size))
            refine bodyPost_ret (results_ttc rfl _ _ B 32 #[.int .i64 0, .int .i64 0, .int .i64 0, .int .i64 0] (0, 0) _ rfl b4 Tryz.underlying32 rfl fault_info) rfl ?_
            rw [HT.out]
            refine ⟨_, ?_, hsh, fun h => absurd rfl h, (HBW.out.trans (HF7.out.below.mono (by omega))).trans hfw.below⟩
            rw [← hhigh, HHI.out]
            rfl
          · obtain ⟨Ax, kx, cx, rfl, hx0, hx1, hk256⟩ := stk_at hSw HO.out hx
            have hlt11 := HRA.out.lt keyI
            have hrB : B ≤ r := by omega
            have hf2 := hfr.iter hra hrB hg2 (by omega)
            have ho2 := hown.kept hg2 (.inr (by intro e; have := (hown.lt r e).1; omega))
            have HF2 := Lib.hid hf2
            have HO2 := Lib.hid ho2
            have HRA2 := Lib.hid hra2
            have HR2 := Lib.hid hr2
            obtain ⟨nl, hnl⟩ : ∃ k, ls.length = k := ⟨_, rfl⟩
            obtain ⟨hi, hhi⟩ : ∃ k, highS ls = k := ⟨_, rfl⟩
            rw [hnl] at HO2 hlen ⊢
            rw [hhi]
            have HNL := Lib.hid hnl
            have HHI := Lib.hid hhi
            have HX := Lib.hid hx
            have hz2 := hg2.size
            have HSZ2 := Lib.hid hsz2
            clear hra hr2 hown hfr hSw hgw hf2 ho2 hra2 hg2 hnl hhi hx hxn hsz2
            have hnx' : ∀ ty, (Instr.next (.pointer (some ⟨r, 0, none⟩)) false ty).run Tryz.prog wr = .ok (.tuple #[.bool true, .int .i64 x, .slice Ax kx cx]) w2 := hnx
            have hent' : (Instr.entry (.pointer (some ⟨r, 0, none⟩))).run Tryz.prog w2 = .ok (.tuple #[.int .i64 x, .slice Ax kx cx]) w2 := hent
            clear hnx hent
            go_wp2_with (at_builtin; go_loud (refine wpList_append1 shape_el rfl _ _ rfl w11.heap.size w2 [.int .i64 x, .slice Ax kx cx] rfl _ _ _ rfl HO2.out rfl rfl (by simp [Value.oneCell']) (by unfold maxLen; omega) (by omega) (by omega) ?_; intro v8 w7 hown7 hg7; have HO7 := Lib.hid hown7; have HG7 := Lib.hid hg7; clear hown7 hg7))
            have hgb : ∀ i, i < w11.heap.size → some i ≠ (Value.slice A8 nl c8).ownBlock := fun i hi e => by have := (HO2.out.lt i e.symm).1; omega
            have hra7 := HRA2.out.kept keyI (HG7.out.block sb (by omega) (hgb sb hlt11.1)) (HG7.out.block r (by omega) (hgb r hlt11.2.1))
            have hf7 := HF2.out.grownNew HO2.out HG7.out (Nat.le_refl _) (by omega)
            have hrr : ∀ q : Int, q = max hi (kx : Int) → RR B w11 w7 sb r F v8 (.int .i64 q) cnt' := fun q hq => by
              refine ⟨done ++ [(x, .slice Ax kx cx)], ls ++ [⟨x, Ax, kx, cx, ⟨hx0, by omega⟩⟩], hra7, ?_, ?_, ?_, hf7⟩
              · unfold Rows2
                rw [List.map_append, ← HR2.out]
                rfl
              · rw [shVals_snoc, List.length_append, HNL.out]
                exact HO7.out
              · rw [highS_snoc, HHI.out, hq]
            have HRR := Lib.hid hrr
            clear hrr hra7 hf7 hgb
            go_wp2_with fail
            all_goals
              go_roundw
              case rel => exact ⟨cnt', HRR.out _ (by omega)⟩
              case measure => exact least_lt (by have h := HM.out; rw [HNL.out, HHI.out] at h; exact h) (HRR.out _ (by omega)) hlt
      · have hne : hp ≠ [] := hh
        obtain ⟨nh, hnh⟩ : ∃ k, hp.length = k + 1 := ⟨hp.length - 1, by cases hp with | nil => exact absurd rfl hne | cons a r => simp⟩
        obtain ⟨hv2, hm1, ha0, ha1⟩ := hO.take hne
        have hcnt := hO.cnt
        simp only at hcnt ha0 ha1
        have hhp : HeapAt wr B hb hp cm := hV.heap
        have htk := take_some wr nh hhp hnh (by omega)
        have hat := at_ok hins p11 (atH hp 0).1
        obtain ⟨o, ho⟩ : ∃ o, (atH hp 0).1 = o := ⟨_, rfl⟩
        obtain ⟨x, hx⟩ : ∃ x, (insAt l o).getD ins0 = x := ⟨_, rfl⟩
        have hstep := fun (w3 : World) (r : Value) h1 h2 h3 => TR.step (W8 := w9) (w3 := w3) (r := r) (B := B) (kb := kb) (ib := ib) (sb := sb) (hb := hb) (bv := .slice BA n bc) (sv := .slice SA ns sc) p11 hO hne hmf hml hins hT h1 h2 h3
        rw [ho] at htk hat hstep ha0 ha1
        rw [hx] at hat hstep
        have HTK := Lib.hid htk
        have HAT := Lib.hid hat
        have HST := Lib.hid hstep
        have HV2 := Lib.hid hv2
        have HVA := Lib.hid hV
        have HX := Lib.hid hx
        have HBR := Lib.hid hBr
        clear htk hat hstep hv2 hV hx ho hhp hgr hBr hO hins hT hne hh
        go_wp2_with fail
        refine HTK.out.mono ?_
        rintro e w2 ⟨rfl, hh2, hf2⟩
        have hva2 := HVA.out.put hf2 hh2
        have k4 : w2.cell? ⟨kb, 4, none⟩ = some (.map (some ib)) := Blk.cell hva2.ck 4
        have hlk := hva2.ins.lookup keyI Tryz.underlying86 zero_insV o false
        rw [insF_at, HX.out] at hlk
        have hlk2 : (Instr.lookup 86 (.map (some ib)) (.int .i64 o) false).run Tryz.prog w2 = .ok (.agg x.cells) w2 := hlk
        have hz2 := hf2.size
        have hlook := HLK.out w2 kb ib sb hb l ⟨st, takeH hp, cm⟩ x hva2 (fun wx h => HSX.out wx ((HBR.out.trans hf2.frm.below).trans (h.mono (by omega)))) HAT.out.a0 HAT.out.num (by omega) HAT.out.at0 (by have := HAT.out.lt; omega) HV2.out.high (by show (takeH hp).length ≤ 100000; rw [takeH_len]; omega) HV2.out.came0 (by have := HV2.out.came; omega)
        have HLO := Lib.hid hlook
        have HF2 := Lib.hid (HFR.out.trans hf2.frm)
        clear hva2 hlk hlook hh2 hf2
        go_wp2_with fail
        refine HLO.out.mono ?_
        rintro e w3 ⟨r, rfl, hfa, hva, hfr⟩
        have hrr := HST.out w3 r hfa hva (HF2.out.trans hfr)
        have HRR := Lib.hid hrr
        clear hfa hva hfr hrr
        go_wp2_with fail
        go_roundw
        case rel => exact ⟨_, HRR.out⟩
        case measure => exact least_lt HM.out HRR.out (by omega)
theorem code_any (hbt : BytesAt w BA b) (hbc : b.length ≤ bc) (hb : b.length ≤ 281474976710656) (hs : slots.length ≤ 281474976710656) (hS : SmallsAt w SA slots) :
    Calls Tryz.prog 8 #[.slice BA b.length bc, .slice SA slots.length sc, .int .i64 ints, .int .i64 texts] w fun e w' => CodeEnd w w' e (codeV b slots ints texts) := by
  by_cases hl : limitsV b slots ints texts = 0
  · exact code_good w BA SA b slots bc sc ints texts hbt hbc hs hS hl
  · refine (code_bad w BA SA b slots bc sc ints texts hb hs hS hl).mono ?_
    rintro e w' ⟨rfl, hbl⟩
    have hT : codeV b slots ints texts = ([], 0, limitsV b slots ints texts, 0) := by unfold codeV; rw [if_pos hl]
    rw [hT]
    exact ⟨_, rfl, ShapesAt.none_ _ _, fun _ => rfl, hbl⟩
end
end Go.Proofs.YtabpheanbomibaaGreatDoor
