/- tableauref00: Bag.apartSmalls: lists that share no block are found apart. -/
import Derived.Test.YtabpheanbomibaaGreatDoorBag1
import Derived.Test.YtabpheanbomibaaGreatDoorVer6
namespace Go.Proofs.YtabpheanbomibaaGreatDoor
open Go.RowKit
set_option linter.unusedVariables false

def LoneL (L : List Lst) : Prop := ∀ (j k : Nat) (x y : Lst) (a : Addr), L[j]? = some x → L[k]? = some y → x.A = some a → y.A = some a → j = k
def MarkAt (w : World) (C : Nat) (L : List Lst) (n i : Nat) : Prop := ∀ (k : Nat) (x : Lst), L[k]? = some x → ∃ xs, Own8 w C x xs ∧ (k < n → xs = marks k x.n) ∧ (k = n → xs.take i = marks k i)
theorem own8_cell {w : World} {C i : Nat} {x : Lst} {xs : List Value} (h : Own8 w C x xs) (hi : i < x.n) : ∃ g u, x.A = some ⟨g, 0, none⟩ ∧ C ≤ g ∧ g < w.heap.size ∧ w.cell? ⟨g, i, none⟩ = some u ∧ xs[i]? = some u ∧ w.frozen? ⟨g, i, none⟩ = false ∧ ∃ cs, Blk w g 82 cs := by
  obtain ⟨h1, h2⟩ := h
  rcases h2 with ⟨_, hn⟩ | ⟨g, cap, cur, e, hB, hh, h5, h6, h7, h8⟩
  · omega
  · injection e with e1 _ _
    have hb : Blk w g 82 cur := hh
    have hlt : i < cur.size := by omega
    have hl : xs.length = x.n := by simpa using h1
    refine ⟨g, cur[i], e1, hB, hb.lt, by rw [hb.cell]; exact Array.getElem?_eq_getElem hlt, ?_, hb.frozen i, cur, hb⟩
    rw [← h8, List.getElem?_take, if_pos (by omega), Array.getElem?_toList]
    exact Array.getElem?_eq_getElem hlt
theorem own8_ne {w : World} {C g : Nat} {y : Lst} {xs : List Value} (hy : Own8 w C y xs) (h : y.A ≠ some ⟨g, 0, none⟩) : y.val.ownBlock ≠ some g := by
  rcases own8_A hy with e | ⟨g2, e, _⟩
  · unfold Lst.val; rw [e]; simp [Value.ownBlock]
  · unfold Lst.val
    rw [e]
    intro q
    injection q with q
    subst q
    exact h e
theorem MarkAt.step {w : World} {C n i g : Nat} {L : List Lst} {x : Lst} (h : MarkAt w C L n i) (hl : LoneL L) (hx : L[n]? = some x) (hi : i < x.n) (hg : x.A = some ⟨g, 0, none⟩) : MarkAt (w.setCell ⟨g, i, none⟩ (.int .i8 (markN n i))) C L n (i + 1) := by
  intro k y hy
  obtain ⟨xs, h1, h2, h3⟩ := h k y hy
  by_cases hk : k = n
  · subst hk
    rw [hx] at hy
    injection hy with hy
    subst hy
    have hlen : xs.length = x.n := by simpa using h1.1
    have hv : x.val = .slice (some ⟨g, 0, none⟩) x.n x.c := by unfold Lst.val; rw [hg]
    unfold Own8 at h1
    rw [hv] at h1
    have h4 := own_setB (u := .int .i8 (markN k i)) h1 hi
    refine ⟨xs.set i (.int .i8 (markN k i)), by unfold Own8; rw [hv]; exact h4, fun e => by omega, fun _ => ?_⟩
    rw [marks_succ, ← h3 rfl, List.take_add_one, List.take_set_of_le (Nat.le_refl _), List.getElem?_set_self (by omega)]
    rfl
  · refine ⟨xs, own_setCell h1 (own8_ne h1 (fun e => hk (hl k n y x _ hy hx e hg))) _, h2, fun e => absurd e hk⟩
theorem MarkAt.next {w : World} {C n i : Nat} {L : List Lst} {x : Lst} (h : MarkAt w C L n i) (hx : L[n]? = some x) (hi : x.n ≤ i) : MarkAt w C L (n + 1) 0 := by
  intro k y hy
  obtain ⟨xs, h1, h2, h3⟩ := h k y hy
  refine ⟨xs, h1, fun hk => ?_, fun _ => by simp [marks]⟩
  by_cases hkn : k = n
  · subst hkn
    rw [hx] at hy
    injection hy with hy
    subst hy
    have hlen : xs.length = x.n := by simpa using h1.1
    have h4 := h3 rfl
    have h5 : xs.take x.n = marks k x.n := by
      have := congrArg (List.take x.n) h4
      rwa [List.take_take, Nat.min_eq_left hi, marks_take hi] at this
    rw [← h5, List.take_of_length_le (by omega)]
  · exact h2 (by omega)
theorem MarkAt.all {w : World} {C n i : Nat} {L : List Lst} (h : MarkAt w C L n i) (hn : L.length ≤ n) : ∀ (k : Nat) (x : Lst), L[k]? = some x → Own8 w C x (marks k x.n) := by
  intro k x hx
  obtain ⟨xs, h1, h2, _⟩ := h k x hx
  rw [← h2 (by have := (List.getElem?_eq_some_iff.1 hx).1; omega)]
  exact h1
theorem MarkAt.frm {w w' : World} {C n i B : Nat} {L : List Lst} (h : MarkAt w C L n i) (hf : Frm B [] w w') : MarkAt w' C L n i := fun k x hx => by
  obtain ⟨xs, h1, h2⟩ := h k x hx
  exact ⟨xs, hf.own h1 (by simp), h2⟩
theorem grown_any {w w' : World} (h : w.grownBy w' none) (row : Option Nat) : w.grownBy w' row := ⟨h.os, h.tape, h.output, h.size, fun k hk _ => h.block k hk (by simp)⟩
/-- What the second part has made of the first ones. -/
def DoneAt (w : World) (C D : Nat) (L os ms : List Lst) : Prop := ∀ (k : Nat) (x : Lst), L[k]? = some x → Own8 w C x (marks k x.n) ∧
  (∀ y, os[k]? = some y → y.n = x.n + 1 ∧ Own8 w C y (marks k (x.n + 1)) ∧ (y.A = x.A ∨ ∃ g, y.A = some ⟨g, 0, none⟩ ∧ D ≤ g)) ∧
  (∀ y, ms[k]? = some y → y.n = x.n + 70 ∧ Own8 w C y (marks k (x.n + 70)) ∧ (y.A = x.A ∨ ∃ g, y.A = some ⟨g, 0, none⟩ ∧ D ≤ g))
theorem own8_frm {w w' : World} {C B : Nat} {x : Lst} {xs : List Value} {T : List TypeId} (h : Own8 w C x xs) (hf : Frm B T w w') (ht : 82 ∉ T) : Own8 w' C x xs := Frm.own hf h ht
theorem DoneAt.step {w wr : World} {C D : Nat} {L os ms : List Lst} {x l y : Lst} {i : Nat} (h : DoneAt w C D L os ms) (hL : LoneL L) (hx : L[os.length]? = some x) (hm : ms.length = os.length) (hD : ∀ (k : Nat) (z : Lst) (g : Nat), L[k]? = some z → z.A = some ⟨g, 0, none⟩ → g < D)
    (hDw : D ≤ w.heap.size) (hg : Grow w wr C os.length x l (some y) i) (hi : i = x.n + 70) : DoneAt wr C D L (os ++ [y]) (ms ++ [l]) := by
  intro k z hz
  obtain ⟨h1, h2, h3⟩ := h k z hz
  by_cases hk : k = os.length
  · subst hk
    rw [hx] at hz
    injection hz with hz
    subst hz
    obtain ⟨q1, q2, q3, q4, q5⟩ := hg.oo y rfl
    refine ⟨hg.xo, fun y' hy' => ?_, fun y' hy' => ?_⟩
    · rw [List.getElem?_append_right (Nat.le_refl _), Nat.sub_self] at hy'
      injection hy' with hy'
      subst hy'
      exact ⟨q1, q3, q5.imp id (fun ⟨g, e1, e2⟩ => ⟨g, e1, by omega⟩)⟩
    · rw [List.getElem?_append_right (by omega), hm, Nat.sub_self] at hy'
      injection hy' with hy'
      subst hy'
      have hlo := hg.lo
      rw [hi] at hlo
      exact ⟨by rw [hg.len, hi], hlo, hg.far.imp id (fun ⟨g, e1, e2⟩ => ⟨g, e1, by omega⟩)⟩
  · have hne : ∀ r : Lst, (r.A = z.A ∨ ∃ g, r.A = some ⟨g, 0, none⟩ ∧ D ≤ g) → r.A = none ∨ r.A ≠ x.A := fun r hr => by
      cases hrA : r.A with
      | none => exact .inl rfl
      | some a =>
        refine .inr ?_
        intro e
        rcases hr with hr | ⟨g, hr, hg2⟩
        · exact hk (hL k os.length z x a hz hx (by rw [← hr, hrA]) e.symm)
        · rw [hrA] at hr
          rw [hr] at e
          have := hD _ _ g hx e.symm
          omega
    have hlt : ∀ (q : List Lst) (t : Lst) (r : Lst), (q ++ [t])[k]? = some r → q.length = os.length → q[k]? = some r := fun q t r hr hq => by
      by_cases hkl : k < q.length
      · rwa [List.getElem?_append_left hkl] at hr
      · rw [List.getElem?_append_right (by omega)] at hr
        obtain ⟨j, hj⟩ : ∃ j, k - q.length = j + 1 := ⟨k - q.length - 1, by omega⟩
        rw [hj] at hr
        simp at hr
    refine ⟨own_keep8 h1 hg.keep (hne z (.inl rfl)), fun y' hy' => ?_, fun y' hy' => ?_⟩
    · obtain ⟨p1, p2, p3⟩ := h2 y' (hlt _ _ _ hy' rfl)
      exact ⟨p1, own_keep8 p2 hg.keep (hne y' p3), p3⟩
    · obtain ⟨p1, p2, p3⟩ := h3 y' (hlt _ _ _ hy' hm)
      exact ⟨p1, own_keep8 p2 hg.keep (hne y' p3), p3⟩
theorem DoneAt.keep {w w' : World} {C D : Nat} {L os ms : List Lst} (h : DoneAt w C D L os ms) (hk : ∀ (g : Nat) (cs : Array Value) (fr : Nat × Nat), w.heap[g]? = some (Obj.cells cs 82 fr) → w'.heap[g]? = w.heap[g]?) : DoneAt w' C D L os ms := by
  have hm : ∀ {r : Lst} {xs : List Value}, Own8 w C r xs → Own8 w' C r xs := fun {r xs} hr => own_keep8 (A := none) hr (fun g cs fr h0 _ => hk g cs fr h0) (by cases h9 : r.A <;> simp)
  intro k x hx
  obtain ⟨h1, h2, h3⟩ := h k x hx
  exact ⟨hm h1, fun y hy => by obtain ⟨p1, p2, p3⟩ := h2 y hy; exact ⟨p1, hm p2, p3⟩, fun y hy => by obtain ⟨p1, p2, p3⟩ := h3 y hy; exact ⟨p1, hm p2, p3⟩⟩
theorem DoneAt.start {w : World} {C D : Nat} {L : List Lst} (h : ∀ (k : Nat) (x : Lst), L[k]? = some x → Own8 w C x (marks k x.n)) : DoneAt w C D L [] [] := fun k x hx => ⟨h k x hx, fun y hy => by simp at hy, fun y hy => by simp at hy⟩
def Ways (w w' : World) (x x' : Lst) : Prop := (∃ g, x.A = some ⟨g, 0, none⟩ ∧ x'.A = x.A ∧ x'.c = x.c ∧ w.grownBy w' (some g)) ∨ (∃ g, x'.A = some ⟨g, 0, none⟩ ∧ w.heap.size ≤ g ∧ w.grownBy w' none)
theorem Ways.grown {w w' : World} {x x' : Lst} (h : Ways w w' x x') : w.grownBy w' x.val.ownBlock := by
  rcases h with ⟨g, e1, _, _, hg⟩ | ⟨g, _, _, hg⟩
  · unfold Lst.val; rw [e1]; exact hg
  · exact grown_any hg _
theorem own_A {w : World} {C : Nat} {e : TypeId} {x : Lst} {xs : List Value} (h : w.ownsRow C e 1 x.val x.n xs) : x.A = none ∨ ∃ g, x.A = some ⟨g, 0, none⟩ ∧ C ≤ g ∧ g < w.heap.size := by
  rcases h.2 with ⟨e, _⟩ | ⟨g, cap, cur, e, hB, hh, _⟩
  · injection e with e1 _ _
    exact .inl e1
  · injection e with e1 _ _
    exact .inr ⟨g, e1, hB, (Array.getElem?_eq_some_iff.1 hh).1⟩
/-- Another row, while one grows. -/
theorem Ways.other {w w' : World} {x x' z : Lst} {C : Nat} {e : TypeId} {zs : List Value} (h : Ways w w' x x') (hz : w.ownsRow C e 1 z.val z.n zs) (hne : z.A = none ∨ z.A ≠ x.A) : w'.ownsRow C e 1 z.val z.n zs ∧ (z.A = none ∨ z.A ≠ x'.A) := by
  have hA := own_A hz
  rcases h with ⟨g, e1, e2, _, hg⟩ | ⟨g, e1, hgs, hg⟩
  · refine ⟨hz.kept hg ?_, by rw [e2]; exact hne⟩
    rcases hA with h0 | ⟨g2, h0, _, _⟩
    · left; unfold Lst.val; rw [h0]; rfl
    · right
      unfold Lst.val
      rw [h0]
      intro q
      injection q with q
      subst q
      rcases hne with h | h
      · rw [h0] at h; cases h
      · exact h (h0.trans e1.symm)
  · refine ⟨hz.kept hg (by cases hv : z.val.ownBlock <;> simp), ?_⟩
    rcases hA with h0 | ⟨g2, h0, _, h2⟩
    · exact .inl h0
    · right
      rw [h0, e1]
      intro q
      injection q with q
      injection q with q
      omega
theorem Ways.ne {w w' : World} {x x' z : Lst} {C : Nat} {e : TypeId} {zs : List Value} (h : Ways w w' x x') (hz : w.ownsRow C e 1 z.val z.n zs) (hne : x.A = none ∨ x.A ≠ z.A) : x'.A = none ∨ x'.A ≠ z.A := by
  have hA := own_A hz
  rcases h with ⟨g, e1, e2, _, hg⟩ | ⟨g, e1, hgs, hg⟩
  · rw [e2]; exact hne
  · right
    rcases hA with h0 | ⟨g2, h0, _, h2⟩
    · rw [h0, e1]; simp
    · rw [h0, e1]
      intro q
      injection q with q
      injection q with q
      omega
/-- Between two lists of the second part. -/
structure P2 (w2 wr : World) (C D : Nat) (L os ms : List Lst) (o m : Lst) (n : Nat) : Prop where
  ol : os.length = n
  ml : ms.length = n
  on : o.n = n
  mn : m.n = n
  oo : wr.ownsRow D 23 1 o.val o.n (lstVals os)
  mo : wr.ownsRow D 23 1 m.val m.n (lstVals ms)
  ne : o.A = none ∨ o.A ≠ m.A
  fr : Frm C [82] w2 wr
  dn : DoneAt wr C D L os ms
/-- In the middle of one. -/
structure P2in (w2 wi wr : World) (C D : Nat) (os ms : List Lst) (x l o m : Lst) (n i : Nat) (y : Option Lst) : Prop where
  gr : Grow wi wr C n x l y i
  on : o.n = n + y.toList.length
  oo : wr.ownsRow D 23 1 o.val o.n (lstVals (os ++ y.toList))
  mo : wr.ownsRow D 23 1 m.val m.n (lstVals ms)
  ne : o.A = none ∨ o.A ≠ m.A
  fr : Frm C [82] w2 wr
  nn : (y = none ∧ i = x.n) ∨ ((∃ y', y = some y') ∧ x.n < i)
theorem P2.enter {w2 wr : World} {C D : Nat} {L os ms : List Lst} {o m x : Lst} {n : Nat} (h : P2 w2 wr C D L os ms o m n) (hx : L[n]? = some x) : P2in w2 wr wr C D os ms x x o m n x.n none := by
  obtain ⟨h1, _, _⟩ := h.dn n x hx
  exact ⟨⟨rfl, Nat.le_refl _, h1, h1, .inr (.inr rfl), .inl rfl, fun y hy => (by cases hy), Keep8.refl _ _, Nat.le_refl _⟩, by rw [h.on]; rfl, by simpa using h.oo, h.mo, h.ne, h.fr, .inl ⟨rfl, rfl⟩⟩
/-- One number more. -/
theorem P2in.grow {w2 wi wr w' : World} {C D : Nat} {os ms : List Lst} {x l l' o m : Lst} {n i : Nat} {y : Option Lst} (h : P2in w2 wi wr C D os ms x l o m n i y) (hC : C ≤ wr.heap.size) (ob : Obj) (hl' : l'.n = i + 1)
    (ho : Own8 w' C l' (marks n i ++ [.int .i8 (markN n i)])) (hw : Ways (wr.alloc ob) w' l l') : Grow wi w' C n x l' y (i + 1) ∧ w'.ownsRow D 23 1 o.val o.n (lstVals (os ++ y.toList)) ∧ w'.ownsRow D 23 1 m.val m.n (lstVals ms) ∧ Frm C [82] w2 w' := by
  have hlo : (wr.alloc ob).ownsRow C 82 1 l.val i (marks n i) := by
    have h1 := h.gr.lo
    unfold Own8 at h1
    rw [h.gr.len] at h1
    exact h1.alloc ob
  have hf : Frm C [82] wr w' := ((Frm.refl C [82] wr).alloc hC ob).grown hlo hw.grown (Nat.le_refl _) (by rw [World.size_alloc]; omega) (by simp)
  exact ⟨h.gr.step (World.grownBy_alloc wr ob none) ho hl' hw, hf.own h.oo (by simp), hf.own h.mo (by simp), h.fr.trans hf⟩
theorem kept8_new {w w' : World} {x x' : Lst} {D : Nat} {xs : List Value} (ob : Obj) (hx : w.ownsRow D 23 1 x.val x.n xs) (h : Ways (w.alloc ob) w' x x') : (∀ (g : Nat) (cs : Array Value) (fr : Nat × Nat), w.heap[g]? = some (Obj.cells cs 82 fr) → w'.heap[g]? = w.heap[g]?) ∧ w.heap.size ≤ w'.heap.size := by
  have hz := h.grown.size
  rw [World.size_alloc] at hz
  refine ⟨fun g cs fr hg => ?_, by omega⟩
  have hlt := (Array.getElem?_eq_some_iff.1 hg).1
  rw [h.grown.block g (by rw [World.size_alloc]; omega) ?_, Below.heap_alloc w ob g hlt]
  intro e
  rcases hx.2 with ⟨e0, _⟩ | ⟨g2, cap, cur, e0, _, hh, _⟩
  · rw [e0] at e; simp [Value.ownBlock] at e
  · rw [e0] at e
    simp only [Value.ownBlock, Option.some.injEq] at e
    subst e
    rw [hg] at hh
    injection hh with hh
    injection hh with _ q _
    revert q
    decide
/-- The first grown one is laid by. -/
theorem P2in.lay {w2 wi wr w' : World} {C D : Nat} {os ms : List Lst} {x l o o' m : Lst} {n : Nat} (hg : Grow wi wr C n x l none (x.n + 1)) (hon : o.n = n) (hoo : wr.ownsRow D 23 1 o.val o.n (lstVals os)) (hmo : wr.ownsRow D 23 1 m.val m.n (lstVals ms)) (hne : o.A = none ∨ o.A ≠ m.A) (hfr : Frm C [82] w2 wr)
    (hD : w2.heap.size ≤ D) (hC2 : C ≤ w2.heap.size) (hDw : D ≤ wr.heap.size) (ob : Obj) (ho'n : o'.n = o.n + 1) (hoo' : w'.ownsRow D 23 1 o'.val o'.n (lstVals os ++ [l.val])) (hw : Ways (wr.alloc ob) w' o o') : P2in w2 wi w' C D os ms x l o' m n (x.n + 1) (some l) := by
  obtain ⟨hk, hs⟩ := kept8_new ob hoo hw
  have hmo2 := hmo.alloc ob
  refine ⟨hg.lay hk hs, by rw [ho'n, hon]; rfl, ?_, (hw.other hmo2 ?_).1, hw.ne hmo2 hne, ?_, .inr ⟨⟨l, rfl⟩, by omega⟩⟩
  · unfold lstVals at hoo' ⊢
    rw [List.map_append]
    exact hoo'
  · rcases own_A hmo with h | ⟨g, h, _⟩
    · exact .inl h
    · rcases hne with h2 | h2
      · right; rw [h, h2]; simp
      · exact .inr (Ne.symm h2)
  · exact (hfr.alloc (by have := hfr.size; omega) ob).grownNew (hoo.alloc ob) hw.grown hD hC2
theorem P2in.leave {w2 wi wr w' : World} {C D : Nat} {L os ms : List Lst} {x l o m m' y : Lst} {n : Nat} (h : P2in w2 wi wr C D os ms x l o m n (x.n + 70) (some y)) (hd : DoneAt wi C D L os ms) (hL : LoneL L) (hx : L[n]? = some x) (hol : os.length = n) (hml : ms.length = n) (hmn : m.n = n)
    (hLD : ∀ (k : Nat) (z : Lst) (g : Nat), L[k]? = some z → z.A = some ⟨g, 0, none⟩ → g < D) (hDi : D ≤ wi.heap.size) (hD : w2.heap.size ≤ D) (hC2 : C ≤ w2.heap.size) (ob : Obj) (hm'n : m'.n = m.n + 1) (hmo' : w'.ownsRow D 23 1 m'.val m'.n (lstVals ms ++ [l.val])) (hw : Ways (wr.alloc ob) w' m m') :
    P2 w2 w' C D L (os ++ [y]) (ms ++ [l]) o m' (n + 1) := by
  obtain ⟨hk, hs⟩ := kept8_new ob h.mo hw
  have hoo2 := h.oo.alloc ob
  subst hol
  have hdn := hd.step hL hx hml hLD hDi h.gr rfl
  refine ⟨by simp, by simp [hml], by rw [h.on]; rfl, by rw [hm'n, hmn], (hw.other hoo2 h.ne).1, ?_, (hw.other hoo2 h.ne).2, ?_, hdn.keep hk⟩
  · unfold lstVals at hmo' ⊢
    rw [List.map_append]
    exact hmo'
  · exact (h.fr.alloc (by have := h.fr.size; omega) ob).grownNew (h.mo.alloc ob) hw.grown hD hC2
section
variable (w : World) (C gb N rc : Nat) (A : Option Addr) (L : List Lst)
set_option maxRecDepth 100000 in
set_option maxHeartbeats 16000000 in
theorem apartSmalls_any (hb : Blk w gb 66 (bagA (.slice A N rc))) (ho : w.ownsRow C 23 1 (.slice A N rc) N (lstVals L)) (hN : L.length = N) (hN4 : N ≤ 400) (hC : C ≤ w.heap.size) (hLn : ∀ x ∈ L, x.n ≤ 16777216) (hlone : LoneL L) (hown : ∀ (k : Nat) (x : Lst), L[k]? = some x → ∃ xs, Own8 w C x xs) :
    Calls Tryz.prog 48 #[.pointer (some ⟨gb, 0, none⟩)] w fun e w' => e = .returned (.bool true) ∧ Frm C [82] w w' := by
  have hrow := fun (wr : World) (hf : Frm C [82] w wr) (k : Nat) (x : Lst) (hx : L[k]? = some x) => rowV_cells (hf.own ho (by decide)) k x.val (by unfold lstVals; rw [List.getElem?_map, hx]; rfl)
  have hbag := fun (wr : World) (hf : Frm C [82] w wr) => (show wr.cell? ⟨gb, 5, none⟩ = some (.slice A N rc) from (hf.blk hb (by decide)).cell 5)
  have hget : ∀ k, k < N → ∃ x, L[k]? = some x ∧ x.n ≤ 16777216 := fun k hk => ⟨_, List.getElem?_eq_getElem (by omega), hLn _ (List.getElem_mem _)⟩
  have hmk : MarkAt w C L 0 0 := fun k x hx => by
    obtain ⟨xs, h⟩ := hown k x hx
    exact ⟨xs, h, fun e => by omega, fun _ => by simp [marks]⟩
  have HROW := Lib.hid hrow
  have HBAG := Lib.hid hbag
  have HGET := Lib.hid hget
  have HMK := Lib.hid hmk
  have HLONE := Lib.hid hlone
  have HN := Lib.hid hN
  clear hrow hbag hget hmk hlone hN hown hLn hb ho
  go_enter Tryz.func48, Tryz.ntmps48
  go_wp2_with fail
  go_loopw [3, 4] (fun v2 _ wr => ∃ n : Nat, n ≤ N ∧ v2 = .int .i64 n ∧ MarkAt wr C L n 0 ∧ Frm C [82] w wr) (fun v2 _ _ => N - (intOf v2).toNat)
  case atStart => exact ⟨0, by omega, rfl, HMK.out, Frm.refl _ _ _⟩
  case round =>
    obtain ⟨n, hn, rfl, hma, hfr⟩ := hrel
    have k5 := HBAG.out wr hfr
    by_cases hlt : n < N
    · obtain ⟨x, hx, hxn⟩ := HGET.out n hlt
      have HX := Lib.hid hx
      obtain ⟨rb, rfl, hrb, hrbl, kr⟩ := HROW.out wr hfr n x hx
      obtain ⟨xA, xn, xc⟩ := x
      simp only [Lst.val] at kr hxn
      have hnI : (n : Int) < N := by omega
      have hfr0 := hfr
      have HMA := Lib.hid hma
      have HFR := Lib.hid hfr
      clear hx hma hfr hfr0
      go_wp2_with fail
      go_loopw [4] (fun v4 wr => ∃ i : Nat, i ≤ xn ∧ v4 = .int .i64 i ∧ MarkAt wr C L n i ∧ Frm C [82] w wr) (fun v4 _ => xn - (intOf v4).toNat)
      case atStart => exact ⟨0, by omega, rfl, HMA.out, HFR.out⟩
      case round =>
        obtain ⟨i, hi, rfl, hma, hfr⟩ := hrel
        have k5 := HBAG.out wr hfr
        obtain ⟨rb', e', _, _, kr⟩ := HROW.out wr hfr n _ HX.out
        injection e' with e'
        injection e' with e'
        subst e'
        simp only [Lst.val] at kr
        by_cases hil : i < xn
        · obtain ⟨xs, hxs, _, _⟩ := hma n _ HX.out
          obtain ⟨g, u, hg, hCg, hgl, kc, _, kz, cs, hgb⟩ := own8_cell hxs hil
          simp only at hg
          subst hg
          have hst : MarkAt (wr.setCell ⟨g, i, none⟩ (.int .i8 (markN n i))).drew C L n (i + 1) := hma.step HLONE.out HX.out hil rfl
          have hfs := (hfr.set_ (i := i) hgb hCg (by simp) (.int .i8 (markN n i))).drew
          have hil2 : (i : Int) < xn := by omega
          have k5d : wr.drew.cell? ⟨gb, 5, none⟩ = some (.slice (some ⟨rb, 0, none⟩) N rc) := k5
          have krd : wr.drew.cell? ⟨rb, n, none⟩ = some (.slice (some ⟨g, 0, none⟩) xn xc) := kr
          have kcd : wr.drew.cell? ⟨g, i, none⟩ = some u := kc
          have kzd : wr.drew.frozen? ⟨g, i, none⟩ = false := kz
          have hmark : IntKind.i8.wrap (numV (31 * (n : Int)) (7 * (i : Int))) = markN n i := rfl
          have hw31 : IntKind.i64.wrap (31 * (n : Int)) = 31 * (n : Int) := by rw [IntKind.wrap_i64]; (try unfold wrap64); omega
          have hw7 : IntKind.i64.wrap (7 * (i : Int)) = 7 * (i : Int) := by rw [IntKind.wrap_i64]; (try unfold wrap64); omega
          have k5s := HBAG.out _ hfs
          obtain ⟨rb2, e2, _, _, krs⟩ := HROW.out _ hfs n _ HX.out
          injection e2 with e2
          injection e2 with e2
          subst e2
          simp only [Lst.val] at krs
          have HST := Lib.hid hst
          have HFS := Lib.hid hfs
          clear hma hfr hxs hst hfs hgb
          go_wp2_with fail
          go_region_held3 (fun w' => w'.cell? ⟨gb, 5, none⟩ = some (.slice (some ⟨rb, 0, none⟩) N rc) ∧ w'.cell? ⟨rb, n, none⟩ = some (.slice (some ⟨g, 0, none⟩) xn xc)) (first | with_reducible exact ⟨k5d, krd⟩ | with_reducible exact ⟨k5s, krs⟩) ((first | (go_at_call 26; refine (num_any (31 * (n : Int)) (7 * (i : Int)) _ (by omega) (by omega) (by omega) (by omega)).mono ?_; rintro e w5 ⟨rfl, rfl⟩)))
          all_goals
            go_wp2_with fail
            go_roundw
            case rel => exact ⟨i + 1, by omega, by go_num, HST.out, HFS.out⟩
            case measure => (simp [intOf]; try omega)
        · have he : i = xn := by omega
          subst he
          have hnx := hma.next HX.out (Nat.le_refl _)
          have HNX := Lib.hid hnx
          have HFR2 := Lib.hid hfr
          clear hma hfr hnx
          go_wp2_with fail
          go_roundw
          case rel => exact ⟨n + 1, by omega, by go_num, HNX.out, HFR2.out⟩
          case measure => (simp [intOf]; try omega)
    · have he : n = N := by omega
      subst he
      have hall := hma.all (by rw [HN.out]; exact Nat.le_refl _)
      have HD0 := Lib.hid (DoneAt.start (D := wr.heap.size) hall)
      have HALT := Lib.hid (show ∀ (k : Nat) (z : Lst) (g : Nat), L[k]? = some z → z.A = some ⟨g, 0, none⟩ → g < wr.heap.size from fun k z g hz hA => by
        rcases own8_A (hall k z hz) with e | ⟨g2, e, _, h2, _⟩
        · rw [e] at hA; cases hA
        · rw [e] at hA; injection hA with hA; injection hA with hA; omega)
      have HFR := Lib.hid hfr
      obtain ⟨D, hD⟩ : ∃ D, D = wr.heap.size := ⟨_, rfl⟩
      have hCD : C ≤ D := by rw [hD]; have := hfr.size; omega
      obtain ⟨w2, hw2⟩ : ∃ w2, w2 = wr := ⟨_, rfl⟩
      rw [← hw2] at HD0 HALT HFR hD k5 ⊢
      rw [← hD] at HD0 HALT
      have HDe := Lib.hid hD
      clear hma hfr hall hw2 hD
      have hCw2 : C ≤ w2.heap.size := by rw [← HDe.out]; exact hCD
      have hDw2 : D ≤ w2.heap.size := by rw [HDe.out]; exact Nat.le_refl _
      have hDw3 : w2.heap.size ≤ D := by rw [HDe.out]; exact Nat.le_refl _
      have hp0 : P2 w2 w2 C D L [] [] ⟨none, 0, 0⟩ ⟨none, 0, 0⟩ 0 := ⟨rfl, rfl, rfl, rfl, World.ownsRow_nil _ _ _ _, World.ownsRow_nil _ _ _ _, .inl rfl, Frm.refl _ _ _, HD0.out⟩
      have HP0 := Lib.hid hp0
      clear hp0
      go_wp2_with fail
      go_loopw [5, 6, 7, 8, 9] (fun v5 v6 v7 _ _ wr => ∃ (n2 : Nat) (os ms : List Lst) (o m : Lst), n2 ≤ n ∧ v7 = .int .i64 n2 ∧ v5 = o.val ∧ v6 = m.val ∧ P2 w2 wr C D L os ms o m n2) (fun _ _ v7 _ _ _ => n - (intOf v7).toNat)
      case atStart => exact ⟨0, [], [], ⟨none, 0, 0⟩, ⟨none, 0, 0⟩, by omega, rfl, rfl, rfl, HP0.out⟩
      case round =>
        obtain ⟨k, os, ms, o, m, hk, rfl, rfl, rfl, hp⟩ := hrel
        have hfr := HFR.out.trans hp.fr
        have k5 := HBAG.out wr hfr
        by_cases hlt : k < n
        · obtain ⟨x, hx, hxn⟩ := HGET.out k hlt
          have HX := Lib.hid hx
          obtain ⟨rb, rfl, hrb, hrbl, kr⟩ := HROW.out wr hfr k x hx
          have hent := hp.enter hx
          obtain ⟨wi, hwi⟩ : ∃ wi, wi = wr := ⟨_, rfl⟩
          rw [← hwi] at hp
          have hDi : D ≤ wi.heap.size := by have := hp.fr.size; omega
          have HENT := Lib.hid hent
          have HP := Lib.hid hp
          have HWI := Lib.hid hwi
          have HOM := Lib.hid (show o.n = k ∧ m.n = k from ⟨hp.on, hp.mn⟩)
          obtain ⟨xA, xn, xc⟩ := x
          obtain ⟨mA, mn, mc⟩ := m
          obtain ⟨oA, on, oc⟩ := o
          simp only [Lst.val] at kr hxn ⊢
          have hkI : (k : Int) < n := by omega
          clear hx hp hfr hent hwi
          go_wp2_with fail
          go_loopw [5, 8, 9] (fun v5 v8 v9 wr => ∃ (i : Nat) (l o : Lst) (y : Option Lst), xn ≤ i ∧ i ≤ xn + 70 ∧ v9 = .int .i64 i ∧ v5 = o.val ∧ v8 = l.val ∧ P2in w2 wi wr C D os ms ⟨xA, xn, xc⟩ l o ⟨mA, mn, mc⟩ k i y) (fun _ _ v9 _ => xn + 70 - (intOf v9).toNat)
          case atStart => exact ⟨xn, ⟨xA, xn, xc⟩, ⟨oA, on, oc⟩, none, by omega, by omega, rfl, rfl, rfl, by rw [HWI.out]; exact HENT.out⟩
          case round =>
            obtain ⟨i, l, o, y, hi0, hi, rfl, rfl, rfl, hpi⟩ := hrel
            have hfr := HFR.out.trans hpi.fr
            have hCw : C ≤ wr.heap.size := by have := hfr.size; omega
            have k5 := HBAG.out wr hfr
            obtain ⟨rb2, e2, _, _, kr⟩ := HROW.out wr hfr k _ HX.out
            injection e2 with e2
            injection e2 with e2
            subst e2
            simp only [Lst.val] at kr
            obtain ⟨lA, ln, lc⟩ := l
            obtain ⟨pA, pn, pc⟩ := o
            have hln : ln = i := hpi.gr.len
            subst hln
            by_cases hil : ln < xn + 70
            · obtain ⟨l', w', hr, hl', ho', hways⟩ := run_append_ways (P := Tryz.prog) (w := wr.alloc (.cells #[.int .i8 (markN k ln)] 82)) (base := C) (t := 23) (ty := 23) slot_el ⟨lA, ln, lc⟩ (marks k ln) (World.ownsRow.alloc hpi.gr.lo _) wr.heap.size 0 1 (.int .i8 (markN k ln)) ((Blk.new wr 82 #[.int .i8 (markN k ln)]).cell 0) rfl (by simp only [maxLen]; omega) (by simp only; omega) (by rw [World.size_alloc]; omega)
              obtain ⟨hg1, ho1, hm1, hf1⟩ := hpi.grow hCw _ hl' (by unfold Own8; exact ho') hways
              obtain ⟨qA, qn, qc⟩ := l'
              simp only at hl'
              subst hl'
              simp only [Lst.val] at hr
              have hfr1 := HFR.out.trans hf1
              have k51 := HBAG.out w' hfr1
              obtain ⟨rb3, e3, _, _, kr1⟩ := HROW.out w' hfr1 k _ HX.out
              injection e3 with e3
              injection e3 with e3
              subst e3
              simp only [Lst.val] at kr1
              have hw31 : IntKind.i64.wrap (31 * (k : Int)) = 31 * (k : Int) := by rw [IntKind.wrap_i64]; (try unfold wrap64); omega
              have hw7 : IntKind.i64.wrap (7 * (ln : Int)) = 7 * (ln : Int) := by rw [IntKind.wrap_i64]; (try unfold wrap64); omega
              have hmark : IntKind.i8.wrap (numV (31 * (k : Int)) (7 * (ln : Int))) = markN k ln := rfl
              have hilI : (ln : Int) < (xn : Int) + 70 := by omega
              have HR := Lib.hid hr
              have HG1 := Lib.hid hg1
              have HO1 := Lib.hid ho1
              have HM1 := Lib.hid hm1
              have HF1 := Lib.hid hf1
              have HNE := Lib.hid hpi.ne
              have HON := Lib.hid hpi.on
              rcases hpi.nn with ⟨rfl, hixn⟩ | ⟨⟨y', rfl⟩, hixn⟩
              · have hix : ln = xn := hixn
                subst hix
                have hbq : ((ln : Int) == (ln : Int)) = true := by simp
                have hpn : pn = k := by have := hpi.on; simpa using this
                have ho1' : w'.ownsRow D 23 1 (Lst.val ⟨pA, pn, pc⟩) pn (lstVals os) := by have h9 := ho1; simpa using h9
                have hz1 := hf1.size
                have hc8 : (w'.alloc (.cells #[.slice qA (ln + 1) qc] 23)).cell? ⟨w'.heap.size, 0, none⟩ = some (.slice qA (ln + 1) qc) := (Blk.new w' 23 #[.slice qA (ln + 1) qc]).cell 0
                obtain ⟨o', w3, hr2, ho'n, hoo', hways2⟩ := run_append_ways (P := Tryz.prog) (w := w'.alloc (.cells #[.slice qA (ln + 1) qc] 23)) (base := D) (t := 49) (ty := 49) row_el ⟨pA, pn, pc⟩ (lstVals os) (ho1'.alloc _) w'.heap.size 0 1 (.slice qA (ln + 1) qc) hc8 rfl (by simp only [maxLen]; omega) (by simp only; omega) (by rw [World.size_alloc]; omega)
                have hlay := P2in.lay (x := ⟨xA, ln, xc⟩) (l := ⟨qA, ln + 1, qc⟩) (o := ⟨pA, pn, pc⟩) (m := ⟨mA, mn, mc⟩) (o' := o') hg1 hpn ho1' hm1 hpi.ne hf1 hDw3 hCw2 (by omega) _ ho'n hoo' hways2
                obtain ⟨sA, sn, sc⟩ := o'
                simp only [Lst.val] at hr2
                rw [hpn] at hr2
                have HR2 := Lib.hid hr2
                have HLY := Lib.hid hlay
                clear hpi hfr hr ho' hways hg1 ho1 ho1' hm1 hf1 hfr1 hr2 hoo' hways2 hlay hc8
                simp only [Lst.val]
                go_wp2_with fail
                refine (num_any (31 * (k : Int)) (7 * (ln : Int)) _ (by omega) (by omega) (by omega) (by omega)).mono ?_
                rintro e w5 ⟨rfl, rfl⟩
                go_wp2_with (at_builtin; go_loud (first | (refine wpList_append_run rfl _ _ 23 rfl (.slice lA ln lc) (.slice (some ⟨wr.heap.size, 0, none⟩) 1 1) (.slice qA (ln + 1) qc) w' (by kernel_rfl) (by kernel_rfl) HR.out ?_; clear HR) | (refine wpList_append_run rfl _ _ 49 rfl (.slice pA k pc) (.slice (some ⟨w'.heap.size, 0, none⟩) 1 1) (.slice sA sn sc) w3 (by kernel_rfl) (by kernel_rfl) HR2.out ?_; clear HR2)))
                go_roundw
                case rel => exact ⟨ln + 1, ⟨qA, ln + 1, qc⟩, ⟨sA, sn, sc⟩, _, by omega, by omega, by go_num, (by show Value.slice sA (k + 1) sc = Value.slice sA sn sc; rw [show sn = k + 1 by omega]), rfl, HLY.out⟩
                case measure => (simp [intOf]; try omega)
              · have hbq : ((ln : Int) == (xn : Int)) = false := by simp only [beq_eq_false_iff_ne, ne_eq]; simp only at hixn; omega
                have hnx : P2in w2 wi w' C D os ms ⟨xA, xn, xc⟩ ⟨qA, ln + 1, qc⟩ ⟨pA, pn, pc⟩ ⟨mA, mn, mc⟩ k (ln + 1) (some y') := ⟨hg1, hpi.on, ho1, hm1, hpi.ne, hf1, .inr ⟨⟨y', rfl⟩, by simp only at hixn ⊢; omega⟩⟩
                have HNX := Lib.hid hnx
                clear hpi hfr hr ho' hways hg1 ho1 hm1 hf1 hfr1 hnx
                simp only [Lst.val]
                go_wp2_with fail
                refine (num_any (31 * (k : Int)) (7 * (ln : Int)) _ (by omega) (by omega) (by omega) (by omega)).mono ?_
                rintro e w5 ⟨rfl, rfl⟩
                go_wp2_with (at_builtin; go_loud (refine wpList_append_run rfl _ _ 23 rfl (.slice lA ln lc) (.slice (some ⟨wr.heap.size, 0, none⟩) 1 1) (.slice qA (ln + 1) qc) w' (by kernel_rfl) (by kernel_rfl) HR.out ?_; clear HR))
                go_roundw
                case rel => exact ⟨ln + 1, ⟨qA, ln + 1, qc⟩, ⟨pA, pn, pc⟩, _, by omega, by omega, by go_num, rfl, rfl, HNX.out⟩
                case measure => (simp [intOf]; try omega)
            · have hix : ln = xn + 70 := by omega
              have hmn : mn = k := HOM.out.2
              obtain ⟨y', rfl⟩ : ∃ y', y = some y' := by
                rcases hpi.nn with ⟨_, h2⟩ | ⟨h1, _⟩
                · simp only at h2; omega
                · exact h1
              have hmo := hpi.mo
              have hc8 : (wr.alloc (.cells #[.slice lA (xn + 70) lc] 23)).cell? ⟨wr.heap.size, 0, none⟩ = some (.slice lA (xn + 70) lc) := (Blk.new wr 23 #[.slice lA (xn + 70) lc]).cell 0
              obtain ⟨m', w3, hr2, hm'n, hmo', hways2⟩ := run_append_ways (P := Tryz.prog) (w := wr.alloc (.cells #[.slice lA (xn + 70) lc] 23)) (base := D) (t := 49) (ty := 49) row_el ⟨mA, mn, mc⟩ (lstVals ms) (hmo.alloc _) wr.heap.size 0 1 (.slice lA (xn + 70) lc) hc8 rfl (by simp only [maxLen]; omega) (by simp only; omega) (by rw [World.size_alloc]; have := hpi.fr.size; omega)
              have hpi2 : P2in w2 wi wr C D os ms ⟨xA, xn, xc⟩ ⟨lA, xn + 70, lc⟩ ⟨pA, pn, pc⟩ ⟨mA, mn, mc⟩ k (xn + 70) (some y') := by rw [← hix]; exact hpi
              have hlv := P2in.leave (m' := m') hpi2 HP.out.dn HLONE.out HX.out HP.out.ol HP.out.ml hmn HALT.out hDi hDw3 hCw2 _ hm'n hmo' hways2
              have hpn : pn = k + 1 := by have := hpi.on; simpa using this
              obtain ⟨sA, sn, sc⟩ := m'
              simp only [Lst.val] at hr2
              have HR2 := Lib.hid hr2
              have HLV := Lib.hid hlv
              have hsn : sn = k + 1 := by simp only at hm'n; omega
              have hilI : ¬ (ln : Int) < (xn : Int) + 70 := by omega
              have HPN := Lib.hid hpn
              clear hmn hpn
              clear hpi hpi2 hfr hr2 hmo hmo' hways2 hlv hc8
              simp only [Lst.val]
              rw [hix]
              go_wp2_with (at_builtin; go_loud (refine wpList_append_run rfl _ _ 49 rfl (.slice mA mn mc) (.slice (some ⟨wr.heap.size, 0, none⟩) 1 1) (.slice sA sn sc) w3 (by kernel_rfl) (by kernel_rfl) HR2.out ?_; clear HR2))
              go_roundw
              case rel => exact ⟨k + 1, _, _, ⟨pA, pn, pc⟩, ⟨sA, sn, sc⟩, by omega, by go_num, rfl, (by show Value.slice sA (k + 1) sc = Value.slice sA sn sc; rw [hsn]), HLV.out⟩
              case measure => (simp [intOf]; try omega)
        · have he : k = n := by omega
          subst he
          have hfr := HFR.out.trans hp.fr
          have hmr := fun (i : Nat) (y : Lst) (hy : ms[i]? = some y) => rowV_cells (show wr.ownsRow D 23 1 (.slice m.A m.n m.c) m.n (lstVals ms) from hp.mo) i y.val (by unfold lstVals; rw [List.getElem?_map, hy]; rfl)
          have hor := fun (i : Nat) (y : Lst) (hy : os[i]? = some y) => rowV_cells (show wr.ownsRow D 23 1 (.slice o.A o.n o.c) o.n (lstVals os) from hp.oo) i y.val (by unfold lstVals; rw [List.getElem?_map, hy]; rfl)
          have hrr := HROW.out wr hfr
          have hmn : m.n = k := hp.mn
          have hol := hp.ol
          have hml := hp.ml
          have HMR := Lib.hid hmr
          have HOR := Lib.hid hor
          have HRR := Lib.hid hrr
          have HDN := Lib.hid hp.dn
          have HOC := Lib.hid hp.on
          have HOL := Lib.hid hol
          have HML := Lib.hid hml
          have HFRW := Lib.hid hfr
          obtain ⟨mA, mn, mc⟩ := m
          obtain ⟨oA, on, oc⟩ := o
          simp only at hmn
          subst hmn
          clear hp hfr hmr hor hrr hol hml
          simp only [Lst.val]
          obtain ⟨W, hW⟩ : ∃ W, W = wr := ⟨_, rfl⟩
          have HW := Lib.hid hW
          have hW0 : W.drewN 0 = wr := hW
          rw [← hW] at HMR HOR HRR HFRW HDN
          clear hW
          go_wp2_with fail
          go_loopw [10, 11, 12, 13] (fun v10 _ _ _ wr => ∃ (k j : Nat), k ≤ mn ∧ v10 = .int .i64 k ∧ wr = W.drewN j) (fun v10 _ _ _ _ => mn - (intOf v10).toNat)
          case atStart => exact ⟨0, 0, by omega, rfl, hW0.symm⟩
          case round =>
            obtain ⟨k, j, hk, rfl, rfl⟩ := hrel
            by_cases hkl : k < mn
            · obtain ⟨x, hx, hxn⟩ := HGET.out k hkl
              obtain ⟨y, hy⟩ : ∃ y, os[k]? = some y := ⟨_, List.getElem?_eq_getElem (by rw [HOL.out]; exact hkl)⟩
              obtain ⟨z, hz⟩ : ∃ z, ms[k]? = some z := ⟨_, List.getElem?_eq_getElem (by rw [HML.out]; exact hkl)⟩
              obtain ⟨q1, q2, q3⟩ := HDN.out k x hx
              obtain ⟨qy1, qy2, _⟩ := q2 y hy
              obtain ⟨qz1, qz2, _⟩ := q3 z hz
              obtain ⟨mb, rfl, _, hmb, km⟩ := HMR.out k z hz
              obtain ⟨ob, rfl, _, hob, ko⟩ := HOR.out k y hy
              obtain ⟨rb, rfl, _, hrb, kr⟩ := HRR.out k x hx
              have k5 := HBAG.out W HFRW.out
              have Q1 := Lib.hid q1
              have QY := Lib.hid qy2
              have QZ := Lib.hid qz2
              obtain ⟨xA, xn, xc⟩ := x
              obtain ⟨yA, yn, yc⟩ := y
              obtain ⟨zA, zn, zc⟩ := z
              simp only at qy1 qz1 hxn
              subst qy1 qz1
              simp only [Lst.val] at km ko kr
              have hkI : (k : Int) < mn := by omega
              have HX := Lib.hid hx
              clear q1 q2 q3 qy2 qz2 hx hy hz
              obtain ⟨WJ, hWJ⟩ : ∃ WJ, WJ = W.drewN j := ⟨_, rfl⟩
              have hcj : ∀ a, WJ.cell? a = W.cell? a := fun a => by rw [hWJ]; rfl
              rw [← hcj] at km ko kr k5
              rw [← hWJ]
              have HWJ := Lib.hid hWJ
              have HCJ := Lib.hid hcj
              clear hWJ hcj
              go_wp2_with fail
              go_loopw [11, 12, 13] (fun v11 _ _ wr => ∃ (i j2 : Nat), i ≤ xn + 70 ∧ v11 = .int .i64 i ∧ wr = W.drewN j2) (fun v11 _ _ _ => xn + 70 - (intOf v11).toNat)
              case atStart => exact ⟨0, j, by omega, rfl, HWJ.out⟩
              case round =>
                obtain ⟨i, j2, hi, rfl, hWJ2⟩ := hrel
                have hcj2 : ∀ a, wr.cell? a = W.cell? a := fun a => by rw [hWJ2]; rfl
                rw [HCJ.out] at km ko kr k5
                rw [← hcj2] at km ko kr k5
                have HWJ := Lib.hid hWJ2.symm
                have HCJ2 := Lib.hid hcj2
                clear hWJ2 hcj2 HCJ
                by_cases hil : i < xn + 70
                · obtain ⟨zg, zu, rfl, _, _, kz, hzu, _⟩ := own8_cell QZ.out (i := i) hil
                  rw [marks_at hil] at hzu
                  injection hzu with hzu
                  subst hzu
                  rw [← HCJ2.out] at kz
                  have hilI : (i : Int) < (xn : Int) + 70 := by omega
                  have hself : (markN k i == markN k i) = true := by simp
                  have hmark : IntKind.i8.wrap (numV (31 * (k : Int)) (7 * (i : Int))) = markN k i := rfl
                  have hkI : (k : Int) < mn := by omega
                  by_cases h1 : i < xn
                  · obtain ⟨xg, xu, rfl, _, _, kx, hxu, _⟩ := own8_cell Q1.out (i := i) h1
                    rw [marks_at h1] at hxu
                    injection hxu with hxu
                    subst hxu
                    rw [← HCJ2.out] at kx
                    have h1I : (i : Int) < xn := by omega
                    have h1n : ((i : Int) == (xn : Int)) = false := by simp only [beq_eq_false_iff_ne, ne_eq]; omega
                    go_wp2_with fail
                    refine (num_any (31 * (k : Int)) (7 * (i : Int)) _ (by omega) (by omega) (by omega) (by omega)).mono ?_
                    rintro e w5 ⟨rfl, rfl⟩
                    go_wp2_with fail
                    refine (num_any (31 * (k : Int)) (7 * (i : Int)) _ (by omega) (by omega) (by omega) (by omega)).mono ?_
                    rintro e w5 ⟨rfl, rfl⟩
                    go_wp2_with fail
                    go_roundw
                    case rel => exact ⟨i + 1, j2, by omega, by go_num, HWJ.out.symm⟩
                    case measure => (simp [intOf]; try omega)
                  by_cases h2 : i < xn + 1
                  · obtain ⟨yg, yu, rfl, _, _, ky, hyu, _⟩ := own8_cell QY.out (i := i) (show i < xn + 1 by omega)
                    rw [marks_at (by omega)] at hyu
                    injection hyu with hyu
                    subst hyu
                    rw [← HCJ2.out] at ky
                    have h2I : (i : Int) < (xn : Int) + 1 := by omega
                    have hkon : (k : Int) < on := by have h9 := HOC.out; omega
                    have h1I : ¬ (i : Int) < xn := by omega
                    have h1d : decide ((i : Int) < xn) = false := by simp only [decide_eq_false_iff_not]; omega
                    have h1n : ((i : Int) == (xn : Int)) = true := by simp only [beq_iff_eq]; omega
                    go_wp2_with fail
                    refine (num_any (31 * (k : Int)) (7 * (i : Int)) _ (by omega) (by omega) (by omega) (by omega)).mono ?_
                    rintro e w5 ⟨rfl, rfl⟩
                    go_wp2_with fail
                    refine (num_any (31 * (k : Int)) (7 * (i : Int)) _ (by omega) (by omega) (by omega) (by omega)).mono ?_
                    rintro e w5 ⟨rfl, rfl⟩
                    go_wp2_with fail
                    go_roundw
                    case rel => exact ⟨i + 1, j2, by omega, by go_num, HWJ.out.symm⟩
                    case measure => (simp [intOf]; try omega)
                  have h1I : ¬ (i : Int) < xn := by omega
                  have h1d : decide ((i : Int) < xn) = false := by simp only [decide_eq_false_iff_not]; omega
                  have h1n : ((i : Int) == (xn : Int)) = false := by simp only [beq_eq_false_iff_ne, ne_eq]; omega
                  go_wp2_with fail
                  refine (num_any (31 * (k : Int)) (7 * (i : Int)) _ (by omega) (by omega) (by omega) (by omega)).mono ?_
                  rintro e w5 ⟨rfl, rfl⟩
                  go_wp2_with fail
                  refine (num_any (31 * (k : Int)) (7 * (i : Int)) _ (by omega) (by omega) (by omega) (by omega)).mono ?_
                  rintro e w5 ⟨rfl, rfl⟩
                  go_wp2_with fail
                  go_roundw
                  case rel => exact ⟨i + 1, j2, by omega, by go_num, HWJ.out.symm⟩
                  case measure => (simp [intOf]; try omega)
                · have he : i = xn + 70 := by omega
                  subst he
                  go_wp2_with fail
                  go_roundw
                  case rel => exact ⟨k + 1, j2, by omega, by go_num, HWJ.out.symm⟩
                  case measure => (simp [intOf]; try omega)
            · have he : k = mn := by omega
              subst he
              go_wp2_with fail
              go_ret
              exact ⟨rfl, HFRW.out.drewN j⟩
end
end Go.Proofs.YtabpheanbomibaaGreatDoor
