/- Lists of small numbers that share no memory: marked, grown one by one. No program's function in sight. tableauref00: Bag.AddSmalls; the bag in memory. -/
import Derived.Deep.RegionHeld3
import Derived.Test.YtabpheanbomibaaGreatDoorCopyV
import Derived.Test.YtabpheanbomibaaGreatDoorWideS
namespace Go.Proofs.YtabpheanbomibaaGreatDoor
open Go.RowKit
set_option linter.unusedVariables false

def markN (n i : Nat) : Int := IntKind.i8.wrap (numV (31 * (n : Int)) (7 * (i : Int)))
def marks (n m : Nat) : List Value := (List.range m).map fun i => Value.int .i8 (markN n i)
theorem marks_len (n m : Nat) : (marks n m).length = m := by simp [marks]
theorem marks_succ (n m : Nat) : marks n (m + 1) = marks n m ++ [.int .i8 (markN n m)] := by simp [marks, List.range_succ]
theorem marks_take {n m k : Nat} (h : k ≤ m) : (marks n m).take k = marks n k := by
  unfold marks
  rw [← List.map_take, List.take_range, Nat.min_eq_left h]
theorem marks_at {n m i : Nat} (h : i < m) : (marks n m)[i]? = some (.int .i8 (markN n i)) := by
  unfold marks
  rw [List.getElem?_map, List.getElem?_range h]
  rfl
/-- A list: where it lies, its length, its room. -/
structure Lst where
  A : Option Addr
  n : Nat
  c : Nat
def Lst.val (x : Lst) : Value := .slice x.A x.n x.c
def Own8 (w : World) (C : Nat) (x : Lst) (xs : List Value) : Prop := w.ownsRow C 82 1 x.val x.n xs
theorem own8_A {w : World} {C : Nat} {x : Lst} {xs : List Value} (h : Own8 w C x xs) : x.A = none ∨ ∃ g, x.A = some ⟨g, 0, none⟩ ∧ C ≤ g ∧ g < w.heap.size ∧ ∃ cs, w.heap[g]? = some (.cells cs 82 (0, 0)) := by
  rcases h.2 with ⟨e, _⟩ | ⟨g, cap, cur, e, hB, hh, _⟩
  · injection e with e1 _ _
    exact .inl e1
  · injection e with e1 _ _
    exact .inr ⟨g, e1, hB, (Array.getElem?_eq_some_iff.1 hh).1, cur, hh⟩
theorem own_setB {w : World} {C n c g i : Nat} {e : TypeId} {xs : List Value} {u : Value} (h : w.ownsRow C e 1 (.slice (some ⟨g, 0, none⟩) n c) n xs) (hi : i < n) : (w.setCell ⟨g, i, none⟩ u).ownsRow C e 1 (.slice (some ⟨g, 0, none⟩) n c) n (xs.set i u) := by
  obtain ⟨h1, h2⟩ := h
  rcases h2 with ⟨h2, _⟩ | ⟨g', cap, cur, h2, h3, h4, h5, h6, h7, h8⟩
  · cases h2
  · injection h2 with e1 e2 e3
    injection e1 with e1
    injection e1 with e1
    subst e1 e3
    exact ⟨by simpa using h1, .inr ⟨g, c, cur.setIfInBounds i u, rfl, h3, Blk.set_ (t := e) h4 i u, h5, h6, by simpa using h7, by rw [Array.toList_setIfInBounds, List.take_set, h8]⟩⟩
theorem own_prefix {w : World} {C n c g m : Nat} {e : TypeId} {xs : List Value} (h : w.ownsRow C e 1 (.slice (some ⟨g, 0, none⟩) n c) n xs) (hm : m ≤ n) : w.ownsRow C e 1 (.slice (some ⟨g, 0, none⟩) m c) m (xs.take m) := by
  obtain ⟨h1, h2⟩ := h
  rcases h2 with ⟨h2, _⟩ | ⟨g', cap, cur, h2, h3, h4, h5, h6, h7, h8⟩
  · cases h2
  · injection h2 with e1 e2 e3
    injection e1 with e1
    injection e1 with e1
    subst e1 e3
    refine ⟨by rw [List.length_take]; omega, .inr ⟨g, c, cur, rfl, h3, h4, by omega, h6, h7, ?_⟩⟩
    rw [← h8, List.take_take]
    congr 1
    omega
theorem own_fresh {w : World} {base : Nat} {e : TypeId} {z : Value} {xs : List Value} (u : Value) (n cap : Nat) (hz : z.cells.size = 1) (hx : xs.length = n) (h1 : n + 1 ≤ cap) (h2 : cap ≤ maxLen) (hb : base ≤ w.heap.size) :
    (w.drew.alloc (.cells (xs.toArray ++ #[u] ++ Builtin.zeroCells z.cells (cap - (n + 1))) e)).ownsRow base e 1 (.slice (some ⟨w.heap.size, 0, none⟩) (n + 1) cap) (n + 1) (xs ++ [u]) := by
  refine ⟨by simp [hx], .inr ⟨w.heap.size, cap, _, rfl, hb, Blk.new w.drew e _, h1, h2, ?_, ?_⟩⟩
  · simp only [Array.size_append, List.size_toArray, size_zeroCells, hz, hx]
    simp
    omega
  · simp only [Array.toList_append]
    rw [List.take_append_of_le_length (by simp [hx])]
    simp
    rw [List.take_of_length_le (by simp [hx])]
/-- One more: in its place, or in a new one. -/
theorem run_append_ways {P : Program} {w : World} {base : Nat} {t ty e : TypeId} {bytes : Nat} (E : ElT P t e 1 bytes) (x : Lst) (xs : List Value) (hown : w.ownsRow base e 1 x.val x.n xs)
    (b off c : Nat) (u : Value) (hu : w.cell? ⟨b, off, none⟩ = some u) (h1 : u.oneCell' = true) (h63 : x.n + 1 ≤ maxLen) (hbytes : (x.n + 1) * bytes ≤ 140737488355328) (hbase : base ≤ w.heap.size) :
    ∃ (l : Lst) (w' : World), (Builtin.append_ #[t, t] ty #[x.val, .slice (some ⟨b, off, none⟩) 1 c]).run P w = .ok l.val w' ∧ l.n = x.n + 1 ∧ w'.ownsRow base e 1 l.val l.n (xs ++ [u]) ∧
      ((∃ g, x.A = some ⟨g, 0, none⟩ ∧ l.A = x.A ∧ l.c = x.c ∧ w.grownBy w' (some g)) ∨ (∃ g, l.A = some ⟨g, 0, none⟩ ∧ w.heap.size ≤ g ∧ w.grownBy w' none)) := by
  obtain ⟨i, z, hi, hz, hsz, hby, hzc⟩ := E.info
  obtain ⟨A, n, cap⟩ := x
  simp only [Lst.val] at hown ⊢
  simp only at h63 hbytes
  have hnews : ∀ j v, [u][j]? = some v → w.cell? ((⟨b, off, none⟩ : Addr).add j) = some v := by
    intro j v hj
    cases j with
    | zero => simp at hj; subst hj; exact hu
    | succ j => simp at hj
  have hone : ∀ v ∈ [u], v.oneCell' = true := by simpa using h1
  have hmax : n + 1 ≤ 9223372036854775807 := by simp only [maxLen] at h63; omega
  rcases hown.2 with ⟨e0, hn⟩ | ⟨g, cap', cur, e0, hB, hh, hnc, hcm, hcs, htake⟩
  · injection e0 with e1 e2 e3
    subst e1 e2 e3
    have hx : xs = [] := List.eq_nil_of_length_eq_zero (by simpa using hown.1)
    subst hx
    have hr := run_append_nil (P := P) (w := w) t ty e i z E.und hi hz ⟨b, off, none⟩ 1 c [u] (by rw [hsz]; rfl) hnews (by omega) (by omega) (by rw [hby]; have h9 := hbytes; simp at h9; omega)
    have ho := own_fresh (w := w) (base := base) (e := e) (z := z) (xs := []) u 0 (grownCap w 1 0 e) hzc rfl (grownCap_ge w 1 0 e) (grownCap_le_maxLen w 1 0 e (by omega)) hbase
    simp only [List.nil_append, Nat.zero_add] at ho
    refine ⟨⟨some ⟨w.heap.size, 0, none⟩, 1, grownCap w 1 0 e⟩, _, hr, rfl, ?_, .inr ⟨w.heap.size, rfl, Nat.le_refl _, ⟨rfl, rfl, rfl, by simp, fun k hk _ => Below.heap_alloc w.drew _ k hk⟩⟩⟩
    simpa using ho
  · injection e0 with e1 e2 e3
    subst e1 e3
    by_cases hroom : n + 1 ≤ cap
    · have hr := run_append_room (P := P) w t ty e i E.und hi g n cap cur hh ⟨b, off, none⟩ 1 c [u] (by rw [hsz]; rfl) hnews hone hroom (by rw [hsz]; simp; omega)
      obtain ⟨v', w', hr2, ho2, hg2, _⟩ := run_append_own (P := P) w base t ty e i z 1 bytes E.und hi hz hsz hby hzc (by omega) (.slice (some ⟨g, 0, none⟩) n cap) n xs hown ⟨b, off, none⟩ 1 c [u] rfl hnews hone h63 hbytes hbase
      rw [hr] at hr2
      injection hr2 with q1 q2
      subst q1 q2
      exact ⟨⟨some ⟨g, 0, none⟩, n + 1, cap⟩, _, hr, rfl, ho2, .inl ⟨g, rfl, rfl, rfl, hg2⟩⟩
    · have hl : xs.length = n := by simpa using hown.1
      have holds : ∀ j v, xs[j]? = some v → w.cell? ((⟨g, 0, none⟩ : Addr).add j) = some v := hown.cells (g := g) rfl
      have hr := run_append_grow (P := P) w t ty e i z E.und hi hz ⟨g, 0, none⟩ n cap xs (by rw [hsz]; omega) holds ⟨b, off, none⟩ 1 c [u] (by rw [hsz]; rfl) hnews (by omega) (by omega) (by rw [hby]; exact growslice_fits (by omega) hbytes)
      have ho := own_fresh (w := w) (base := base) (e := e) (z := z) (xs := xs) u n (grownCap w (n + 1) cap e) hzc hl (grownCap_ge w (n + 1) cap e) (grownCap_le_maxLen w (n + 1) cap e h63) hbase
      refine ⟨⟨some ⟨w.heap.size, 0, none⟩, n + 1, grownCap w (n + 1) cap e⟩, _, hr, rfl, ?_, .inr ⟨w.heap.size, rfl, Nat.le_refl _, ⟨rfl, rfl, rfl, by simp, fun k hk _ => Below.heap_alloc w.drew _ k hk⟩⟩⟩
      exact ho
def Keep8 (wi wr : World) (A : Option Addr) : Prop := ∀ g cs fr, wi.heap[g]? = some (.cells cs 82 fr) → A ≠ some ⟨g, 0, none⟩ → wr.heap[g]? = wi.heap[g]?
theorem Keep8.refl (w : World) (A : Option Addr) : Keep8 w w A := fun _ _ _ _ _ => rfl
theorem own_keep8 {wi wr : World} {C : Nat} {x : Lst} {xs : List Value} {A : Option Addr} (h : Own8 wi C x xs) (k : Keep8 wi wr A) (hne : x.A = none ∨ x.A ≠ A) : Own8 wr C x xs := by
  obtain ⟨h1, h2⟩ := h
  refine ⟨h1, ?_⟩
  rcases h2 with h2 | ⟨g, cap, cur, e, hB, hh, r⟩
  · exact .inl h2
  · refine .inr ⟨g, cap, cur, e, hB, ?_, r⟩
    injection e with e1 _ _
    rw [k g cur _ hh (by
      intro hA
      rcases hne with hne | hne
      · rw [hne] at e1; cases e1
      · exact hne (e1.trans hA.symm)), hh]
def Rel (l r : Lst) : Prop := r.A = none ∨ r.A ≠ l.A ∨ r.c = l.c
/-- In the middle of a list's growth. -/
structure Grow (wi wr : World) (C n : Nat) (x l : Lst) (o : Option Lst) (i : Nat) : Prop where
  len : l.n = i
  le : x.n ≤ i
  lo : Own8 wr C l (marks n i)
  xo : Own8 wr C x (marks n x.n)
  rx : Rel l x
  far : l.A = x.A ∨ ∃ g, l.A = some ⟨g, 0, none⟩ ∧ wi.heap.size ≤ g
  oo : ∀ y, o = some y → y.n = x.n + 1 ∧ x.n + 1 ≤ i ∧ Own8 wr C y (marks n (x.n + 1)) ∧ Rel l y ∧ (y.A = x.A ∨ ∃ g, y.A = some ⟨g, 0, none⟩ ∧ wi.heap.size ≤ g)
  keep : Keep8 wi wr x.A
  size : wi.heap.size ≤ wr.heap.size
theorem grow_row {wr w1 w' : World} {C n i : Nat} {l l' r : Lst} (hw : wr.grownBy w1 none) (hr : Own8 wr C r (marks n r.n)) (hrn : r.n ≤ i) (hrel : Rel l r) (ho : Own8 w' C l' (marks n (i + 1))) (hl' : l'.n = i + 1)
    (hways : (∃ g, l.A = some ⟨g, 0, none⟩ ∧ l'.A = l.A ∧ l'.c = l.c ∧ w1.grownBy w' (some g)) ∨ (∃ g, l'.A = some ⟨g, 0, none⟩ ∧ w1.heap.size ≤ g ∧ w1.grownBy w' none)) : Own8 w' C r (marks n r.n) ∧ Rel l' r := by
  have hr1 : Own8 w1 C r (marks n r.n) := World.ownsRow.kept hr hw (by cases hv : r.val.ownBlock <;> simp)
  rcases hways with ⟨g, e1, e2, e3, hg⟩ | ⟨g, e1, hgs, hg⟩
  · refine ⟨?_, by unfold Rel at hrel ⊢; rw [e2, e3]; exact hrel⟩
    by_cases hA : r.A = l.A
    · have hc : r.c = l.c := by
        rcases hrel with h | h | h
        · rw [hA, e1] at h; cases h
        · exact absurd hA h
        · exact h
      have hl2 : l'.val = .slice (some ⟨g, 0, none⟩) (i + 1) r.c := by unfold Lst.val; rw [e2, e1, hl', e3, hc]
      have hr2 : r.val = .slice (some ⟨g, 0, none⟩) r.n r.c := by unfold Lst.val; rw [hA, e1]
      unfold Own8 at ho ⊢
      rw [hl2, hl'] at ho
      have hp := own_prefix ho (m := r.n) (by omega)
      rw [marks_take (by omega)] at hp
      rw [hr2]
      exact hp
    · refine World.ownsRow.kept hr1 hg ?_
      rcases own8_A hr1 with h | ⟨g2, h, _⟩
      · exact .inl (by unfold Lst.val; rw [h]; rfl)
      · refine .inr ?_
        unfold Lst.val
        rw [h]
        intro e
        injection e with e
        subst e
        exact hA (h.trans e1.symm)
  · refine ⟨World.ownsRow.kept hr1 hg (by cases hv : r.val.ownBlock <;> simp), ?_⟩
    rcases own8_A hr1 with h | ⟨g2, h, _, h2, _⟩
    · exact .inl h
    · refine .inr (.inl ?_)
      rw [h, e1]
      intro e
      injection e with e
      injection e with e
      omega
theorem Grow.step {wi wr w1 w' : World} {C n i : Nat} {x l l' : Lst} {o : Option Lst} (h : Grow wi wr C n x l o i) (hw : wr.grownBy w1 none) (ho : Own8 w' C l' (marks n i ++ [.int .i8 (markN n i)])) (hl' : l'.n = i + 1)
    (hways : (∃ g, l.A = some ⟨g, 0, none⟩ ∧ l'.A = l.A ∧ l'.c = l.c ∧ w1.grownBy w' (some g)) ∨ (∃ g, l'.A = some ⟨g, 0, none⟩ ∧ w1.heap.size ≤ g ∧ w1.grownBy w' none)) : Grow wi w' C n x l' o (i + 1) := by
  rw [← marks_succ] at ho
  obtain ⟨hx1, hx2⟩ := grow_row hw h.xo h.le h.rx ho hl' hways
  have hz := hw.size
  have hs := h.size
  refine ⟨hl', by have := h.le; omega, ho, hx1, hx2, ?_, fun y hy => ?_, ?_, ?_⟩
  · rcases hways with ⟨g, e1, e2, e3, hg⟩ | ⟨g, e1, hgs, hg⟩
    · rw [e2]; exact h.far
    · exact .inr ⟨g, e1, by omega⟩
  · obtain ⟨q1, q2, q3, q4, q5⟩ := h.oo y hy
    rw [← q1] at q3
    obtain ⟨r1, r2⟩ := grow_row hw q3 (by omega) q4 ho hl' hways
    rw [q1] at r1
    exact ⟨q1, by omega, r1, r2, q5⟩
  · intro g0 cs fr h0 hne
    have hlt := (Array.getElem?_eq_some_iff.1 h0).1
    have hk := h.keep g0 cs fr h0 hne
    have h1 := hw.block g0 (by omega) (by simp)
    rcases hways with ⟨g, e1, e2, e3, hg⟩ | ⟨g, e1, hgs, hg⟩
    · rw [hg.block g0 (by omega) ?_, h1, hk]
      intro e
      injection e with e
      subst e
      rcases h.far with hf | ⟨g2, hf, hf2⟩
      · exact hne (hf.symm.trans e1)
      · rw [e1] at hf
        injection hf with hf
        injection hf with hf
        omega
    · rw [hg.block g0 (by omega) (by simp), h1, hk]
  · rcases hways with ⟨g, e1, e2, e3, hg⟩ | ⟨g, e1, hgs, hg⟩
    · have := hg.size; omega
    · have := hg.size; omega
/-- The first grown one is laid by; no list of numbers turns. -/
theorem Grow.lay {wi wr w' : World} {C n : Nat} {x l : Lst} (h : Grow wi wr C n x l none (x.n + 1)) (hk : ∀ (g : Nat) (cs : Array Value) (fr : Nat × Nat), wr.heap[g]? = some (Obj.cells cs 82 fr) → w'.heap[g]? = wr.heap[g]?) (hs : wr.heap.size ≤ w'.heap.size) : Grow wi w' C n x l (some l) (x.n + 1) := by
  have hm : ∀ {r : Lst} {xs : List Value}, Own8 wr C r xs → Own8 w' C r xs := fun {r xs} hr => own_keep8 (A := none) hr (fun g cs fr h0 _ => hk g cs fr h0) (by cases h9 : r.A <;> simp)
  refine ⟨h.len, h.le, hm h.lo, hm h.xo, h.rx, h.far, fun y hy => ?_, ?_, by have := h.size; omega⟩
  · injection hy with hy
    subst hy
    exact ⟨h.len, by omega, hm h.lo, .inr (.inr rfl), h.far⟩
  · intro g0 cs fr h0 hne
    have h1 := h.keep g0 cs fr h0 hne
    rw [hk g0 cs fr (h1.trans h0), h1]
end Go.Proofs.YtabpheanbomibaaGreatDoor
namespace Go.Proofs.YtabpheanbomibaaGreatDoor
open Go.RowKit
set_option linter.unusedVariables false

def nilS : Value := .slice none 0 0
def bagA (v : Value) : Array Value := #[.slice none 0 0, .slice none 0 0, .slice none 0 0, .slice none 0 0, .slice none 0 0, v, .slice none 0 0, .slice none 0 0, .slice none 0 0, .slice none 0 0, .slice none 0 0, .slice none 0 0, .slice none 0 0, .slice none 0 0, .slice none 0 0, .slice none 0 0, .slice none 0 0, .slice none 0 0, .slice none 0 0, .slice none 0 0, .slice none 0 0]
theorem row_el : ElT Tryz.prog 49 23 1 24 := ⟨Tryz.underlying49, by decide, by
  obtain ⟨i0, hi, hz0, hz1, hz2⟩ := info_parts (show (Tryz.prog.info? 23).map (fun i => (i.zero, i.size, i.bytes)) = some (some (.slice none 0 0), 1, 24) by kernel_rfl)
  exact ⟨i0, _, hi, hz0, hz1, hz2, rfl⟩⟩
def lstVals (L : List Lst) : List Value := L.map Lst.val
/-- The bag: of its lists those of small numbers alone are there. -/
def BagAt (w : World) (C gb : Nat) (L : List Lst) : Prop := ∃ A c, Blk w gb 66 (bagA (.slice A L.length c)) ∧ w.ownsRow C 23 1 (.slice A L.length c) L.length (lstVals L)
theorem BagAt.frm {w w' : World} {C gb B : Nat} {L : List Lst} {T : List TypeId} (h : BagAt w C gb L) (hf : Frm B T w w') (h1 : 66 ∉ T) (h2 : 23 ∉ T) : BagAt w' C gb L := by
  obtain ⟨A, c, q1, q2⟩ := h
  exact ⟨A, c, hf.blk q1 h1, hf.own q2 h2⟩
def TB : List TypeId := [66, 23]
theorem bag_set (v u : Value) : (bagA v).setIfInBounds 5 u = bagA u := rfl
set_option maxRecDepth 100000 in
set_option maxHeartbeats 4000000 in
theorem addSmalls_any (gb C : Nat) (L : List Lst) (x : Lst) (w : World) (h : BagAt w C gb L) (hL : L.length ≤ 400) (hC : C ≤ gb) (hw : C ≤ w.heap.size) :
    Calls Tryz.prog 16 #[.pointer (some ⟨gb, 0, none⟩), x.val] w fun e w' => e = .returned (.tuple #[]) ∧ BagAt w' C gb (if L.length < 400 then L ++ [x] else L) ∧ Frm C TB w w' := by
  obtain ⟨A, c, hb, ho⟩ := h
  obtain ⟨n, hn⟩ : ∃ n, L.length = n := ⟨_, rfl⟩
  rw [hn] at hb ho hL
  rw [hn]
  have c5 := hb.cell 5
  have z5 := hb.frozen 5
  have hv : (bagA (.slice A n c))[5]? = some (.slice A n c) := rfl
  rw [hv] at c5
  have hgl := hb.lt
  have HB := Lib.hid hb
  have HO := Lib.hid ho
  have HN := Lib.hid hn
  clear hb ho hn hv
  by_cases h4 : n < 400
  · have d4 : decide ((n : Int) < 400) = true := by simp; omega
    rw [if_pos h4]
    obtain ⟨xA, xn, xc⟩ := x
    simp only [Lst.val]
    go_enter Tryz.func16, Tryz.ntmps16
    go_wp2_with (at_builtin; go_loud (refine wpList_append1 row_el rfl _ _ rfl C w [.slice xA xn xc] rfl _ _ _ rfl HO.out rfl rfl (by simp [Value.oneCell']) (by unfold maxLen; omega) (by omega) hw ?_; intro v2 w2 hown2 hg2; obtain ⟨A2, c2, rfl⟩ := own_form hown2; have hb2 := HB.out.grown hg2 (Ne.symm (own_blk_ne HO.out HB.out (by decide))); have b5 : w2.cell? ⟨gb, 5, none⟩ = some (.slice A n c) := hb2.cell 5; have z5 := hb2.frozen 5; have hf2 := (Frm.refl C TB w).grown HO.out hg2 (Nat.le_refl _) hw (by decide); have HOWN2 := Lib.hid hown2; have HB2 := Lib.hid hb2; have HF2 := Lib.hid hf2; clear hown2 hg2 hb2 hf2))
    go_end0
    have hb3 := HB2.out.set_ 5 (.slice A2 (n + 1) c2)
    rw [bag_set] at hb3
    have hf3 := HF2.out.set_ (i := 5) HB2.out hC (by decide) (.slice A2 (n + 1) c2)
    have ho3 := own_setCell HOWN2.out (p := ⟨gb, 5, none⟩) (own_blk_ne HOWN2.out HB2.out (by decide)) (.slice A2 (n + 1) c2)
    have hl : (L ++ [(⟨xA, xn, xc⟩ : Lst)]).length = n + 1 := by rw [List.length_append, HN.out]; rfl
    refine ⟨rfl, ⟨A2, c2, by rw [hl]; exact hb3, ?_⟩, hf3⟩
    rw [hl]
    unfold lstVals at ho3 ⊢
    rw [List.map_append]
    exact ho3
  · have d4 : decide ((n : Int) < 400) = false := by simp; omega
    rw [if_neg h4]
    go_enter Tryz.func16, Tryz.ntmps16
    go_wp2_with fail
    go_end0
    exact ⟨rfl, ⟨A, c, by rw [HN.out]; exact HB.out, by rw [HN.out]; exact HO.out⟩, Frm.refl _ _ _⟩
end Go.Proofs.YtabpheanbomibaaGreatDoor
