/- Maps whose keys are integers or strings, as functions from keys to values: what a look-up, a store and a delete do to them. No program in sight. -/
import Derived.Maps.Own
import Derived.Below
import Derived.WalkKit
namespace Go.Proofs.YtocekmgjhdlkgaaGreatDoor
open Go.RowKit

/-- A key type that the model compares at once: integers of a kind, strings. -/
structure KeyT (P : Program) (k : TypeId) (κ : Type) where
  desc : TypeDesc
  emb : κ → Value
  eqb : κ → κ → Bool
  und : P.underlying k = some desc
  eqb_iff : ∀ a b, eqb a b = true ↔ a = b
  same : ∀ a b, Instr.sameNow desc (emb a) (emb b) = some (eqb a b)
  bits : ∀ a, Instr.sameBits 10000 (emb a) (emb a) = true
  plain : ∀ e n v (w : World), (Instr.checkKey e (n + 1) k v).run P w = .ok () w

theorem checkKey_plain {P : Program} {k : TypeId} {d : TypeDesc} (h : P.underlying k = some d) (hd : (∃ q, d = .int q) ∨ d = .string ∨ d = .bool) (e : Bool) (n : Nat) (v : Value) (w : World) :
    (Instr.checkKey e (n + 1) k v).run P w = .ok () w := by
  rcases hd with ⟨q, rfl⟩ | rfl | rfl <;> simp [Instr.checkKey, run_underlying h]

def intKey (P : Program) (k : TypeId) (q : IntKind) (h : P.underlying k = some (.int q)) : KeyT P k Int where
  desc := .int q
  emb n := .int q n
  eqb a b := a == b
  und := h
  eqb_iff a b := by simp
  same a b := by simp [Instr.sameNow]
  bits a := by simp [Instr.sameBits]
  plain e n v w := checkKey_plain h (.inl ⟨q, rfl⟩) e n v w

def strKey (P : Program) (k : TypeId) (h : P.underlying k = some .string) : KeyT P k ByteArray where
  desc := .string
  emb s := .string s
  eqb a b := a == b
  und := h
  eqb_iff a b := MapKept.bytes_beq a b
  same a b := by simp [Instr.sameNow]
  bits a := by simp [Instr.sameBits, MapKept.bytes_beq]
  plain e n v w := checkKey_plain h (.inr (.inl rfl)) e n v w

section
variable {P : Program} {k : TypeId} {κ : Type} (K : KeyT P k κ)

/-- The entries as pairs. -/
def Ents (l : List (κ × Value)) (es : List MapEntry) : Prop := es.map (fun e => (e.key, e.val)) = l.map (fun p => (K.emb p.1, p.2))
def look (l : List (κ × Value)) (x : κ) : Option Value := (l.find? (fun p => K.eqb x p.1)).map (·.2)

theorem findNow_ents (x : κ) : ∀ (l : List (κ × Value)) (es : List MapEntry) (i : Nat), Ents K l es →
    Instr.findNow K.desc (K.emb x) es i = some ((l.findIdx? (fun p => K.eqb x p.1)).bind fun j => (l[j]?).map fun p => (i + j, p.2)) := by
  intro l
  induction l with
  | nil => intro es i h; cases es with
    | nil => rfl
    | cons e r => simp [Ents] at h
  | cons p l ih => intro es i h; cases es with
    | nil => simp [Ents] at h
    | cons e r =>
      simp only [Ents, List.map_cons, List.cons.injEq, Prod.mk.injEq] at h
      obtain ⟨⟨h1, h2⟩, h3⟩ := h
      have := ih r (i + 1) h3
      simp only [Instr.findNow, h1, K.same, h2]
      cases hb : K.eqb x p.1
      · simp only [this, List.findIdx?_cons, hb]
        cases hf : List.findIdx? (fun p => K.eqb x p.1) l <;> simp
        rename_i j
        rw [show i + 1 + j = i + (j + 1) by omega]
      · simp [List.findIdx?_cons, hb]

/-- The entries' stamps: each its own, all below the clock. -/
def Stamps (es : List MapEntry) (clock : Nat) : Prop := (es.map (·.born)).Nodup ∧ ∀ x ∈ es, x.born < clock
theorem Stamps.push {es : List MapEntry} {clock : Nat} (h : Stamps es clock) (k v : Value) : Stamps (es ++ [{ key := k, val := v, born := clock }]) (clock + 1) := by
  obtain ⟨h1, h2⟩ := h
  refine ⟨?_, fun x hx => ?_⟩
  · rw [List.map_append, List.nodup_append]
    refine ⟨h1, by simp, ?_⟩
    intro a ha c hc
    simp only [List.map_cons, List.map_nil, List.mem_singleton] at hc
    obtain ⟨p, hp, rfl⟩ := List.mem_map.1 ha
    have := h2 p hp
    omega
  · rcases List.mem_append.1 hx with hx | hx
    · have := h2 x hx; omega
    · rw [List.mem_singleton.1 hx]; exact Nat.lt_succ_self _
theorem Stamps.sub {es es' : List MapEntry} {clock : Nat} (h : Stamps es clock) (hs : es'.Sublist es) : Stamps es' clock := ⟨h.1.sublist (hs.map _), fun x hx => h.2 x (hs.mem hx)⟩
theorem Stamps.alike {es es' : List MapEntry} {clock : Nat} (h : Stamps es clock) (hs : es'.map (·.born) = es.map (·.born)) : Stamps es' clock := by
  refine ⟨by rw [hs]; exact h.1, fun x hx => ?_⟩
  have : x.born ∈ es.map (·.born) := by rw [← hs]; exact List.mem_map_of_mem hx
  obtain ⟨y, hy, e⟩ := List.mem_map.1 this
  rw [← e]
  exact h.2 y hy
/-- BLOCK b IS A MAP that answers f. -/
def MK (w : World) (b : Nat) (f : κ → Option Value) : Prop :=
  ∃ (es : Array MapEntry) (clock : Nat) (l : List (κ × Value)), w.heap[b]? = some (.map es clock) ∧ Ents K l es.toList ∧ (l.map (·.1)).Nodup ∧ (∀ x, f x = look K l x) ∧ Stamps es.toList clock

def upd (f : κ → Option Value) (x : κ) (v : Option Value) : κ → Option Value := fun y => if K.eqb y x then v else f y

theorem MK.lt {w : World} {b : Nat} {f : κ → Option Value} (h : MK K w b f) : b < w.heap.size := by
  obtain ⟨es, clock, l, hb, _⟩ := h
  exact (Array.getElem?_eq_some_iff.1 hb).1
theorem MK.of_block {w w' : World} {b : Nat} {f : κ → Option Value} (h : MK K w b f) (he : w'.heap[b]? = w.heap[b]?) : MK K w' b f := by
  obtain ⟨es, clock, l, hb, r⟩ := h
  exact ⟨es, clock, l, he.trans hb, r⟩
theorem MK.alloc {w : World} {b : Nat} {f : κ → Option Value} (h : MK K w b f) (o : Obj) : MK K (w.alloc o) b f := h.of_block K (Below.heap_alloc w o b (h.lt K))
theorem MK.setCell {w : World} {b : Nat} {f : κ → Option Value} (h : MK K w b f) {a : Addr} (ha : b ≠ a.block) (u : Value) : MK K (w.setCell a u) b f := h.of_block K (Below.heap_setCell w a u b ha)
theorem MK.drew {w : World} {b : Nat} {f : κ → Option Value} (h : MK K w b f) : MK K w.drew b f := h
theorem MK.grown {w w' : World} {b : Nat} {f : κ → Option Value} (h : MK K w b f) {row : Option Nat} (hg : w.grownBy w' row) (hne : some b ≠ row) : MK K w' b f := h.of_block K (hg.block b (h.lt K) hne)
theorem MK.congr {w : World} {b : Nat} {f g : κ → Option Value} (h : MK K w b f) (e : ∀ x, f x = g x) : MK K w b g := by
  obtain ⟨es, clock, l, h1, h2, h3, h4, h5⟩ := h
  exact ⟨es, clock, l, h1, h2, h3, fun x => (e x).symm.trans (h4 x), h5⟩
theorem MK.made (w : World) : MK K (w.alloc (.map #[] 0)) w.heap.size (fun _ => none) :=
  ⟨#[], 0, [], heap_alloc_new w _, by simp [Ents], by simp, fun _ => rfl, by simp [Stamps]⟩

theorem find_of_findIdx {α : Type} (p : α → Bool) : ∀ l : List α, l.find? p = (l.findIdx? p).bind (l[·]?)
  | [] => rfl
  | a :: l => by
    rw [List.find?_cons, List.findIdx?_cons]
    cases h : p a
    · simp only [find_of_findIdx p l]
      cases List.findIdx? p l <;> simp
    · simp

theorem run_findKey {w : World} {l : List (κ × Value)} {es : Array MapEntry} (x : κ) (h : Ents K l es.toList) :
    (Instr.findKey k (K.emb x) es.toList).run P w = .ok ((l.findIdx? (fun p => K.eqb x p.1)).bind fun j => (l[j]?).map fun p => (j, p.2)) w := by
  simp only [Instr.findKey, Sem.run_bind, run_underlying K.und, Result.andThen_ok, findNow_ents K x l es.toList 0 h, Nat.zero_add]
  rfl

theorem run_getObj_map {w : World} {b : Nat} {es : Array MapEntry} {c : Nat} (h : w.heap[b]? = some (.map es c)) : (getObj b).run P w = .ok (.map es c) w := by
  simp [getObj, Sem.run, h]

theorem MK.lookup {w : World} {b : Nat} {f : κ → Option Value} (h : MK K w b f) {t e : TypeId} (ht : P.underlying t = some (.map k e)) {z : Value} (hz : ∀ w, (zeroValue e).run P w = .ok z w) (x : κ) (c : Bool) :
    (Instr.lookup t (.map (some b)) (K.emb x) c).run P w = .ok (if c then .tuple #[(f x).getD z, .bool (f x).isSome] else (f x).getD z) w := by
  obtain ⟨es, clock, l, hb, he, _, hf, _⟩ := h
  simp only [Instr.lookup, Sem.run_bind, run_underlying ht, Result.andThen_ok, run_getObj_map hb, Sem.run_pure, K.plain, run_findKey K x he, hf, look, find_of_findIdx]
  cases hi : List.findIdx? (fun p => K.eqb x p.1) l with
  | none => simp [hz]
  | some j =>
    simp only [Option.bind_some]
    cases hj : l[j]? with
    | none => simp [hz]
    | some p => simp

theorem setObj_map {w : World} {b : Nat} {es : Array MapEntry} {c : Nat} (h : w.heap[b]? = some (.map es c)) (o : Obj) :
    (setObj b o).run P w = .ok () { w with heap := w.heap.setIfInBounds b o } := by
  simp [setObj, Sem.run, h]

theorem grownBy_setObj (w : World) (b : Nat) (o : Obj) : w.grownBy { w with heap := w.heap.setIfInBounds b o } (some b) :=
  ⟨rfl, rfl, rfl, by simp, fun i _ hi => by
    rw [Array.getElem?_setIfInBounds, if_neg (by rintro rfl; exact hi rfl)]⟩

theorem keyStays {w : World} (x : κ) : (Instr.keyThatStays (K.emb x) (K.emb x)).run P w = .ok (K.emb x) w := by
  simp [Instr.keyThatStays, K.bits]

theorem ents_at {l : List (κ × Value)} {es : List MapEntry} (h : Ents K l es) (j : Nat) : (es[j]?).map (fun e => (e.key, e.val)) = (l[j]?).map (fun p => (K.emb p.1, p.2)) := by
  have := congrArg (·[j]?) h
  simpa using this

theorem look_set {l : List (κ × Value)} {x : κ} {j : Nat} (hj : l.findIdx? (fun p => K.eqb x p.1) = some j) (v : Value) (y : κ) :
    look K (l.modify j fun p => (p.1, v)) y = if K.eqb y x then some v else look K l y := by
  induction l generalizing j with
  | nil => simp at hj
  | cons p l ih =>
    rw [List.findIdx?_cons] at hj
    cases hb : K.eqb x p.1
    · simp only [hb] at hj
      simp only [Bool.false_eq_true, if_false, Option.map_eq_some_iff] at hj
      obtain ⟨i, hi, rfl⟩ := hj
      have := ih hi
      simp only [look, List.modify_succ_cons, List.find?_cons] at this ⊢
      cases hyp : K.eqb y p.1
      · exact this
      · have e : K.eqb y x = false := by
          cases h : K.eqb y x
          · rfl
          · rw [(K.eqb_iff _ _).1 h, hb] at hyp; cases hyp
        simp [e]
    · simp only [hb, if_true, Option.some.injEq] at hj
      subst hj
      have h1 := (K.eqb_iff _ _).1 hb
      simp only [look, List.modify_zero_cons, List.find?_cons, h1]
      cases hyp : K.eqb y p.1 <;> simp

theorem look_push (l : List (κ × Value)) {x : κ} (hj : l.findIdx? (fun p => K.eqb x p.1) = none) (v : Value) (y : κ) :
    look K (l ++ [(x, v)]) y = if K.eqb y x then some v else look K l y := by
  simp only [look, List.find?_append, List.find?_cons, List.find?_nil]
  cases hyp : K.eqb y x
  · simp
  · have : l.find? (fun p => K.eqb y p.1) = none := by rw [(K.eqb_iff _ _).1 hyp, find_of_findIdx, hj]; rfl
    simp [this]

theorem look_erase : ∀ (l : List (κ × Value)) (x : κ) (j : Nat), l.findIdx? (fun p => K.eqb x p.1) = some j → (l.map (·.1)).Nodup → ∀ y, look K (l.eraseIdx j) y = if K.eqb y x then none else look K l y := by
  intro l
  induction l with
  | nil => intro x j hj; simp at hj
  | cons p l ih =>
    intro x j hj hn y
    rw [List.findIdx?_cons] at hj
    simp only [List.map_cons, List.nodup_cons] at hn
    cases hb : K.eqb x p.1
    · simp only [hb, Bool.false_eq_true, if_false, Option.map_eq_some_iff] at hj
      obtain ⟨i, hi, rfl⟩ := hj
      have := ih x i hi hn.2 y
      simp only [look, List.eraseIdx_cons_succ, List.find?_cons] at this ⊢
      cases hyp : K.eqb y p.1
      · exact this
      · have e : K.eqb y x = false := by
          cases h : K.eqb y x
          · rfl
          · rw [(K.eqb_iff _ _).1 h, hb] at hyp; cases hyp
        simp [e]
    · simp only [hb, if_true, Option.some.injEq] at hj
      subst hj
      have h1 := (K.eqb_iff _ _).1 hb
      simp only [look, List.eraseIdx_cons_zero, List.find?_cons, h1]
      cases hyp : K.eqb y p.1
      · simp
      · have : l.find? (fun q => K.eqb y q.1) = none := by
          rw [List.find?_eq_none]
          intro q hq he
          have h2 := (K.eqb_iff _ _).1 he
          have h3 := (K.eqb_iff _ _).1 hyp
          exact hn.1 (by rw [← h3, h2]; exact List.mem_map_of_mem hq)
        simp [this]

theorem MK.update {w : World} {b : Nat} {f : κ → Option Value} (h : MK K w b f) {t e : TypeId} (ht : P.underlying t = some (.map k e)) (x : κ) (v : Value) :
    ∃ w', (Instr.mapUpdate t (.map (some b)) (K.emb x) v).run P w = .ok () w' ∧ MK K w' b (upd K f x (some v)) ∧ w.grownBy w' (some b) := by
  obtain ⟨es, clock, l, hb, he, hn, hf, hst⟩ := h
  have hlt := (Array.getElem?_eq_some_iff.1 hb).1
  simp only [Instr.mapUpdate, Sem.run_bind, run_underlying ht, Result.andThen_ok, run_getObj_map hb, K.plain, run_findKey K x he]
  cases hi : List.findIdx? (fun p => K.eqb x p.1) l with
  | none =>
    refine ⟨{ w with heap := w.heap.setIfInBounds b (.map (es.push { key := K.emb x, val := v, born := clock }) (clock + 1)) }, by simp [setObj_map hb], ⟨es.push { key := K.emb x, val := v, born := clock }, clock + 1, l ++ [(x, v)], by simp [hlt], ?_, ?_, ?_, by rw [Array.toList_push]; exact hst.push _ _⟩, grownBy_setObj w b _⟩
    · simpa [Ents] using he
    · rw [List.map_append, List.nodup_append]
      refine ⟨hn, by simp, ?_⟩
      intro a ha c hc
      simp only [List.map_cons, List.map_nil, List.mem_singleton] at hc
      subst hc
      rintro rfl
      rw [List.mem_map] at ha
      obtain ⟨p, hp, rfl⟩ := ha
      rw [List.findIdx?_eq_none_iff] at hi
      have := hi p hp
      rw [(K.eqb_iff _ _).2 rfl] at this
      cases this
    · intro y
      rw [look_push K l hi]
      simp only [upd, hf]
  | some j =>
    have hj : j < l.length := by
      have := List.findIdx?_eq_some_iff_getElem.1 hi
      exact this.1
    have hp : l[j]? = some l[j] := List.getElem?_eq_getElem hj
    have hx : K.eqb x l[j].1 = true := (List.findIdx?_eq_some_iff_getElem.1 hi).2.1
    have hx' := (K.eqb_iff _ _).1 hx
    have hk : (es[j]?).map (·.key) = some (K.emb x) := by
      have := ents_at K he j
      rw [hp] at this
      rw [Array.getElem?_toList] at this
      cases h0 : es[j]? with
      | none => rw [h0] at this; simp at this
      | some e0 => rw [h0] at this; simp at this; simp [this.1, hx']
    refine ⟨{ w with heap := w.heap.setIfInBounds b (.map (es.modify j fun e => { e with key := K.emb x, val := v }) clock) }, ?_, ⟨es.modify j fun e => { e with key := K.emb x, val := v }, clock, l.modify j fun p => (p.1, v), by simp [hlt], ?_, ?_, ?_, hst.alike (by
      apply List.ext_getElem?
      intro i
      simp only [Array.toList_modify, List.getElem?_map, List.getElem?_modify]
      by_cases hij : j = i
      · subst hij
        cases h0 : es.toList[j]? <;> simp
      · simp [hij])⟩, grownBy_setObj w b _⟩
    · simp [hp, hk, keyStays K x, setObj_map hb]
    · simp only [Ents, Array.toList_modify]
      apply List.ext_getElem?
      intro i
      have := ents_at K he i
      rw [Array.getElem?_toList] at this
      simp only [List.getElem?_map, List.getElem?_modify, Array.getElem?_toList]
      by_cases hij : j = i
      · subst hij
        cases h0 : es[j]? with
        | none => rw [h0, hp] at this; simp at this
        | some e0 => simp [hp, hx']
      · simp [hij]
        simpa using this
    · have : (l.modify j fun p => (p.1, v)).map (·.1) = l.map (·.1) := by
        apply List.ext_getElem?
        intro i
        simp only [List.getElem?_map, List.getElem?_modify]
        by_cases hij : j = i
        · subst hij; simp [hp]
        · simp [hij]
      rw [this]; exact hn
    · intro y
      rw [look_set K hi]
      simp only [upd, hf]

theorem map_eraseIdx_ {α β : Type} (f : α → β) : ∀ (l : List α) (j : Nat), (l.eraseIdx j).map f = (l.map f).eraseIdx j
  | [], _ => rfl
  | _ :: _, 0 => rfl
  | a :: l, j + 1 => by simp [List.eraseIdx_cons_succ, map_eraseIdx_ f l j]

theorem MK.delete {w : World} {b : Nat} {f : κ → Option Value} (h : MK K w b f) {t e : TypeId} (ht : P.underlying t = some (.map k e)) (x : κ) (ty : TypeId) :
    ∃ w', (Builtin.delete_ #[t, k] ty #[.map (some b), K.emb x]).run P w = .ok (.tuple #[]) w' ∧ MK K w' b (upd K f x none) ∧ w.grownBy w' (some b) := by
  obtain ⟨es, clock, l, hb, he, hn, hf, hst⟩ := h
  have hlt := (Array.getElem?_eq_some_iff.1 hb).1
  cases hi : List.findIdx? (fun p => K.eqb x p.1) l with
  | none =>
    refine ⟨{ w with heap := w.heap.setIfInBounds b (.map es clock) }, ?_, ⟨es, clock, l, by simp [hlt], he, hn, ?_, hst⟩, grownBy_setObj w b _⟩
    · simp [Builtin.delete_, run_underlying ht, run_getObj_map hb, K.plain, run_findKey K x he, hi, setObj_map hb]
    · intro y
      simp only [upd, hf]
      cases hyp : K.eqb y x
      · simp
      · have := (K.eqb_iff _ _).1 hyp
        subst this
        simp [look, find_of_findIdx, hi]
  | some j =>
    have hj : j < l.length := by
      have := List.findIdx?_eq_some_iff_getElem.1 hi
      exact this.1
    have hp : l[j]? = some l[j] := List.getElem?_eq_getElem hj
    refine ⟨{ w with heap := w.heap.setIfInBounds b (.map (es.eraseIdxIfInBounds j) clock) }, ?_, ⟨es.eraseIdxIfInBounds j, clock, l.eraseIdx j, by simp [hlt], ?_, ?_, ?_, hst.sub (by rw [Array.toList_eraseIdxIfInBounds]; exact List.eraseIdx_sublist _ _)⟩, grownBy_setObj w b _⟩
    · simp [Builtin.delete_, run_underlying ht, run_getObj_map hb, K.plain, run_findKey K x he, hi, hp, setObj_map hb]
    · simp only [Ents, Array.toList_eraseIdxIfInBounds] at he ⊢
      rw [map_eraseIdx_, map_eraseIdx_, he]
    · rw [map_eraseIdx_]
      exact hn.sublist (List.eraseIdx_sublist _ _)
    · intro y
      rw [look_erase K l x j hi hn]
      simp only [upd, hf]

variable {w : World} {ops : Array Oper} {rest : List Oper} {o : Oper} {a : Act} {Q : Exit → Act → World → Prop}

/-- 'm[k] = v' (also in a literal: 'insert'). -/
theorem wpList_update_MK (hg : o.guard = none) (m x v : Operand) (t : TypeId) (hop : o.op = Op.mapUpdate t m x v ∨ o.op = Op.insert t m x v)
    (e : TypeId) (ht : P.underlying t = some (.map k e)) (b : Nat) (f : κ → Option Value) (hown : MK K w b f) (hm : a.eval m = .map (some b)) (key : κ) (hx : a.eval x = K.emb key) (val : Value) (hv : a.eval v = val)
    (hK : ∀ w', MK K w' b (upd K f key (some val)) → w.grownBy w' (some b) → wpList P ops Q rest (a.put o.dst undef) w') :
    wpList P ops Q (o :: rest) a w := by
  refine wpList_plain hg fun K' hK' => ?_
  obtain ⟨w', hrun, r1, r2⟩ := hown.update K ht key val
  unfold Oper.wp
  rcases hop with hop | hop <;> simp [execOp, hop, hm, hx, hv, hrun, Result.andThen] <;> exact hK' _ _ (hK w' r1 r2)

/-- 'delete(m, k)'. -/
theorem wpList_delete_MK (hg : o.guard = none) (m x : Operand) (t : TypeId) (hop : o.op = Op.call { callee := Callee.builtin Builtin.delete, args := #[m, x], argTypes := #[t, k] })
    (e : TypeId) (ht : P.underlying t = some (.map k e)) (b : Nat) (f : κ → Option Value) (hown : MK K w b f) (hm : a.eval m = .map (some b)) (key : κ) (hx : a.eval x = K.emb key)
    (hK : ∀ w', MK K w' b (upd K f key none) → w.grownBy w' (some b) → wpList P ops Q rest (a.put o.dst (.tuple #[])) w') :
    wpList P ops Q (o :: rest) a w := by
  refine wpList_plain hg fun K' hK' => ?_
  obtain ⟨w', hrun, r1, r2⟩ := hown.delete K ht key o.type
  unfold Oper.wp
  simp [execOp, hop, resolve, invoke, builtin, hm, hx, hrun, Result.andThen]
  exact hK' _ _ (hK w' r1 r2)

end
end Go.Proofs.YtocekmgjhdlkgaaGreatDoor
