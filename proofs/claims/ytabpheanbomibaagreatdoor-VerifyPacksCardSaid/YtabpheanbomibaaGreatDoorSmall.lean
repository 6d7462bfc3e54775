/- Maps whose keys are integers or strings, as functions from keys to values: what a look-up, a store and a delete do to them. No program in sight. Nodes in memory: a row of nodes, read cell by cell; the block that a node is copied into. Small functions: check.operator, check.right, slices.Index, Contains, Equal. -/
import Derived.Maps.Own
import Derived.Below
import Derived.WalkKit
import Derived.WalkSpells
import Derived.WalkLawsBesides
import Derived.Lib.Hide
import Derived.BigQuiet
import Derived.Test.YtabpheanbomibaaGreatDoorProg
import Derived.BigGuardPart
import Derived.Deep.QuietTactic
namespace Go.Proofs.YtabpheanbomibaaGreatDoor
open Go.RowKit

/-- A key type that the model compares at once: integers of a kind, strings. -/
structure KeyT (P : Program) (k : TypeId) (κ : Type) where
  desc : TypeDesc
  emb : κ → Value
  eqb : κ → κ → Bool
  und : P.underlying k = some desc
  eqb_iff : ∀ a b, eqb a b = true ↔ a = b
  same : ∀ a b, Instr.sameNow desc (emb a) (emb b) = some (eqb a b)
  bits : ∀ a, Instr.sameBits 10000 (emb a) (emb a) = true
  plain : ∀ e n v (w : World), (Instr.checkKey e (n + 1) k v).run P w = .ok () w

theorem checkKey_plain {P : Program} {k : TypeId} {d : TypeDesc} (h : P.underlying k = some d) (hd : (∃ q, d = .int q) ∨ d = .string ∨ d = .bool) (e : Bool) (n : Nat) (v : Value) (w : World) :
    (Instr.checkKey e (n + 1) k v).run P w = .ok () w := by
  rcases hd with ⟨q, rfl⟩ | rfl | rfl <;> simp [Instr.checkKey, run_underlying h]

def intKey (P : Program) (k : TypeId) (q : IntKind) (h : P.underlying k = some (.int q)) : KeyT P k Int where
  desc := .int q
  emb n := .int q n
  eqb a b := a == b
  und := h
  eqb_iff a b := by simp
  same a b := by simp [Instr.sameNow]
  bits a := by simp [Instr.sameBits]
  plain e n v w := checkKey_plain h (.inl ⟨q, rfl⟩) e n v w

def strKey (P : Program) (k : TypeId) (h : P.underlying k = some .string) : KeyT P k ByteArray where
  desc := .string
  emb s := .string s
  eqb a b := a == b
  und := h
  eqb_iff a b := MapKept.bytes_beq a b
  same a b := by simp [Instr.sameNow]
  bits a := by simp [Instr.sameBits, MapKept.bytes_beq]
  plain e n v w := checkKey_plain h (.inr (.inl rfl)) e n v w

section
variable {P : Program} {k : TypeId} {κ : Type} (K : KeyT P k κ)

/-- The entries as pairs. -/
def Ents (l : List (κ × Value)) (es : List MapEntry) : Prop := es.map (fun e => (e.key, e.val)) = l.map (fun p => (K.emb p.1, p.2))
def look (l : List (κ × Value)) (x : κ) : Option Value := (l.find? (fun p => K.eqb x p.1)).map (·.2)

theorem findNow_ents (x : κ) : ∀ (l : List (κ × Value)) (es : List MapEntry) (i : Nat), Ents K l es →
    Instr.findNow K.desc (K.emb x) es i = some ((l.findIdx? (fun p => K.eqb x p.1)).bind fun j => (l[j]?).map fun p => (i + j, p.2)) := by
  intro l
  induction l with
  | nil => intro es i h; cases es with
    | nil => rfl
    | cons e r => simp [Ents] at h
  | cons p l ih => intro es i h; cases es with
    | nil => simp [Ents] at h
    | cons e r =>
      simp only [Ents, List.map_cons, List.cons.injEq, Prod.mk.injEq] at h
      obtain ⟨⟨h1, h2⟩, h3⟩ := h
      have := ih r (i + 1) h3
      simp only [Instr.findNow, h1, K.same, h2]
      cases hb : K.eqb x p.1
      · simp only [this, List.findIdx?_cons, hb]
        cases hf : List.findIdx? (fun p => K.eqb x p.1) l <;> simp
        rename_i j
        rw [show i + 1 + j = i + (j + 1) by omega]
      · simp [List.findIdx?_cons, hb]

/-- The entries' stamps: each its own, all below the clock. -/
def Stamps (es : List MapEntry) (clock : Nat) : Prop := (es.map (·.born)).Nodup ∧ ∀ x ∈ es, x.born < clock
theorem Stamps.push {es : List MapEntry} {clock : Nat} (h : Stamps es clock) (k v : Value) : Stamps (es ++ [{ key := k, val := v, born := clock }]) (clock + 1) := by
  obtain ⟨h1, h2⟩ := h
  refine ⟨?_, fun x hx => ?_⟩
  · rw [List.map_append, List.nodup_append]
    refine ⟨h1, by simp, ?_⟩
    intro a ha c hc
    simp only [List.map_cons, List.map_nil, List.mem_singleton] at hc
    obtain ⟨p, hp, rfl⟩ := List.mem_map.1 ha
    have := h2 p hp
    omega
  · rcases List.mem_append.1 hx with hx | hx
    · have := h2 x hx; omega
    · rw [List.mem_singleton.1 hx]; exact Nat.lt_succ_self _
theorem Stamps.sub {es es' : List MapEntry} {clock : Nat} (h : Stamps es clock) (hs : es'.Sublist es) : Stamps es' clock := ⟨h.1.sublist (hs.map _), fun x hx => h.2 x (hs.mem hx)⟩
theorem Stamps.alike {es es' : List MapEntry} {clock : Nat} (h : Stamps es clock) (hs : es'.map (·.born) = es.map (·.born)) : Stamps es' clock := by
  refine ⟨by rw [hs]; exact h.1, fun x hx => ?_⟩
  have : x.born ∈ es.map (·.born) := by rw [← hs]; exact List.mem_map_of_mem hx
  obtain ⟨y, hy, e⟩ := List.mem_map.1 this
  rw [← e]
  exact h.2 y hy
/-- BLOCK b IS A MAP that answers f. -/
def MK (w : World) (b : Nat) (f : κ → Option Value) : Prop :=
  ∃ (es : Array MapEntry) (clock : Nat) (l : List (κ × Value)), w.heap[b]? = some (.map es clock) ∧ Ents K l es.toList ∧ (l.map (·.1)).Nodup ∧ (∀ x, f x = look K l x) ∧ Stamps es.toList clock

def upd (f : κ → Option Value) (x : κ) (v : Option Value) : κ → Option Value := fun y => if K.eqb y x then v else f y

theorem MK.lt {w : World} {b : Nat} {f : κ → Option Value} (h : MK K w b f) : b < w.heap.size := by
  obtain ⟨es, clock, l, hb, _⟩ := h
  exact (Array.getElem?_eq_some_iff.1 hb).1
theorem MK.of_block {w w' : World} {b : Nat} {f : κ → Option Value} (h : MK K w b f) (he : w'.heap[b]? = w.heap[b]?) : MK K w' b f := by
  obtain ⟨es, clock, l, hb, r⟩ := h
  exact ⟨es, clock, l, he.trans hb, r⟩
theorem MK.alloc {w : World} {b : Nat} {f : κ → Option Value} (h : MK K w b f) (o : Obj) : MK K (w.alloc o) b f := h.of_block K (Below.heap_alloc w o b (h.lt K))
theorem MK.setCell {w : World} {b : Nat} {f : κ → Option Value} (h : MK K w b f) {a : Addr} (ha : b ≠ a.block) (u : Value) : MK K (w.setCell a u) b f := h.of_block K (Below.heap_setCell w a u b ha)
theorem MK.drew {w : World} {b : Nat} {f : κ → Option Value} (h : MK K w b f) : MK K w.drew b f := h
theorem MK.grown {w w' : World} {b : Nat} {f : κ → Option Value} (h : MK K w b f) {row : Option Nat} (hg : w.grownBy w' row) (hne : some b ≠ row) : MK K w' b f := h.of_block K (hg.block b (h.lt K) hne)
theorem MK.congr {w : World} {b : Nat} {f g : κ → Option Value} (h : MK K w b f) (e : ∀ x, f x = g x) : MK K w b g := by
  obtain ⟨es, clock, l, h1, h2, h3, h4, h5⟩ := h
  exact ⟨es, clock, l, h1, h2, h3, fun x => (e x).symm.trans (h4 x), h5⟩
theorem MK.made (w : World) : MK K (w.alloc (.map #[] 0)) w.heap.size (fun _ => none) :=
  ⟨#[], 0, [], heap_alloc_new w _, by simp [Ents], by simp, fun _ => rfl, by simp [Stamps]⟩

theorem find_of_findIdx {α : Type} (p : α → Bool) : ∀ l : List α, l.find? p = (l.findIdx? p).bind (l[·]?)
  | [] => rfl
  | a :: l => by
    rw [List.find?_cons, List.findIdx?_cons]
    cases h : p a
    · simp only [find_of_findIdx p l]
      cases List.findIdx? p l <;> simp
    · simp

theorem run_findKey {w : World} {l : List (κ × Value)} {es : Array MapEntry} (x : κ) (h : Ents K l es.toList) :
    (Instr.findKey k (K.emb x) es.toList).run P w = .ok ((l.findIdx? (fun p => K.eqb x p.1)).bind fun j => (l[j]?).map fun p => (j, p.2)) w := by
  simp only [Instr.findKey, Sem.run_bind, run_underlying K.und, Result.andThen_ok, findNow_ents K x l es.toList 0 h, Nat.zero_add]
  rfl

theorem run_getObj_map {w : World} {b : Nat} {es : Array MapEntry} {c : Nat} (h : w.heap[b]? = some (.map es c)) : (getObj b).run P w = .ok (.map es c) w := by
  simp [getObj, Sem.run, h]

theorem MK.lookup {w : World} {b : Nat} {f : κ → Option Value} (h : MK K w b f) {t e : TypeId} (ht : P.underlying t = some (.map k e)) {z : Value} (hz : ∀ w, (zeroValue e).run P w = .ok z w) (x : κ) (c : Bool) :
    (Instr.lookup t (.map (some b)) (K.emb x) c).run P w = .ok (if c then .tuple #[(f x).getD z, .bool (f x).isSome] else (f x).getD z) w := by
  obtain ⟨es, clock, l, hb, he, _, hf, _⟩ := h
  simp only [Instr.lookup, Sem.run_bind, run_underlying ht, Result.andThen_ok, run_getObj_map hb, Sem.run_pure, K.plain, run_findKey K x he, hf, look, find_of_findIdx]
  cases hi : List.findIdx? (fun p => K.eqb x p.1) l with
  | none => simp [hz]
  | some j =>
    simp only [Option.bind_some]
    cases hj : l[j]? with
    | none => simp [hz]
    | some p => simp

theorem setObj_map {w : World} {b : Nat} {es : Array MapEntry} {c : Nat} (h : w.heap[b]? = some (.map es c)) (o : Obj) :
    (setObj b o).run P w = .ok () { w with heap := w.heap.setIfInBounds b o } := by
  simp [setObj, Sem.run, h]

theorem grownBy_setObj (w : World) (b : Nat) (o : Obj) : w.grownBy { w with heap := w.heap.setIfInBounds b o } (some b) :=
  ⟨rfl, rfl, rfl, by simp, fun i _ hi => by
    rw [Array.getElem?_setIfInBounds, if_neg (by rintro rfl; exact hi rfl)]⟩

theorem keyStays {w : World} (x : κ) : (Instr.keyThatStays (K.emb x) (K.emb x)).run P w = .ok (K.emb x) w := by
  simp [Instr.keyThatStays, K.bits]

theorem ents_at {l : List (κ × Value)} {es : List MapEntry} (h : Ents K l es) (j : Nat) : (es[j]?).map (fun e => (e.key, e.val)) = (l[j]?).map (fun p => (K.emb p.1, p.2)) := by
  have := congrArg (·[j]?) h
  simpa using this

theorem look_set {l : List (κ × Value)} {x : κ} {j : Nat} (hj : l.findIdx? (fun p => K.eqb x p.1) = some j) (v : Value) (y : κ) :
    look K (l.modify j fun p => (p.1, v)) y = if K.eqb y x then some v else look K l y := by
  induction l generalizing j with
  | nil => simp at hj
  | cons p l ih =>
    rw [List.findIdx?_cons] at hj
    cases hb : K.eqb x p.1
    · simp only [hb] at hj
      simp only [Bool.false_eq_true, if_false, Option.map_eq_some_iff] at hj
      obtain ⟨i, hi, rfl⟩ := hj
      have := ih hi
      simp only [look, List.modify_succ_cons, List.find?_cons] at this ⊢
      cases hyp : K.eqb y p.1
      · exact this
      · have e : K.eqb y x = false := by
          cases h : K.eqb y x
          · rfl
          · rw [(K.eqb_iff _ _).1 h, hb] at hyp; cases hyp
        simp [e]
    · simp only [hb, if_true, Option.some.injEq] at hj
      subst hj
      have h1 := (K.eqb_iff _ _).1 hb
      simp only [look, List.modify_zero_cons, List.find?_cons, h1]
      cases hyp : K.eqb y p.1 <;> simp

theorem look_push (l : List (κ × Value)) {x : κ} (hj : l.findIdx? (fun p => K.eqb x p.1) = none) (v : Value) (y : κ) :
    look K (l ++ [(x, v)]) y = if K.eqb y x then some v else look K l y := by
  simp only [look, List.find?_append, List.find?_cons, List.find?_nil]
  cases hyp : K.eqb y x
  · simp
  · have : l.find? (fun p => K.eqb y p.1) = none := by rw [(K.eqb_iff _ _).1 hyp, find_of_findIdx, hj]; rfl
    simp [this]

theorem look_erase : ∀ (l : List (κ × Value)) (x : κ) (j : Nat), l.findIdx? (fun p => K.eqb x p.1) = some j → (l.map (·.1)).Nodup → ∀ y, look K (l.eraseIdx j) y = if K.eqb y x then none else look K l y := by
  intro l
  induction l with
  | nil => intro x j hj; simp at hj
  | cons p l ih =>
    intro x j hj hn y
    rw [List.findIdx?_cons] at hj
    simp only [List.map_cons, List.nodup_cons] at hn
    cases hb : K.eqb x p.1
    · simp only [hb, Bool.false_eq_true, if_false, Option.map_eq_some_iff] at hj
      obtain ⟨i, hi, rfl⟩ := hj
      have := ih x i hi hn.2 y
      simp only [look, List.eraseIdx_cons_succ, List.find?_cons] at this ⊢
      cases hyp : K.eqb y p.1
      · exact this
      · have e : K.eqb y x = false := by
          cases h : K.eqb y x
          · rfl
          · rw [(K.eqb_iff _ _).1 h, hb] at hyp; cases hyp
        simp [e]
    · simp only [hb, if_true, Option.some.injEq] at hj
      subst hj
      have h1 := (K.eqb_iff _ _).1 hb
      simp only [look, List.eraseIdx_cons_zero, List.find?_cons, h1]
      cases hyp : K.eqb y p.1
      · simp
      · have : l.find? (fun q => K.eqb y q.1) = none := by
          rw [List.find?_eq_none]
          intro q hq he
          have h2 := (K.eqb_iff _ _).1 he
          have h3 := (K.eqb_iff _ _).1 hyp
          exact hn.1 (by rw [← h3, h2]; exact List.mem_map_of_mem hq)
        simp [this]

theorem MK.update {w : World} {b : Nat} {f : κ → Option Value} (h : MK K w b f) {t e : TypeId} (ht : P.underlying t = some (.map k e)) (x : κ) (v : Value) :
    ∃ w', (Instr.mapUpdate t (.map (some b)) (K.emb x) v).run P w = .ok () w' ∧ MK K w' b (upd K f x (some v)) ∧ w.grownBy w' (some b) := by
  obtain ⟨es, clock, l, hb, he, hn, hf, hst⟩ := h
  have hlt := (Array.getElem?_eq_some_iff.1 hb).1
  simp only [Instr.mapUpdate, Sem.run_bind, run_underlying ht, Result.andThen_ok, run_getObj_map hb, K.plain, run_findKey K x he]
  cases hi : List.findIdx? (fun p => K.eqb x p.1) l with
  | none =>
    refine ⟨{ w with heap := w.heap.setIfInBounds b (.map (es.push { key := K.emb x, val := v, born := clock }) (clock + 1)) }, by simp [setObj_map hb], ⟨es.push { key := K.emb x, val := v, born := clock }, clock + 1, l ++ [(x, v)], by simp [hlt], ?_, ?_, ?_, by rw [Array.toList_push]; exact hst.push _ _⟩, grownBy_setObj w b _⟩
    · simpa [Ents] using he
    · rw [List.map_append, List.nodup_append]
      refine ⟨hn, by simp, ?_⟩
      intro a ha c hc
      simp only [List.map_cons, List.map_nil, List.mem_singleton] at hc
      subst hc
      rintro rfl
      rw [List.mem_map] at ha
      obtain ⟨p, hp, rfl⟩ := ha
      rw [List.findIdx?_eq_none_iff] at hi
      have := hi p hp
      rw [(K.eqb_iff _ _).2 rfl] at this
      cases this
    · intro y
      rw [look_push K l hi]
      simp only [upd, hf]
  | some j =>
    have hj : j < l.length := by
      have := List.findIdx?_eq_some_iff_getElem.1 hi
      exact this.1
    have hp : l[j]? = some l[j] := List.getElem?_eq_getElem hj
    have hx : K.eqb x l[j].1 = true := (List.findIdx?_eq_some_iff_getElem.1 hi).2.1
    have hx' := (K.eqb_iff _ _).1 hx
    have hk : (es[j]?).map (·.key) = some (K.emb x) := by
      have := ents_at K he j
      rw [hp] at this
      rw [Array.getElem?_toList] at this
      cases h0 : es[j]? with
      | none => rw [h0] at this; simp at this
      | some e0 => rw [h0] at this; simp at this; simp [this.1, hx']
    refine ⟨{ w with heap := w.heap.setIfInBounds b (.map (es.modify j fun e => { e with key := K.emb x, val := v }) clock) }, ?_, ⟨es.modify j fun e => { e with key := K.emb x, val := v }, clock, l.modify j fun p => (p.1, v), by simp [hlt], ?_, ?_, ?_, hst.alike (by
      apply List.ext_getElem?
      intro i
      simp only [Array.toList_modify, List.getElem?_map, List.getElem?_modify]
      by_cases hij : j = i
      · subst hij
        cases h0 : es.toList[j]? <;> simp
      · simp [hij])⟩, grownBy_setObj w b _⟩
    · simp [hp, hk, keyStays K x, setObj_map hb]
    · simp only [Ents, Array.toList_modify]
      apply List.ext_getElem?
      intro i
      have := ents_at K he i
      rw [Array.getElem?_toList] at this
      simp only [List.getElem?_map, List.getElem?_modify, Array.getElem?_toList]
      by_cases hij : j = i
      · subst hij
        cases h0 : es[j]? with
        | none => rw [h0, hp] at this; simp at this
        | some e0 => simp [hp, hx']
      · simp [hij]
        simpa using this
    · have : (l.modify j fun p => (p.1, v)).map (·.1) = l.map (·.1) := by
        apply List.ext_getElem?
        intro i
        simp only [List.getElem?_map, List.getElem?_modify]
        by_cases hij : j = i
        · subst hij; simp [hp]
        · simp [hij]
      rw [this]; exact hn
    · intro y
      rw [look_set K hi]
      simp only [upd, hf]

theorem map_eraseIdx_ {α β : Type} (f : α → β) : ∀ (l : List α) (j : Nat), (l.eraseIdx j).map f = (l.map f).eraseIdx j
  | [], _ => rfl
  | _ :: _, 0 => rfl
  | a :: l, j + 1 => by simp [List.eraseIdx_cons_succ, map_eraseIdx_ f l j]

theorem MK.delete {w : World} {b : Nat} {f : κ → Option Value} (h : MK K w b f) {t e : TypeId} (ht : P.underlying t = some (.map k e)) (x : κ) (ty : TypeId) :
    ∃ w', (Builtin.delete_ #[t, k] ty #[.map (some b), K.emb x]).run P w = .ok (.tuple #[]) w' ∧ MK K w' b (upd K f x none) ∧ w.grownBy w' (some b) := by
  obtain ⟨es, clock, l, hb, he, hn, hf, hst⟩ := h
  have hlt := (Array.getElem?_eq_some_iff.1 hb).1
  cases hi : List.findIdx? (fun p => K.eqb x p.1) l with
  | none =>
    refine ⟨{ w with heap := w.heap.setIfInBounds b (.map es clock) }, ?_, ⟨es, clock, l, by simp [hlt], he, hn, ?_, hst⟩, grownBy_setObj w b _⟩
    · simp [Builtin.delete_, run_underlying ht, run_getObj_map hb, K.plain, run_findKey K x he, hi, setObj_map hb]
    · intro y
      simp only [upd, hf]
      cases hyp : K.eqb y x
      · simp
      · have := (K.eqb_iff _ _).1 hyp
        subst this
        simp [look, find_of_findIdx, hi]
  | some j =>
    have hj : j < l.length := by
      have := List.findIdx?_eq_some_iff_getElem.1 hi
      exact this.1
    have hp : l[j]? = some l[j] := List.getElem?_eq_getElem hj
    refine ⟨{ w with heap := w.heap.setIfInBounds b (.map (es.eraseIdxIfInBounds j) clock) }, ?_, ⟨es.eraseIdxIfInBounds j, clock, l.eraseIdx j, by simp [hlt], ?_, ?_, ?_, hst.sub (by rw [Array.toList_eraseIdxIfInBounds]; exact List.eraseIdx_sublist _ _)⟩, grownBy_setObj w b _⟩
    · simp [Builtin.delete_, run_underlying ht, run_getObj_map hb, K.plain, run_findKey K x he, hi, hp, setObj_map hb]
    · simp only [Ents, Array.toList_eraseIdxIfInBounds] at he ⊢
      rw [map_eraseIdx_, map_eraseIdx_, he]
    · rw [map_eraseIdx_]
      exact hn.sublist (List.eraseIdx_sublist _ _)
    · intro y
      rw [look_erase K l x j hi hn]
      simp only [upd, hf]

variable {w : World} {ops : Array Oper} {rest : List Oper} {o : Oper} {a : Act} {Q : Exit → Act → World → Prop}

/-- 'm[k] = v' (also in a literal: 'insert'). -/
theorem wpList_update_MK (hg : o.guard = none) (m x v : Operand) (t : TypeId) (hop : o.op = Op.mapUpdate t m x v ∨ o.op = Op.insert t m x v)
    (e : TypeId) (ht : P.underlying t = some (.map k e)) (b : Nat) (f : κ → Option Value) (hown : MK K w b f) (hm : a.eval m = .map (some b)) (key : κ) (hx : a.eval x = K.emb key) (val : Value) (hv : a.eval v = val)
    (hK : ∀ w', MK K w' b (upd K f key (some val)) → w.grownBy w' (some b) → wpList P ops Q rest (a.put o.dst undef) w') :
    wpList P ops Q (o :: rest) a w := by
  refine wpList_plain hg fun K' hK' => ?_
  obtain ⟨w', hrun, r1, r2⟩ := hown.update K ht key val
  unfold Oper.wp
  rcases hop with hop | hop <;> simp [execOp, hop, hm, hx, hv, hrun, Result.andThen] <;> exact hK' _ _ (hK w' r1 r2)

/-- 'delete(m, k)'. -/
theorem wpList_delete_MK (hg : o.guard = none) (m x : Operand) (t : TypeId) (hop : o.op = Op.call { callee := Callee.builtin Builtin.delete, args := #[m, x], argTypes := #[t, k] })
    (e : TypeId) (ht : P.underlying t = some (.map k e)) (b : Nat) (f : κ → Option Value) (hown : MK K w b f) (hm : a.eval m = .map (some b)) (key : κ) (hx : a.eval x = K.emb key)
    (hK : ∀ w', MK K w' b (upd K f key none) → w.grownBy w' (some b) → wpList P ops Q rest (a.put o.dst (.tuple #[])) w') :
    wpList P ops Q (o :: rest) a w := by
  refine wpList_plain hg fun K' hK' => ?_
  obtain ⟨w', hrun, r1, r2⟩ := hown.delete K ht key o.type
  unfold Oper.wp
  simp [execOp, hop, resolve, invoke, builtin, hm, hx, hrun, Result.andThen]
  exact hK' _ _ (hK w' r1 r2)

end
end Go.Proofs.YtabpheanbomibaaGreatDoor
namespace Go.Proofs.YtabpheanbomibaaGreatDoor
open Go.RowKit

structure Node where
  op : Int
  kind : Int
  n : Int
  m : Int
  text : ByteArray
  pos : Int
  kids : Int

def Node.cells (x : Node) : List Value := [.int .i8 x.op, .int .i8 x.kind, .int .i64 x.n, .int .i64 x.m, .string x.text, .int .i64 x.pos, .int .i64 x.kids]
def node0 : Node := ⟨0, 0, 0, 0, ByteArray.empty, 0, 0⟩

/-- The row at block b from off on holds these nodes. -/
def NodesAt (w : World) (b off : Nat) (ts : List Node) : Prop := ∀ i x, ts[i]? = some x → ∀ j v, x.cells[j]? = some v → w.cell? ⟨b, off + i * 7 + j, none⟩ = some v

section
variable {w w' : World} {b off : Nat} {ts : List Node} {i : Nat} {x : Node}
theorem NodesAt.below {B : Nat} (h : NodesAt w b off ts) (hb : Below B w w') (hB : b < B) : NodesAt w' b off ts :=
  fun i x hx j v hv => (hb.cell (p := ⟨b, _, none⟩) hB).trans (h i x hx j v hv)
theorem NodesAt.op (h : NodesAt w b off ts) (hx : ts[i]? = some x) : w.cell? ⟨b, off + i * 7, none⟩ = some (.int .i8 x.op) := h i x hx 0 _ rfl
theorem NodesAt.kind (h : NodesAt w b off ts) (hx : ts[i]? = some x) : w.cell? ⟨b, off + i * 7 + 1, none⟩ = some (.int .i8 x.kind) := h i x hx 1 _ rfl
theorem NodesAt.n (h : NodesAt w b off ts) (hx : ts[i]? = some x) : w.cell? ⟨b, off + i * 7 + 2, none⟩ = some (.int .i64 x.n) := h i x hx 2 _ rfl
theorem NodesAt.m (h : NodesAt w b off ts) (hx : ts[i]? = some x) : w.cell? ⟨b, off + i * 7 + 3, none⟩ = some (.int .i64 x.m) := h i x hx 3 _ rfl
theorem NodesAt.text (h : NodesAt w b off ts) (hx : ts[i]? = some x) : w.cell? ⟨b, off + i * 7 + 4, none⟩ = some (.string x.text) := h i x hx 4 _ rfl
theorem NodesAt.pos (h : NodesAt w b off ts) (hx : ts[i]? = some x) : w.cell? ⟨b, off + i * 7 + 5, none⟩ = some (.int .i64 x.pos) := h i x hx 5 _ rfl
theorem NodesAt.kids (h : NodesAt w b off ts) (hx : ts[i]? = some x) : w.cell? ⟨b, off + i * 7 + 6, none⟩ = some (.int .i64 x.kids) := h i x hx 6 _ rfl
/-- All seven at once. -/
theorem NodesAt.all (h : NodesAt w b off ts) (hx : ts[i]? = some x) : w.cell? ⟨b, off + i * 7, none⟩ = some (.int .i8 x.op) ∧ w.cell? ⟨b, off + i * 7 + 1, none⟩ = some (.int .i8 x.kind) ∧ w.cell? ⟨b, off + i * 7 + 2, none⟩ = some (.int .i64 x.n) ∧
    w.cell? ⟨b, off + i * 7 + 3, none⟩ = some (.int .i64 x.m) ∧ w.cell? ⟨b, off + i * 7 + 4, none⟩ = some (.string x.text) ∧ w.cell? ⟨b, off + i * 7 + 5, none⟩ = some (.int .i64 x.pos) ∧ w.cell? ⟨b, off + i * 7 + 6, none⟩ = some (.int .i64 x.kids) :=
  ⟨h.op hx, h.kind hx, h.n hx, h.m hx, h.text hx, h.pos hx, h.kids hx⟩
end

/-- Block g is known whole. -/
def Blk (w : World) (g : Nat) (t : TypeId) (cs : Array Value) : Prop := w.heap[g]? = some (.cells cs t (0, 0))
section
variable {w w' : World} {g : Nat} {t : TypeId} {cs : Array Value}
theorem Blk.lt (h : Blk w g t cs) : g < w.heap.size := (Array.getElem?_eq_some_iff.1 h).1
theorem Blk.cell (h : Blk w g t cs) (i : Nat) : w.cell? ⟨g, i, none⟩ = cs[i]? := cell_of_row w g i cs t (0, 0) h
theorem Blk.frozen (h : Blk w g t cs) (i : Nat) : w.frozen? ⟨g, i, none⟩ = false := by
  unfold Blk at h
  simp [World.frozen?, h]
theorem Blk.new (w : World) (t : TypeId) (cs : Array Value) : Blk (w.alloc (.cells cs t)) w.heap.size t cs := heap_alloc_new w _
theorem Blk.drew (h : Blk w g t cs) : Blk w.drew g t cs := h
theorem Blk.drewN (h : Blk w g t cs) (n : Nat) : Blk (w.drewN n) g t cs := h
theorem Blk.alloc (h : Blk w g t cs) (o : Obj) : Blk (w.alloc o) g t cs := (Below.heap_alloc w o g h.lt).trans h
theorem Blk.set_ (h : Blk w g t cs) (i : Nat) (u : Value) : Blk (w.setCell ⟨g, i, none⟩ u) g t (cs.setIfInBounds i u) := by
  unfold Blk at h ⊢
  simp [World.setCell, Array.getElem?_modify, h]
theorem Blk.far (h : Blk w g t cs) {p : Addr} (hp : g ≠ p.block) (u : Value) : Blk (w.setCell p u) g t cs := (Below.heap_setCell w p u g hp).trans h
theorem Blk.below {B : Nat} (h : Blk w g t cs) (hb : Below B w w') (hg : g < B) : Blk w' g t cs := (hb.block g hg).trans h
theorem Blk.grown {row : Option Nat} (h : Blk w g t cs) (hb : w.grownBy w' row) (hg : some g ≠ row) : Blk w' g t cs := (hb.block g h.lt hg).trans h
theorem Blk.ne_ {g' : Nat} {t' : TypeId} {cs' : Array Value} (h : Blk w g t cs) (h' : Blk w g' t' cs') (hne : t ≠ t') : g ≠ g' := by
  rintro rfl
  unfold Blk at h h'
  rw [h] at h'
  injection h' with h'
  injection h' with _ ht
  exact hne ht
theorem own_blk_ne {base : Nat} {e : TypeId} {size n : Nat} {v : Value} {xs : List Value} (h : w.ownsRow base e size v n xs) (hg : Blk w g t cs) (hne : e ≠ t) : v.ownBlock ≠ some g := by
  rcases h.2 with ⟨rfl, _⟩ | ⟨g', cap, cur, rfl, _, hh, _⟩
  · simp [Value.ownBlock]
  · intro he
    have : g' = g := by simpa [Value.ownBlock] using he
    subst this
    exact Blk.ne_ (t := e) hh hg hne rfl
theorem grownBy_set (w : World) {p : Addr} {row : Option Nat} (hr : row = some p.block) (u : Value) : w.grownBy (w.setCell p u) row :=
  ⟨rfl, rfl, rfl, by simp [World.setCell], fun i _ hi => Below.heap_setCell w p u i (fun e => hi (by rw [hr, e]))⟩
theorem own_setCell {base : Nat} {e : TypeId} {size n : Nat} {v : Value} {xs : List Value} (h : w.ownsRow base e size v n xs) {p : Addr} (hne : v.ownBlock ≠ some p.block) (u : Value) : (w.setCell p u).ownsRow base e size v n xs :=
  h.kept (grownBy_set w rfl u) (.inr hne)
theorem MK.blk_ne {P : Program} {k : TypeId} {κ : Type} {K : KeyT P k κ} {b : Nat} {f : κ → Option Value} (h : MK K w b f) (hg : Blk w g t cs) : b ≠ g := by
  rintro rfl
  obtain ⟨es, clock, l, hb, _⟩ := h
  unfold Blk at hg
  rw [hb] at hg
  cases hg
theorem MK.own_ne {P : Program} {k : TypeId} {κ : Type} {K : KeyT P k κ} {b : Nat} {f : κ → Option Value} (h : MK K w b f) {base : Nat} {e : TypeId} {size n : Nat} {v : Value} {xs : List Value} (ho : w.ownsRow base e size v n xs) : v.ownBlock ≠ some b := by
  rcases ho.2 with ⟨rfl, _⟩ | ⟨g', cap, cur, rfl, _, hh, _⟩
  · simp [Value.ownBlock]
  · intro he
    have : g' = b := by simpa [Value.ownBlock] using he
    subst this
    exact MK.blk_ne h (g := g') (t := e) hh rfl
end

/-- A slice type's row of the table. -/
structure ElT (P : Program) (t e : TypeId) (size bytes : Nat) : Prop where
  und : P.underlying t = some (.slice e)
  pos : 0 < size
  info : ∃ i z, P.info? e = some i ∧ i.zero = some z ∧ i.size = size ∧ i.bytes = bytes ∧ z.cells.size = size

theorem grownBy_of_alloc {w w' : World} {o : Obj} {row : Option Nat} (h : (w.alloc o).grownBy w' row) : w.grownBy w' row :=
  ⟨h.os, h.tape, h.output, Nat.le_trans (by simp) h.size, fun i hi hne => (h.block i (by simp; omega) hne).trans (Below.heap_alloc w o i hi)⟩

/-- 'x = append(x, u)': one element more, onto a row of the call's own. -/
theorem wpList_append1 {P : Program} {w : World} {ops : Array Oper} {rest : List Oper} {o : Oper} {a : Act} {Q : Exit → Act → World → Prop} {t e : TypeId} {size bytes : Nat} (E : ElT P t e size bytes) (hgd : o.guard = none) (s x : Operand)
    (ho : o.op = .call { callee := .builtin .append, args := #[s, x], argTypes := #[t, t] })
    (base : Nat) (wr : World) (us : List Value) (hw : w = wr.alloc (.cells us.toArray e)) (v : Value) (n : Nat) (xs : List Value) (hs : a.eval s = v) (hown : wr.ownsRow base e size v n xs)
    (hx : a.eval x = .slice (some ⟨wr.heap.size, 0, none⟩) 1 1) (hus : us.length = size) (h1 : ∀ u ∈ us, u.oneCell' = true)
    (h63 : n + 1 ≤ maxLen) (hbytes : (n + 1) * bytes ≤ 140737488355328) (hbase : base ≤ wr.heap.size)
    (h : ∀ v' w', w'.ownsRow base e size v' (n + 1) (xs ++ us) → wr.grownBy w' v.ownBlock → wpList P ops Q rest (a.put o.dst v') w') : wpList P ops Q (o :: rest) a w := by
  subst hw
  obtain ⟨i, z, hi, hz, hsz, hby, hzc⟩ := E.info
  refine wpList_append_own _ hgd s x t ho base e i z size bytes E.und hi hz hsz hby hzc E.pos v n xs hs (hown.alloc _) ⟨wr.heap.size, 0, none⟩ 1 1 us hx (by omega) ?_ h1 h63 hbytes (by simp; omega) fun v' w' h2 h3 _ => h v' w' h2 (grownBy_of_alloc h3)
  intro j u hj
  have : (wr.alloc (.cells us.toArray e)).cell? ⟨wr.heap.size, j, none⟩ = some u := by
    rw [Blk.cell (Blk.new wr e us.toArray) j]
    simpa using hj
  rw [← this]
  congr 1
  unfold Addr.add
  split <;> simp_all

theorem ownsRow_lt {w : World} {base : Nat} {e : TypeId} {size n : Nat} {v : Value} {xs : List Value} (h : w.ownsRow base e size v n xs) {g : Nat} (hg : v.ownBlock = some g) : base ≤ g ∧ g < w.heap.size := h.lt g hg
theorem Below.of_own {B base : Nat} {w0 wr w' : World} {e : TypeId} {size n : Nat} {v : Value} {xs : List Value} (h : Below B w0 wr) (ho : wr.ownsRow base e size v n xs) (hg : wr.grownBy w' v.ownBlock) (hB : B ≤ base) (hs : B ≤ wr.heap.size) : Below B w0 w' :=
  h.grown hg hs fun k hk => Nat.le_trans hB (ho.lt k hk).1

/-- FROM w TO w': below block B nothing has turned; of the rows of cells that were there, those alone whose elements' type is in T. -/
structure Frm (B : Nat) (T : List TypeId) (w w' : World) : Prop where
  below : Below B w w'
  kept : ∀ (g : Nat) (cs : Array Value) (t : TypeId) (fr : Nat × Nat), w.heap[g]? = some (Obj.cells cs t fr) → t ∉ T → w'.heap[g]? = w.heap[g]?

section
variable {B : Nat} {T : List TypeId} {w w' a b c : World}
theorem Frm.refl (B : Nat) (T : List TypeId) (w : World) : Frm B T w w := ⟨Below.refl _ _, fun _ _ _ _ _ _ => rfl⟩
theorem Frm.trans (h : Frm B T a b) (k : Frm B T b c) : Frm B T a c :=
  ⟨h.below.trans k.below, fun g cs t fr hg ht => (k.kept g cs t fr ((h.kept g cs t fr hg ht).trans hg) ht).trans (h.kept g cs t fr hg ht)⟩
theorem Frm.more {T' : List TypeId} (h : Frm B T w w') (hT : ∀ t, t ∈ T → t ∈ T') : Frm B T' w w' := ⟨h.below, fun g cs t fr hg ht => h.kept g cs t fr hg (fun x => ht (hT t x))⟩
theorem Frm.size (h : Frm B T w w') : w.heap.size ≤ w'.heap.size := h.below.size
theorem Frm.alloc (h : Frm B T a w) (hB : B ≤ w.heap.size) (o : Obj) : Frm B T a (w.alloc o) :=
  ⟨h.below.alloc hB o, fun g cs t fr hg ht => by
    have h1 := h.kept g cs t fr hg ht
    have h2 : g < w.heap.size := (Array.getElem?_eq_some_iff.1 (h1.trans hg)).1
    rw [Below.heap_alloc w o g h2, h1]⟩
theorem Frm.drew (h : Frm B T a w) : Frm B T a w.drew := ⟨h.below.drew, h.kept⟩
theorem Frm.drewN (h : Frm B T a w) (n : Nat) : Frm B T a (w.drewN n) := ⟨⟨h.below.os, h.below.tape, h.below.output, h.below.size, h.below.block⟩, h.kept⟩
theorem Frm.set_ (h : Frm B T a w) {g i : Nat} {t : TypeId} {cs : Array Value} (hg : Blk w g t cs) (hB : B ≤ g) (ht : t ∈ T) (u : Value) : Frm B T a (w.setCell ⟨g, i, none⟩ u) :=
  ⟨h.below.setCell hB u, fun g' cs' t' fr' hg' ht' => by
    have h1 := h.kept g' cs' t' fr' hg' ht'
    rw [Below.heap_setCell w _ u g' ?_, h1]
    rintro rfl
    have h2 := (h1.trans hg').symm.trans hg
    injection h2 with h2
    injection h2 with _ h3
    exact ht' (h3 ▸ ht)⟩
/-- A store into a block that was not there at the beginning. -/
theorem Frm.setNew (h : Frm B T a w) {p : Addr} (hp : a.heap.size ≤ p.block) (hB : B ≤ a.heap.size) (u : Value) : Frm B T a (w.setCell p u) :=
  ⟨h.below.setCell (Nat.le_trans hB hp) u, fun g' cs' t' fr' hg' ht' => by
    have h2 : g' < a.heap.size := (Array.getElem?_eq_some_iff.1 hg').1
    rw [Below.heap_setCell w p u g' (by omega), h.kept g' cs' t' fr' hg' ht']⟩
theorem Frm.of_below (h : Below w.heap.size w w') (hB : B ≤ w.heap.size) : Frm B T w w' :=
  ⟨h.mono hB, fun g _ _ _ hg _ => h.block g (Array.getElem?_eq_some_iff.1 hg).1⟩
theorem Frm.blk {g : Nat} {t : TypeId} {cs : Array Value} (h : Frm B T w w') (hg : Blk w g t cs) (ht : t ∉ T) : Blk w' g t cs := (h.kept g cs t (0, 0) hg ht).trans hg
theorem Frm.own {base : Nat} {e : TypeId} {size n : Nat} {v : Value} {xs : List Value} (h : Frm B T w w') (ho : w.ownsRow base e size v n xs) (ht : e ∉ T) : w'.ownsRow base e size v n xs := by
  obtain ⟨h1, h2⟩ := ho
  refine ⟨h1, ?_⟩
  rcases h2 with h2 | ⟨g, cap, cur, hv, hg, hh, r⟩
  · exact .inl h2
  · exact .inr ⟨g, cap, cur, hv, hg, (h.kept g cur e (0, 0) hh ht).trans hh, r⟩
theorem Frm.grown {base : Nat} {e : TypeId} {size n : Nat} {v : Value} {xs : List Value} (h : Frm B T a w) (ho : w.ownsRow base e size v n xs) (hg : w.grownBy w' v.ownBlock) (hB : B ≤ base) (hs : B ≤ w.heap.size) (ht : e ∈ T) : Frm B T a w' := by
  refine ⟨Below.of_own h.below ho hg hB hs, fun g cs t fr hg' ht' => ?_⟩
  have h1 := h.kept g cs t fr hg' ht'
  rw [hg.block g (Array.getElem?_eq_some_iff.1 (h1.trans hg')).1 ?_, h1]
  rcases ho.2 with ⟨rfl, _⟩ | ⟨g', cap, cur, rfl, _, hh, _⟩
  · simp [Value.ownBlock]
  · simp only [Value.ownBlock, ne_eq, Option.some.injEq]
    rintro rfl
    have h2 := (h1.trans hg').symm.trans hh
    injection h2 with h2
    injection h2 with _ h3
    exact ht' (h3 ▸ ht)
theorem Frm.map {P : Program} {k : TypeId} {κ : Type} {K : KeyT P k κ} {m : Nat} {f : κ → Option Value} (h : Frm B T a w) (hm : MK K w m f) (hB : B ≤ m) (hg : w.grownBy w' (some m)) (hs : B ≤ w.heap.size) : Frm B T a w' := by
  refine ⟨h.below.grown hg hs (fun k hk => by injection hk with hk; omega), fun g cs t fr hg' ht' => ?_⟩
  have h1 := h.kept g cs t fr hg' ht'
  rw [hg.block g (Array.getElem?_eq_some_iff.1 (h1.trans hg')).1 ?_, h1]
  rintro e
  injection e with e
  subst e
  obtain ⟨es, clock, l, hb, _⟩ := hm
  rw [h1, hg'] at hb
  cases hb
theorem Frm.nodes {b off : Nat} {ts : List Node} (h : Frm B T w w') (hn : NodesAt w b off ts) (hb : b < B) : NodesAt w' b off ts := hn.below h.below hb
end
end Go.Proofs.YtabpheanbomibaaGreatDoor
namespace Go.Proofs.YtabpheanbomibaaGreatDoor
open Go.RowKit

def operatorM (op : Int) : Int × Int := if op = 35 ∨ (44 ≤ op ∧ op ≤ 48) then (1, 1) else if 40 ≤ op ∧ op ≤ 43 then (1, 2) else (2, 2)

/-- A text as chapter 9 wants it. -/
def rightM (s : ByteArray) : Bool := s.data.toList.all (fun c => 32 ≤ c.toNat && c.toNat ≤ 126) && decide (s.size ≤ 64)

theorem ret_i64' {a b : Int} (h : a = b) : Ending.returned (.int .i64 a) = Ending.returned (.int .i64 b) := by rw [h]
theorem ret_bool {a b : Bool} (h : a = b) : Ending.returned (.bool a) = Ending.returned (.bool b) := by rw [h]

/-- A slice of small numbers in memory. -/
def CellsAt (w : World) (b off : Nat) (vs : List Value) : Prop := ∀ i v, vs[i]? = some v → w.cell? ⟨b, off + i, none⟩ = some v
theorem CellsAt.of_own {w : World} {base : Nat} {e : TypeId} {g c n : Nat} {xs : List Value} (h : w.ownsRow base e 1 (.slice (some ⟨g, 0, none⟩) n c) n xs) : CellsAt w g 0 xs := by
  intro i v hv
  have hi := (List.getElem?_eq_some_iff.1 hv).1
  have := h.cellAt i (by have := h.1; omega)
  rw [Nat.zero_add, this, hv]

/-- slices.Index: the first place of a number, or -1. -/
def indexM : List Int → Int → Int → Int
  | [], _, _ => -1
  | x :: l, v, i => if x = v then i else indexM l v (i + 1)

def containsM (l : List Int) (v : Int) : Bool := decide (0 ≤ indexM l v 0)
set_option maxHeartbeats 400000 in
/-- slices.Equal on small numbers. -/
theorem equal8_any (A B : Option Addr) (c d : Nat) (l m : List Int) (w : World) (hl : l.length ≤ 1099511627776) (hm : m.length ≤ 1099511627776)
    (h1 : ∀ k x, l[k]? = some x → ∃ b off, A = some ⟨b, off, none⟩ ∧ w.cell? ⟨b, off + k, none⟩ = some (.int .i8 x)) (h2 : ∀ k x, m[k]? = some x → ∃ b off, B = some ⟨b, off, none⟩ ∧ w.cell? ⟨b, off + k, none⟩ = some (.int .i8 x)) :
    Calls Tryz.prog 87 #[.slice A l.length c, .slice B m.length d] w fun e w' => e = .returned (.bool (decide (l = m))) ∧ ∃ n, w' = w.drewN n := by
  by_cases hne : l.length = m.length
  · obtain ⟨len, hlen⟩ : ∃ len, l.length = len := ⟨_, rfl⟩
    rw [← hne, hlen]
    have HL := Lib.hid hlen
    have HN := Lib.hid hne
    have H1 := Lib.hid h1
    have H2 := Lib.hid h2
    rw [hlen] at hl
    clear h1 h2 hm hne hlen
    have hb : ((len : Int) != (len : Int)) = false := by simp
    go_enter Tryz.func87, Tryz.ntmps87
    go_wp2
    go_loopw [4, 5, 13] (fun _ _ i wr => ∃ k : Nat, k ≤ len ∧ i = .int .i64 k ∧ Hid (l.take k = m.take k) ∧ ∃ n, wr = w.drewN n) (fun _ _ i _ => len - (intOf i).toNat)
    case atStart => exact ⟨0, by omega, rfl, rfl, 0, rfl⟩
    case round =>
      obtain ⟨k, hk, rfl, H, n, rfl⟩ := hrel
      by_cases hlt : k < len
      · have hk1 : k < l.length := by rw [HL.out]; exact hlt
        have hk2 : k < m.length := by rw [← HN.out, HL.out]; exact hlt
        obtain ⟨x, hx⟩ : ∃ x, l[k]? = some x := ⟨_, List.getElem?_eq_getElem hk1⟩
        obtain ⟨y, hy⟩ : ∃ y, m[k]? = some y := ⟨_, List.getElem?_eq_getElem hk2⟩
        obtain ⟨b1, o1, rfl, c1⟩ := H1.out k x hx
        obtain ⟨b2, o2, rfl, c2⟩ := H2.out k y hy
        have HX := Lib.hid hx
        have HY := Lib.hid hy
        clear hx hy hk1 hk2
        by_cases hv : x = y
        · have hvb : (x != y) = false := by simp [hv]
          have HV := Lib.hid hv
          clear hv
          go_wp2_with fail
          go_quiet (fail)
          go_wp2
          go_roundw
          case rel =>
            refine ⟨k + 1, by omega, by go_num, ?_, _, rfl⟩
            unfold Hid
            rw [List.take_add_one, List.take_add_one, H.out, HX.out, HY.out, HV.out]
          case measure => (simp [intOf]; try omega)
        · have hvb : (x != y) = true := by simp [hv]
          have hf : decide (l = m) = false := by
            simp only [decide_eq_false_iff_not]
            rintro rfl
            have := HX.out.symm.trans HY.out
            exact hv (by injection this)
          have HF := Lib.hid hf
          clear hf hv
          go_wp2_with fail
          go_quiet (fail)
          go_wp2
          go_ret
          exact ⟨ret_bool HF.out.symm, n + nq, by rw [World.drewN_drewN]⟩
      · have hf : decide (l = m) = true := by
          have := H.out
          rw [List.take_of_length_le (by rw [HL.out]; omega), List.take_of_length_le (by rw [← HN.out, HL.out]; omega)] at this
          simp [this]
        have HF := Lib.hid hf
        clear hf
        go_wp2
        go_ret
        exact ⟨ret_bool HF.out.symm, _, rfl⟩
  · have hb : ((l.length : Int) != (m.length : Int)) = true := by simp; omega
    have hf : decide (l = m) = false := by
      simp only [decide_eq_false_iff_not]
      rintro rfl
      exact hne rfl
    have HF := Lib.hid hf
    clear h1 h2 hf
    have hne' : ¬ ((l.length : Int) = (m.length : Int)) := by omega
    go_enter Tryz.func87, Tryz.ntmps87
    go_wp2
    go_ret
    exact ⟨ret_bool HF.out.symm, 0, rfl⟩
end Go.Proofs.YtabpheanbomibaaGreatDoor
