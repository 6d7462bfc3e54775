/- Maps whose keys are integers or strings, as functions from keys to values: what a look-up, a store and a delete do to them. No program in sight. Nodes in memory: a row of nodes, read cell by cell; the block that a node is copied into. A region that draws its order, whose operations that could tell one order from another stand in one order by their edges: the walk in the order of the text serves every order. No program in sight. A region that draws its order, walked in the order of the text: a read may change places with a list written out behind it, too. No program in sight. A region that draws its order, walked in the order of the text: what puts a struct together may change places with a read, too. No program in sight. Written by gen_serial3.py. Trees as lists of nodes, each ahead of its kids: how long each tree is, where kids stand. No program in sight. -/
import Derived.Maps.Own
import Derived.Below
import Derived.WalkKit
import Derived.WalkSpells
import Derived.WalkLawsBesides
import Derived.Lib.Hide
import Derived.BigQuiet
import Derived.Orders
import Derived.StillTail
import Derived.Deep.RegionHeld
namespace Go.Proofs.Ytggibiodeecljaa
open Go.RowKit

/-- A key type that the model compares at once: integers of a kind, strings. -/
structure KeyT (P : Program) (k : TypeId) (κ : Type) where
  desc : TypeDesc
  emb : κ → Value
  eqb : κ → κ → Bool
  und : P.underlying k = some desc
  eqb_iff : ∀ a b, eqb a b = true ↔ a = b
  same : ∀ a b, Instr.sameNow desc (emb a) (emb b) = some (eqb a b)
  bits : ∀ a, Instr.sameBits 10000 (emb a) (emb a) = true
  plain : ∀ e n v (w : World), (Instr.checkKey e (n + 1) k v).run P w = .ok () w

theorem checkKey_plain {P : Program} {k : TypeId} {d : TypeDesc} (h : P.underlying k = some d) (hd : (∃ q, d = .int q) ∨ d = .string ∨ d = .bool) (e : Bool) (n : Nat) (v : Value) (w : World) :
    (Instr.checkKey e (n + 1) k v).run P w = .ok () w := by
  rcases hd with ⟨q, rfl⟩ | rfl | rfl <;> simp [Instr.checkKey, run_underlying h]

def intKey (P : Program) (k : TypeId) (q : IntKind) (h : P.underlying k = some (.int q)) : KeyT P k Int where
  desc := .int q
  emb n := .int q n
  eqb a b := a == b
  und := h
  eqb_iff a b := by simp
  same a b := by simp [Instr.sameNow]
  bits a := by simp [Instr.sameBits]
  plain e n v w := checkKey_plain h (.inl ⟨q, rfl⟩) e n v w

def strKey (P : Program) (k : TypeId) (h : P.underlying k = some .string) : KeyT P k ByteArray where
  desc := .string
  emb s := .string s
  eqb a b := a == b
  und := h
  eqb_iff a b := MapKept.bytes_beq a b
  same a b := by simp [Instr.sameNow]
  bits a := by simp [Instr.sameBits, MapKept.bytes_beq]
  plain e n v w := checkKey_plain h (.inr (.inl rfl)) e n v w

section
variable {P : Program} {k : TypeId} {κ : Type} (K : KeyT P k κ)

/-- The entries as pairs. -/
def Ents (l : List (κ × Value)) (es : List MapEntry) : Prop := es.map (fun e => (e.key, e.val)) = l.map (fun p => (K.emb p.1, p.2))
def look (l : List (κ × Value)) (x : κ) : Option Value := (l.find? (fun p => K.eqb x p.1)).map (·.2)

theorem findNow_ents (x : κ) : ∀ (l : List (κ × Value)) (es : List MapEntry) (i : Nat), Ents K l es →
    Instr.findNow K.desc (K.emb x) es i = some ((l.findIdx? (fun p => K.eqb x p.1)).bind fun j => (l[j]?).map fun p => (i + j, p.2)) := by
  intro l
  induction l with
  | nil => intro es i h; cases es with
    | nil => rfl
    | cons e r => simp [Ents] at h
  | cons p l ih => intro es i h; cases es with
    | nil => simp [Ents] at h
    | cons e r =>
      simp only [Ents, List.map_cons, List.cons.injEq, Prod.mk.injEq] at h
      obtain ⟨⟨h1, h2⟩, h3⟩ := h
      have := ih r (i + 1) h3
      simp only [Instr.findNow, h1, K.same, h2]
      cases hb : K.eqb x p.1
      · simp only [this, List.findIdx?_cons, hb]
        cases hf : List.findIdx? (fun p => K.eqb x p.1) l <;> simp
        rename_i j
        rw [show i + 1 + j = i + (j + 1) by omega]
      · simp [List.findIdx?_cons, hb]

/-- BLOCK b IS A MAP that answers f. -/
def MK (w : World) (b : Nat) (f : κ → Option Value) : Prop :=
  ∃ (es : Array MapEntry) (clock : Nat) (l : List (κ × Value)), w.heap[b]? = some (.map es clock) ∧ Ents K l es.toList ∧ (l.map (·.1)).Nodup ∧ ∀ x, f x = look K l x

def upd (f : κ → Option Value) (x : κ) (v : Option Value) : κ → Option Value := fun y => if K.eqb y x then v else f y

theorem MK.lt {w : World} {b : Nat} {f : κ → Option Value} (h : MK K w b f) : b < w.heap.size := by
  obtain ⟨es, clock, l, hb, _⟩ := h
  exact (Array.getElem?_eq_some_iff.1 hb).1
theorem MK.of_block {w w' : World} {b : Nat} {f : κ → Option Value} (h : MK K w b f) (he : w'.heap[b]? = w.heap[b]?) : MK K w' b f := by
  obtain ⟨es, clock, l, hb, r⟩ := h
  exact ⟨es, clock, l, he.trans hb, r⟩
theorem MK.alloc {w : World} {b : Nat} {f : κ → Option Value} (h : MK K w b f) (o : Obj) : MK K (w.alloc o) b f := h.of_block K (Below.heap_alloc w o b (h.lt K))
theorem MK.setCell {w : World} {b : Nat} {f : κ → Option Value} (h : MK K w b f) {a : Addr} (ha : b ≠ a.block) (u : Value) : MK K (w.setCell a u) b f := h.of_block K (Below.heap_setCell w a u b ha)
theorem MK.drew {w : World} {b : Nat} {f : κ → Option Value} (h : MK K w b f) : MK K w.drew b f := h
theorem MK.grown {w w' : World} {b : Nat} {f : κ → Option Value} (h : MK K w b f) {row : Option Nat} (hg : w.grownBy w' row) (hne : some b ≠ row) : MK K w' b f := h.of_block K (hg.block b (h.lt K) hne)
theorem MK.congr {w : World} {b : Nat} {f g : κ → Option Value} (h : MK K w b f) (e : ∀ x, f x = g x) : MK K w b g := by
  obtain ⟨es, clock, l, h1, h2, h3, h4⟩ := h
  exact ⟨es, clock, l, h1, h2, h3, fun x => (e x).symm.trans (h4 x)⟩
theorem MK.made (w : World) : MK K (w.alloc (.map #[] 0)) w.heap.size (fun _ => none) :=
  ⟨#[], 0, [], heap_alloc_new w _, by simp [Ents], by simp, fun _ => rfl⟩

theorem find_of_findIdx {α : Type} (p : α → Bool) : ∀ l : List α, l.find? p = (l.findIdx? p).bind (l[·]?)
  | [] => rfl
  | a :: l => by
    rw [List.find?_cons, List.findIdx?_cons]
    cases h : p a
    · simp only [find_of_findIdx p l]
      cases List.findIdx? p l <;> simp
    · simp

theorem run_findKey {w : World} {l : List (κ × Value)} {es : Array MapEntry} (x : κ) (h : Ents K l es.toList) :
    (Instr.findKey k (K.emb x) es.toList).run P w = .ok ((l.findIdx? (fun p => K.eqb x p.1)).bind fun j => (l[j]?).map fun p => (j, p.2)) w := by
  simp only [Instr.findKey, Sem.run_bind, run_underlying K.und, Result.andThen_ok, findNow_ents K x l es.toList 0 h, Nat.zero_add]
  rfl

theorem run_getObj_map {w : World} {b : Nat} {es : Array MapEntry} {c : Nat} (h : w.heap[b]? = some (.map es c)) : (getObj b).run P w = .ok (.map es c) w := by
  simp [getObj, Sem.run, h]

theorem MK.lookup {w : World} {b : Nat} {f : κ → Option Value} (h : MK K w b f) {t e : TypeId} (ht : P.underlying t = some (.map k e)) {z : Value} (hz : ∀ w, (zeroValue e).run P w = .ok z w) (x : κ) (c : Bool) :
    (Instr.lookup t (.map (some b)) (K.emb x) c).run P w = .ok (if c then .tuple #[(f x).getD z, .bool (f x).isSome] else (f x).getD z) w := by
  obtain ⟨es, clock, l, hb, he, _, hf⟩ := h
  simp only [Instr.lookup, Sem.run_bind, run_underlying ht, Result.andThen_ok, run_getObj_map hb, Sem.run_pure, K.plain, run_findKey K x he, hf, look, find_of_findIdx]
  cases hi : List.findIdx? (fun p => K.eqb x p.1) l with
  | none => simp [hz]
  | some j =>
    simp only [Option.bind_some]
    cases hj : l[j]? with
    | none => simp [hz]
    | some p => simp

theorem setObj_map {w : World} {b : Nat} {es : Array MapEntry} {c : Nat} (h : w.heap[b]? = some (.map es c)) (o : Obj) :
    (setObj b o).run P w = .ok () { w with heap := w.heap.setIfInBounds b o } := by
  simp [setObj, Sem.run, h]

theorem grownBy_setObj (w : World) (b : Nat) (o : Obj) : w.grownBy { w with heap := w.heap.setIfInBounds b o } (some b) :=
  ⟨rfl, rfl, rfl, by simp, fun i _ hi => by
    rw [Array.getElem?_setIfInBounds, if_neg (by rintro rfl; exact hi rfl)]⟩

theorem keyStays {w : World} (x : κ) : (Instr.keyThatStays (K.emb x) (K.emb x)).run P w = .ok (K.emb x) w := by
  simp [Instr.keyThatStays, K.bits]

theorem ents_at {l : List (κ × Value)} {es : List MapEntry} (h : Ents K l es) (j : Nat) : (es[j]?).map (fun e => (e.key, e.val)) = (l[j]?).map (fun p => (K.emb p.1, p.2)) := by
  have := congrArg (·[j]?) h
  simpa using this

theorem look_set {l : List (κ × Value)} {x : κ} {j : Nat} (hj : l.findIdx? (fun p => K.eqb x p.1) = some j) (v : Value) (y : κ) :
    look K (l.modify j fun p => (p.1, v)) y = if K.eqb y x then some v else look K l y := by
  induction l generalizing j with
  | nil => simp at hj
  | cons p l ih =>
    rw [List.findIdx?_cons] at hj
    cases hb : K.eqb x p.1
    · simp only [hb] at hj
      simp only [Bool.false_eq_true, if_false, Option.map_eq_some_iff] at hj
      obtain ⟨i, hi, rfl⟩ := hj
      have := ih hi
      simp only [look, List.modify_succ_cons, List.find?_cons] at this ⊢
      cases hyp : K.eqb y p.1
      · exact this
      · have e : K.eqb y x = false := by
          cases h : K.eqb y x
          · rfl
          · rw [(K.eqb_iff _ _).1 h, hb] at hyp; cases hyp
        simp [e]
    · simp only [hb, if_true, Option.some.injEq] at hj
      subst hj
      have h1 := (K.eqb_iff _ _).1 hb
      simp only [look, List.modify_zero_cons, List.find?_cons, h1]
      cases hyp : K.eqb y p.1 <;> simp

theorem look_push (l : List (κ × Value)) {x : κ} (hj : l.findIdx? (fun p => K.eqb x p.1) = none) (v : Value) (y : κ) :
    look K (l ++ [(x, v)]) y = if K.eqb y x then some v else look K l y := by
  simp only [look, List.find?_append, List.find?_cons, List.find?_nil]
  cases hyp : K.eqb y x
  · simp
  · have : l.find? (fun p => K.eqb y p.1) = none := by rw [(K.eqb_iff _ _).1 hyp, find_of_findIdx, hj]; rfl
    simp [this]

theorem look_erase : ∀ (l : List (κ × Value)) (x : κ) (j : Nat), l.findIdx? (fun p => K.eqb x p.1) = some j → (l.map (·.1)).Nodup → ∀ y, look K (l.eraseIdx j) y = if K.eqb y x then none else look K l y := by
  intro l
  induction l with
  | nil => intro x j hj; simp at hj
  | cons p l ih =>
    intro x j hj hn y
    rw [List.findIdx?_cons] at hj
    simp only [List.map_cons, List.nodup_cons] at hn
    cases hb : K.eqb x p.1
    · simp only [hb, Bool.false_eq_true, if_false, Option.map_eq_some_iff] at hj
      obtain ⟨i, hi, rfl⟩ := hj
      have := ih x i hi hn.2 y
      simp only [look, List.eraseIdx_cons_succ, List.find?_cons] at this ⊢
      cases hyp : K.eqb y p.1
      · exact this
      · have e : K.eqb y x = false := by
          cases h : K.eqb y x
          · rfl
          · rw [(K.eqb_iff _ _).1 h, hb] at hyp; cases hyp
        simp [e]
    · simp only [hb, if_true, Option.some.injEq] at hj
      subst hj
      have h1 := (K.eqb_iff _ _).1 hb
      simp only [look, List.eraseIdx_cons_zero, List.find?_cons, h1]
      cases hyp : K.eqb y p.1
      · simp
      · have : l.find? (fun q => K.eqb y q.1) = none := by
          rw [List.find?_eq_none]
          intro q hq he
          have h2 := (K.eqb_iff _ _).1 he
          have h3 := (K.eqb_iff _ _).1 hyp
          exact hn.1 (by rw [← h3, h2]; exact List.mem_map_of_mem hq)
        simp [this]

theorem MK.update {w : World} {b : Nat} {f : κ → Option Value} (h : MK K w b f) {t e : TypeId} (ht : P.underlying t = some (.map k e)) (x : κ) (v : Value) :
    ∃ w', (Instr.mapUpdate t (.map (some b)) (K.emb x) v).run P w = .ok () w' ∧ MK K w' b (upd K f x (some v)) ∧ w.grownBy w' (some b) := by
  obtain ⟨es, clock, l, hb, he, hn, hf⟩ := h
  have hlt := (Array.getElem?_eq_some_iff.1 hb).1
  simp only [Instr.mapUpdate, Sem.run_bind, run_underlying ht, Result.andThen_ok, run_getObj_map hb, K.plain, run_findKey K x he]
  cases hi : List.findIdx? (fun p => K.eqb x p.1) l with
  | none =>
    refine ⟨{ w with heap := w.heap.setIfInBounds b (.map (es.push { key := K.emb x, val := v, born := clock }) (clock + 1)) }, by simp [setObj_map hb], ⟨es.push { key := K.emb x, val := v, born := clock }, clock + 1, l ++ [(x, v)], by simp [hlt], ?_, ?_, ?_⟩, grownBy_setObj w b _⟩
    · simpa [Ents] using he
    · rw [List.map_append, List.nodup_append]
      refine ⟨hn, by simp, ?_⟩
      intro a ha c hc
      simp only [List.map_cons, List.map_nil, List.mem_singleton] at hc
      subst hc
      rintro rfl
      rw [List.mem_map] at ha
      obtain ⟨p, hp, rfl⟩ := ha
      rw [List.findIdx?_eq_none_iff] at hi
      have := hi p hp
      rw [(K.eqb_iff _ _).2 rfl] at this
      cases this
    · intro y
      rw [look_push K l hi]
      simp only [upd, hf]
  | some j =>
    have hj : j < l.length := by
      have := List.findIdx?_eq_some_iff_getElem.1 hi
      exact this.1
    have hp : l[j]? = some l[j] := List.getElem?_eq_getElem hj
    have hx : K.eqb x l[j].1 = true := (List.findIdx?_eq_some_iff_getElem.1 hi).2.1
    have hx' := (K.eqb_iff _ _).1 hx
    have hk : (es[j]?).map (·.key) = some (K.emb x) := by
      have := ents_at K he j
      rw [hp] at this
      rw [Array.getElem?_toList] at this
      cases h0 : es[j]? with
      | none => rw [h0] at this; simp at this
      | some e0 => rw [h0] at this; simp at this; simp [this.1, hx']
    refine ⟨{ w with heap := w.heap.setIfInBounds b (.map (es.modify j fun e => { e with key := K.emb x, val := v }) clock) }, ?_, ⟨es.modify j fun e => { e with key := K.emb x, val := v }, clock, l.modify j fun p => (p.1, v), by simp [hlt], ?_, ?_, ?_⟩, grownBy_setObj w b _⟩
    · simp [hp, hk, keyStays K x, setObj_map hb]
    · simp only [Ents, Array.toList_modify]
      apply List.ext_getElem?
      intro i
      have := ents_at K he i
      rw [Array.getElem?_toList] at this
      simp only [List.getElem?_map, List.getElem?_modify, Array.getElem?_toList]
      by_cases hij : j = i
      · subst hij
        cases h0 : es[j]? with
        | none => rw [h0, hp] at this; simp at this
        | some e0 => simp [hp, hx']
      · simp [hij]
        simpa using this
    · have : (l.modify j fun p => (p.1, v)).map (·.1) = l.map (·.1) := by
        apply List.ext_getElem?
        intro i
        simp only [List.getElem?_map, List.getElem?_modify]
        by_cases hij : j = i
        · subst hij; simp [hp]
        · simp [hij]
      rw [this]; exact hn
    · intro y
      rw [look_set K hi]
      simp only [upd, hf]

theorem map_eraseIdx_ {α β : Type} (f : α → β) : ∀ (l : List α) (j : Nat), (l.eraseIdx j).map f = (l.map f).eraseIdx j
  | [], _ => rfl
  | _ :: _, 0 => rfl
  | a :: l, j + 1 => by simp [List.eraseIdx_cons_succ, map_eraseIdx_ f l j]

theorem MK.delete {w : World} {b : Nat} {f : κ → Option Value} (h : MK K w b f) {t e : TypeId} (ht : P.underlying t = some (.map k e)) (x : κ) (ty : TypeId) :
    ∃ w', (Builtin.delete_ #[t, k] ty #[.map (some b), K.emb x]).run P w = .ok (.tuple #[]) w' ∧ MK K w' b (upd K f x none) ∧ w.grownBy w' (some b) := by
  obtain ⟨es, clock, l, hb, he, hn, hf⟩ := h
  have hlt := (Array.getElem?_eq_some_iff.1 hb).1
  cases hi : List.findIdx? (fun p => K.eqb x p.1) l with
  | none =>
    refine ⟨{ w with heap := w.heap.setIfInBounds b (.map es clock) }, ?_, ⟨es, clock, l, by simp [hlt], he, hn, ?_⟩, grownBy_setObj w b _⟩
    · simp [Builtin.delete_, run_underlying ht, run_getObj_map hb, K.plain, run_findKey K x he, hi, setObj_map hb]
    · intro y
      simp only [upd, hf]
      cases hyp : K.eqb y x
      · simp
      · have := (K.eqb_iff _ _).1 hyp
        subst this
        simp [look, find_of_findIdx, hi]
  | some j =>
    have hj : j < l.length := by
      have := List.findIdx?_eq_some_iff_getElem.1 hi
      exact this.1
    have hp : l[j]? = some l[j] := List.getElem?_eq_getElem hj
    refine ⟨{ w with heap := w.heap.setIfInBounds b (.map (es.eraseIdxIfInBounds j) clock) }, ?_, ⟨es.eraseIdxIfInBounds j, clock, l.eraseIdx j, by simp [hlt], ?_, ?_, ?_⟩, grownBy_setObj w b _⟩
    · simp [Builtin.delete_, run_underlying ht, run_getObj_map hb, K.plain, run_findKey K x he, hi, hp, setObj_map hb]
    · simp only [Ents, Array.toList_eraseIdxIfInBounds] at he ⊢
      rw [map_eraseIdx_, map_eraseIdx_, he]
    · rw [map_eraseIdx_]
      exact hn.sublist (List.eraseIdx_sublist _ _)
    · intro y
      rw [look_erase K l x j hi hn]
      simp only [upd, hf]

variable {w : World} {ops : Array Oper} {rest : List Oper} {o : Oper} {a : Act} {Q : Exit → Act → World → Prop}

/-- 'm[k] = v' (also in a literal: 'insert'). -/
theorem wpList_update_MK (hg : o.guard = none) (m x v : Operand) (t : TypeId) (hop : o.op = Op.mapUpdate t m x v ∨ o.op = Op.insert t m x v)
    (e : TypeId) (ht : P.underlying t = some (.map k e)) (b : Nat) (f : κ → Option Value) (hown : MK K w b f) (hm : a.eval m = .map (some b)) (key : κ) (hx : a.eval x = K.emb key) (val : Value) (hv : a.eval v = val)
    (hK : ∀ w', MK K w' b (upd K f key (some val)) → w.grownBy w' (some b) → wpList P ops Q rest (a.put o.dst undef) w') :
    wpList P ops Q (o :: rest) a w := by
  refine wpList_plain hg fun K' hK' => ?_
  obtain ⟨w', hrun, r1, r2⟩ := hown.update K ht key val
  unfold Oper.wp
  rcases hop with hop | hop <;> simp [execOp, hop, hm, hx, hv, hrun, Result.andThen] <;> exact hK' _ _ (hK w' r1 r2)

/-- 'delete(m, k)'. -/
theorem wpList_delete_MK (hg : o.guard = none) (m x : Operand) (t : TypeId) (hop : o.op = Op.call { callee := Callee.builtin Builtin.delete, args := #[m, x], argTypes := #[t, k] })
    (e : TypeId) (ht : P.underlying t = some (.map k e)) (b : Nat) (f : κ → Option Value) (hown : MK K w b f) (hm : a.eval m = .map (some b)) (key : κ) (hx : a.eval x = K.emb key)
    (hK : ∀ w', MK K w' b (upd K f key none) → w.grownBy w' (some b) → wpList P ops Q rest (a.put o.dst (.tuple #[])) w') :
    wpList P ops Q (o :: rest) a w := by
  refine wpList_plain hg fun K' hK' => ?_
  obtain ⟨w', hrun, r1, r2⟩ := hown.delete K ht key o.type
  unfold Oper.wp
  simp [execOp, hop, resolve, invoke, builtin, hm, hx, hrun, Result.andThen]
  exact hK' _ _ (hK w' r1 r2)

end
end Go.Proofs.Ytggibiodeecljaa
namespace Go.Proofs.Ytggibiodeecljaa
open Go.RowKit

structure Node where
  op : Int
  kind : Int
  n : Int
  m : Int
  text : ByteArray
  pos : Int
  kids : Int

def Node.cells (x : Node) : List Value := [.int .i8 x.op, .int .i8 x.kind, .int .i64 x.n, .int .i64 x.m, .string x.text, .int .i64 x.pos, .int .i64 x.kids]
def node0 : Node := ⟨0, 0, 0, 0, ByteArray.empty, 0, 0⟩

/-- The row at block b from off on holds these nodes. -/
def NodesAt (w : World) (b off : Nat) (ts : List Node) : Prop := ∀ i x, ts[i]? = some x → ∀ j v, x.cells[j]? = some v → w.cell? ⟨b, off + i * 7 + j, none⟩ = some v

section
variable {w w' : World} {b off : Nat} {ts : List Node} {i : Nat} {x : Node}
theorem NodesAt.below {B : Nat} (h : NodesAt w b off ts) (hb : Below B w w') (hB : b < B) : NodesAt w' b off ts :=
  fun i x hx j v hv => (hb.cell (p := ⟨b, _, none⟩) hB).trans (h i x hx j v hv)
theorem NodesAt.op (h : NodesAt w b off ts) (hx : ts[i]? = some x) : w.cell? ⟨b, off + i * 7, none⟩ = some (.int .i8 x.op) := h i x hx 0 _ rfl
theorem NodesAt.kind (h : NodesAt w b off ts) (hx : ts[i]? = some x) : w.cell? ⟨b, off + i * 7 + 1, none⟩ = some (.int .i8 x.kind) := h i x hx 1 _ rfl
theorem NodesAt.n (h : NodesAt w b off ts) (hx : ts[i]? = some x) : w.cell? ⟨b, off + i * 7 + 2, none⟩ = some (.int .i64 x.n) := h i x hx 2 _ rfl
theorem NodesAt.m (h : NodesAt w b off ts) (hx : ts[i]? = some x) : w.cell? ⟨b, off + i * 7 + 3, none⟩ = some (.int .i64 x.m) := h i x hx 3 _ rfl
theorem NodesAt.text (h : NodesAt w b off ts) (hx : ts[i]? = some x) : w.cell? ⟨b, off + i * 7 + 4, none⟩ = some (.string x.text) := h i x hx 4 _ rfl
theorem NodesAt.pos (h : NodesAt w b off ts) (hx : ts[i]? = some x) : w.cell? ⟨b, off + i * 7 + 5, none⟩ = some (.int .i64 x.pos) := h i x hx 5 _ rfl
theorem NodesAt.kids (h : NodesAt w b off ts) (hx : ts[i]? = some x) : w.cell? ⟨b, off + i * 7 + 6, none⟩ = some (.int .i64 x.kids) := h i x hx 6 _ rfl
/-- All seven at once. -/
theorem NodesAt.all (h : NodesAt w b off ts) (hx : ts[i]? = some x) : w.cell? ⟨b, off + i * 7, none⟩ = some (.int .i8 x.op) ∧ w.cell? ⟨b, off + i * 7 + 1, none⟩ = some (.int .i8 x.kind) ∧ w.cell? ⟨b, off + i * 7 + 2, none⟩ = some (.int .i64 x.n) ∧
    w.cell? ⟨b, off + i * 7 + 3, none⟩ = some (.int .i64 x.m) ∧ w.cell? ⟨b, off + i * 7 + 4, none⟩ = some (.string x.text) ∧ w.cell? ⟨b, off + i * 7 + 5, none⟩ = some (.int .i64 x.pos) ∧ w.cell? ⟨b, off + i * 7 + 6, none⟩ = some (.int .i64 x.kids) :=
  ⟨h.op hx, h.kind hx, h.n hx, h.m hx, h.text hx, h.pos hx, h.kids hx⟩
end

/-- Block g is known whole. -/
def Blk (w : World) (g : Nat) (t : TypeId) (cs : Array Value) : Prop := w.heap[g]? = some (.cells cs t (0, 0))
section
variable {w w' : World} {g : Nat} {t : TypeId} {cs : Array Value}
theorem Blk.lt (h : Blk w g t cs) : g < w.heap.size := (Array.getElem?_eq_some_iff.1 h).1
theorem Blk.cell (h : Blk w g t cs) (i : Nat) : w.cell? ⟨g, i, none⟩ = cs[i]? := cell_of_row w g i cs t (0, 0) h
theorem Blk.frozen (h : Blk w g t cs) (i : Nat) : w.frozen? ⟨g, i, none⟩ = false := by
  unfold Blk at h
  simp [World.frozen?, h]
theorem Blk.new (w : World) (t : TypeId) (cs : Array Value) : Blk (w.alloc (.cells cs t)) w.heap.size t cs := heap_alloc_new w _
theorem Blk.drew (h : Blk w g t cs) : Blk w.drew g t cs := h
theorem Blk.drewN (h : Blk w g t cs) (n : Nat) : Blk (w.drewN n) g t cs := h
theorem Blk.alloc (h : Blk w g t cs) (o : Obj) : Blk (w.alloc o) g t cs := (Below.heap_alloc w o g h.lt).trans h
theorem Blk.set_ (h : Blk w g t cs) (i : Nat) (u : Value) : Blk (w.setCell ⟨g, i, none⟩ u) g t (cs.setIfInBounds i u) := by
  unfold Blk at h ⊢
  simp [World.setCell, Array.getElem?_modify, h]
theorem Blk.far (h : Blk w g t cs) {p : Addr} (hp : g ≠ p.block) (u : Value) : Blk (w.setCell p u) g t cs := (Below.heap_setCell w p u g hp).trans h
theorem Blk.below {B : Nat} (h : Blk w g t cs) (hb : Below B w w') (hg : g < B) : Blk w' g t cs := (hb.block g hg).trans h
theorem Blk.grown {row : Option Nat} (h : Blk w g t cs) (hb : w.grownBy w' row) (hg : some g ≠ row) : Blk w' g t cs := (hb.block g h.lt hg).trans h
theorem Blk.ne_ {g' : Nat} {t' : TypeId} {cs' : Array Value} (h : Blk w g t cs) (h' : Blk w g' t' cs') (hne : t ≠ t') : g ≠ g' := by
  rintro rfl
  unfold Blk at h h'
  rw [h] at h'
  injection h' with h'
  injection h' with _ ht
  exact hne ht
theorem own_blk_ne {base : Nat} {e : TypeId} {size n : Nat} {v : Value} {xs : List Value} (h : w.ownsRow base e size v n xs) (hg : Blk w g t cs) (hne : e ≠ t) : v.ownBlock ≠ some g := by
  rcases h.2 with ⟨rfl, _⟩ | ⟨g', cap, cur, rfl, _, hh, _⟩
  · simp [Value.ownBlock]
  · intro he
    have : g' = g := by simpa [Value.ownBlock] using he
    subst this
    exact Blk.ne_ (t := e) hh hg hne rfl
theorem grownBy_set (w : World) {p : Addr} {row : Option Nat} (hr : row = some p.block) (u : Value) : w.grownBy (w.setCell p u) row :=
  ⟨rfl, rfl, rfl, by simp [World.setCell], fun i _ hi => Below.heap_setCell w p u i (fun e => hi (by rw [hr, e]))⟩
theorem own_setCell {base : Nat} {e : TypeId} {size n : Nat} {v : Value} {xs : List Value} (h : w.ownsRow base e size v n xs) {p : Addr} (hne : v.ownBlock ≠ some p.block) (u : Value) : (w.setCell p u).ownsRow base e size v n xs :=
  h.kept (grownBy_set w rfl u) (.inr hne)
theorem MK.blk_ne {P : Program} {k : TypeId} {κ : Type} {K : KeyT P k κ} {b : Nat} {f : κ → Option Value} (h : MK K w b f) (hg : Blk w g t cs) : b ≠ g := by
  rintro rfl
  obtain ⟨es, clock, l, hb, _⟩ := h
  unfold Blk at hg
  rw [hb] at hg
  cases hg
theorem MK.own_ne {P : Program} {k : TypeId} {κ : Type} {K : KeyT P k κ} {b : Nat} {f : κ → Option Value} (h : MK K w b f) {base : Nat} {e : TypeId} {size n : Nat} {v : Value} {xs : List Value} (ho : w.ownsRow base e size v n xs) : v.ownBlock ≠ some b := by
  rcases ho.2 with ⟨rfl, _⟩ | ⟨g', cap, cur, rfl, _, hh, _⟩
  · simp [Value.ownBlock]
  · intro he
    have : g' = b := by simpa [Value.ownBlock] using he
    subst this
    exact MK.blk_ne h (g := g') (t := e) hh rfl
end

/-- A slice type's row of the table. -/
structure ElT (P : Program) (t e : TypeId) (size bytes : Nat) : Prop where
  und : P.underlying t = some (.slice e)
  pos : 0 < size
  info : ∃ i z, P.info? e = some i ∧ i.zero = some z ∧ i.size = size ∧ i.bytes = bytes ∧ z.cells.size = size

theorem grownBy_of_alloc {w w' : World} {o : Obj} {row : Option Nat} (h : (w.alloc o).grownBy w' row) : w.grownBy w' row :=
  ⟨h.os, h.tape, h.output, Nat.le_trans (by simp) h.size, fun i hi hne => (h.block i (by simp; omega) hne).trans (Below.heap_alloc w o i hi)⟩

/-- 'x = append(x, u)': one element more, onto a row of the call's own. -/
theorem wpList_append1 {P : Program} {w : World} {ops : Array Oper} {rest : List Oper} {o : Oper} {a : Act} {Q : Exit → Act → World → Prop} {t e : TypeId} {size bytes : Nat} (E : ElT P t e size bytes) (hgd : o.guard = none) (s x : Operand)
    (ho : o.op = .call { callee := .builtin .append, args := #[s, x], argTypes := #[t, t] })
    (base : Nat) (wr : World) (us : List Value) (hw : w = wr.alloc (.cells us.toArray e)) (v : Value) (n : Nat) (xs : List Value) (hs : a.eval s = v) (hown : wr.ownsRow base e size v n xs)
    (hx : a.eval x = .slice (some ⟨wr.heap.size, 0, none⟩) 1 1) (hus : us.length = size) (h1 : ∀ u ∈ us, u.oneCell' = true)
    (h63 : n + 1 ≤ maxLen) (hbytes : (n + 1) * bytes ≤ 140737488355328) (hbase : base ≤ wr.heap.size)
    (h : ∀ v' w', w'.ownsRow base e size v' (n + 1) (xs ++ us) → wr.grownBy w' v.ownBlock → wpList P ops Q rest (a.put o.dst v') w') : wpList P ops Q (o :: rest) a w := by
  subst hw
  obtain ⟨i, z, hi, hz, hsz, hby, hzc⟩ := E.info
  refine wpList_append_own _ hgd s x t ho base e i z size bytes E.und hi hz hsz hby hzc E.pos v n xs hs (hown.alloc _) ⟨wr.heap.size, 0, none⟩ 1 1 us hx (by omega) ?_ h1 h63 hbytes (by simp; omega) fun v' w' h2 h3 _ => h v' w' h2 (grownBy_of_alloc h3)
  intro j u hj
  have : (wr.alloc (.cells us.toArray e)).cell? ⟨wr.heap.size, j, none⟩ = some u := by
    rw [Blk.cell (Blk.new wr e us.toArray) j]
    simpa using hj
  rw [← this]
  congr 1
  unfold Addr.add
  split <;> simp_all

theorem ownsRow_lt {w : World} {base : Nat} {e : TypeId} {size n : Nat} {v : Value} {xs : List Value} (h : w.ownsRow base e size v n xs) {g : Nat} (hg : v.ownBlock = some g) : base ≤ g ∧ g < w.heap.size := h.lt g hg
theorem Below.of_own {B base : Nat} {w0 wr w' : World} {e : TypeId} {size n : Nat} {v : Value} {xs : List Value} (h : Below B w0 wr) (ho : wr.ownsRow base e size v n xs) (hg : wr.grownBy w' v.ownBlock) (hB : B ≤ base) (hs : B ≤ wr.heap.size) : Below B w0 w' :=
  h.grown hg hs fun k hk => Nat.le_trans hB (ho.lt k hk).1

/-- FROM w TO w': below block B nothing has turned; of the rows of cells that were there, those alone whose elements' type is in T. -/
structure Frm (B : Nat) (T : List TypeId) (w w' : World) : Prop where
  below : Below B w w'
  kept : ∀ (g : Nat) (cs : Array Value) (t : TypeId) (fr : Nat × Nat), w.heap[g]? = some (Obj.cells cs t fr) → t ∉ T → w'.heap[g]? = w.heap[g]?

section
variable {B : Nat} {T : List TypeId} {w w' a b c : World}
theorem Frm.refl (B : Nat) (T : List TypeId) (w : World) : Frm B T w w := ⟨Below.refl _ _, fun _ _ _ _ _ _ => rfl⟩
theorem Frm.trans (h : Frm B T a b) (k : Frm B T b c) : Frm B T a c :=
  ⟨h.below.trans k.below, fun g cs t fr hg ht => (k.kept g cs t fr ((h.kept g cs t fr hg ht).trans hg) ht).trans (h.kept g cs t fr hg ht)⟩
theorem Frm.more {T' : List TypeId} (h : Frm B T w w') (hT : ∀ t, t ∈ T → t ∈ T') : Frm B T' w w' := ⟨h.below, fun g cs t fr hg ht => h.kept g cs t fr hg (fun x => ht (hT t x))⟩
theorem Frm.size (h : Frm B T w w') : w.heap.size ≤ w'.heap.size := h.below.size
theorem Frm.alloc (h : Frm B T a w) (hB : B ≤ w.heap.size) (o : Obj) : Frm B T a (w.alloc o) :=
  ⟨h.below.alloc hB o, fun g cs t fr hg ht => by
    have h1 := h.kept g cs t fr hg ht
    have h2 : g < w.heap.size := (Array.getElem?_eq_some_iff.1 (h1.trans hg)).1
    rw [Below.heap_alloc w o g h2, h1]⟩
theorem Frm.drew (h : Frm B T a w) : Frm B T a w.drew := ⟨h.below.drew, h.kept⟩
theorem Frm.drewN (h : Frm B T a w) (n : Nat) : Frm B T a (w.drewN n) := ⟨⟨h.below.os, h.below.tape, h.below.output, h.below.size, h.below.block⟩, h.kept⟩
theorem Frm.set_ (h : Frm B T a w) {g i : Nat} {t : TypeId} {cs : Array Value} (hg : Blk w g t cs) (hB : B ≤ g) (ht : t ∈ T) (u : Value) : Frm B T a (w.setCell ⟨g, i, none⟩ u) :=
  ⟨h.below.setCell hB u, fun g' cs' t' fr' hg' ht' => by
    have h1 := h.kept g' cs' t' fr' hg' ht'
    rw [Below.heap_setCell w _ u g' ?_, h1]
    rintro rfl
    have h2 := (h1.trans hg').symm.trans hg
    injection h2 with h2
    injection h2 with _ h3
    exact ht' (h3 ▸ ht)⟩
/-- A store into a block that was not there at the beginning. -/
theorem Frm.setNew (h : Frm B T a w) {p : Addr} (hp : a.heap.size ≤ p.block) (hB : B ≤ a.heap.size) (u : Value) : Frm B T a (w.setCell p u) :=
  ⟨h.below.setCell (Nat.le_trans hB hp) u, fun g' cs' t' fr' hg' ht' => by
    have h2 : g' < a.heap.size := (Array.getElem?_eq_some_iff.1 hg').1
    rw [Below.heap_setCell w p u g' (by omega), h.kept g' cs' t' fr' hg' ht']⟩
theorem Frm.of_below (h : Below w.heap.size w w') (hB : B ≤ w.heap.size) : Frm B T w w' :=
  ⟨h.mono hB, fun g _ _ _ hg _ => h.block g (Array.getElem?_eq_some_iff.1 hg).1⟩
theorem Frm.blk {g : Nat} {t : TypeId} {cs : Array Value} (h : Frm B T w w') (hg : Blk w g t cs) (ht : t ∉ T) : Blk w' g t cs := (h.kept g cs t (0, 0) hg ht).trans hg
theorem Frm.own {base : Nat} {e : TypeId} {size n : Nat} {v : Value} {xs : List Value} (h : Frm B T w w') (ho : w.ownsRow base e size v n xs) (ht : e ∉ T) : w'.ownsRow base e size v n xs := by
  obtain ⟨h1, h2⟩ := ho
  refine ⟨h1, ?_⟩
  rcases h2 with h2 | ⟨g, cap, cur, hv, hg, hh, r⟩
  · exact .inl h2
  · exact .inr ⟨g, cap, cur, hv, hg, (h.kept g cur e (0, 0) hh ht).trans hh, r⟩
theorem Frm.grown {base : Nat} {e : TypeId} {size n : Nat} {v : Value} {xs : List Value} (h : Frm B T a w) (ho : w.ownsRow base e size v n xs) (hg : w.grownBy w' v.ownBlock) (hB : B ≤ base) (hs : B ≤ w.heap.size) (ht : e ∈ T) : Frm B T a w' := by
  refine ⟨Below.of_own h.below ho hg hB hs, fun g cs t fr hg' ht' => ?_⟩
  have h1 := h.kept g cs t fr hg' ht'
  rw [hg.block g (Array.getElem?_eq_some_iff.1 (h1.trans hg')).1 ?_, h1]
  rcases ho.2 with ⟨rfl, _⟩ | ⟨g', cap, cur, rfl, _, hh, _⟩
  · simp [Value.ownBlock]
  · simp only [Value.ownBlock, ne_eq, Option.some.injEq]
    rintro rfl
    have h2 := (h1.trans hg').symm.trans hh
    injection h2 with h2
    injection h2 with _ h3
    exact ht' (h3 ▸ ht)
theorem Frm.map {P : Program} {k : TypeId} {κ : Type} {K : KeyT P k κ} {m : Nat} {f : κ → Option Value} (h : Frm B T a w) (hm : MK K w m f) (hB : B ≤ m) (hg : w.grownBy w' (some m)) (hs : B ≤ w.heap.size) : Frm B T a w' := by
  refine ⟨h.below.grown hg hs (fun k hk => by injection hk with hk; omega), fun g cs t fr hg' ht' => ?_⟩
  have h1 := h.kept g cs t fr hg' ht'
  rw [hg.block g (Array.getElem?_eq_some_iff.1 (h1.trans hg')).1 ?_, h1]
  rintro e
  injection e with e
  subst e
  obtain ⟨es, clock, l, hb, _⟩ := hm
  rw [h1, hg'] at hb
  cases hb
theorem Frm.nodes {b off : Nat} {ts : List Node} (h : Frm B T w w') (hn : NodesAt w b off ts) (hb : b < B) : NodesAt w' b off ts := hn.below h.below hb
end
end Go.Proofs.Ytggibiodeecljaa
namespace Go.Proofs.Ytggibiodeecljaa
open Go.RowKit

/-- Q at the region's normal end, and no other end. -/
def Only (Q : Exit → Act → World → Prop) : Exit → Act → World → Prop
  | .normal, a, w => Q .normal a w
  | _, _, _ => False
theorem Only.lets {Q : Exit → Act → World → Prop} : ¬ LetsOut (Only Q) := fun ⟨_, _, h⟩ => h
theorem Only.imp {Q : Exit → Act → World → Prop} : ∀ (e : Exit) (a : Act) (w : World), Only Q e a w → Q e a w := fun e a w h => by
  cases e <;> first | exact h | exact (h : False).elim

/-- It looks at no world. -/
def StillS {α : Type} (P : Program) (s : Sem α) : Prop := ∀ w v w', s.run P w = .ok v w' → w' = w ∧ ∀ u, s.run P u = .ok v u
/-- It leaves the world as it is. -/
def ReadS {α : Type} (P : Program) (s : Sem α) : Prop := ∀ w v w', s.run P w = .ok v w' → w' = w

section
variable {α β : Type} {P : Program}
theorem StillS.pure (v : α) : StillS P (Pure.pure v : Sem α) := fun w v' w' h => by
  simp at h; obtain ⟨rfl, rfl⟩ := h; exact ⟨rfl, fun _ => rfl⟩
theorem StillS.halt (h : Halt) : StillS P (Sem.halt h : Sem α) := fun w v w' hh => by simp at hh
theorem StillS.never {s : Sem α} (h : ∀ w v w', s.run P w ≠ .ok v w') : StillS P s := fun w v w' hh => absurd hh (h w v w')
theorem StillS.program : StillS P Go.program := fun w v w' h => by
  simp [Go.program, Sem.run] at h; obtain ⟨rfl, rfl⟩ := h; exact ⟨rfl, fun _ => rfl⟩
theorem StillS.bind {s : Sem α} {f : α → Sem β} (hs : StillS P s) (hf : ∀ x, StillS P (f x)) : StillS P (s >>= f) := fun w v w' h => by
  rw [Sem.run_bind] at h
  cases h1 : s.run P w with
  | halt x y => rw [h1] at h; simp [Result.andThen] at h
  | ok x y =>
    rw [h1] at h
    simp only [Result.andThen_ok] at h
    obtain ⟨rfl, h2⟩ := hs w x y h1
    obtain ⟨rfl, h3⟩ := hf x _ v w' h
    exact ⟨rfl, fun u => by rw [Sem.run_bind, h2 u, Result.andThen_ok, h3 u]⟩
theorem StillS.read {s : Sem α} (h : StillS P s) : ReadS P s := fun w v w' hh => (h w v w' hh).1
theorem ReadS.bind {s : Sem α} {f : α → Sem β} (hs : ReadS P s) (hf : ∀ x, ReadS P (f x)) : ReadS P (s >>= f) := fun w v w' h => by
  rw [Sem.run_bind] at h
  cases h1 : s.run P w with
  | halt x y => rw [h1] at h; simp [Result.andThen] at h
  | ok x y =>
    rw [h1] at h
    simp only [Result.andThen_ok] at h
    have h2 := hs w x y h1
    subst h2
    exact hf x _ v w' h
theorem StillS.stuck (m : String) : StillS P (Go.stuck m : Sem α) := .halt _
theorem StillS.unsupported (d : Unsupported) : StillS P (Go.unsupported d : Sem α) := .halt _
def NeverS {α : Type} (P : Program) (s : Sem α) : Prop := ∀ w v w', s.run P w ≠ .ok v w'
theorem NeverS.halt (h : Halt) : NeverS P (Sem.halt h : Sem α) := fun w v w' hh => by simp at hh
theorem NeverS.bind {s : Sem α} {f : α → Sem β} (hf : ∀ x, NeverS P (f x)) : NeverS P (s >>= f) := fun w v w' h => by
  rw [Sem.run_bind] at h
  cases h1 : s.run P w with
  | halt x y => rw [h1] at h; simp [Result.andThen] at h
  | ok x y => rw [h1] at h; simp only [Result.andThen_ok] at h; exact hf x y v w' h
theorem NeverS.runtimePanic (e : RuntimeError) : NeverS P (Go.runtimePanic e : Sem α) := by
  unfold Go.runtimePanic
  refine .bind fun p => ?_
  simp only
  cases e
  case typeAssertion => exact .bind fun _ => .bind fun _ => .halt _
  case panicNil => exact .bind fun _ => .bind fun _ => .halt _
  all_goals exact .halt _
theorem NeverS.boundsPanic (k : IntKind) (x y : Int) (c : BoundsCode) : NeverS P (Go.boundsPanic k x y c : Sem α) := by
  unfold Go.boundsPanic
  dsimp only
  split <;> exact .bind fun _ => .runtimePanic _
theorem StillS.ite {c : Prop} [Decidable c] {x y : Sem α} (hx : StillS P x) (hy : StillS P y) : StillS P (if c then x else y) := by
  split
  · exact hx
  · exact hy
theorem StillS.typeInfo (t : TypeId) : StillS P (Go.typeInfo t) := by
  unfold Go.typeInfo
  refine .bind .program fun p => ?_
  split
  · exact .pure _
  · exact .stuck _
theorem StillS.underlying (t : TypeId) : StillS P (Go.underlying t) := by
  unfold Go.underlying
  refine .bind .program fun p => ?_
  split
  · exact .pure _
  · exact .stuck _
theorem StillS.sizeOf (t : TypeId) : StillS P (Go.sizeOf t) := .bind (.typeInfo t) fun _ => .pure _
theorem StillS.asBool (v : Value) : StillS P (Go.asBool v) := by
  unfold Go.asBool; split
  · exact .pure _
  · exact .stuck _
theorem StillS.asIntOf (v : Value) : StillS P (Go.asIntOf v) := by
  unfold Go.asIntOf; split
  · exact .pure _
  · exact .unsupported _
  · exact .stuck _
theorem StillS.sureAddr (v : Value) : StillS P (Instr.sureAddr v) := by
  unfold Instr.sureAddr; split
  · exact .pure _
  · exact .stuck _
theorem StillS.indexAt (t : TypeId) (x ix : Value) : StillS P (Instr.indexAt t x ix) := by
  unfold Instr.indexAt
  refine .bind (.asIntOf _) fun ki => ?_
  obtain ⟨k, i⟩ := ki
  dsimp only
  have tail : ∀ r : Option Addr × Nat × TypeId, StillS P (do
      let d ← Go.underlying t
      match r.1 with
      | some a =>
        if 0 ≤ i ∧ i < (r.2.1 : Int) then do
          let z ← Go.sizeOf r.2.2
          Pure.pure (Value.pointer (some (a.add (i.toNat * z))))
        else if (decide (r.2.1 ≤ 1) && (match d with | .array .. => true | _ => false)) = true then Go.unsupported (Unsupported.noEntry "op/indexAddr.an index out of range at an array of length 0 or 1 (ledger 616)")
        else Go.boundsPanic k i r.2.1 .index
      | none => Go.boundsPanic k i 0 .index) := fun r => .bind (.underlying _) fun d => by
    cases r.1 with
    | some a => exact .ite (.bind (.sizeOf _) fun _ => .pure _) (.ite (.unsupported _) (.never (NeverS.boundsPanic _ _ _ _)))
    | none => exact .never (NeverS.boundsPanic _ _ _ _)
  refine .bind (.underlying _) fun d => ?_
  split
  · exact .bind (.sureAddr _) fun _ => .bind (.pure _) tail
  · exact .bind (.pure _) tail
  · exact .bind (.stuck _) tail
theorem StillS.sliceBound (x : Value) (y : Nat) (code : BoundsCode) : StillS P (Instr.sliceBound x y code) := by
  unfold Instr.sliceBound
  refine .bind (.asIntOf _) fun ki => ?_
  obtain ⟨k, i⟩ := ki
  exact .ite (.pure _) (.never (NeverS.boundsPanic _ _ _ _))
theorem StillS.sliceBounds (b : Bool) (len cap : Nat) (lo hi mx : Option Value) : StillS P (Instr.sliceBounds b len cap lo hi mx) := by
  unfold Instr.sliceBounds
  cases mx with
  | none =>
    refine .bind (.pure _) fun m => ?_
    cases hi with
    | none =>
      refine .bind (.pure _) fun h => ?_
      cases lo with
      | none => exact .bind (.pure _) fun _ => .pure _
      | some v => exact .bind (.sliceBound _ _ _) fun _ => .pure _
    | some u =>
      refine .bind (.sliceBound _ _ _) fun h => ?_
      cases lo with
      | none => exact .bind (.pure _) fun _ => .pure _
      | some v => exact .bind (.sliceBound _ _ _) fun _ => .pure _
  | some z =>
    refine .bind (.sliceBound _ _ _) fun m => ?_
    cases hi with
    | none =>
      refine .bind (.stuck _) fun h => ?_
      cases lo with
      | none => exact .bind (.pure _) fun _ => .pure _
      | some v => exact .bind (.sliceBound _ _ _) fun _ => .pure _
    | some u =>
      refine .bind (.sliceBound _ _ _) fun h => ?_
      cases lo with
      | none => exact .bind (.pure _) fun _ => .pure _
      | some v => exact .bind (.sliceBound _ _ _) fun _ => .pure _
/-- Slicing, of a slice's type. -/
theorem StillS.sliceAt {t e : TypeId} (ht : P.underlying t = some (.slice e)) (x : Value) (lo hi mx : Option Value) : StillS P (Instr.sliceAt t x lo hi mx) := by
  have key : ∀ (f : TypeDesc → Sem Value), StillS P (f (.slice e)) → StillS P (Go.underlying t >>= f) := fun f hf w v w' hr => by
    rw [Sem.run_bind, run_underlying ht, Result.andThen_ok] at hr
    obtain ⟨h1, h2⟩ := hf w v w' hr
    exact ⟨h1, fun u => by rw [Sem.run_bind, run_underlying ht, Result.andThen_ok, h2 u]⟩
  unfold Instr.sliceAt
  refine key _ ?_
  simp only
  unfold Instr.slice
  refine key _ ?_
  cases x <;> simp only <;> first
    | exact .stuck _
    | exact .bind (.sliceBounds _ _ _ _ _ _) fun _ => .bind (.sizeOf _) fun _ => .pure _
theorem StillS.unary (op : UnOp) (x : Value) : StillS P (Op.unary op x) := by
  unfold Op.unary
  split <;> first
    | exact .pure _
    | exact .unsupported _
    | exact .stuck _
    | (unfold Op.intArith; repeat' (first | exact .pure _ | exact .stuck _ | split))
    | (unfold Op.intBits; repeat' (first | exact .pure _ | exact .stuck _ | split))
theorem StillS.extract (t : Value) (i : Nat) : StillS P (Instr.extract t i) := by
  unfold Instr.extract
  repeat' (first | exact .pure _ | exact .stuck _ | split)

theorem StillS.isAgg (t : TypeId) : StillS P (Go.isAgg t) := by
  unfold Go.isAgg
  refine .bind (.underlying _) fun d => ?_
  split <;> exact .pure _
theorem StillS.part (t : TypeId) (cs : Array Value) (off : Nat) : StillS P (Go.part t cs off) := by
  unfold Go.part
  refine .bind (StillS.isAgg _) fun b => ?_
  split
  · exact .bind (.sizeOf _) fun _ => .pure _
  · split
    · exact .pure _
    · exact .stuck _
theorem StillS.followBlind : ∀ (l : List FieldStep) (t : TypeId) (x : Option Value), StillS P (Go.followBlind l t x)
  | [], t, x => .pure _
  | s :: rest, t, x => by
    unfold Go.followBlind
    refine .bind (.underlying _) fun d => ?_
    split
    · split
      · split
        · exact .pure _
        · exact followBlind rest _ _
        · exact .stuck _
        · exact .pure _
        · exact .bind (.part _ _ _) fun _ => followBlind rest _ _
        · exact .stuck _
        · exact followBlind rest _ _
      · exact .stuck _
    · exact .stuck _
theorem StillS.nilAhead : ∀ (n : Nat) (t : TypeId) (v : Value) (name : String), StillS P (Go.nilAhead n t v name)
  | 0, _, _, _ => .pure _
  | n + 1, t, v, name => by
    unfold Go.nilAhead
    refine .bind (.typeInfo _) fun i => ?_
    split
    · refine .bind (.followBlind _ _ _) fun r => ?_
      split
      · exact .pure _
      · split
        · exact nilAhead n _ _ _
        · exact .pure _
        · exact .stuck _
        · exact .pure _
        · exact .pure _
        · refine .bind (.underlying _) fun d => ?_
          split <;> exact .pure _
    · exact .stuck _

/-- What it comes to is a value. -/
def ValS (P : Program) (s : Sem Next) : Prop := ∀ w n w', s.run P w = .ok n w' → ∃ v, n = .value v
theorem ValS.pure (v : Value) : ValS P (Pure.pure (Next.value v) : Sem Next) := fun w n w' h => by
  simp at h; exact ⟨v, h.1.symm⟩
theorem ValS.never {s : Sem Next} (h : NeverS P s) : ValS P s := fun w v w' hh => absurd hh (h w v w')
theorem ValS.bind {γ : Type} {s : Sem γ} {f : γ → Sem Next} (hf : ∀ x, ValS P (f x)) : ValS P (s >>= f) := fun w v w' h => by
  rw [Sem.run_bind] at h
  cases h1 : s.run P w with
  | halt x y => rw [h1] at h; simp [Result.andThen] at h
  | ok x y => rw [h1] at h; simp only [Result.andThen_ok] at h; exact hf x y v w' h

/-- 'len' of a slice or a string. -/
def lenOk (P : Program) (c : Call) : Bool :=
  (match c.callee with | .builtin .len => true | _ => false) && match c.argTypes[0]? with
    | some t => (match P.underlying t with | some (.slice _) => true | some .string => true | _ => false)
    | none => false
theorem lenOk_still {c : Call} (h : lenOk P c = true) (ty : TypeId) (args : Array Value) : c.callee = .builtin .len ∧ StillS P (Builtin.len_ c.argTypes ty args) := by
  simp only [lenOk, Bool.and_eq_true] at h
  obtain ⟨h1, h2⟩ := h
  refine ⟨?_, ?_⟩
  · cases hc : c.callee <;> rw [hc] at h1 <;> try (exact absurd h1 Bool.false_ne_true)
    rename_i b
    cases b <;> first | rfl | (exact absurd h1 Bool.false_ne_true)
  · cases ht : c.argTypes[0]? with
    | none => rw [ht] at h2; cases h2
    | some t =>
      rw [ht] at h2
      simp only at h2
      unfold Builtin.len_
      rw [ht]
      cases args[0]? with
      | none => exact .stuck _
      | some x =>
        simp only
        have hd : (∃ e, P.underlying t = some (.slice e)) ∨ P.underlying t = some .string := by
          split at h2
          · rename_i e he; exact .inl ⟨e, he⟩
          · rename_i he; exact .inr he
          · cases h2
        have key : ∀ d (f : TypeDesc → Sem Value), P.underlying t = some d → StillS P (f d) → StillS P (Go.underlying t >>= f) := fun d f hd hf w v w' hr => by
          rw [Sem.run_bind, run_underlying hd, Result.andThen_ok] at hr
          obtain ⟨h1, h2⟩ := hf w v w' hr
          exact ⟨h1, fun u => by rw [Sem.run_bind, run_underlying hd, Result.andThen_ok, h2 u]⟩
        rcases hd with ⟨e, hd⟩ | hd
        · refine key _ _ hd ?_
          cases x <;> first | exact .pure _ | exact .stuck _
        · refine key _ _ hd ?_
          cases x <;> first | exact .pure _ | exact .stuck _

/-- The operations that look at no world, by their kind alone. -/
def pureOp (P : Program) : Op → Bool
  | .move _ | .assign _ | .pick .. | .unOp .. | .extract .. => true
  | .indexAddr .. | .nilCheck _ => true
  | .call c => lenOk P c
  | .slice t _ _ _ _ => match P.underlying t with | some (.slice _) => true | _ => false
  | .fieldAddr s _ f => match P.underlying s with
    | some (.struct fields) => match fields[f]? with
      | some fl => match P.info? fl.type with
        | some i => i.size != 0
        | none => false
      | none => false
    | _ => false
  | _ => false

theorem StillS.fieldAt {s : TypeId} {f : Nat} {fields : Array Field} {fl : Field} {i : TypeInfo} (h1 : P.underlying s = some (.struct fields)) (h2 : fields[f]? = some fl) (h3 : P.info? fl.type = some i) (h4 : i.size ≠ 0) (v : Value) : StillS P (Instr.fieldAt s v f) := by
  intro w u w' h
  cases v with
  | pointer a =>
    cases a with
    | some a =>
      have hr : ∀ w, (Instr.fieldAt s (.pointer (some a)) f).run P w = .ok (.pointer (some (a.add fl.offset))) w := fun w => by
        simp [Instr.fieldAt, Instr.sureAddr, fieldPlace, Go.sizeOf, Go.typeInfo, run_underlying h1, h2, h3, h4, Go.program, Sem.run]
      rw [hr w] at h
      injection h with h5 h6
      subst h5 h6
      exact ⟨rfl, hr⟩
    | none => simp [Instr.fieldAt, Instr.sureAddr, run_underlying h1, h2, Go.stuck] at h
  | _ => simp [Instr.fieldAt, Instr.sureAddr, run_underlying h1, h2, Go.stuck] at h

/-- What a pure operation comes to is the same in every world. -/
theorem pureOp_still {o : Oper} (h : pureOp P o.op = true) (ρ : Operand → Value) (w : World) (n : Next) (w' : World) (hr : (execOp ρ o).run P w = .ok n w') :
    ∃ v, n = .value v ∧ w' = w ∧ ∀ u, (execOp ρ o).run P u = .ok (.value v) u := by
  have lift : ∀ s : Sem Value, StillS P s → (do let x ← s; Pure.pure (Next.value x) : Sem Next).run P w = .ok n w' → ∃ v, n = .value v ∧ w' = w ∧ ∀ u, (do let x ← s; Pure.pure (Next.value x) : Sem Next).run P u = .ok (.value v) u := by
    intro s hs hr
    rw [Sem.run_bind] at hr
    cases h1 : s.run P w with
    | halt x y => rw [h1] at hr; simp [Result.andThen] at hr
    | ok x y =>
      rw [h1] at hr
      simp only [Result.andThen_ok, Sem.run_pure] at hr
      injection hr with h2 h3
      obtain ⟨rfl, h4⟩ := hs w x y h1
      exact ⟨x, h2.symm, h3.symm, fun u => by rw [Sem.run_bind, h4 u]; rfl⟩
  cases hop : o.op <;> rw [hop] at h <;> simp only [pureOp] at h <;> try (exact absurd h Bool.false_ne_true)
  case move x =>
    simp only [execOp, hop, Sem.run_pure] at hr ⊢
    injection hr with h1 h2
    exact ⟨_, h1.symm, h2.symm, fun _ => rfl⟩
  case assign x =>
    simp only [execOp, hop, Sem.run_pure] at hr ⊢
    injection hr with h1 h2
    exact ⟨_, h1.symm, h2.symm, fun _ => rfl⟩
  case pick c a b =>
    simp only [execOp, hop] at hr ⊢
    rw [Sem.run_bind] at hr
    cases h1 : (Go.asBool (ρ c)).run P w with
    | halt x y => rw [h1] at hr; simp [Result.andThen] at hr
    | ok x y =>
      obtain ⟨rfl, h4⟩ := StillS.asBool (ρ c) w x y h1
      rw [h1] at hr
      simp only [Result.andThen_ok, Sem.run_pure] at hr
      injection hr with h2 h3
      exact ⟨_, h2.symm, h3.symm, fun u => by rw [Sem.run_bind, h4 u]; rfl⟩
  case nilCheck x =>
    simp only [execOp, hop] at hr ⊢
    have fin : StillS P (execOp ρ o) := by
      simp only [execOp, hop]
      split
      · exact .never (NeverS.runtimePanic _)
      · exact .never (NeverS.runtimePanic _)
      · exact .never (NeverS.runtimePanic _)
      · split
        · exact .never (NeverS.runtimePanic _)
        · refine .bind .program fun p => ?_
          refine .bind (.nilAhead _ _ _ _) fun r => ?_
          split
          · exact .bind (.unsupported _) fun _ => .pure _
          · exact .pure _
        · exact .pure _
      · exact .pure _
    have val : ValS P (execOp ρ o) := by
      simp only [execOp, hop]
      split
      · exact .never (NeverS.runtimePanic _)
      · exact .never (NeverS.runtimePanic _)
      · exact .never (NeverS.runtimePanic _)
      · split
        · exact .never (NeverS.runtimePanic _)
        · refine .bind fun p => ?_
          refine .bind fun r => ?_
          split
          · exact .bind fun _ => .pure _
          · exact .pure _
        · exact .pure _
      · exact .pure _
    simp only [execOp, hop] at fin val
    obtain ⟨h1, h2⟩ := fin w n w' hr
    obtain ⟨v, rfl⟩ := val w n w' hr
    exact ⟨v, rfl, h1, h2⟩
  case call c =>
    obtain ⟨h1, h2⟩ := lenOk_still h o.type (c.args.map ρ)
    have e : execOp ρ o = (do let x ← Builtin.len_ c.argTypes o.type (c.args.map ρ); Pure.pure (Next.value x) : Sem Next) := by
      simp only [execOp, hop, resolve, h1]
      rfl
    rw [e] at hr ⊢
    exact lift _ h2 hr
  case unOp op t x => simp only [execOp, hop] at hr ⊢; exact lift _ (.unary _ _) hr
  case extract t i => simp only [execOp, hop] at hr ⊢; exact lift _ (.extract _ _) hr
  case indexAddr t x i => simp only [execOp, hop] at hr ⊢; exact lift _ (.indexAt _ _ _) hr
  case slice t x lo hi mx =>
    simp only [execOp, hop] at hr ⊢
    split at h
    · rename_i e he
      exact lift _ (.sliceAt he _ _ _ _) hr
    · cases h
  case fieldAddr s x f =>
    simp only [execOp, hop] at hr ⊢
    split at h
    · rename_i fields h1
      split at h
      · rename_i fl h2
        split at h
        · rename_i i h3
          exact lift _ (.fieldAt h1 h2 h3 (by simpa using h) _) hr
        · cases h
      · cases h
    · cases h

theorem ReadS.load (a : Addr) (m : Mode) : ReadS P (Go.load a m) := by
  intro w v w' h
  unfold Go.load at h
  rw [Sem.run] at h
  split at h
  · simp [Sem.run] at h; exact h.2.symm
  · split at h
    · simp [Sem.run] at h; exact h.2.symm
    · cases h
theorem ReadS.cells (a : Addr) : ∀ (n i : Nat) (acc : Array Value), ReadS P (loadCellsFrom a i n acc)
  | 0, _, _ => (StillS.pure _).read
  | n + 1, i, acc => .bind (.load _ _) fun v => ReadS.cells a n (i + 1) (acc.push v)
theorem ReadS.loadVar (t : TypeId) (a : Addr) : ReadS P (Go.loadVar t a) := by
  unfold Go.loadVar
  refine .bind (StillS.isAgg t).read fun b => ?_
  split
  · exact .bind (StillS.sizeOf t).read fun _ => .bind (.cells a _ _ _) fun _ => (StillS.pure _).read
  · exact .load _ _

/-- The operations that leave the world as it is, by their kind alone. -/
def readOp (P : Program) : Op → Bool
  | .load .. => true
  | o => pureOp P o

theorem readOp_read {o : Oper} (h : readOp P o.op = true) (ρ : Operand → Value) (w : World) (n : Next) (w' : World) (hr : (execOp ρ o).run P w = .ok n w') : (∃ v, n = .value v) ∧ w' = w := by
  by_cases hp : pureOp P o.op = true
  · obtain ⟨v, h1, h2, _⟩ := pureOp_still hp ρ w n w' hr
    exact ⟨⟨v, h1⟩, h2⟩
  · cases hop : o.op <;> rw [hop] at h hp <;> first | (exact absurd h hp) | skip
    case load t x =>
      simp only [execOp, hop] at hr
      rw [Sem.run_bind] at hr
      have hrd : ReadS P (Instr.loadAt t (ρ x)) := .bind (StillS.sureAddr _).read fun _ => .loadVar _ _
      cases h1 : (Instr.loadAt t (ρ x)).run P w with
      | halt q y => rw [h1] at hr; simp [Result.andThen] at hr
      | ok q y =>
        rw [h1] at hr
        simp only [Result.andThen_ok, Sem.run_pure] at hr
        injection hr with h2 h3
        exact ⟨⟨q, h2.symm⟩, h3.symm.trans (hrd w q y h1)⟩

/-! the walk in the order of the text, over a list of places -/
variable {ops : Array Oper}
def wpSeq (P : Program) (ops : Array Oper) (Q : Exit → Act → World → Prop) (K : Act → World → Prop) : List Nat → Act → World → Prop
  | [] => K
  | i :: r => wpOp P ops (Only Q) i (wpSeq P ops Q K r)

variable {Q : Exit → Act → World → Prop} {K : Act → World → Prop}

/-- What an operation hands on, it hands on somewhere. -/
theorem wpOp_some {i : Nat} {o : Oper} (hi : ops[i]? = some o) {p : Act → Prop} (hd : ∀ a d, p { a with defers := d :: a.defers } → p a) {a : Act} {w : World} (h : wpOp P ops (Only Q) i (fun a' _ => p a') a w) : ∃ v, p (a.put o.dst v) := by
  unfold wpOp at h
  simp only [hi] at h
  split at h
  · rcases h with h | ⟨_, h⟩
    · unfold Oper.wp at h
      cases hr : (execOp a.eval o).run P w with
      | halt x y => rw [hr] at h; cases x <;> simp [Oper.upon, Only] at h
      | ok n y =>
        rw [hr] at h
        cases n <;> simp only [Oper.upon] at h
        case value v => exact ⟨v, h⟩
        case skip => exact ⟨undef, h⟩
        case defer d => exact ⟨undef, hd _ d (by have e := Act.put_defers a o.dst undef d; exact e ▸ h)⟩
        case enter f args =>
          obtain ⟨e, w', fr, hR, _⟩ := h []
          cases e with
          | returned v => exact ⟨v, hR⟩
          | panicked c => exact absurd hR id
          | outgrown => exact absurd hR Only.lets
        case row r args =>
          obtain ⟨v, w', hR, _⟩ := h default []
          exact ⟨v, hR⟩
    · exact absurd h Only.lets
  · exact ⟨undef, h⟩

theorem yields_inv {i : Nat} {o : Oper} (hi : ops[i]? = some o) {v : Value} {a : Act} {w : World} (hy : Yields P ops o v a) (h : wpOp P ops (Only Q) i K a w) : K (a.put o.dst v) w := by
  unfold wpOp at h
  simp only [hi] at h
  rcases hy with ⟨h1, h2⟩ | ⟨h1, rfl⟩
  · rw [if_pos h1] at h
    rcases h with h | ⟨_, h⟩
    · unfold Oper.wp at h
      rw [h2 w] at h
      exact h
    · exact absurd h Only.lets
  · rw [if_neg (by simp [h1])] at h
    exact h

/-- A pure operation that stands behind another yields already ahead of it. -/
theorem yields_of_behind {i j : Nat} {oi oj : Oper} (hi : ops[i]? = some oi) (hj : ops[j]? = some oj) (hpure : pureOp P oi.op = true) (hap : oi.apart ops oj = true) (hsi : ∀ cs b, oi.op ≠ .select cs b) {a : Act} {w : World}
    (h : wpOp P ops (Only Q) j (wpOp P ops (Only Q) i K) a w) : ∃ v, Yields P ops oi v a := by
  obtain ⟨_, _, h3⟩ := Oper.apart_spec hap
  have hp : wpOp P ops (Only Q) j (fun a' _ => ∃ v, Yields P ops oi v a') a w := by
    refine wpOp_mono (fun a' w' hh => ?_) h
    unfold wpOp at hh
    simp only [hi] at hh
    split at hh
    · rename_i hw
      rcases hh with hh | ⟨_, hh⟩
      · unfold Oper.wp at hh
        cases hr : (execOp a'.eval oi).run P w' with
        | halt x y => rw [hr] at hh; cases x <;> simp [Oper.upon, Only] at hh
        | ok n y =>
          obtain ⟨v, _, _, h4⟩ := pureOp_still hpure _ _ _ _ hr
          exact ⟨v, .inl ⟨hw, h4⟩⟩
      · exact absurd hh Only.lets
    · rename_i hw
      exact ⟨undef, .inr ⟨by simpa using hw, rfl⟩⟩
  obtain ⟨u, v, hy⟩ := wpOp_some hj (p := fun a' => ∃ v, Yields P ops oi v a') (fun a d ⟨v, hy⟩ => ⟨v, hy.of_same rfl rfl⟩) hp
  exact ⟨v, hy.of_same (execOp_put oi hsi a oj.dst u h3).symm (wanted_put oi a oj.dst u h3).symm⟩

/-- .. and may be taken ahead of it. -/
theorem wpOp_back {i j : Nat} {oi oj : Oper} {v : Value} (hi : ops[i]? = some oi) (hj : ops[j]? = some oj) (hap : oi.apart ops oj = true) (hsi : ∀ cs b, oi.op ≠ .select cs b) (hsj : ∀ cs b, oj.op ≠ .select cs b) {a : Act} {w : World}
    (hy : Yields P ops oi v a) (h : wpOp P ops (Only Q) j (wpOp P ops (Only Q) i K) a w) : wpOp P ops (Only Q) j K (a.put oi.dst v) w := by
  obtain ⟨h1, h2, h3⟩ := Oper.apart_spec hap
  have keep : ∀ (a : Act), Yields P ops oi v a → ∀ u, Yields P ops oi v (a.put oj.dst u) := fun a hy u =>
    hy.of_same (execOp_put oi hsi a oj.dst u h3) (wanted_put oi a oj.dst u h3)
  have keepD : ∀ d, Yields P ops oi v { a with defers := d :: a.defers } := fun d => hy.of_same rfl rfl
  have go : ∀ u w', wpOp P ops (Only Q) i K (a.put oj.dst u) w' → K ((a.put oi.dst v).put oj.dst u) w' := fun u w' hh => by
    have := yields_inv hi (keep a hy u) hh
    rwa [← Act.put_comm a v u h2] at this
  unfold wpOp
  simp only [hj]
  rw [wanted_put oj a oi.dst v h1]
  unfold wpOp at h
  simp only [hj] at h
  split
  · rename_i hw
    rw [if_pos hw] at h
    rcases h with h | ⟨_, h⟩
    · refine .inl ?_
      unfold Oper.wp at *
      rw [execOp_put oj hsj a oi.dst v h1]
      generalize (execOp a.eval oj).run P w = r at *
      cases r with
      | halt x y => cases x <;> simp [Oper.upon, Only] at h
      | ok n y =>
        cases n <;> simp only [Oper.upon] at h ⊢
        case value u => exact go u y h
        case skip => exact go _ y h
        case defer d =>
          have := yields_inv hi (keep _ (keepD d) undef) h
          rw [← Act.put_comm _ v undef h2, ← Act.put_defers] at this
          exact this
        case enter f args =>
          refine Calls.mono h fun e w'' he => ?_
          cases e with
          | returned u => exact go u w'' he
          | panicked c => exact absurd he id
          | outgrown => exact he
        case row r args => exact Rows.mono h fun u w'' he => go u w'' he
    · exact absurd h Only.lets
  · rename_i hw
    rw [if_neg hw] at h
    exact go _ _ h

/-- Two operations that may change places. -/
def commB (P : Program) (ops : Array Oper) (x y : Oper) : Bool := x.apart ops y && y.apart ops x && (pureOp P x.op || pureOp P y.op || (readOp P x.op && readOp P y.op))

theorem readOp_step {i : Nat} {o : Oper} (hi : ops[i]? = some o) (hr : readOp P o.op = true) {a : Act} {w : World} (h : wpOp P ops (Only Q) i K a w) :
    ∃ v, K (a.put o.dst v) w ∧ ((Region.wanted o (yielded ops a.tmps) = true ∧ (execOp a.eval o).run P w = .ok (.value v) w) ∨ (Region.wanted o (yielded ops a.tmps) = false ∧ v = undef)) := by
  unfold wpOp at h
  simp only [hi] at h
  split at h
  · rename_i hw
    rcases h with h | ⟨_, h⟩
    · unfold Oper.wp at h
      cases hrun : (execOp a.eval o).run P w with
      | halt x y => rw [hrun] at h; cases x <;> simp [Oper.upon, Only] at h
      | ok n y =>
        obtain ⟨⟨v, rfl⟩, rfl⟩ := readOp_read hr _ _ _ _ hrun
        rw [hrun] at h
        exact ⟨v, h, .inl ⟨hw, rfl⟩⟩
    · exact absurd h Only.lets
  · rename_i hw
    exact ⟨undef, h, .inr ⟨by simpa using hw, rfl⟩⟩
theorem readOp_mk {i : Nat} {o : Oper} (hi : ops[i]? = some o) {a : Act} {w : World} {v : Value}
    (hv : (Region.wanted o (yielded ops a.tmps) = true ∧ (execOp a.eval o).run P w = .ok (.value v) w) ∨ (Region.wanted o (yielded ops a.tmps) = false ∧ v = undef)) (h : K (a.put o.dst v) w) : wpOp P ops (Only Q) i K a w := by
  unfold wpOp
  simp only [hi]
  rcases hv with ⟨h1, h2⟩ | ⟨h1, rfl⟩
  · rw [if_pos h1]
    exact .inl (by unfold Oper.wp; rw [h2]; exact h)
  · rw [if_neg (by simp [h1])]
    exact h

theorem swap {i j : Nat} {oi oj : Oper} (hi : ops[i]? = some oi) (hj : ops[j]? = some oj) (hc : commB P ops oi oj = true) (hsi : ∀ cs b, oi.op ≠ .select cs b) (hsj : ∀ cs b, oj.op ≠ .select cs b) {a : Act} {w : World}
    (h : wpOp P ops (Only Q) i (wpOp P ops (Only Q) j K) a w) : wpOp P ops (Only Q) j (wpOp P ops (Only Q) i K) a w := by
  simp only [commB, Bool.and_eq_true, Bool.or_eq_true] at hc
  obtain ⟨⟨ha, hb⟩, hc⟩ := hc
  rcases hc with (hc | hc) | ⟨hc1, hc2⟩
  · -- the first is pure
    obtain ⟨v, hk, hv⟩ := readOp_step hi (by unfold readOp; split <;> first | rfl | exact hc) h
    have hy : Yields P ops oi v a := by
      rcases hv with ⟨h1, h2⟩ | hv
      · obtain ⟨u, h3, _, h4⟩ := pureOp_still hc _ _ _ _ h2
        injection h3 with h3
        subst h3
        exact .inl ⟨h1, h4⟩
      · exact .inr hv
    exact wpOp_mono (fun a' w' ⟨hy', hk'⟩ => hy'.wpOp hi hk') (wpOp_put hj ha hsi hsj (fun c a w h => h) hy hk)
  · -- the second is pure
    obtain ⟨v, hy⟩ := yields_of_behind hj hi hc hb hsj h
    exact hy.wpOp hj (wpOp_back hj hi hb hsj hsi hy h)
  · -- both only read
    obtain ⟨v, hk, hv⟩ := readOp_step hi hc1 h
    obtain ⟨u, hk2, hu⟩ := readOp_step hj hc2 hk
    obtain ⟨h1, h2, h3⟩ := Oper.apart_spec ha
    rw [wanted_put oj a oi.dst v h1, execOp_put oj hsj a oi.dst v h1] at hu
    refine readOp_mk hj hu ?_
    refine readOp_mk hi (v := v) ?_ ?_
    · rw [wanted_put oi a oj.dst u h3, execOp_put oi hsi a oj.dst u h3]
      exact hv
    · rw [← Act.put_comm a v u h2]
      exact hk2

theorem wpSeq_front {i : Nat} {oi : Oper} (hi : ops[i]? = some oi) (hsel : ∀ (j : Nat) (o : Oper) cs b, ops[j]? = some o → o.op ≠ .select cs b) (post : List Nat) : ∀ (pre : List Nat) (a : Act) (w : World),
    (∀ k ∈ pre, ∃ ok, ops[k]? = some ok ∧ commB P ops ok oi = true) → wpSeq P ops Q K (pre ++ i :: post) a w → wpOp P ops (Only Q) i (wpSeq P ops Q K (pre ++ post)) a w
  | [], a, w, _, h => h
  | k :: pre, a, w, hp, h => by
    obtain ⟨ok, hk, hc⟩ := hp k (by simp)
    have h1 : wpOp P ops (Only Q) k (wpOp P ops (Only Q) i (wpSeq P ops Q K (pre ++ post))) a w :=
      wpOp_mono (fun a' w' hh => wpSeq_front hi hsel post pre a' w' (fun k' hk' => hp k' (by simp [hk'])) hh) h
    exact swap hk hi hc (hsel k ok · · hk) (hsel i oi · · hi) h1

/-- The table B holds, of each operation, (some of) those that its edges put ahead of it; the others ahead of it in the text may change places with it. -/
def serialB (P : Program) (ops : Array Oper) (B : Array Nat) : Bool :=
  Region.noSelect ops && (List.range ops.size).all fun i => match ops[i]? with
    | none => true
    | some o => (o.after.all fun e => !Region.binds .any e || decide (e.on < i)) && (List.range i).all fun k =>
      if (B.getD i 0).testBit k then o.after.any fun e => Region.binds .any e && decide (e.on < i) && (e.on == k || (decide (k < e.on) && (B.getD e.on 0).testBit k))
      else match ops[k]? with | none => false | some ok => commB P ops ok o

theorem serialB_at {B : Array Nat} (hB : serialB P ops B = true) {i : Nat} {o : Oper} (hi : ops[i]? = some o) : (∀ e ∈ o.after, Region.binds .any e = true → e.on < i) ∧ ∀ k, k < i →
    ((B.getD i 0).testBit k = true ∧ ∃ e ∈ o.after, Region.binds .any e = true ∧ e.on < i ∧ (e.on = k ∨ (k < e.on ∧ (B.getD e.on 0).testBit k = true))) ∨ ((B.getD i 0).testBit k = false ∧ ∃ ok, ops[k]? = some ok ∧ commB P ops ok o = true) := by
  have hlt := (Array.getElem?_eq_some_iff.1 hi).1
  simp only [serialB, Bool.and_eq_true, List.all_eq_true, List.mem_range] at hB
  have h := hB.2 i hlt
  rw [hi] at h
  simp only [Bool.and_eq_true, List.all_eq_true, List.mem_range, Array.all_eq_true_iff_forall_mem] at h
  refine ⟨fun e he hb => by have := h.1 e he; simpa [hb] using this, fun k hk => ?_⟩
  have h2 := h.2 k hk
  split at h2
  · rename_i hb
    rw [Array.any_eq_true'] at h2
    obtain ⟨e, he, h3⟩ := h2
    simp only [Bool.and_eq_true, Bool.or_eq_true, decide_eq_true_eq, beq_iff_eq] at h3
    exact .inl ⟨hb, e, he, h3.1.1, h3.1.2, h3.2⟩
  · rename_i hb
    cases hk2 : ops[k]? with
    | none => rw [hk2] at h2; cases h2
    | some ok => rw [hk2] at h2; exact .inr ⟨by simpa using hb, ok, rfl, h2⟩

def Down (ops : Array Oper) (listed : Array Bool) : Prop := ∀ i o, ops[i]? = some o → listed.getD i false = true → ∀ e ∈ o.after, Region.binds .any e = true → listed.getD e.on false = true

theorem ahead_listed {B : Array Nat} (hB : serialB P ops B = true) {listed : Array Bool} (hd : Down ops listed) : ∀ (n i : Nat) (o : Oper), i ≤ n → ops[i]? = some o → (∀ e ∈ o.after, Region.binds .any e = true → listed.getD e.on false = true) →
    ∀ k, k < i → (B.getD i 0).testBit k = true → listed.getD k false = true
  | 0, i, o, hn, _, _, k, hk, _ => by omega
  | n + 1, i, o, hn, hi, hall, k, hk, hb => by
    rcases (serialB_at hB hi).2 k hk with ⟨_, e, he, hbi, hlt, h⟩ | ⟨hf, _⟩
    · rcases h with rfl | ⟨hk2, hb2⟩
      · exact hall e he hbi
      · have hon : ∃ o2, ops[e.on]? = some o2 := ⟨_, Array.getElem?_eq_getElem (by have := (Array.getElem?_eq_some_iff.1 hi).1; omega)⟩
        obtain ⟨o2, ho2⟩ := hon
        exact ahead_listed hB hd n e.on o2 (by omega) ho2 (hd e.on o2 ho2 (hall e he hbi)) k hk2 hb2
    · rw [hb] at hf; cases hf

def left (ops : Array Oper) (listed : Array Bool) : List Nat := (List.range ops.size).filter fun i => !listed.getD i false

theorem left_set {listed : Array Bool} (hs : listed.size = ops.size) {i : Nat} {s t : List Nat} (h : left ops listed = s ++ i :: t) : left ops (listed.setIfInBounds i true) = s ++ t ∧ (∀ k ∈ s, k < i) := by
  have hp : (left ops listed).Pairwise (· < ·) := List.Pairwise.filter _ List.pairwise_lt_range
  rw [h, List.pairwise_append] at hp
  obtain ⟨h1, h2, h3⟩ := hp
  rw [List.pairwise_cons] at h2
  have hi : i < ops.size := by
    have : i ∈ left ops listed := by rw [h]; simp
    unfold left at this
    rw [List.mem_filter, List.mem_range] at this
    exact this.1
  refine ⟨?_, fun k hk => h3 k hk i (by simp)⟩
  have e : left ops (listed.setIfInBounds i true) = (left ops listed).filter (fun k => k != i) := by
    unfold left
    rw [List.filter_filter]
    refine List.filter_congr fun k hk => ?_
    rw [List.mem_range] at hk
    by_cases hki : k = i
    · subst hki
      simp [Array.getD_eq_getD_getElem?, hs, hk]
    · simp [Array.getD_eq_getD_getElem?, Array.getElem?_setIfInBounds_ne (Ne.symm hki), hki]
  rw [e, h, List.filter_append, List.filter_cons]
  have es : s.filter (fun k => k != i) = s := List.filter_eq_self.2 fun k hk => by have := h3 k hk i (by simp); simp; omega
  have et : t.filter (fun k => k != i) = t := List.filter_eq_self.2 fun k hk => by have := h2.1 k hk; simp; omega
  rw [es, et]
  simp

theorem serial_any {B : Array Nat} (hB : serialB P ops B = true) : ∀ (fuel : Nat) (listed : Array Bool) (a : Act) (w : World), Down ops listed → listed.size = ops.size → (left ops listed).length = fuel →
    wpSeq P ops Q (Q .normal) (left ops listed) a w → wpAny P .any ops (Only Q) fuel listed a w := by
  have hsel : ∀ (j : Nat) (o : Oper) cs b, ops[j]? = some o → o.op ≠ .select cs b := by
    intro j o cs b ho
    have : Region.noSelect ops = true := by simp only [serialB, Bool.and_eq_true] at hB; exact hB.1
    exact Region.noSelect_spec this j o cs b ho
  have hready : ∀ (listed : Array Bool), Down ops listed → listed.size = ops.size → ∀ i r, left ops listed = i :: r → i ∈ Region.ready .any ops listed := by
    intro listed hd hs i r hl
    have hi : i ∈ left ops listed := by rw [hl]; simp
    have hmin := (left_set (ops := ops) hs (s := []) (t := r) hl)
    unfold left at hi
    rw [List.mem_filter, List.mem_range] at hi
    rw [mem_ready]
    obtain ⟨o, ho⟩ : ∃ o, ops[i]? = some o := ⟨_, Array.getElem?_eq_getElem hi.1⟩
    refine ⟨?_, o, ho, fun e he hb => ?_⟩
    · have h1 := hi.2
      rw [Array.getD_eq_getD_getElem?, Array.getElem?_eq_getElem (by omega)] at h1 ⊢
      simpa using h1
    · have hlt := (serialB_at hB ho).1 e he hb
      cases hc : listed.getD e.on false
      · have hm : e.on ∈ left ops listed := by
          unfold left
          rw [List.mem_filter, List.mem_range]
          exact ⟨by omega, by simp [hc]⟩
        have hp : (left ops listed).Pairwise (· < ·) := List.Pairwise.filter _ List.pairwise_lt_range
        rw [hl] at hm hp
        rw [List.pairwise_cons] at hp
        rcases List.mem_cons.1 hm with h | h
        · omega
        · have := hp.1 _ h; omega
      · rfl
  intro fuel
  induction fuel with
  | zero =>
    intro listed a w hd hs hl h
    have hnil := List.eq_nil_of_length_eq_zero hl
    rw [hnil] at h
    refine ⟨?_, h⟩
    cases hr : Region.ready .any ops listed with
    | nil => rfl
    | cons i r =>
      have hi : i ∈ Region.ready .any ops listed := by rw [hr]; simp
      rw [mem_ready] at hi
      obtain ⟨h0, o, ho, _⟩ := hi
      have hm : i ∈ left ops listed := by
        unfold left
        rw [List.mem_filter, List.mem_range]
        have hlt := (Array.getElem?_eq_some_iff.1 ho).1
        refine ⟨hlt, ?_⟩
        rw [Array.getD_eq_getD_getElem?, Array.getElem?_eq_getElem (by omega)] at h0 ⊢
        simpa using h0
      rw [hnil] at hm
      cases hm
  | succ fuel ih =>
    intro listed a w hd hs hl h
    refine ⟨fun hr => ?_, fun i hi => ?_⟩
    · cases hl2 : left ops listed with
      | nil => rw [hl2] at hl; simp at hl
      | cons i r =>
        have := hready listed hd hs i r hl2
        rw [hr] at this
        cases this
    · rw [mem_ready] at hi
      obtain ⟨h0, o, ho, hall⟩ := hi
      have hlt := (Array.getElem?_eq_some_iff.1 ho).1
      have hm : i ∈ left ops listed := by
        unfold left
        rw [List.mem_filter, List.mem_range]
        refine ⟨hlt, ?_⟩
        rw [Array.getD_eq_getD_getElem?, Array.getElem?_eq_getElem (by omega)] at h0 ⊢
        simpa using h0
      obtain ⟨s, t, hst⟩ := List.append_of_mem hm
      obtain ⟨hset, hbefore⟩ := left_set (ops := ops) hs hst
      rw [hst] at h
      have hf := wpSeq_front ho hsel t s a w (fun k hk => by
        have hki := hbefore k hk
        have hkl : listed.getD k false = false := by
          have : k ∈ left ops listed := by rw [hst]; simp [hk]
          unfold left at this
          rw [List.mem_filter] at this
          simpa using this.2
        rcases (serialB_at hB ho).2 k hki with ⟨hb, _⟩ | ⟨_, h⟩
        · have := ahead_listed hB hd i i o (Nat.le_refl _) ho hall k hki hb
          rw [hkl] at this
          cases this
        · exact h) h
      refine wpOp_mono (fun a' w' hh => ih _ a' w' ?_ (by simpa using hs) ?_ (by rw [hset]; exact hh)) hf
      · intro j oj hj hlj e he hb
        by_cases hji : i = j
        · subst hji
          rw [ho] at hj
          injection hj with hj
          subst hj
          exact getD_set_true (hall e he hb)
        · rw [getD_set_ne false hji] at hlj
          exact getD_set_true (hd j oj hj hlj e he hb)
      · rw [hset]
        rw [hst] at hl
        simp at hl ⊢
        omega

theorem wpSeq_list : ∀ (l : List Oper) (k : Nat) (a : Act) (w : World), (∀ j, l[j]? = ops[k + j]?) → wpList P ops (Only Q) l a w → wpSeq P ops Q (Q .normal) (List.range' k l.length) a w
  | [], k, a, w, _, h => h
  | o :: l, k, a, w, hl, h => by
    have h0 : ops[k]? = some o := by simpa using (hl 0).symm
    rw [List.length_cons, List.range'_succ]
    unfold wpSeq wpOp
    simp only [h0]
    unfold wpList at h
    have hm : ∀ a w, wpList P ops (Only Q) l a w → wpSeq P ops Q (Q .normal) (List.range' (k + 1) l.length) a w := fun a w h =>
      wpSeq_list l (k + 1) a w (fun j => by have := hl (j + 1); simpa [Nat.add_assoc, Nat.add_comm 1 j] using this) h
    split at h
    · rename_i hw
      rw [if_pos hw]
      exact h.imp (Oper.wp_mono hm) id
    · rename_i hw
      rw [if_neg hw]
      exact hm _ _ h

/-- THE WALK IN THE ORDER OF THE TEXT SERVES EVERY ORDER. -/
theorem wp_region_serial {id : Nat} {l : List Oper} {a : Act} {w : World} (B : Array Nat) (hm : P.follows .mixedOrders = true) (hB : serialB P l.toArray B = true)
    (h : wpList P l.toArray (Only Q) l a w.drew) : (Code.region id l.toArray true).wp P Q a w := by
  refine Code.wp_mono Only.imp (wp_region_any hm ?_)
  have hleft : left l.toArray (Array.replicate l.toArray.size false) = List.range l.length := by
    unfold left
    rw [List.filter_eq_self.2 fun k hk => by simp [Array.getD_eq_getD_getElem?, Array.getElem?_replicate]; split <;> simp]
    simp
  refine serial_any hB _ _ _ _ ?_ (by simp) (by rw [hleft]; simp) ?_
  · intro i o ho hl
    simp [Array.getD_eq_getD_getElem?, Array.getElem?_replicate] at hl
    split at hl <;> simp at hl
  · rw [hleft, List.range_eq_range']
    exact wpSeq_list l 0 a _ (fun j => by simp) h

theorem wp_region_text {id : Nat} {l : List Oper} {a : Act} {w : World} (hm : P.follows .mixedOrders = true) (hB : serialB P l.toArray (Region.before l.toArray) = true)
    (h : wpList P l.toArray (Only Q) l a w.drew) : (Code.region id l.toArray true).wp P Q a w := wp_region_serial _ hm hB h
theorem Only.normal {a : Act} {w : World} (h : Q .normal a w) : Only Q .normal a w := h
end
end Go.Proofs.Ytggibiodeecljaa
namespace Go.Proofs.Ytggibiodeecljaa
open Go.RowKit

/-- It leaves the world as it is, and with a block more it yields the same. -/
def UpS {α : Type} (P : Program) (s : Sem α) : Prop := ∀ w v w', s.run P w = .ok v w' → w' = w ∧ ∀ o, s.run P (w.alloc o) = .ok v (w.alloc o)
/-- It makes a block, and turns nothing else. -/
def NewS {α : Type} (P : Program) (s : Sem α) : Prop := ∀ w v w', s.run P w = .ok v w' → ∃ o, w' = w.alloc o

section
variable {α β : Type} {P : Program}
theorem StillS.up {s : Sem α} (h : StillS P s) : UpS P s := fun w v w' hh => by
  obtain ⟨h1, h2⟩ := h w v w' hh
  exact ⟨h1, fun o => h2 _⟩
theorem UpS.bind {s : Sem α} {f : α → Sem β} (hs : UpS P s) (hf : ∀ x, UpS P (f x)) : UpS P (s >>= f) := fun w v w' h => by
  rw [Sem.run_bind] at h
  cases h1 : s.run P w with
  | halt x y => rw [h1] at h; simp [Result.andThen] at h
  | ok x y =>
    rw [h1] at h
    simp only [Result.andThen_ok] at h
    obtain ⟨rfl, h2⟩ := hs w x y h1
    obtain ⟨rfl, h3⟩ := hf x _ v w' h
    exact ⟨rfl, fun o => by rw [Sem.run_bind, h2 o, Result.andThen_ok, h3 o]⟩
theorem heap_up {w : World} {i : Nat} {x : Obj} (h : w.heap[i]? = some x) (o : Obj) : (w.alloc o).heap[i]? = some x :=
  (Below.heap_alloc w o i (Array.getElem?_eq_some_iff.1 h).1).trans h
theorem seen_up {w : World} {p : Program} {at_ : Addr} {u : TypeId} {k : Addr} {m : Bool} {r} (h : w.seen p at_ u k m = .ok r) (o : Obj) : (w.alloc o).seen p at_ u k m = .ok r := by
  by_cases hb : at_.block < w.heap.size
  · have e : (w.alloc o).heap[at_.block]? = w.heap[at_.block]? := Below.heap_alloc w o _ hb
    unfold World.seen at h ⊢
    rw [e]
    exact h
  · exfalso
    have e : w.heap[at_.block]? = none := Array.getElem?_eq_none (by omega)
    unfold World.seen at h
    rw [e] at h
    simp only [bind, Except.bind] at h
    repeat' split at h
    all_goals first | (cases h; done) | skip
theorem farLoad_up {w : World} {p : Program} {a : Addr} {m : Bool} {r} (h : w.farLoad p a m = .ok r) (o : Obj) : (w.alloc o).cell? a = none ∧ (w.alloc o).farLoad p a m = .ok r := by
  unfold World.farLoad at h
  split at h
  · rename_i at_ u hv
    have hv2 := heap_up hv o
    refine ⟨by unfold World.cell?; rw [hv2], ?_⟩
    unfold World.farLoad
    rw [hv2]
    simp only
    split at h
    · rename_i r2 hr
      injection h with h
      subst h
      unfold World.viewLoad at hr ⊢
      simp only [bind, Except.bind] at hr ⊢
      split at hr
      · cases hr
      · rename_i x hx
        rw [seen_up hx o]
        simp only
        rw [hr]
    · cases h
  · cases h
theorem UpS.load (a : Addr) (m : Mode) : UpS P (Go.load a m) := by
  intro w v w' h
  unfold Go.load at h ⊢
  rw [Sem.run] at h
  cases hc : w.cell? a with
  | some x =>
    rw [hc] at h
    simp only [Sem.run] at h
    injection h with h1 h2
    subst h1 h2
    refine ⟨rfl, fun o => ?_⟩
    rw [Sem.run, World.cell?_alloc_some w a o (by rw [hc]; rfl), hc]
    rfl
  | none =>
    rw [hc] at h
    simp only at h
    split at h
    · rename_i x y hf
      simp only [Sem.run] at h
      injection h with h1 h2
      subst h1 h2
      refine ⟨rfl, fun o => ?_⟩
      obtain ⟨e1, e2⟩ := farLoad_up hf o
      rw [Sem.run, e1]
      simp only
      rw [e2]
      rfl
    · cases h
theorem UpS.cells (a : Addr) : ∀ (n i : Nat) (acc : Array Value), UpS P (loadCellsFrom a i n acc)
  | 0, _, _ => (StillS.pure _).up
  | n + 1, i, acc => .bind (.load _ _) fun v => UpS.cells a n (i + 1) (acc.push v)
theorem UpS.loadVar (t : TypeId) (a : Addr) : UpS P (Go.loadVar t a) := by
  unfold Go.loadVar
  refine .bind (StillS.isAgg t).up fun b => ?_
  split
  · exact .bind (StillS.sizeOf t).up fun _ => .bind (.cells a _ _ _) fun _ => (StillS.pure _).up
  · exact .load _ _
theorem NewS.bind {s : Sem α} {f : α → Sem β} (hs : StillS P s) (hf : ∀ x, NewS P (f x)) : NewS P (s >>= f) := fun w v w' h => by
  rw [Sem.run_bind] at h
  cases h1 : s.run P w with
  | halt x y => rw [h1] at h; simp [Result.andThen] at h
  | ok x y =>
    rw [h1] at h
    simp only [Result.andThen_ok] at h
    obtain ⟨rfl, _⟩ := hs w x y h1
    exact hf x _ v w' h
theorem NewS.after {s : Sem α} {f : α → Sem β} (hs : NewS P s) (hf : ∀ x, StillS P (f x)) : NewS P (s >>= f) := fun w v w' h => by
  rw [Sem.run_bind] at h
  cases h1 : s.run P w with
  | halt x y => rw [h1] at h; simp [Result.andThen] at h
  | ok x y =>
    rw [h1] at h
    simp only [Result.andThen_ok] at h
    obtain ⟨o, rfl⟩ := hs w x y h1
    obtain ⟨rfl, _⟩ := hf x _ v w' h
    exact ⟨o, rfl⟩
theorem NewS.halt (h : Halt) : NewS P (Sem.halt h : Sem α) := fun w v w' hh => by simp at hh
theorem NewS.row (e : TypeId) (cs : Array Value) : NewS P (newRow e cs) := by
  intro w v w' h
  unfold newRow newObj at h
  simp [Sem.run] at h
  exact ⟨_, h.2.symm⟩
theorem StillS.zeroValue (t : TypeId) : StillS P (Go.zeroValue t) := by
  unfold Go.zeroValue
  refine .bind (.typeInfo t) fun i => ?_
  split
  · exact .pure _
  · first | exact .halt _ | exact .stuck _ | exact .unsupported _
theorem NewS.buildSlice (t : TypeId) (len : Nat) (parts : Array (Nat × Value)) : NewS P (Instr.buildSlice t len parts) := by
  unfold Instr.buildSlice
  refine .bind (.underlying t) fun x => ?_
  split
  · rename_i elem
    refine .bind (.sizeOf _) fun size => ?_
    dsimp only
    have tail : ∀ zero : Array Value, NewS P (match Instr.fill (fun i => some (i * size, size)) ((Array.range (len * size)).map fun x => zero[x % zero.size]!) parts.toList with
        | some cells => do
          let a ← newRow elem cells
          pure (Value.slice (some a) len len)
        | x => stuck "buildSlice: a part of the wrong size") := by
      intro zero
      split
      · exact .after (.row _ _) fun _ => .pure _
      · exact .halt _
    split
    · refine .bind (.unsupported _) fun _ => ?_
      split
      · exact .bind (.pure _) tail
      · exact .bind (.zeroValue _) fun _ => .bind (.pure _) tail
    · split
      · exact .bind (.pure _) tail
      · exact .bind (.zeroValue _) fun _ => .bind (.pure _) tail
  · exact .halt _

theorem NewS.alloc (t : TypeId) : NewS P (Instr.alloc t true (.tuple #[])) := by
  unfold Instr.alloc
  refine .bind (.zeroValue _) fun z => ?_
  exact .after (.row _ _) fun _ => .pure _
def newOp : Op → Bool
  | .buildSlice .. => true
  | .alloc .. => true
  | _ => false
/-- A read, and what it reads with a block more. -/
theorem readOp_up {o : Oper} (h : readOp P o.op = true) (ρ : Operand → Value) (w : World) (n : Next) (w' : World) (hr : (execOp ρ o).run P w = .ok n w') : ∀ ob, (execOp ρ o).run P (w.alloc ob) = .ok n (w.alloc ob) := by
  by_cases hp : pureOp P o.op = true
  · obtain ⟨v, h1, h2, h3⟩ := pureOp_still hp ρ w n w' hr
    intro ob
    rw [h3, h1]
  · cases hop : o.op <;> rw [hop] at h hp <;> first | (exact absurd h hp) | skip
    case load t x =>
      simp only [execOp, hop] at hr ⊢
      have hu : UpS P (Instr.loadAt t (ρ x) >>= fun v => Pure.pure (Next.value v)) := .bind (.bind (StillS.sureAddr _).up fun _ => .loadVar _ _) fun _ => (StillS.pure _).up
      exact (hu w n w' hr).2
theorem newOp_new {o : Oper} (h : newOp o.op = true) (ρ : Operand → Value) (w : World) (n : Next) (w' : World) (hr : (execOp ρ o).run P w = .ok n w') : (∃ v, n = .value v) ∧ ∃ ob, w' = w.alloc ob := by
  cases hop : o.op <;> rw [hop] at h <;> first | (cases h; done) | skip
  case buildSlice t len parts =>
    simp only [execOp, hop] at hr
    rw [Sem.run_bind] at hr
    cases h1 : (Instr.buildSlice t len (parts.map fun (i, x) => (i, ρ x))).run P w with
    | halt q y => rw [h1] at hr; simp [Result.andThen] at hr
    | ok q y =>
      rw [h1] at hr
      simp only [Result.andThen_ok, Sem.run_pure] at hr
      injection hr with h2 h3
      obtain ⟨ob, hob⟩ := NewS.buildSlice _ _ _ w q y h1
      exact ⟨⟨q, h2.symm⟩, ob, by rw [← h3, hob]⟩

  case alloc t =>
    simp only [execOp, hop] at hr
    rw [Sem.run_bind] at hr
    cases h1 : (Instr.alloc t true (.tuple #[])).run P w with
    | halt q y => rw [h1] at hr; simp [Result.andThen] at hr
    | ok q y =>
      rw [h1] at hr
      simp only [Result.andThen_ok, Sem.run_pure] at hr
      injection hr with h2 h3
      obtain ⟨ob, hob⟩ := NewS.alloc _ w q y h1
      exact ⟨⟨q, h2.symm⟩, ob, by rw [← h3, hob]⟩

variable {ops : Array Oper} {Q : Exit → Act → World → Prop} {K : Act → World → Prop}
def commC (P : Program) (ops : Array Oper) (x y : Oper) : Bool := commB P ops x y || (x.apart ops y && y.apart ops x && readOp P x.op && newOp y.op)

theorem newOp_step {i : Nat} {o : Oper} (hi : ops[i]? = some o) (hr : newOp o.op = true) {a : Act} {w : World} (h : wpOp P ops (Only Q) i K a w) :
    (∃ v ob, K (a.put o.dst v) (w.alloc ob) ∧ Region.wanted o (yielded ops a.tmps) = true ∧ (execOp a.eval o).run P w = .ok (.value v) (w.alloc ob)) ∨ (K (a.put o.dst undef) w ∧ Region.wanted o (yielded ops a.tmps) = false) := by
  unfold wpOp at h
  simp only [hi] at h
  split at h
  · rename_i hw
    rcases h with h | ⟨_, h⟩
    · unfold Oper.wp at h
      cases hrun : (execOp a.eval o).run P w with
      | halt x y => rw [hrun] at h; cases x <;> simp [Oper.upon, Only] at h
      | ok n y =>
        obtain ⟨⟨v, rfl⟩, ob, rfl⟩ := newOp_new hr _ _ _ _ hrun
        rw [hrun] at h
        exact .inl ⟨v, ob, h, hw, rfl⟩
    · exact absurd h Only.lets
  · rename_i hw
    exact .inr ⟨h, by simpa using hw⟩

theorem swapC {i j : Nat} {oi oj : Oper} (hi : ops[i]? = some oi) (hj : ops[j]? = some oj) (hc : commC P ops oi oj = true) (hsi : ∀ cs b, oi.op ≠ .select cs b) (hsj : ∀ cs b, oj.op ≠ .select cs b) {a : Act} {w : World}
    (h : wpOp P ops (Only Q) i (wpOp P ops (Only Q) j K) a w) : wpOp P ops (Only Q) j (wpOp P ops (Only Q) i K) a w := by
  simp only [commC, Bool.or_eq_true, Bool.and_eq_true] at hc
  rcases hc with hc | ⟨⟨⟨ha, hb⟩, hc1⟩, hc2⟩
  · exact swap hi hj hc hsi hsj h
  · obtain ⟨h1, h2, h3⟩ := Oper.apart_spec ha
    obtain ⟨v, hk, hv⟩ := readOp_step hi hc1 h
    rcases newOp_step hj hc2 hk with ⟨u, ob, hk2, hw2, hr2⟩ | ⟨hk2, hw2⟩
    · rw [wanted_put oj a oi.dst v h1] at hw2
      rw [execOp_put oj hsj a oi.dst v h1] at hr2
      unfold wpOp
      simp only [hj]
      rw [if_pos hw2]
      refine .inl ?_
      unfold Oper.wp
      rw [hr2]
      show wpOp P ops (Only Q) i K (a.put oj.dst u) (w.alloc ob)
      refine readOp_mk hi (v := v) ?_ ?_
      · rw [wanted_put oi a oj.dst u h3, execOp_put oi hsi a oj.dst u h3]
        rcases hv with ⟨g1, g2⟩ | g
        · exact .inl ⟨g1, readOp_up hc1 _ _ _ _ g2 ob⟩
        · exact .inr g
      · rw [← Act.put_comm a v u h2]
        exact hk2
    · rw [wanted_put oj a oi.dst v h1] at hw2
      unfold wpOp
      simp only [hj]
      rw [if_neg (by simp [hw2])]
      refine readOp_mk hi (v := v) ?_ ?_
      · rw [wanted_put oi a oj.dst undef h3, execOp_put oi hsi a oj.dst undef h3]
        exact hv
      · rw [← Act.put_comm a v undef h2]
        exact hk2

theorem wpSeq_frontC {i : Nat} {oi : Oper} (hi : ops[i]? = some oi) (hsel : ∀ (j : Nat) (o : Oper) cs b, ops[j]? = some o → o.op ≠ .select cs b) (post : List Nat) : ∀ (pre : List Nat) (a : Act) (w : World),
    (∀ k ∈ pre, ∃ ok, ops[k]? = some ok ∧ commC P ops ok oi = true) → wpSeq P ops Q K (pre ++ i :: post) a w → wpOp P ops (Only Q) i (wpSeq P ops Q K (pre ++ post)) a w
  | [], a, w, _, h => h
  | k :: pre, a, w, hp, h => by
    obtain ⟨ok, hk, hc⟩ := hp k (by simp)
    have h1 : wpOp P ops (Only Q) k (wpOp P ops (Only Q) i (wpSeq P ops Q K (pre ++ post))) a w :=
      wpOp_mono (fun a' w' hh => wpSeq_frontC hi hsel post pre a' w' (fun k' hk' => hp k' (by simp [hk'])) hh) h
    exact swapC hk hi hc (hsel k ok · · hk) (hsel i oi · · hi) h1

/-- The table B holds, of each operation, (some of) those that its edges put ahead of it; the others ahead of it in the text may change places with it. -/
def serialC (P : Program) (ops : Array Oper) (B : Array Nat) : Bool :=
  Region.noSelect ops && (List.range ops.size).all fun i => match ops[i]? with
    | none => true
    | some o => (o.after.all fun e => !Region.binds .any e || decide (e.on < i)) && (List.range i).all fun k =>
      if (B.getD i 0).testBit k then o.after.any fun e => Region.binds .any e && decide (e.on < i) && (e.on == k || (decide (k < e.on) && (B.getD e.on 0).testBit k))
      else match ops[k]? with | none => false | some ok => commC P ops ok o

theorem serialC_at {B : Array Nat} (hB : serialC P ops B = true) {i : Nat} {o : Oper} (hi : ops[i]? = some o) : (∀ e ∈ o.after, Region.binds .any e = true → e.on < i) ∧ ∀ k, k < i →
    ((B.getD i 0).testBit k = true ∧ ∃ e ∈ o.after, Region.binds .any e = true ∧ e.on < i ∧ (e.on = k ∨ (k < e.on ∧ (B.getD e.on 0).testBit k = true))) ∨ ((B.getD i 0).testBit k = false ∧ ∃ ok, ops[k]? = some ok ∧ commC P ops ok o = true) := by
  have hlt := (Array.getElem?_eq_some_iff.1 hi).1
  simp only [serialC, Bool.and_eq_true, List.all_eq_true, List.mem_range] at hB
  have h := hB.2 i hlt
  rw [hi] at h
  simp only [Bool.and_eq_true, List.all_eq_true, List.mem_range, Array.all_eq_true_iff_forall_mem] at h
  refine ⟨fun e he hb => by have := h.1 e he; simpa [hb] using this, fun k hk => ?_⟩
  have h2 := h.2 k hk
  split at h2
  · rename_i hb
    rw [Array.any_eq_true'] at h2
    obtain ⟨e, he, h3⟩ := h2
    simp only [Bool.and_eq_true, Bool.or_eq_true, decide_eq_true_eq, beq_iff_eq] at h3
    exact .inl ⟨hb, e, he, h3.1.1, h3.1.2, h3.2⟩
  · rename_i hb
    cases hk2 : ops[k]? with
    | none => rw [hk2] at h2; cases h2
    | some ok => rw [hk2] at h2; exact .inr ⟨by simpa using hb, ok, rfl, h2⟩

theorem ahead_listedC {B : Array Nat} (hB : serialC P ops B = true) {listed : Array Bool} (hd : Down ops listed) : ∀ (n i : Nat) (o : Oper), i ≤ n → ops[i]? = some o → (∀ e ∈ o.after, Region.binds .any e = true → listed.getD e.on false = true) →
    ∀ k, k < i → (B.getD i 0).testBit k = true → listed.getD k false = true
  | 0, i, o, hn, _, _, k, hk, _ => by omega
  | n + 1, i, o, hn, hi, hall, k, hk, hb => by
    rcases (serialC_at hB hi).2 k hk with ⟨_, e, he, hbi, hlt, h⟩ | ⟨hf, _⟩
    · rcases h with rfl | ⟨hk2, hb2⟩
      · exact hall e he hbi
      · have hon : ∃ o2, ops[e.on]? = some o2 := ⟨_, Array.getElem?_eq_getElem (by have := (Array.getElem?_eq_some_iff.1 hi).1; omega)⟩
        obtain ⟨o2, ho2⟩ := hon
        exact ahead_listedC hB hd n e.on o2 (by omega) ho2 (hd e.on o2 ho2 (hall e he hbi)) k hk2 hb2
    · rw [hb] at hf; cases hf

theorem serial_anyC {B : Array Nat} (hB : serialC P ops B = true) : ∀ (fuel : Nat) (listed : Array Bool) (a : Act) (w : World), Down ops listed → listed.size = ops.size → (left ops listed).length = fuel →
    wpSeq P ops Q (Q .normal) (left ops listed) a w → wpAny P .any ops (Only Q) fuel listed a w := by
  have hsel : ∀ (j : Nat) (o : Oper) cs b, ops[j]? = some o → o.op ≠ .select cs b := by
    intro j o cs b ho
    have : Region.noSelect ops = true := by simp only [serialC, Bool.and_eq_true] at hB; exact hB.1
    exact Region.noSelect_spec this j o cs b ho
  have hready : ∀ (listed : Array Bool), Down ops listed → listed.size = ops.size → ∀ i r, left ops listed = i :: r → i ∈ Region.ready .any ops listed := by
    intro listed hd hs i r hl
    have hi : i ∈ left ops listed := by rw [hl]; simp
    have hmin := (left_set (ops := ops) hs (s := []) (t := r) hl)
    unfold left at hi
    rw [List.mem_filter, List.mem_range] at hi
    rw [mem_ready]
    obtain ⟨o, ho⟩ : ∃ o, ops[i]? = some o := ⟨_, Array.getElem?_eq_getElem hi.1⟩
    refine ⟨?_, o, ho, fun e he hb => ?_⟩
    · have h1 := hi.2
      rw [Array.getD_eq_getD_getElem?, Array.getElem?_eq_getElem (by omega)] at h1 ⊢
      simpa using h1
    · have hlt := (serialC_at hB ho).1 e he hb
      cases hc : listed.getD e.on false
      · have hm : e.on ∈ left ops listed := by
          unfold left
          rw [List.mem_filter, List.mem_range]
          exact ⟨by omega, by simp [hc]⟩
        have hp : (left ops listed).Pairwise (· < ·) := List.Pairwise.filter _ List.pairwise_lt_range
        rw [hl] at hm hp
        rw [List.pairwise_cons] at hp
        rcases List.mem_cons.1 hm with h | h
        · omega
        · have := hp.1 _ h; omega
      · rfl
  intro fuel
  induction fuel with
  | zero =>
    intro listed a w hd hs hl h
    have hnil := List.eq_nil_of_length_eq_zero hl
    rw [hnil] at h
    refine ⟨?_, h⟩
    cases hr : Region.ready .any ops listed with
    | nil => rfl
    | cons i r =>
      have hi : i ∈ Region.ready .any ops listed := by rw [hr]; simp
      rw [mem_ready] at hi
      obtain ⟨h0, o, ho, _⟩ := hi
      have hm : i ∈ left ops listed := by
        unfold left
        rw [List.mem_filter, List.mem_range]
        have hlt := (Array.getElem?_eq_some_iff.1 ho).1
        refine ⟨hlt, ?_⟩
        rw [Array.getD_eq_getD_getElem?, Array.getElem?_eq_getElem (by omega)] at h0 ⊢
        simpa using h0
      rw [hnil] at hm
      cases hm
  | succ fuel ih =>
    intro listed a w hd hs hl h
    refine ⟨fun hr => ?_, fun i hi => ?_⟩
    · cases hl2 : left ops listed with
      | nil => rw [hl2] at hl; simp at hl
      | cons i r =>
        have := hready listed hd hs i r hl2
        rw [hr] at this
        cases this
    · rw [mem_ready] at hi
      obtain ⟨h0, o, ho, hall⟩ := hi
      have hlt := (Array.getElem?_eq_some_iff.1 ho).1
      have hm : i ∈ left ops listed := by
        unfold left
        rw [List.mem_filter, List.mem_range]
        refine ⟨hlt, ?_⟩
        rw [Array.getD_eq_getD_getElem?, Array.getElem?_eq_getElem (by omega)] at h0 ⊢
        simpa using h0
      obtain ⟨s, t, hst⟩ := List.append_of_mem hm
      obtain ⟨hset, hbefore⟩ := left_set (ops := ops) hs hst
      rw [hst] at h
      have hf := wpSeq_frontC ho hsel t s a w (fun k hk => by
        have hki := hbefore k hk
        have hkl : listed.getD k false = false := by
          have : k ∈ left ops listed := by rw [hst]; simp [hk]
          unfold left at this
          rw [List.mem_filter] at this
          simpa using this.2
        rcases (serialC_at hB ho).2 k hki with ⟨hb, _⟩ | ⟨_, h⟩
        · have := ahead_listedC hB hd i i o (Nat.le_refl _) ho hall k hki hb
          rw [hkl] at this
          cases this
        · exact h) h
      refine wpOp_mono (fun a' w' hh => ih _ a' w' ?_ (by simpa using hs) ?_ (by rw [hset]; exact hh)) hf
      · intro j oj hj hlj e he hb
        by_cases hji : i = j
        · subst hji
          rw [ho] at hj
          injection hj with hj
          subst hj
          exact getD_set_true (hall e he hb)
        · rw [getD_set_ne false hji] at hlj
          exact getD_set_true (hd j oj hj hlj e he hb)
      · rw [hset]
        rw [hst] at hl
        simp at hl ⊢
        omega

/-- THE WALK IN THE ORDER OF THE TEXT SERVES EVERY ORDER. -/
theorem wp_region_serialC {id : Nat} {l : List Oper} {a : Act} {w : World} (B : Array Nat) (hm : P.follows .mixedOrders = true) (hB : serialC P l.toArray B = true)
    (h : wpList P l.toArray (Only Q) l a w.drew) : (Code.region id l.toArray true).wp P Q a w := by
  refine Code.wp_mono Only.imp (wp_region_any hm ?_)
  have hleft : left l.toArray (Array.replicate l.toArray.size false) = List.range l.length := by
    unfold left
    rw [List.filter_eq_self.2 fun k hk => by simp [Array.getD_eq_getD_getElem?, Array.getElem?_replicate]; split <;> simp]
    simp
  refine serial_anyC hB _ _ _ _ ?_ (by simp) (by rw [hleft]; simp) ?_
  · intro i o ho hl
    simp [Array.getD_eq_getD_getElem?, Array.getElem?_replicate] at hl
    split at hl <;> simp at hl
  · rw [hleft, List.range_eq_range']
    exact wpSeq_list l 0 a _ (fun j => by simp) h

theorem wp_region_text2 {id : Nat} {l : List Oper} {a : Act} {w : World} (hm : P.follows .mixedOrders = true) (hB : serialC P l.toArray (Region.before l.toArray) = true)
    (h : wpList P l.toArray (Only Q) l a w.drew) : (Code.region id l.toArray true).wp P Q a w := wp_region_serialC _ hm hB h
end
end Go.Proofs.Ytggibiodeecljaa
namespace Go.Proofs.Ytggibiodeecljaa
open Go.RowKit

section
variable {α β : Type} {P : Program}
theorem ReadS.pure (v : α) : ReadS P (Pure.pure v : Sem α) := (StillS.pure v).read
theorem ReadS.mapL {f : α → Sem β} (hf : ∀ x, ReadS P (f x)) : ∀ l : List α, ReadS P (l.mapM f)
  | [] => by rw [List.mapM_nil]; exact .pure _
  | x :: r => by
    rw [List.mapM_cons]
    exact .bind (hf x) fun _ => .bind (ReadS.mapL hf r) fun _ => .pure _
theorem ReadS.mapA {f : α → Sem β} (hf : ∀ x, ReadS P (f x)) (l : Array α) : ReadS P (l.mapM f) := by
  rw [Array.mapM_eq_mapM_toList, map_eq_pure_bind]
  exact .bind (ReadS.mapL hf _) fun _ => .pure _
theorem ReadS.build (t : TypeId) (parts : Array (Nat × Value)) : ReadS P (Instr.build t parts) := by
  unfold Instr.build
  refine .bind (StillS.zeroValue t).read fun z => .bind (StillS.underlying t).read fun u => ?_
  split
  · refine .bind (.mapA (fun x => .bind (StillS.sizeOf _).read fun _ => .pure _) _) fun x => ?_
    split
    · exact .pure _
    · exact (StillS.stuck _).read
  · refine .bind (StillS.sizeOf _).read fun x => ?_
    split
    · exact .pure _
    · exact (StillS.stuck _).read
  · exact (StillS.stuck _).read

def readQ (P : Program) : Op → Bool
  | .build .. => true
  | o => readOp P o
theorem readQ_read {o : Oper} (h : readQ P o.op = true) (ρ : Operand → Value) (w : World) (n : Next) (w' : World) (hr : (execOp ρ o).run P w = .ok n w') : (∃ v, n = .value v) ∧ w' = w := by
  by_cases hp : readOp P o.op = true
  · exact readOp_read hp ρ w n w' hr
  · cases hop : o.op <;> rw [hop] at h hp <;> first | (exact absurd h hp) | skip
    case build t parts =>
      simp only [execOp, hop] at hr
      rw [Sem.run_bind] at hr
      cases h1 : (Instr.build t (parts.map fun (i, x) => (i, ρ x))).run P w with
      | halt q y => rw [h1] at hr; simp [Result.andThen] at hr
      | ok q y =>
        rw [h1] at hr
        simp only [Result.andThen_ok, Sem.run_pure] at hr
        injection hr with h2 h3
        exact ⟨⟨q, h2.symm⟩, h3.symm.trans (ReadS.build _ _ w q y h1)⟩

variable {ops : Array Oper} {Q : Exit → Act → World → Prop} {K : Act → World → Prop}
def commD (P : Program) (ops : Array Oper) (x y : Oper) : Bool := commC P ops x y || (x.apart ops y && y.apart ops x && readQ P x.op && readQ P y.op)

theorem readQ_step {i : Nat} {o : Oper} (hi : ops[i]? = some o) (hr : readQ P o.op = true) {a : Act} {w : World} (h : wpOp P ops (Only Q) i K a w) :
    ∃ v, K (a.put o.dst v) w ∧ ((Region.wanted o (yielded ops a.tmps) = true ∧ (execOp a.eval o).run P w = .ok (.value v) w) ∨ (Region.wanted o (yielded ops a.tmps) = false ∧ v = undef)) := by
  unfold wpOp at h
  simp only [hi] at h
  split at h
  · rename_i hw
    rcases h with h | ⟨_, h⟩
    · unfold Oper.wp at h
      cases hrun : (execOp a.eval o).run P w with
      | halt x y => rw [hrun] at h; cases x <;> simp [Oper.upon, Only] at h
      | ok n y =>
        obtain ⟨⟨v, rfl⟩, rfl⟩ := readQ_read hr _ _ _ _ hrun
        rw [hrun] at h
        exact ⟨v, h, .inl ⟨hw, rfl⟩⟩
    · exact absurd h Only.lets
  · rename_i hw
    exact ⟨undef, h, .inr ⟨by simpa using hw, rfl⟩⟩

theorem swapD {i j : Nat} {oi oj : Oper} (hi : ops[i]? = some oi) (hj : ops[j]? = some oj) (hc : commD P ops oi oj = true) (hsi : ∀ cs b, oi.op ≠ .select cs b) (hsj : ∀ cs b, oj.op ≠ .select cs b) {a : Act} {w : World}
    (h : wpOp P ops (Only Q) i (wpOp P ops (Only Q) j K) a w) : wpOp P ops (Only Q) j (wpOp P ops (Only Q) i K) a w := by
  simp only [commD, Bool.or_eq_true, Bool.and_eq_true] at hc
  rcases hc with hc | ⟨⟨⟨ha, hb⟩, hc1⟩, hc2⟩
  · exact swapC hi hj hc hsi hsj h
  · obtain ⟨v, hk, hv⟩ := readQ_step hi hc1 h
    obtain ⟨u, hk2, hu⟩ := readQ_step hj hc2 hk
    obtain ⟨h1, h2, h3⟩ := Oper.apart_spec ha
    rw [wanted_put oj a oi.dst v h1, execOp_put oj hsj a oi.dst v h1] at hu
    refine readOp_mk hj hu ?_
    refine readOp_mk hi (v := v) ?_ ?_
    · rw [wanted_put oi a oj.dst u h3, execOp_put oi hsi a oj.dst u h3]
      exact hv
    · rw [← Act.put_comm a v u h2]
      exact hk2

theorem wpSeq_frontD {i : Nat} {oi : Oper} (hi : ops[i]? = some oi) (hsel : ∀ (j : Nat) (o : Oper) cs b, ops[j]? = some o → o.op ≠ .select cs b) (post : List Nat) : ∀ (pre : List Nat) (a : Act) (w : World),
    (∀ k ∈ pre, ∃ ok, ops[k]? = some ok ∧ commD P ops ok oi = true) → wpSeq P ops Q K (pre ++ i :: post) a w → wpOp P ops (Only Q) i (wpSeq P ops Q K (pre ++ post)) a w
  | [], a, w, _, h => h
  | k :: pre, a, w, hp, h => by
    obtain ⟨ok, hk, hc⟩ := hp k (by simp)
    have h1 : wpOp P ops (Only Q) k (wpOp P ops (Only Q) i (wpSeq P ops Q K (pre ++ post))) a w :=
      wpOp_mono (fun a' w' hh => wpSeq_frontD hi hsel post pre a' w' (fun k' hk' => hp k' (by simp [hk'])) hh) h
    exact swapD hk hi hc (hsel k ok · · hk) (hsel i oi · · hi) h1

/-- The table B holds, of each operation, (some of) those that its edges put ahead of it; the others ahead of it in the text may change places with it. -/
def serialD (P : Program) (ops : Array Oper) (B : Array Nat) : Bool :=
  Region.noSelect ops && (List.range ops.size).all fun i => match ops[i]? with
    | none => true
    | some o => (o.after.all fun e => !Region.binds .any e || decide (e.on < i)) && (List.range i).all fun k =>
      if (B.getD i 0).testBit k then o.after.any fun e => Region.binds .any e && decide (e.on < i) && (e.on == k || (decide (k < e.on) && (B.getD e.on 0).testBit k))
      else match ops[k]? with | none => false | some ok => commD P ops ok o

theorem serialD_at {B : Array Nat} (hB : serialD P ops B = true) {i : Nat} {o : Oper} (hi : ops[i]? = some o) : (∀ e ∈ o.after, Region.binds .any e = true → e.on < i) ∧ ∀ k, k < i →
    ((B.getD i 0).testBit k = true ∧ ∃ e ∈ o.after, Region.binds .any e = true ∧ e.on < i ∧ (e.on = k ∨ (k < e.on ∧ (B.getD e.on 0).testBit k = true))) ∨ ((B.getD i 0).testBit k = false ∧ ∃ ok, ops[k]? = some ok ∧ commD P ops ok o = true) := by
  have hlt := (Array.getElem?_eq_some_iff.1 hi).1
  simp only [serialD, Bool.and_eq_true, List.all_eq_true, List.mem_range] at hB
  have h := hB.2 i hlt
  rw [hi] at h
  simp only [Bool.and_eq_true, List.all_eq_true, List.mem_range, Array.all_eq_true_iff_forall_mem] at h
  refine ⟨fun e he hb => by have := h.1 e he; simpa [hb] using this, fun k hk => ?_⟩
  have h2 := h.2 k hk
  split at h2
  · rename_i hb
    rw [Array.any_eq_true'] at h2
    obtain ⟨e, he, h3⟩ := h2
    simp only [Bool.and_eq_true, Bool.or_eq_true, decide_eq_true_eq, beq_iff_eq] at h3
    exact .inl ⟨hb, e, he, h3.1.1, h3.1.2, h3.2⟩
  · rename_i hb
    cases hk2 : ops[k]? with
    | none => rw [hk2] at h2; cases h2
    | some ok => rw [hk2] at h2; exact .inr ⟨by simpa using hb, ok, rfl, h2⟩

theorem ahead_listedD {B : Array Nat} (hB : serialD P ops B = true) {listed : Array Bool} (hd : Down ops listed) : ∀ (n i : Nat) (o : Oper), i ≤ n → ops[i]? = some o → (∀ e ∈ o.after, Region.binds .any e = true → listed.getD e.on false = true) →
    ∀ k, k < i → (B.getD i 0).testBit k = true → listed.getD k false = true
  | 0, i, o, hn, _, _, k, hk, _ => by omega
  | n + 1, i, o, hn, hi, hall, k, hk, hb => by
    rcases (serialD_at hB hi).2 k hk with ⟨_, e, he, hbi, hlt, h⟩ | ⟨hf, _⟩
    · rcases h with rfl | ⟨hk2, hb2⟩
      · exact hall e he hbi
      · have hon : ∃ o2, ops[e.on]? = some o2 := ⟨_, Array.getElem?_eq_getElem (by have := (Array.getElem?_eq_some_iff.1 hi).1; omega)⟩
        obtain ⟨o2, ho2⟩ := hon
        exact ahead_listedD hB hd n e.on o2 (by omega) ho2 (hd e.on o2 ho2 (hall e he hbi)) k hk2 hb2
    · rw [hb] at hf; cases hf

theorem serial_anyD {B : Array Nat} (hB : serialD P ops B = true) : ∀ (fuel : Nat) (listed : Array Bool) (a : Act) (w : World), Down ops listed → listed.size = ops.size → (left ops listed).length = fuel →
    wpSeq P ops Q (Q .normal) (left ops listed) a w → wpAny P .any ops (Only Q) fuel listed a w := by
  have hsel : ∀ (j : Nat) (o : Oper) cs b, ops[j]? = some o → o.op ≠ .select cs b := by
    intro j o cs b ho
    have : Region.noSelect ops = true := by simp only [serialD, Bool.and_eq_true] at hB; exact hB.1
    exact Region.noSelect_spec this j o cs b ho
  have hready : ∀ (listed : Array Bool), Down ops listed → listed.size = ops.size → ∀ i r, left ops listed = i :: r → i ∈ Region.ready .any ops listed := by
    intro listed hd hs i r hl
    have hi : i ∈ left ops listed := by rw [hl]; simp
    have hmin := (left_set (ops := ops) hs (s := []) (t := r) hl)
    unfold left at hi
    rw [List.mem_filter, List.mem_range] at hi
    rw [mem_ready]
    obtain ⟨o, ho⟩ : ∃ o, ops[i]? = some o := ⟨_, Array.getElem?_eq_getElem hi.1⟩
    refine ⟨?_, o, ho, fun e he hb => ?_⟩
    · have h1 := hi.2
      rw [Array.getD_eq_getD_getElem?, Array.getElem?_eq_getElem (by omega)] at h1 ⊢
      simpa using h1
    · have hlt := (serialD_at hB ho).1 e he hb
      cases hc : listed.getD e.on false
      · have hm : e.on ∈ left ops listed := by
          unfold left
          rw [List.mem_filter, List.mem_range]
          exact ⟨by omega, by simp [hc]⟩
        have hp : (left ops listed).Pairwise (· < ·) := List.Pairwise.filter _ List.pairwise_lt_range
        rw [hl] at hm hp
        rw [List.pairwise_cons] at hp
        rcases List.mem_cons.1 hm with h | h
        · omega
        · have := hp.1 _ h; omega
      · rfl
  intro fuel
  induction fuel with
  | zero =>
    intro listed a w hd hs hl h
    have hnil := List.eq_nil_of_length_eq_zero hl
    rw [hnil] at h
    refine ⟨?_, h⟩
    cases hr : Region.ready .any ops listed with
    | nil => rfl
    | cons i r =>
      have hi : i ∈ Region.ready .any ops listed := by rw [hr]; simp
      rw [mem_ready] at hi
      obtain ⟨h0, o, ho, _⟩ := hi
      have hm : i ∈ left ops listed := by
        unfold left
        rw [List.mem_filter, List.mem_range]
        have hlt := (Array.getElem?_eq_some_iff.1 ho).1
        refine ⟨hlt, ?_⟩
        rw [Array.getD_eq_getD_getElem?, Array.getElem?_eq_getElem (by omega)] at h0 ⊢
        simpa using h0
      rw [hnil] at hm
      cases hm
  | succ fuel ih =>
    intro listed a w hd hs hl h
    refine ⟨fun hr => ?_, fun i hi => ?_⟩
    · cases hl2 : left ops listed with
      | nil => rw [hl2] at hl; simp at hl
      | cons i r =>
        have := hready listed hd hs i r hl2
        rw [hr] at this
        cases this
    · rw [mem_ready] at hi
      obtain ⟨h0, o, ho, hall⟩ := hi
      have hlt := (Array.getElem?_eq_some_iff.1 ho).1
      have hm : i ∈ left ops listed := by
        unfold left
        rw [List.mem_filter, List.mem_range]
        refine ⟨hlt, ?_⟩
        rw [Array.getD_eq_getD_getElem?, Array.getElem?_eq_getElem (by omega)] at h0 ⊢
        simpa using h0
      obtain ⟨s, t, hst⟩ := List.append_of_mem hm
      obtain ⟨hset, hbefore⟩ := left_set (ops := ops) hs hst
      rw [hst] at h
      have hf := wpSeq_frontD ho hsel t s a w (fun k hk => by
        have hki := hbefore k hk
        have hkl : listed.getD k false = false := by
          have : k ∈ left ops listed := by rw [hst]; simp [hk]
          unfold left at this
          rw [List.mem_filter] at this
          simpa using this.2
        rcases (serialD_at hB ho).2 k hki with ⟨hb, _⟩ | ⟨_, h⟩
        · have := ahead_listedD hB hd i i o (Nat.le_refl _) ho hall k hki hb
          rw [hkl] at this
          cases this
        · exact h) h
      refine wpOp_mono (fun a' w' hh => ih _ a' w' ?_ (by simpa using hs) ?_ (by rw [hset]; exact hh)) hf
      · intro j oj hj hlj e he hb
        by_cases hji : i = j
        · subst hji
          rw [ho] at hj
          injection hj with hj
          subst hj
          exact getD_set_true (hall e he hb)
        · rw [getD_set_ne false hji] at hlj
          exact getD_set_true (hd j oj hj hlj e he hb)
      · rw [hset]
        rw [hst] at hl
        simp at hl ⊢
        omega

/-- THE WALK IN THE ORDER OF THE TEXT SERVES EVERY ORDER. -/
theorem wp_region_serialD {id : Nat} {l : List Oper} {a : Act} {w : World} (B : Array Nat) (hm : P.follows .mixedOrders = true) (hB : serialD P l.toArray B = true)
    (h : wpList P l.toArray (Only Q) l a w.drew) : (Code.region id l.toArray true).wp P Q a w := by
  refine Code.wp_mono Only.imp (wp_region_any hm ?_)
  have hleft : left l.toArray (Array.replicate l.toArray.size false) = List.range l.length := by
    unfold left
    rw [List.filter_eq_self.2 fun k hk => by simp [Array.getD_eq_getD_getElem?, Array.getElem?_replicate]; split <;> simp]
    simp
  refine serial_anyD hB _ _ _ _ ?_ (by simp) (by rw [hleft]; simp) ?_
  · intro i o ho hl
    simp [Array.getD_eq_getD_getElem?, Array.getElem?_replicate] at hl
    split at hl <;> simp at hl
  · rw [hleft, List.range_eq_range']
    exact wpSeq_list l 0 a _ (fun j => by simp) h

theorem wp_region_text3 {id : Nat} {l : List Oper} {a : Act} {w : World} (hm : P.follows .mixedOrders = true) (hB : serialD P l.toArray (Region.before l.toArray) = true)
    (h : wpList P l.toArray (Only Q) l a w.drew) : (Code.region id l.toArray true).wp P Q a w := wp_region_serialD _ hm hB h
end
end Go.Proofs.Ytggibiodeecljaa
namespace Go.Proofs.Ytggibiodeecljaa

/-- So many trees further on, from a place on, in the list of the trees' sizes. -/
def adv (S : List (Option Nat)) : Nat → Nat → Option Nat
  | 0, p => some p
  | c + 1, p => match S[p]? with
    | some (some z) => adv S c (p + z)
    | _ => none
def sizes (len : Nat) : List Node → List (Option Nat)
  | [] => []
  | x :: r => (if x.kids < 0 ∨ x.kids > len then none else (adv (sizes len r) x.kids.toNat 0).map (· + 1)) :: sizes len r

theorem sizes_length (len : Nat) : ∀ l, (sizes len l).length = l.length
  | [] => rfl
  | x :: r => by simp [sizes, sizes_length len r]

theorem adv_cons (a : Option Nat) (S : List (Option Nat)) : ∀ c p, adv (a :: S) c (p + 1) = (adv S c p).map (· + 1)
  | 0, p => rfl
  | c + 1, p => by
    simp only [adv, List.getElem?_cons_succ]
    rcases S[p]? with _ | _ | z
    · rfl
    · rfl
    · simp only
      rw [show p + 1 + z = (p + z) + 1 by omega, adv_cons a S c]

theorem adv_add (S : List (Option Nat)) : ∀ a b p, adv S (a + b) p = (adv S a p).bind (adv S b)
  | 0, b, p => by simp [adv]
  | a + 1, b, p => by
    rw [show a + 1 + b = (a + b) + 1 by omega]
    simp only [adv]
    rcases S[p]? with _ | _ | z
    · rfl
    · rfl
    · simp only; rw [adv_add S a b]

theorem adv_drop (S : List (Option Nat)) (k : Nat) : ∀ c p, adv (S.drop k) c p = (adv S c (k + p)).map (· - k)
  | 0, p => by simp [adv]
  | c + 1, p => by
    simp only [adv, List.getElem?_drop]
    rcases S[k + p]? with _ | _ | z
    · rfl
    · rfl
    · simp only; rw [adv_drop S k c, Nat.add_assoc]

theorem sizes_drop (len : Nat) : ∀ (l : List Node) (k : Nat), sizes len (l.drop k) = (sizes len l).drop k
  | [], k => by simp [sizes]
  | x :: r, 0 => rfl
  | x :: r, k + 1 => by simp only [List.drop_succ_cons, sizes]; exact sizes_drop len r k

/-- Each size counts its own node and stays inside. -/
theorem size_pos {len : Nat} : ∀ {l : List Node} {i z : Nat}, (sizes len l)[i]? = some (some z) → 0 < z ∧ i + z ≤ l.length
  | [], i, z, h => by simp [sizes] at h
  | x :: r, 0, z, h => by
    simp only [sizes, List.getElem?_cons_zero, Option.some.injEq] at h
    split at h
    · cases h
    · rw [Option.map_eq_some_iff] at h
      obtain ⟨q, hq, rfl⟩ := h
      refine ⟨by omega, ?_⟩
      have : ∀ c p q, p ≤ r.length → adv (sizes len r) c p = some q → q ≤ r.length := by
        intro c
        induction c with
        | zero => intro p q hp h; simp [adv] at h; omega
        | succ c ih =>
          intro p q hp h
          simp only [adv] at h
          rcases hz : (sizes len r)[p]? with _ | _ | z <;> rw [hz] at h <;> simp only at h
          · cases h
          · cases h
          · have := size_pos hz
            exact ih _ _ (by omega) h
      have := this _ _ _ (Nat.zero_le _) hq
      simp only [List.length_cons]; omega
  | x :: r, i + 1, z, h => by
    simp only [sizes, List.getElem?_cons_succ] at h
    have := size_pos h
    simp only [List.length_cons]; omega

theorem adv_le {len : Nat} {l : List Node} : ∀ (c p q : Nat), p ≤ l.length → adv (sizes len l) c p = some q → p + c ≤ q ∧ q ≤ l.length := by
  intro c
  induction c with
  | zero => intro p q hp h; simp [adv] at h; omega
  | succ c ih =>
    intro p q hp h
    simp only [adv] at h
    rcases hz : (sizes len l)[p]? with _ | _ | z <;> rw [hz] at h <;> simp only at h
    · cases h
    · cases h
    · have := size_pos hz
      have := ih _ _ (by omega) h
      omega

/-- tree.Behind's loop: from the place at on (the list: what stands from there on), so many trees left. -/
def beh (len : Nat) : List Node → Int → Nat → Int
  | [], left, p => if left ≤ 0 then p else -1
  | x :: r, left, p => if left ≤ 0 then p else if x.kids < 0 ∨ x.kids > len then -1 else beh len r (left + (x.kids - 1)) (p + 1)

theorem beh_adv (len : Nat) : ∀ (l : List Node) (left p : Nat), beh len l left p = match adv (sizes len l) left 0 with | some q => (p : Int) + q | none => -1
  | [], 0, p => by simp [beh, adv]
  | [], left + 1, p => by simp [beh, adv, sizes]
  | x :: r, 0, p => by simp [beh, adv]
  | x :: r, left + 1, p => by
    have h0 : ¬ ((left + 1 : Nat) : Int) ≤ 0 := by omega
    simp only [beh, if_neg h0, adv, sizes, List.getElem?_cons_zero]
    by_cases hk : x.kids < 0 ∨ x.kids > len
    · simp [hk]
    · rw [if_neg hk, if_neg hk]
      obtain ⟨c, hc⟩ := Int.eq_ofNat_of_zero_le (show 0 ≤ x.kids by omega)
      rw [hc, show ((left + 1 : Nat) : Int) + ((c : Int) - 1) = ((c + left : Nat) : Int) by omega, beh_adv len r (c + left) (p + 1), Int.toNat_natCast, adv_add]
      cases hA : adv (sizes len r) c 0 with
      | none => rfl
      | some q =>
        simp only [Option.bind_some, Option.map_some]
        rw [show 0 + (q + 1) = q + 1 by omega, adv_cons]
        cases hB : adv (sizes len r) left q with
        | none => rfl
        | some z => simp only [Option.map_some]; rw [show ((p + 1 : Nat) : Int) + (z : Int) = (p : Int) + ((z + 1 : Nat) : Int) by omega]

/-- tree.Behind. -/
def behind (ts : List Node) (i : Nat) : Int := if i < ts.length then beh ts.length (ts.drop i) 1 i else -1

theorem behind_eq (ts : List Node) (i : Nat) : behind ts i = match (sizes ts.length ts)[i]? with | some (some z) => (i : Int) + z | _ => -1 := by
  unfold behind
  by_cases h : i < ts.length
  · rw [if_pos h, show (1 : Int) = ((1 : Nat) : Int) from rfl, beh_adv, sizes_drop]
    simp only [adv, List.getElem?_drop, Nat.add_zero]
    rcases (sizes ts.length ts)[i]? with _ | _ | z <;> simp
  · rw [if_neg h, List.getElem?_eq_none (by rw [sizes_length]; omega)]

/-- tree.ends: for each node the place behind its tree; -1: none. -/
def ends (ts : List Node) (i : Nat) : Int := behind ts i

/-- The kids' places, so many, from a place on. -/
def kidsFrom (ts : List Node) : Nat → Nat → List Nat
  | 0, _ => []
  | c + 1, p => p :: kidsFrom ts c (behind ts p).toNat
def kidsOf (ts : List Node) (i : Nat) : List Nat := if behind ts i < 0 then [] else kidsFrom ts ((ts.getD i node0).kids.toNat) (i + 1)

theorem kidsFrom_length (ts : List Node) : ∀ c p, (kidsFrom ts c p).length = c
  | 0, _ => rfl
  | c + 1, p => by simp [kidsFrom, kidsFrom_length ts c]

/-- Kids stand behind their node and inside the list; each is whole. -/
theorem kidsFrom_ok (ts : List Node) : ∀ (c p q : Nat), adv (sizes ts.length ts) c p = some q → ∀ j ∈ kidsFrom ts c p, p ≤ j ∧ j < q ∧ q ≤ ts.length ∧ 0 ≤ behind ts j ∧ (behind ts j).toNat ≤ q := by
  intro c
  induction c with
  | zero => intro p q _ j hj; simp [kidsFrom] at hj
  | succ c ih =>
    intro p q h j hj
    simp only [adv] at h
    rcases hz : (sizes ts.length ts)[p]? with _ | _ | z <;> rw [hz] at h <;> simp only at h
    · cases h
    · cases h
    · have hp := size_pos hz
      have hb : behind ts p = (p : Int) + z := by rw [behind_eq, hz]
      have hq := adv_le _ _ _ (by omega) h
      simp only [kidsFrom, List.mem_cons] at hj
      rcases hj with rfl | hj
      · rw [hb]; omega
      · rw [hb, show ((p : Int) + z).toNat = p + z by omega] at hj
        have := ih _ _ h j hj
        omega

theorem size_kids {ts : List Node} {i z : Nat} {x : Node} (hx : ts[i]? = some x) (h : (sizes ts.length ts)[i]? = some (some z)) :
    0 ≤ x.kids ∧ x.kids ≤ ts.length ∧ adv (sizes ts.length ts) x.kids.toNat (i + 1) = some (i + z) := by
  have hi := (List.getElem?_eq_some_iff.1 hx).1
  have hd : ts.drop i = x :: ts.drop (i + 1) := by
    rw [List.drop_eq_getElem_cons hi]
    rw [List.getElem?_eq_getElem hi] at hx
    injection hx with hx
    rw [hx]
  have h1 : (sizes ts.length (ts.drop i))[0]? = some (some z) := by rw [sizes_drop, List.getElem?_drop]; exact h
  rw [hd] at h1
  simp only [sizes, List.getElem?_cons_zero, Option.some.injEq] at h1
  split at h1
  · cases h1
  · rename_i hk
    rw [Option.map_eq_some_iff] at h1
    obtain ⟨q, hq, rfl⟩ := h1
    refine ⟨by omega, by omega, ?_⟩
    rw [sizes_drop, adv_drop, Option.map_eq_some_iff] at hq
    obtain ⟨q', hq', rfl⟩ := hq
    have := adv_le _ _ _ (by omega) hq'
    rw [Nat.add_zero] at hq'
    rw [hq']
    congr 1
    omega

theorem kidsOf_ok {ts : List Node} {i j : Nat} (h : j ∈ kidsOf ts i) : i < j ∧ j < ts.length ∧ 0 ≤ behind ts j ∧ (j : Int) < behind ts j := by
  unfold kidsOf at h
  split at h
  · simp at h
  · rename_i hb
    rw [behind_eq] at hb
    rcases hz : (sizes ts.length ts)[i]? with _ | _ | z <;> rw [hz] at hb <;> simp only at hb
    · omega
    · omega
    · have hi : i < ts.length := by have := size_pos hz; omega
      have hx : ts[i]? = some (ts.getD i node0) := by rw [List.getD_eq_getElem?_getD, List.getElem?_eq_getElem hi]; rfl
      have hk := size_kids hx hz
      have := kidsFrom_ok ts _ _ _ hk.2.2 j h
      refine ⟨by omega, by omega, this.2.2.2.1, ?_⟩
      rw [behind_eq] at this ⊢
      rcases hz2 : (sizes ts.length ts)[j]? with _ | _ | z2 <;> rw [hz2] at this <;> simp only at this ⊢
      · omega
      · omega
      · have := size_pos hz2; omega
end Go.Proofs.Ytggibiodeecljaa
