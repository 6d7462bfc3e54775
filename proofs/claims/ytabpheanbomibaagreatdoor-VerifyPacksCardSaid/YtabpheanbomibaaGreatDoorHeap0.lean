/- A region that draws its order, whose operations that could tell one order from another stand in one order by their edges: the walk in the order of the text serves every order. No program in sight. A region that draws its order, walked in the order of the text: a read may change places with a list written out behind it, too. No program in sight. A region that draws its order, walked in the order of the text: what puts a struct together may change places with a read, too. No program in sight. Written by gen_serial3.py. A region that draws its order: operations whose yield is known ahead of the region are moves of a constant. No program in sight. rows.Heap[int] in memory; none, ahead. -/
import Derived.Orders
import Derived.StillTail
import Derived.WalkKit
import Derived.Deep.RegionHeld
import Derived.Laws.AppendOwnNone
import Derived.Laws.EntriesVeiled
import Derived.Deep.AppendLies
import Derived.Deep.RegionHeld3
import Derived.Deep.DeepCutAuto
import Derived.Deep.QuietTactic
import Derived.BigQuiet
import Derived.Test.YtabpheanbomibaaGreatDoorAll
import Derived.Test.YtabpheanbomibaaGreatDoorBits
namespace Go.Proofs.YtabpheanbomibaaGreatDoor
open Go.RowKit

/-- Q at the region's normal end, and no other end. -/
def Only (Q : Exit → Act → World → Prop) : Exit → Act → World → Prop
  | .normal, a, w => Q .normal a w
  | _, _, _ => False
theorem Only.lets {Q : Exit → Act → World → Prop} : ¬ LetsOut (Only Q) := fun ⟨_, _, h⟩ => h
theorem Only.imp {Q : Exit → Act → World → Prop} : ∀ (e : Exit) (a : Act) (w : World), Only Q e a w → Q e a w := fun e a w h => by
  cases e <;> first | exact h | exact (h : False).elim

/-- It looks at no world. -/
def StillS {α : Type} (P : Program) (s : Sem α) : Prop := ∀ w v w', s.run P w = .ok v w' → w' = w ∧ ∀ u, s.run P u = .ok v u
/-- It leaves the world as it is. -/
def ReadS {α : Type} (P : Program) (s : Sem α) : Prop := ∀ w v w', s.run P w = .ok v w' → w' = w

section
variable {α β : Type} {P : Program}
theorem StillS.pure (v : α) : StillS P (Pure.pure v : Sem α) := fun w v' w' h => by
  simp at h; obtain ⟨rfl, rfl⟩ := h; exact ⟨rfl, fun _ => rfl⟩
theorem StillS.halt (h : Halt) : StillS P (Sem.halt h : Sem α) := fun w v w' hh => by simp at hh
theorem StillS.never {s : Sem α} (h : ∀ w v w', s.run P w ≠ .ok v w') : StillS P s := fun w v w' hh => absurd hh (h w v w')
theorem StillS.program : StillS P Go.program := fun w v w' h => by
  simp [Go.program, Sem.run] at h; obtain ⟨rfl, rfl⟩ := h; exact ⟨rfl, fun _ => rfl⟩
theorem StillS.bind {s : Sem α} {f : α → Sem β} (hs : StillS P s) (hf : ∀ x, StillS P (f x)) : StillS P (s >>= f) := fun w v w' h => by
  rw [Sem.run_bind] at h
  cases h1 : s.run P w with
  | halt x y => rw [h1] at h; simp [Result.andThen] at h
  | ok x y =>
    rw [h1] at h
    simp only [Result.andThen_ok] at h
    obtain ⟨rfl, h2⟩ := hs w x y h1
    obtain ⟨rfl, h3⟩ := hf x _ v w' h
    exact ⟨rfl, fun u => by rw [Sem.run_bind, h2 u, Result.andThen_ok, h3 u]⟩
theorem StillS.read {s : Sem α} (h : StillS P s) : ReadS P s := fun w v w' hh => (h w v w' hh).1
theorem ReadS.bind {s : Sem α} {f : α → Sem β} (hs : ReadS P s) (hf : ∀ x, ReadS P (f x)) : ReadS P (s >>= f) := fun w v w' h => by
  rw [Sem.run_bind] at h
  cases h1 : s.run P w with
  | halt x y => rw [h1] at h; simp [Result.andThen] at h
  | ok x y =>
    rw [h1] at h
    simp only [Result.andThen_ok] at h
    have h2 := hs w x y h1
    subst h2
    exact hf x _ v w' h
theorem StillS.stuck (m : String) : StillS P (Go.stuck m : Sem α) := .halt _
theorem StillS.unsupported (d : Unsupported) : StillS P (Go.unsupported d : Sem α) := .halt _
def NeverS {α : Type} (P : Program) (s : Sem α) : Prop := ∀ w v w', s.run P w ≠ .ok v w'
theorem NeverS.halt (h : Halt) : NeverS P (Sem.halt h : Sem α) := fun w v w' hh => by simp at hh
theorem NeverS.bind {s : Sem α} {f : α → Sem β} (hf : ∀ x, NeverS P (f x)) : NeverS P (s >>= f) := fun w v w' h => by
  rw [Sem.run_bind] at h
  cases h1 : s.run P w with
  | halt x y => rw [h1] at h; simp [Result.andThen] at h
  | ok x y => rw [h1] at h; simp only [Result.andThen_ok] at h; exact hf x y v w' h
theorem NeverS.runtimePanic (e : RuntimeError) : NeverS P (Go.runtimePanic e : Sem α) := by
  unfold Go.runtimePanic
  refine .bind fun p => ?_
  simp only
  cases e
  case typeAssertion => exact .bind fun _ => .bind fun _ => .halt _
  case panicNil => exact .bind fun _ => .bind fun _ => .halt _
  all_goals exact .halt _
theorem NeverS.boundsPanic (k : IntKind) (x y : Int) (c : BoundsCode) : NeverS P (Go.boundsPanic k x y c : Sem α) := by
  unfold Go.boundsPanic
  dsimp only
  split <;> exact .bind fun _ => .runtimePanic _
theorem StillS.ite {c : Prop} [Decidable c] {x y : Sem α} (hx : StillS P x) (hy : StillS P y) : StillS P (if c then x else y) := by
  split
  · exact hx
  · exact hy
theorem StillS.typeInfo (t : TypeId) : StillS P (Go.typeInfo t) := by
  unfold Go.typeInfo
  refine .bind .program fun p => ?_
  split
  · exact .pure _
  · exact .stuck _
theorem StillS.underlying (t : TypeId) : StillS P (Go.underlying t) := by
  unfold Go.underlying
  refine .bind .program fun p => ?_
  split
  · exact .pure _
  · exact .stuck _
theorem StillS.sizeOf (t : TypeId) : StillS P (Go.sizeOf t) := .bind (.typeInfo t) fun _ => .pure _
theorem StillS.asBool (v : Value) : StillS P (Go.asBool v) := by
  unfold Go.asBool; split
  · exact .pure _
  · exact .stuck _
theorem StillS.asIntOf (v : Value) : StillS P (Go.asIntOf v) := by
  unfold Go.asIntOf; split
  · exact .pure _
  · exact .unsupported _
  · exact .stuck _
theorem StillS.sureAddr (v : Value) : StillS P (Instr.sureAddr v) := by
  unfold Instr.sureAddr; split
  · exact .pure _
  · exact .stuck _
theorem StillS.indexAt (t : TypeId) (x ix : Value) : StillS P (Instr.indexAt t x ix) := by
  unfold Instr.indexAt
  refine .bind (.asIntOf _) fun ki => ?_
  obtain ⟨k, i⟩ := ki
  dsimp only
  have tail : ∀ r : Option Addr × Nat × TypeId, StillS P (do
      let d ← Go.underlying t
      match r.1 with
      | some a =>
        if 0 ≤ i ∧ i < (r.2.1 : Int) then do
          let z ← Go.sizeOf r.2.2
          Pure.pure (Value.pointer (some (a.add (i.toNat * z))))
        else if (decide (r.2.1 ≤ 1) && (match d with | .array .. => true | _ => false)) = true then Go.unsupported (Unsupported.noEntry "op/indexAddr.an index out of range at an array of length 0 or 1 (ledger 616)")
        else Go.boundsPanic k i r.2.1 .index
      | none => Go.boundsPanic k i 0 .index) := fun r => .bind (.underlying _) fun d => by
    cases r.1 with
    | some a => exact .ite (.bind (.sizeOf _) fun _ => .pure _) (.ite (.unsupported _) (.never (NeverS.boundsPanic _ _ _ _)))
    | none => exact .never (NeverS.boundsPanic _ _ _ _)
  refine .bind (.underlying _) fun d => ?_
  split
  · exact .bind (.sureAddr _) fun _ => .bind (.pure _) tail
  · exact .bind (.pure _) tail
  · exact .bind (.stuck _) tail
theorem StillS.sliceBound (x : Value) (y : Nat) (code : BoundsCode) : StillS P (Instr.sliceBound x y code) := by
  unfold Instr.sliceBound
  refine .bind (.asIntOf _) fun ki => ?_
  obtain ⟨k, i⟩ := ki
  exact .ite (.pure _) (.never (NeverS.boundsPanic _ _ _ _))
theorem StillS.sliceBounds (b : Bool) (len cap : Nat) (lo hi mx : Option Value) : StillS P (Instr.sliceBounds b len cap lo hi mx) := by
  unfold Instr.sliceBounds
  cases mx with
  | none =>
    refine .bind (.pure _) fun m => ?_
    cases hi with
    | none =>
      refine .bind (.pure _) fun h => ?_
      cases lo with
      | none => exact .bind (.pure _) fun _ => .pure _
      | some v => exact .bind (.sliceBound _ _ _) fun _ => .pure _
    | some u =>
      refine .bind (.sliceBound _ _ _) fun h => ?_
      cases lo with
      | none => exact .bind (.pure _) fun _ => .pure _
      | some v => exact .bind (.sliceBound _ _ _) fun _ => .pure _
  | some z =>
    refine .bind (.sliceBound _ _ _) fun m => ?_
    cases hi with
    | none =>
      refine .bind (.stuck _) fun h => ?_
      cases lo with
      | none => exact .bind (.pure _) fun _ => .pure _
      | some v => exact .bind (.sliceBound _ _ _) fun _ => .pure _
    | some u =>
      refine .bind (.sliceBound _ _ _) fun h => ?_
      cases lo with
      | none => exact .bind (.pure _) fun _ => .pure _
      | some v => exact .bind (.sliceBound _ _ _) fun _ => .pure _
/-- Slicing, of a slice's type. -/
theorem StillS.sliceAt {t e : TypeId} (ht : P.underlying t = some (.slice e)) (x : Value) (lo hi mx : Option Value) : StillS P (Instr.sliceAt t x lo hi mx) := by
  have key : ∀ (f : TypeDesc → Sem Value), StillS P (f (.slice e)) → StillS P (Go.underlying t >>= f) := fun f hf w v w' hr => by
    rw [Sem.run_bind, run_underlying ht, Result.andThen_ok] at hr
    obtain ⟨h1, h2⟩ := hf w v w' hr
    exact ⟨h1, fun u => by rw [Sem.run_bind, run_underlying ht, Result.andThen_ok, h2 u]⟩
  unfold Instr.sliceAt
  refine key _ ?_
  simp only
  unfold Instr.slice
  refine key _ ?_
  cases x <;> simp only <;> first
    | exact .stuck _
    | exact .bind (.sliceBounds _ _ _ _ _ _) fun _ => .bind (.sizeOf _) fun _ => .pure _
theorem StillS.unary (op : UnOp) (x : Value) : StillS P (Op.unary op x) := by
  unfold Op.unary
  split <;> first
    | exact .pure _
    | exact .unsupported _
    | exact .stuck _
    | (unfold Op.intArith; repeat' (first | exact .pure _ | exact .stuck _ | split))
    | (unfold Op.intBits; repeat' (first | exact .pure _ | exact .stuck _ | split))
theorem StillS.extract (t : Value) (i : Nat) : StillS P (Instr.extract t i) := by
  unfold Instr.extract
  repeat' (first | exact .pure _ | exact .stuck _ | split)

theorem StillS.isAgg (t : TypeId) : StillS P (Go.isAgg t) := by
  unfold Go.isAgg
  refine .bind (.underlying _) fun d => ?_
  split <;> exact .pure _
theorem StillS.part (t : TypeId) (cs : Array Value) (off : Nat) : StillS P (Go.part t cs off) := by
  unfold Go.part
  refine .bind (StillS.isAgg _) fun b => ?_
  split
  · exact .bind (.sizeOf _) fun _ => .pure _
  · split
    · exact .pure _
    · exact .stuck _
theorem StillS.followBlind : ∀ (l : List FieldStep) (t : TypeId) (x : Option Value), StillS P (Go.followBlind l t x)
  | [], t, x => .pure _
  | s :: rest, t, x => by
    unfold Go.followBlind
    refine .bind (.underlying _) fun d => ?_
    split
    · split
      · split
        · exact .pure _
        · exact followBlind rest _ _
        · exact .stuck _
        · exact .pure _
        · exact .bind (.part _ _ _) fun _ => followBlind rest _ _
        · exact .stuck _
        · exact followBlind rest _ _
      · exact .stuck _
    · exact .stuck _
theorem StillS.nilAhead : ∀ (n : Nat) (t : TypeId) (v : Value) (name : String), StillS P (Go.nilAhead n t v name)
  | 0, _, _, _ => .pure _
  | n + 1, t, v, name => by
    unfold Go.nilAhead
    refine .bind (.typeInfo _) fun i => ?_
    split
    · refine .bind (.followBlind _ _ _) fun r => ?_
      split
      · exact .pure _
      · split
        · exact nilAhead n _ _ _
        · exact .pure _
        · exact .stuck _
        · exact .pure _
        · exact .pure _
        · refine .bind (.underlying _) fun d => ?_
          split <;> exact .pure _
    · exact .stuck _

/-- What it comes to is a value. -/
def ValS (P : Program) (s : Sem Next) : Prop := ∀ w n w', s.run P w = .ok n w' → ∃ v, n = .value v
theorem ValS.pure (v : Value) : ValS P (Pure.pure (Next.value v) : Sem Next) := fun w n w' h => by
  simp at h; exact ⟨v, h.1.symm⟩
theorem ValS.never {s : Sem Next} (h : NeverS P s) : ValS P s := fun w v w' hh => absurd hh (h w v w')
theorem ValS.bind {γ : Type} {s : Sem γ} {f : γ → Sem Next} (hf : ∀ x, ValS P (f x)) : ValS P (s >>= f) := fun w v w' h => by
  rw [Sem.run_bind] at h
  cases h1 : s.run P w with
  | halt x y => rw [h1] at h; simp [Result.andThen] at h
  | ok x y => rw [h1] at h; simp only [Result.andThen_ok] at h; exact hf x y v w' h

/-- 'len' of a slice or a string. -/
def lenOk (P : Program) (c : Call) : Bool :=
  (match c.callee with | .builtin .len => true | _ => false) && match c.argTypes[0]? with
    | some t => (match P.underlying t with | some (.slice _) => true | some .string => true | _ => false)
    | none => false
theorem lenOk_still {c : Call} (h : lenOk P c = true) (ty : TypeId) (args : Array Value) : c.callee = .builtin .len ∧ StillS P (Builtin.len_ c.argTypes ty args) := by
  simp only [lenOk, Bool.and_eq_true] at h
  obtain ⟨h1, h2⟩ := h
  refine ⟨?_, ?_⟩
  · cases hc : c.callee <;> rw [hc] at h1 <;> try (exact absurd h1 Bool.false_ne_true)
    rename_i b
    cases b <;> first | rfl | (exact absurd h1 Bool.false_ne_true)
  · cases ht : c.argTypes[0]? with
    | none => rw [ht] at h2; cases h2
    | some t =>
      rw [ht] at h2
      simp only at h2
      unfold Builtin.len_
      rw [ht]
      cases args[0]? with
      | none => exact .stuck _
      | some x =>
        simp only
        have hd : (∃ e, P.underlying t = some (.slice e)) ∨ P.underlying t = some .string := by
          split at h2
          · rename_i e he; exact .inl ⟨e, he⟩
          · rename_i he; exact .inr he
          · cases h2
        have key : ∀ d (f : TypeDesc → Sem Value), P.underlying t = some d → StillS P (f d) → StillS P (Go.underlying t >>= f) := fun d f hd hf w v w' hr => by
          rw [Sem.run_bind, run_underlying hd, Result.andThen_ok] at hr
          obtain ⟨h1, h2⟩ := hf w v w' hr
          exact ⟨h1, fun u => by rw [Sem.run_bind, run_underlying hd, Result.andThen_ok, h2 u]⟩
        rcases hd with ⟨e, hd⟩ | hd
        · refine key _ _ hd ?_
          cases x <;> first | exact .pure _ | exact .stuck _
        · refine key _ _ hd ?_
          cases x <;> first | exact .pure _ | exact .stuck _

/-- The operations that look at no world, by their kind alone. -/
def pureOp (P : Program) : Op → Bool
  | .move _ | .assign _ | .pick .. | .unOp .. | .extract .. => true
  | .indexAddr .. | .nilCheck _ => true
  | .call c => lenOk P c
  | .slice t _ _ _ _ => match P.underlying t with | some (.slice _) => true | _ => false
  | .fieldAddr s _ f => match P.underlying s with
    | some (.struct fields) => match fields[f]? with
      | some fl => match P.info? fl.type with
        | some i => i.size != 0
        | none => false
      | none => false
    | _ => false
  | _ => false

theorem StillS.fieldAt {s : TypeId} {f : Nat} {fields : Array Field} {fl : Field} {i : TypeInfo} (h1 : P.underlying s = some (.struct fields)) (h2 : fields[f]? = some fl) (h3 : P.info? fl.type = some i) (h4 : i.size ≠ 0) (v : Value) : StillS P (Instr.fieldAt s v f) := by
  intro w u w' h
  cases v with
  | pointer a =>
    cases a with
    | some a =>
      have hr : ∀ w, (Instr.fieldAt s (.pointer (some a)) f).run P w = .ok (.pointer (some (a.add fl.offset))) w := fun w => by
        simp [Instr.fieldAt, Instr.sureAddr, fieldPlace, Go.sizeOf, Go.typeInfo, run_underlying h1, h2, h3, h4, Go.program, Sem.run]
      rw [hr w] at h
      injection h with h5 h6
      subst h5 h6
      exact ⟨rfl, hr⟩
    | none => simp [Instr.fieldAt, Instr.sureAddr, run_underlying h1, h2, Go.stuck] at h
  | _ => simp [Instr.fieldAt, Instr.sureAddr, run_underlying h1, h2, Go.stuck] at h

/-- What a pure operation comes to is the same in every world. -/
theorem pureOp_still {o : Oper} (h : pureOp P o.op = true) (ρ : Operand → Value) (w : World) (n : Next) (w' : World) (hr : (execOp ρ o).run P w = .ok n w') :
    ∃ v, n = .value v ∧ w' = w ∧ ∀ u, (execOp ρ o).run P u = .ok (.value v) u := by
  have lift : ∀ s : Sem Value, StillS P s → (do let x ← s; Pure.pure (Next.value x) : Sem Next).run P w = .ok n w' → ∃ v, n = .value v ∧ w' = w ∧ ∀ u, (do let x ← s; Pure.pure (Next.value x) : Sem Next).run P u = .ok (.value v) u := by
    intro s hs hr
    rw [Sem.run_bind] at hr
    cases h1 : s.run P w with
    | halt x y => rw [h1] at hr; simp [Result.andThen] at hr
    | ok x y =>
      rw [h1] at hr
      simp only [Result.andThen_ok, Sem.run_pure] at hr
      injection hr with h2 h3
      obtain ⟨rfl, h4⟩ := hs w x y h1
      exact ⟨x, h2.symm, h3.symm, fun u => by rw [Sem.run_bind, h4 u]; rfl⟩
  cases hop : o.op <;> rw [hop] at h <;> simp only [pureOp] at h <;> try (exact absurd h Bool.false_ne_true)
  case move x =>
    simp only [execOp, hop, Sem.run_pure] at hr ⊢
    injection hr with h1 h2
    exact ⟨_, h1.symm, h2.symm, fun _ => rfl⟩
  case assign x =>
    simp only [execOp, hop, Sem.run_pure] at hr ⊢
    injection hr with h1 h2
    exact ⟨_, h1.symm, h2.symm, fun _ => rfl⟩
  case pick c a b =>
    simp only [execOp, hop] at hr ⊢
    rw [Sem.run_bind] at hr
    cases h1 : (Go.asBool (ρ c)).run P w with
    | halt x y => rw [h1] at hr; simp [Result.andThen] at hr
    | ok x y =>
      obtain ⟨rfl, h4⟩ := StillS.asBool (ρ c) w x y h1
      rw [h1] at hr
      simp only [Result.andThen_ok, Sem.run_pure] at hr
      injection hr with h2 h3
      exact ⟨_, h2.symm, h3.symm, fun u => by rw [Sem.run_bind, h4 u]; rfl⟩
  case nilCheck x =>
    simp only [execOp, hop] at hr ⊢
    have fin : StillS P (execOp ρ o) := by
      simp only [execOp, hop]
      split
      · exact .never (NeverS.runtimePanic _)
      · exact .never (NeverS.runtimePanic _)
      · exact .never (NeverS.runtimePanic _)
      · split
        · exact .never (NeverS.runtimePanic _)
        · refine .bind .program fun p => ?_
          refine .bind (.nilAhead _ _ _ _) fun r => ?_
          split
          · exact .bind (.unsupported _) fun _ => .pure _
          · exact .pure _
        · exact .pure _
      · exact .pure _
    have val : ValS P (execOp ρ o) := by
      simp only [execOp, hop]
      split
      · exact .never (NeverS.runtimePanic _)
      · exact .never (NeverS.runtimePanic _)
      · exact .never (NeverS.runtimePanic _)
      · split
        · exact .never (NeverS.runtimePanic _)
        · refine .bind fun p => ?_
          refine .bind fun r => ?_
          split
          · exact .bind fun _ => .pure _
          · exact .pure _
        · exact .pure _
      · exact .pure _
    simp only [execOp, hop] at fin val
    obtain ⟨h1, h2⟩ := fin w n w' hr
    obtain ⟨v, rfl⟩ := val w n w' hr
    exact ⟨v, rfl, h1, h2⟩
  case call c =>
    obtain ⟨h1, h2⟩ := lenOk_still h o.type (c.args.map ρ)
    have e : execOp ρ o = (do let x ← Builtin.len_ c.argTypes o.type (c.args.map ρ); Pure.pure (Next.value x) : Sem Next) := by
      simp only [execOp, hop, resolve, h1]
      rfl
    rw [e] at hr ⊢
    exact lift _ h2 hr
  case unOp op t x => simp only [execOp, hop] at hr ⊢; exact lift _ (.unary _ _) hr
  case extract t i => simp only [execOp, hop] at hr ⊢; exact lift _ (.extract _ _) hr
  case indexAddr t x i => simp only [execOp, hop] at hr ⊢; exact lift _ (.indexAt _ _ _) hr
  case slice t x lo hi mx =>
    simp only [execOp, hop] at hr ⊢
    split at h
    · rename_i e he
      exact lift _ (.sliceAt he _ _ _ _) hr
    · cases h
  case fieldAddr s x f =>
    simp only [execOp, hop] at hr ⊢
    split at h
    · rename_i fields h1
      split at h
      · rename_i fl h2
        split at h
        · rename_i i h3
          exact lift _ (.fieldAt h1 h2 h3 (by simpa using h) _) hr
        · cases h
      · cases h
    · cases h

theorem ReadS.load (a : Addr) (m : Mode) : ReadS P (Go.load a m) := by
  intro w v w' h
  unfold Go.load at h
  rw [Sem.run] at h
  split at h
  · simp [Sem.run] at h; exact h.2.symm
  · split at h
    · simp [Sem.run] at h; exact h.2.symm
    · cases h
theorem ReadS.cells (a : Addr) : ∀ (n i : Nat) (acc : Array Value), ReadS P (loadCellsFrom a i n acc)
  | 0, _, _ => (StillS.pure _).read
  | n + 1, i, acc => .bind (.load _ _) fun v => ReadS.cells a n (i + 1) (acc.push v)
theorem ReadS.loadVar (t : TypeId) (a : Addr) : ReadS P (Go.loadVar t a) := by
  unfold Go.loadVar
  refine .bind (StillS.isAgg t).read fun b => ?_
  split
  · exact .bind (StillS.sizeOf t).read fun _ => .bind (.cells a _ _ _) fun _ => (StillS.pure _).read
  · exact .load _ _

/-- The operations that leave the world as it is, by their kind alone. -/
def readOp (P : Program) : Op → Bool
  | .load .. => true
  | o => pureOp P o

theorem readOp_read {o : Oper} (h : readOp P o.op = true) (ρ : Operand → Value) (w : World) (n : Next) (w' : World) (hr : (execOp ρ o).run P w = .ok n w') : (∃ v, n = .value v) ∧ w' = w := by
  by_cases hp : pureOp P o.op = true
  · obtain ⟨v, h1, h2, _⟩ := pureOp_still hp ρ w n w' hr
    exact ⟨⟨v, h1⟩, h2⟩
  · cases hop : o.op <;> rw [hop] at h hp <;> first | (exact absurd h hp) | skip
    case load t x =>
      simp only [execOp, hop] at hr
      rw [Sem.run_bind] at hr
      have hrd : ReadS P (Instr.loadAt t (ρ x)) := .bind (StillS.sureAddr _).read fun _ => .loadVar _ _
      cases h1 : (Instr.loadAt t (ρ x)).run P w with
      | halt q y => rw [h1] at hr; simp [Result.andThen] at hr
      | ok q y =>
        rw [h1] at hr
        simp only [Result.andThen_ok, Sem.run_pure] at hr
        injection hr with h2 h3
        exact ⟨⟨q, h2.symm⟩, h3.symm.trans (hrd w q y h1)⟩

/-! the walk in the order of the text, over a list of places -/
variable {ops : Array Oper}
def wpSeq (P : Program) (ops : Array Oper) (Q : Exit → Act → World → Prop) (K : Act → World → Prop) : List Nat → Act → World → Prop
  | [] => K
  | i :: r => wpOp P ops (Only Q) i (wpSeq P ops Q K r)

variable {Q : Exit → Act → World → Prop} {K : Act → World → Prop}

/-- What an operation hands on, it hands on somewhere. -/
theorem wpOp_some {i : Nat} {o : Oper} (hi : ops[i]? = some o) {p : Act → Prop} (hd : ∀ a d, p { a with defers := d :: a.defers } → p a) {a : Act} {w : World} (h : wpOp P ops (Only Q) i (fun a' _ => p a') a w) : ∃ v, p (a.put o.dst v) := by
  unfold wpOp at h
  simp only [hi] at h
  split at h
  · rcases h with h | ⟨_, h⟩
    · unfold Oper.wp at h
      cases hr : (execOp a.eval o).run P w with
      | halt x y => rw [hr] at h; cases x <;> simp [Oper.upon, Only] at h
      | ok n y =>
        rw [hr] at h
        cases n <;> simp only [Oper.upon] at h
        case value v => exact ⟨v, h⟩
        case skip => exact ⟨undef, h⟩
        case defer d => exact ⟨undef, hd _ d (by have e := Act.put_defers a o.dst undef d; exact e ▸ h)⟩
        case enter f args =>
          obtain ⟨e, w', fr, hR, _⟩ := h []
          cases e with
          | returned v => exact ⟨v, hR⟩
          | panicked c => exact absurd hR id
          | outgrown => exact absurd hR Only.lets
        case row r args =>
          obtain ⟨v, w', hR, _⟩ := h default []
          exact ⟨v, hR⟩
    · exact absurd h Only.lets
  · exact ⟨undef, h⟩

theorem yields_inv {i : Nat} {o : Oper} (hi : ops[i]? = some o) {v : Value} {a : Act} {w : World} (hy : Yields P ops o v a) (h : wpOp P ops (Only Q) i K a w) : K (a.put o.dst v) w := by
  unfold wpOp at h
  simp only [hi] at h
  rcases hy with ⟨h1, h2⟩ | ⟨h1, rfl⟩
  · rw [if_pos h1] at h
    rcases h with h | ⟨_, h⟩
    · unfold Oper.wp at h
      rw [h2 w] at h
      exact h
    · exact absurd h Only.lets
  · rw [if_neg (by simp [h1])] at h
    exact h

/-- A pure operation that stands behind another yields already ahead of it. -/
theorem yields_of_behind {i j : Nat} {oi oj : Oper} (hi : ops[i]? = some oi) (hj : ops[j]? = some oj) (hpure : pureOp P oi.op = true) (hap : oi.apart ops oj = true) (hsi : ∀ cs b, oi.op ≠ .select cs b) {a : Act} {w : World}
    (h : wpOp P ops (Only Q) j (wpOp P ops (Only Q) i K) a w) : ∃ v, Yields P ops oi v a := by
  obtain ⟨_, _, h3⟩ := Oper.apart_spec hap
  have hp : wpOp P ops (Only Q) j (fun a' _ => ∃ v, Yields P ops oi v a') a w := by
    refine wpOp_mono (fun a' w' hh => ?_) h
    unfold wpOp at hh
    simp only [hi] at hh
    split at hh
    · rename_i hw
      rcases hh with hh | ⟨_, hh⟩
      · unfold Oper.wp at hh
        cases hr : (execOp a'.eval oi).run P w' with
        | halt x y => rw [hr] at hh; cases x <;> simp [Oper.upon, Only] at hh
        | ok n y =>
          obtain ⟨v, _, _, h4⟩ := pureOp_still hpure _ _ _ _ hr
          exact ⟨v, .inl ⟨hw, h4⟩⟩
      · exact absurd hh Only.lets
    · rename_i hw
      exact ⟨undef, .inr ⟨by simpa using hw, rfl⟩⟩
  obtain ⟨u, v, hy⟩ := wpOp_some hj (p := fun a' => ∃ v, Yields P ops oi v a') (fun a d ⟨v, hy⟩ => ⟨v, hy.of_same rfl rfl⟩) hp
  exact ⟨v, hy.of_same (execOp_put oi hsi a oj.dst u h3).symm (wanted_put oi a oj.dst u h3).symm⟩

/-- .. and may be taken ahead of it. -/
theorem wpOp_back {i j : Nat} {oi oj : Oper} {v : Value} (hi : ops[i]? = some oi) (hj : ops[j]? = some oj) (hap : oi.apart ops oj = true) (hsi : ∀ cs b, oi.op ≠ .select cs b) (hsj : ∀ cs b, oj.op ≠ .select cs b) {a : Act} {w : World}
    (hy : Yields P ops oi v a) (h : wpOp P ops (Only Q) j (wpOp P ops (Only Q) i K) a w) : wpOp P ops (Only Q) j K (a.put oi.dst v) w := by
  obtain ⟨h1, h2, h3⟩ := Oper.apart_spec hap
  have keep : ∀ (a : Act), Yields P ops oi v a → ∀ u, Yields P ops oi v (a.put oj.dst u) := fun a hy u =>
    hy.of_same (execOp_put oi hsi a oj.dst u h3) (wanted_put oi a oj.dst u h3)
  have keepD : ∀ d, Yields P ops oi v { a with defers := d :: a.defers } := fun d => hy.of_same rfl rfl
  have go : ∀ u w', wpOp P ops (Only Q) i K (a.put oj.dst u) w' → K ((a.put oi.dst v).put oj.dst u) w' := fun u w' hh => by
    have := yields_inv hi (keep a hy u) hh
    rwa [← Act.put_comm a v u h2] at this
  unfold wpOp
  simp only [hj]
  rw [wanted_put oj a oi.dst v h1]
  unfold wpOp at h
  simp only [hj] at h
  split
  · rename_i hw
    rw [if_pos hw] at h
    rcases h with h | ⟨_, h⟩
    · refine .inl ?_
      unfold Oper.wp at *
      rw [execOp_put oj hsj a oi.dst v h1]
      generalize (execOp a.eval oj).run P w = r at *
      cases r with
      | halt x y => cases x <;> simp [Oper.upon, Only] at h
      | ok n y =>
        cases n <;> simp only [Oper.upon] at h ⊢
        case value u => exact go u y h
        case skip => exact go _ y h
        case defer d =>
          have := yields_inv hi (keep _ (keepD d) undef) h
          rw [← Act.put_comm _ v undef h2, ← Act.put_defers] at this
          exact this
        case enter f args =>
          refine Calls.mono h fun e w'' he => ?_
          cases e with
          | returned u => exact go u w'' he
          | panicked c => exact absurd he id
          | outgrown => exact he
        case row r args => exact Rows.mono h fun u w'' he => go u w'' he
    · exact absurd h Only.lets
  · rename_i hw
    rw [if_neg hw] at h
    exact go _ _ h

/-- Two operations that may change places. -/
def commB (P : Program) (ops : Array Oper) (x y : Oper) : Bool := x.apart ops y && y.apart ops x && (pureOp P x.op || pureOp P y.op || (readOp P x.op && readOp P y.op))

theorem readOp_step {i : Nat} {o : Oper} (hi : ops[i]? = some o) (hr : readOp P o.op = true) {a : Act} {w : World} (h : wpOp P ops (Only Q) i K a w) :
    ∃ v, K (a.put o.dst v) w ∧ ((Region.wanted o (yielded ops a.tmps) = true ∧ (execOp a.eval o).run P w = .ok (.value v) w) ∨ (Region.wanted o (yielded ops a.tmps) = false ∧ v = undef)) := by
  unfold wpOp at h
  simp only [hi] at h
  split at h
  · rename_i hw
    rcases h with h | ⟨_, h⟩
    · unfold Oper.wp at h
      cases hrun : (execOp a.eval o).run P w with
      | halt x y => rw [hrun] at h; cases x <;> simp [Oper.upon, Only] at h
      | ok n y =>
        obtain ⟨⟨v, rfl⟩, rfl⟩ := readOp_read hr _ _ _ _ hrun
        rw [hrun] at h
        exact ⟨v, h, .inl ⟨hw, rfl⟩⟩
    · exact absurd h Only.lets
  · rename_i hw
    exact ⟨undef, h, .inr ⟨by simpa using hw, rfl⟩⟩
theorem readOp_mk {i : Nat} {o : Oper} (hi : ops[i]? = some o) {a : Act} {w : World} {v : Value}
    (hv : (Region.wanted o (yielded ops a.tmps) = true ∧ (execOp a.eval o).run P w = .ok (.value v) w) ∨ (Region.wanted o (yielded ops a.tmps) = false ∧ v = undef)) (h : K (a.put o.dst v) w) : wpOp P ops (Only Q) i K a w := by
  unfold wpOp
  simp only [hi]
  rcases hv with ⟨h1, h2⟩ | ⟨h1, rfl⟩
  · rw [if_pos h1]
    exact .inl (by unfold Oper.wp; rw [h2]; exact h)
  · rw [if_neg (by simp [h1])]
    exact h

theorem swap {i j : Nat} {oi oj : Oper} (hi : ops[i]? = some oi) (hj : ops[j]? = some oj) (hc : commB P ops oi oj = true) (hsi : ∀ cs b, oi.op ≠ .select cs b) (hsj : ∀ cs b, oj.op ≠ .select cs b) {a : Act} {w : World}
    (h : wpOp P ops (Only Q) i (wpOp P ops (Only Q) j K) a w) : wpOp P ops (Only Q) j (wpOp P ops (Only Q) i K) a w := by
  simp only [commB, Bool.and_eq_true, Bool.or_eq_true] at hc
  obtain ⟨⟨ha, hb⟩, hc⟩ := hc
  rcases hc with (hc | hc) | ⟨hc1, hc2⟩
  · -- the first is pure
    obtain ⟨v, hk, hv⟩ := readOp_step hi (by unfold readOp; split <;> first | rfl | exact hc) h
    have hy : Yields P ops oi v a := by
      rcases hv with ⟨h1, h2⟩ | hv
      · obtain ⟨u, h3, _, h4⟩ := pureOp_still hc _ _ _ _ h2
        injection h3 with h3
        subst h3
        exact .inl ⟨h1, h4⟩
      · exact .inr hv
    exact wpOp_mono (fun a' w' ⟨hy', hk'⟩ => hy'.wpOp hi hk') (wpOp_put hj ha hsi hsj (fun c a w h => h) hy hk)
  · -- the second is pure
    obtain ⟨v, hy⟩ := yields_of_behind hj hi hc hb hsj h
    exact hy.wpOp hj (wpOp_back hj hi hb hsj hsi hy h)
  · -- both only read
    obtain ⟨v, hk, hv⟩ := readOp_step hi hc1 h
    obtain ⟨u, hk2, hu⟩ := readOp_step hj hc2 hk
    obtain ⟨h1, h2, h3⟩ := Oper.apart_spec ha
    rw [wanted_put oj a oi.dst v h1, execOp_put oj hsj a oi.dst v h1] at hu
    refine readOp_mk hj hu ?_
    refine readOp_mk hi (v := v) ?_ ?_
    · rw [wanted_put oi a oj.dst u h3, execOp_put oi hsi a oj.dst u h3]
      exact hv
    · rw [← Act.put_comm a v u h2]
      exact hk2

theorem wpSeq_front {i : Nat} {oi : Oper} (hi : ops[i]? = some oi) (hsel : ∀ (j : Nat) (o : Oper) cs b, ops[j]? = some o → o.op ≠ .select cs b) (post : List Nat) : ∀ (pre : List Nat) (a : Act) (w : World),
    (∀ k ∈ pre, ∃ ok, ops[k]? = some ok ∧ commB P ops ok oi = true) → wpSeq P ops Q K (pre ++ i :: post) a w → wpOp P ops (Only Q) i (wpSeq P ops Q K (pre ++ post)) a w
  | [], a, w, _, h => h
  | k :: pre, a, w, hp, h => by
    obtain ⟨ok, hk, hc⟩ := hp k (by simp)
    have h1 : wpOp P ops (Only Q) k (wpOp P ops (Only Q) i (wpSeq P ops Q K (pre ++ post))) a w :=
      wpOp_mono (fun a' w' hh => wpSeq_front hi hsel post pre a' w' (fun k' hk' => hp k' (by simp [hk'])) hh) h
    exact swap hk hi hc (hsel k ok · · hk) (hsel i oi · · hi) h1

/-- The table B holds, of each operation, (some of) those that its edges put ahead of it; the others ahead of it in the text may change places with it. -/
def serialB (P : Program) (ops : Array Oper) (B : Array Nat) : Bool :=
  Region.noSelect ops && (List.range ops.size).all fun i => match ops[i]? with
    | none => true
    | some o => (o.after.all fun e => !Region.binds .any e || decide (e.on < i)) && (List.range i).all fun k =>
      if (B.getD i 0).testBit k then o.after.any fun e => Region.binds .any e && decide (e.on < i) && (e.on == k || (decide (k < e.on) && (B.getD e.on 0).testBit k))
      else match ops[k]? with | none => false | some ok => commB P ops ok o

theorem serialB_at {B : Array Nat} (hB : serialB P ops B = true) {i : Nat} {o : Oper} (hi : ops[i]? = some o) : (∀ e ∈ o.after, Region.binds .any e = true → e.on < i) ∧ ∀ k, k < i →
    ((B.getD i 0).testBit k = true ∧ ∃ e ∈ o.after, Region.binds .any e = true ∧ e.on < i ∧ (e.on = k ∨ (k < e.on ∧ (B.getD e.on 0).testBit k = true))) ∨ ((B.getD i 0).testBit k = false ∧ ∃ ok, ops[k]? = some ok ∧ commB P ops ok o = true) := by
  have hlt := (Array.getElem?_eq_some_iff.1 hi).1
  simp only [serialB, Bool.and_eq_true, List.all_eq_true, List.mem_range] at hB
  have h := hB.2 i hlt
  rw [hi] at h
  simp only [Bool.and_eq_true, List.all_eq_true, List.mem_range, Array.all_eq_true_iff_forall_mem] at h
  refine ⟨fun e he hb => by have := h.1 e he; simpa [hb] using this, fun k hk => ?_⟩
  have h2 := h.2 k hk
  split at h2
  · rename_i hb
    rw [Array.any_eq_true'] at h2
    obtain ⟨e, he, h3⟩ := h2
    simp only [Bool.and_eq_true, Bool.or_eq_true, decide_eq_true_eq, beq_iff_eq] at h3
    exact .inl ⟨hb, e, he, h3.1.1, h3.1.2, h3.2⟩
  · rename_i hb
    cases hk2 : ops[k]? with
    | none => rw [hk2] at h2; cases h2
    | some ok => rw [hk2] at h2; exact .inr ⟨by simpa using hb, ok, rfl, h2⟩

def Down (ops : Array Oper) (listed : Array Bool) : Prop := ∀ i o, ops[i]? = some o → listed.getD i false = true → ∀ e ∈ o.after, Region.binds .any e = true → listed.getD e.on false = true

theorem ahead_listed {B : Array Nat} (hB : serialB P ops B = true) {listed : Array Bool} (hd : Down ops listed) : ∀ (n i : Nat) (o : Oper), i ≤ n → ops[i]? = some o → (∀ e ∈ o.after, Region.binds .any e = true → listed.getD e.on false = true) →
    ∀ k, k < i → (B.getD i 0).testBit k = true → listed.getD k false = true
  | 0, i, o, hn, _, _, k, hk, _ => by omega
  | n + 1, i, o, hn, hi, hall, k, hk, hb => by
    rcases (serialB_at hB hi).2 k hk with ⟨_, e, he, hbi, hlt, h⟩ | ⟨hf, _⟩
    · rcases h with rfl | ⟨hk2, hb2⟩
      · exact hall e he hbi
      · have hon : ∃ o2, ops[e.on]? = some o2 := ⟨_, Array.getElem?_eq_getElem (by have := (Array.getElem?_eq_some_iff.1 hi).1; omega)⟩
        obtain ⟨o2, ho2⟩ := hon
        exact ahead_listed hB hd n e.on o2 (by omega) ho2 (hd e.on o2 ho2 (hall e he hbi)) k hk2 hb2
    · rw [hb] at hf; cases hf

def left (ops : Array Oper) (listed : Array Bool) : List Nat := (List.range ops.size).filter fun i => !listed.getD i false

theorem left_set {listed : Array Bool} (hs : listed.size = ops.size) {i : Nat} {s t : List Nat} (h : left ops listed = s ++ i :: t) : left ops (listed.setIfInBounds i true) = s ++ t ∧ (∀ k ∈ s, k < i) := by
  have hp : (left ops listed).Pairwise (· < ·) := List.Pairwise.filter _ List.pairwise_lt_range
  rw [h, List.pairwise_append] at hp
  obtain ⟨h1, h2, h3⟩ := hp
  rw [List.pairwise_cons] at h2
  have hi : i < ops.size := by
    have : i ∈ left ops listed := by rw [h]; simp
    unfold left at this
    rw [List.mem_filter, List.mem_range] at this
    exact this.1
  refine ⟨?_, fun k hk => h3 k hk i (by simp)⟩
  have e : left ops (listed.setIfInBounds i true) = (left ops listed).filter (fun k => k != i) := by
    unfold left
    rw [List.filter_filter]
    refine List.filter_congr fun k hk => ?_
    rw [List.mem_range] at hk
    by_cases hki : k = i
    · subst hki
      simp [Array.getD_eq_getD_getElem?, hs, hk]
    · simp [Array.getD_eq_getD_getElem?, Array.getElem?_setIfInBounds_ne (Ne.symm hki), hki]
  rw [e, h, List.filter_append, List.filter_cons]
  have es : s.filter (fun k => k != i) = s := List.filter_eq_self.2 fun k hk => by have := h3 k hk i (by simp); simp; omega
  have et : t.filter (fun k => k != i) = t := List.filter_eq_self.2 fun k hk => by have := h2.1 k hk; simp; omega
  rw [es, et]
  simp

theorem serial_any {B : Array Nat} (hB : serialB P ops B = true) : ∀ (fuel : Nat) (listed : Array Bool) (a : Act) (w : World), Down ops listed → listed.size = ops.size → (left ops listed).length = fuel →
    wpSeq P ops Q (Q .normal) (left ops listed) a w → wpAny P .any ops (Only Q) fuel listed a w := by
  have hsel : ∀ (j : Nat) (o : Oper) cs b, ops[j]? = some o → o.op ≠ .select cs b := by
    intro j o cs b ho
    have : Region.noSelect ops = true := by simp only [serialB, Bool.and_eq_true] at hB; exact hB.1
    exact Region.noSelect_spec this j o cs b ho
  have hready : ∀ (listed : Array Bool), Down ops listed → listed.size = ops.size → ∀ i r, left ops listed = i :: r → i ∈ Region.ready .any ops listed := by
    intro listed hd hs i r hl
    have hi : i ∈ left ops listed := by rw [hl]; simp
    have hmin := (left_set (ops := ops) hs (s := []) (t := r) hl)
    unfold left at hi
    rw [List.mem_filter, List.mem_range] at hi
    rw [mem_ready]
    obtain ⟨o, ho⟩ : ∃ o, ops[i]? = some o := ⟨_, Array.getElem?_eq_getElem hi.1⟩
    refine ⟨?_, o, ho, fun e he hb => ?_⟩
    · have h1 := hi.2
      rw [Array.getD_eq_getD_getElem?, Array.getElem?_eq_getElem (by omega)] at h1 ⊢
      simpa using h1
    · have hlt := (serialB_at hB ho).1 e he hb
      cases hc : listed.getD e.on false
      · have hm : e.on ∈ left ops listed := by
          unfold left
          rw [List.mem_filter, List.mem_range]
          exact ⟨by omega, by simp [hc]⟩
        have hp : (left ops listed).Pairwise (· < ·) := List.Pairwise.filter _ List.pairwise_lt_range
        rw [hl] at hm hp
        rw [List.pairwise_cons] at hp
        rcases List.mem_cons.1 hm with h | h
        · omega
        · have := hp.1 _ h; omega
      · rfl
  intro fuel
  induction fuel with
  | zero =>
    intro listed a w hd hs hl h
    have hnil := List.eq_nil_of_length_eq_zero hl
    rw [hnil] at h
    refine ⟨?_, h⟩
    cases hr : Region.ready .any ops listed with
    | nil => rfl
    | cons i r =>
      have hi : i ∈ Region.ready .any ops listed := by rw [hr]; simp
      rw [mem_ready] at hi
      obtain ⟨h0, o, ho, _⟩ := hi
      have hm : i ∈ left ops listed := by
        unfold left
        rw [List.mem_filter, List.mem_range]
        have hlt := (Array.getElem?_eq_some_iff.1 ho).1
        refine ⟨hlt, ?_⟩
        rw [Array.getD_eq_getD_getElem?, Array.getElem?_eq_getElem (by omega)] at h0 ⊢
        simpa using h0
      rw [hnil] at hm
      cases hm
  | succ fuel ih =>
    intro listed a w hd hs hl h
    refine ⟨fun hr => ?_, fun i hi => ?_⟩
    · cases hl2 : left ops listed with
      | nil => rw [hl2] at hl; simp at hl
      | cons i r =>
        have := hready listed hd hs i r hl2
        rw [hr] at this
        cases this
    · rw [mem_ready] at hi
      obtain ⟨h0, o, ho, hall⟩ := hi
      have hlt := (Array.getElem?_eq_some_iff.1 ho).1
      have hm : i ∈ left ops listed := by
        unfold left
        rw [List.mem_filter, List.mem_range]
        refine ⟨hlt, ?_⟩
        rw [Array.getD_eq_getD_getElem?, Array.getElem?_eq_getElem (by omega)] at h0 ⊢
        simpa using h0
      obtain ⟨s, t, hst⟩ := List.append_of_mem hm
      obtain ⟨hset, hbefore⟩ := left_set (ops := ops) hs hst
      rw [hst] at h
      have hf := wpSeq_front ho hsel t s a w (fun k hk => by
        have hki := hbefore k hk
        have hkl : listed.getD k false = false := by
          have : k ∈ left ops listed := by rw [hst]; simp [hk]
          unfold left at this
          rw [List.mem_filter] at this
          simpa using this.2
        rcases (serialB_at hB ho).2 k hki with ⟨hb, _⟩ | ⟨_, h⟩
        · have := ahead_listed hB hd i i o (Nat.le_refl _) ho hall k hki hb
          rw [hkl] at this
          cases this
        · exact h) h
      refine wpOp_mono (fun a' w' hh => ih _ a' w' ?_ (by simpa using hs) ?_ (by rw [hset]; exact hh)) hf
      · intro j oj hj hlj e he hb
        by_cases hji : i = j
        · subst hji
          rw [ho] at hj
          injection hj with hj
          subst hj
          exact getD_set_true (hall e he hb)
        · rw [getD_set_ne false hji] at hlj
          exact getD_set_true (hd j oj hj hlj e he hb)
      · rw [hset]
        rw [hst] at hl
        simp at hl ⊢
        omega

theorem wpSeq_list : ∀ (l : List Oper) (k : Nat) (a : Act) (w : World), (∀ j, l[j]? = ops[k + j]?) → wpList P ops (Only Q) l a w → wpSeq P ops Q (Q .normal) (List.range' k l.length) a w
  | [], k, a, w, _, h => h
  | o :: l, k, a, w, hl, h => by
    have h0 : ops[k]? = some o := by simpa using (hl 0).symm
    rw [List.length_cons, List.range'_succ]
    unfold wpSeq wpOp
    simp only [h0]
    unfold wpList at h
    have hm : ∀ a w, wpList P ops (Only Q) l a w → wpSeq P ops Q (Q .normal) (List.range' (k + 1) l.length) a w := fun a w h =>
      wpSeq_list l (k + 1) a w (fun j => by have := hl (j + 1); simpa [Nat.add_assoc, Nat.add_comm 1 j] using this) h
    split at h
    · rename_i hw
      rw [if_pos hw]
      exact h.imp (Oper.wp_mono hm) id
    · rename_i hw
      rw [if_neg hw]
      exact hm _ _ h

/-- THE WALK IN THE ORDER OF THE TEXT SERVES EVERY ORDER. -/
theorem wp_region_serial {id : Nat} {l : List Oper} {a : Act} {w : World} (B : Array Nat) (hm : P.follows .mixedOrders = true) (hB : serialB P l.toArray B = true)
    (h : wpList P l.toArray (Only Q) l a w.drew) : (Code.region id l.toArray true).wp P Q a w := by
  refine Code.wp_mono Only.imp (wp_region_any hm ?_)
  have hleft : left l.toArray (Array.replicate l.toArray.size false) = List.range l.length := by
    unfold left
    rw [List.filter_eq_self.2 fun k hk => by simp [Array.getD_eq_getD_getElem?, Array.getElem?_replicate]; split <;> simp]
    simp
  refine serial_any hB _ _ _ _ ?_ (by simp) (by rw [hleft]; simp) ?_
  · intro i o ho hl
    simp [Array.getD_eq_getD_getElem?, Array.getElem?_replicate] at hl
    split at hl <;> simp at hl
  · rw [hleft, List.range_eq_range']
    exact wpSeq_list l 0 a _ (fun j => by simp) h

theorem wp_region_text {id : Nat} {l : List Oper} {a : Act} {w : World} (hm : P.follows .mixedOrders = true) (hB : serialB P l.toArray (Region.before l.toArray) = true)
    (h : wpList P l.toArray (Only Q) l a w.drew) : (Code.region id l.toArray true).wp P Q a w := wp_region_serial _ hm hB h
theorem Only.normal {a : Act} {w : World} (h : Q .normal a w) : Only Q .normal a w := h
end
end Go.Proofs.YtabpheanbomibaaGreatDoor
namespace Go.Proofs.YtabpheanbomibaaGreatDoor
open Go.RowKit

/-- It leaves the world as it is, and with a block more it yields the same. -/
def UpS {α : Type} (P : Program) (s : Sem α) : Prop := ∀ w v w', s.run P w = .ok v w' → w' = w ∧ ∀ o, s.run P (w.alloc o) = .ok v (w.alloc o)
/-- It makes a block, and turns nothing else. -/
def NewS {α : Type} (P : Program) (s : Sem α) : Prop := ∀ w v w', s.run P w = .ok v w' → ∃ o, w' = w.alloc o

section
variable {α β : Type} {P : Program}
theorem StillS.up {s : Sem α} (h : StillS P s) : UpS P s := fun w v w' hh => by
  obtain ⟨h1, h2⟩ := h w v w' hh
  exact ⟨h1, fun o => h2 _⟩
theorem UpS.bind {s : Sem α} {f : α → Sem β} (hs : UpS P s) (hf : ∀ x, UpS P (f x)) : UpS P (s >>= f) := fun w v w' h => by
  rw [Sem.run_bind] at h
  cases h1 : s.run P w with
  | halt x y => rw [h1] at h; simp [Result.andThen] at h
  | ok x y =>
    rw [h1] at h
    simp only [Result.andThen_ok] at h
    obtain ⟨rfl, h2⟩ := hs w x y h1
    obtain ⟨rfl, h3⟩ := hf x _ v w' h
    exact ⟨rfl, fun o => by rw [Sem.run_bind, h2 o, Result.andThen_ok, h3 o]⟩
theorem heap_up {w : World} {i : Nat} {x : Obj} (h : w.heap[i]? = some x) (o : Obj) : (w.alloc o).heap[i]? = some x :=
  (Below.heap_alloc w o i (Array.getElem?_eq_some_iff.1 h).1).trans h
theorem seen_up {w : World} {p : Program} {at_ : Addr} {u : TypeId} {k : Addr} {m : Bool} {r} (h : w.seen p at_ u k m = .ok r) (o : Obj) : (w.alloc o).seen p at_ u k m = .ok r := by
  by_cases hb : at_.block < w.heap.size
  · have e : (w.alloc o).heap[at_.block]? = w.heap[at_.block]? := Below.heap_alloc w o _ hb
    unfold World.seen at h ⊢
    rw [e]
    exact h
  · exfalso
    have e : w.heap[at_.block]? = none := Array.getElem?_eq_none (by omega)
    unfold World.seen at h
    rw [e] at h
    simp only [bind, Except.bind] at h
    repeat' split at h
    all_goals first | (cases h; done) | skip
theorem farLoad_up {w : World} {p : Program} {a : Addr} {m : Bool} {r} (h : w.farLoad p a m = .ok r) (o : Obj) : (w.alloc o).cell? a = none ∧ (w.alloc o).farLoad p a m = .ok r := by
  unfold World.farLoad at h
  split at h
  · rename_i at_ u hv
    have hv2 := heap_up hv o
    refine ⟨by unfold World.cell?; rw [hv2], ?_⟩
    unfold World.farLoad
    rw [hv2]
    simp only
    split at h
    · rename_i r2 hr
      injection h with h
      subst h
      unfold World.viewLoad at hr ⊢
      simp only [bind, Except.bind] at hr ⊢
      split at hr
      · cases hr
      · rename_i x hx
        rw [seen_up hx o]
        simp only
        rw [hr]
    · cases h
  · cases h
theorem UpS.load (a : Addr) (m : Mode) : UpS P (Go.load a m) := by
  intro w v w' h
  unfold Go.load at h ⊢
  rw [Sem.run] at h
  cases hc : w.cell? a with
  | some x =>
    rw [hc] at h
    simp only [Sem.run] at h
    injection h with h1 h2
    subst h1 h2
    refine ⟨rfl, fun o => ?_⟩
    rw [Sem.run, World.cell?_alloc_some w a o (by rw [hc]; rfl), hc]
    rfl
  | none =>
    rw [hc] at h
    simp only at h
    split at h
    · rename_i x y hf
      simp only [Sem.run] at h
      injection h with h1 h2
      subst h1 h2
      refine ⟨rfl, fun o => ?_⟩
      obtain ⟨e1, e2⟩ := farLoad_up hf o
      rw [Sem.run, e1]
      simp only
      rw [e2]
      rfl
    · cases h
theorem UpS.cells (a : Addr) : ∀ (n i : Nat) (acc : Array Value), UpS P (loadCellsFrom a i n acc)
  | 0, _, _ => (StillS.pure _).up
  | n + 1, i, acc => .bind (.load _ _) fun v => UpS.cells a n (i + 1) (acc.push v)
theorem UpS.loadVar (t : TypeId) (a : Addr) : UpS P (Go.loadVar t a) := by
  unfold Go.loadVar
  refine .bind (StillS.isAgg t).up fun b => ?_
  split
  · exact .bind (StillS.sizeOf t).up fun _ => .bind (.cells a _ _ _) fun _ => (StillS.pure _).up
  · exact .load _ _
theorem NewS.bind {s : Sem α} {f : α → Sem β} (hs : StillS P s) (hf : ∀ x, NewS P (f x)) : NewS P (s >>= f) := fun w v w' h => by
  rw [Sem.run_bind] at h
  cases h1 : s.run P w with
  | halt x y => rw [h1] at h; simp [Result.andThen] at h
  | ok x y =>
    rw [h1] at h
    simp only [Result.andThen_ok] at h
    obtain ⟨rfl, _⟩ := hs w x y h1
    exact hf x _ v w' h
theorem NewS.after {s : Sem α} {f : α → Sem β} (hs : NewS P s) (hf : ∀ x, StillS P (f x)) : NewS P (s >>= f) := fun w v w' h => by
  rw [Sem.run_bind] at h
  cases h1 : s.run P w with
  | halt x y => rw [h1] at h; simp [Result.andThen] at h
  | ok x y =>
    rw [h1] at h
    simp only [Result.andThen_ok] at h
    obtain ⟨o, rfl⟩ := hs w x y h1
    obtain ⟨rfl, _⟩ := hf x _ v w' h
    exact ⟨o, rfl⟩
theorem NewS.halt (h : Halt) : NewS P (Sem.halt h : Sem α) := fun w v w' hh => by simp at hh
theorem NewS.row (e : TypeId) (cs : Array Value) : NewS P (newRow e cs) := by
  intro w v w' h
  unfold newRow newObj at h
  simp [Sem.run] at h
  exact ⟨_, h.2.symm⟩
theorem StillS.zeroValue (t : TypeId) : StillS P (Go.zeroValue t) := by
  unfold Go.zeroValue
  refine .bind (.typeInfo t) fun i => ?_
  split
  · exact .pure _
  · first | exact .halt _ | exact .stuck _ | exact .unsupported _
theorem NewS.buildSlice (t : TypeId) (len : Nat) (parts : Array (Nat × Value)) : NewS P (Instr.buildSlice t len parts) := by
  unfold Instr.buildSlice
  refine .bind (.underlying t) fun x => ?_
  split
  · rename_i elem
    refine .bind (.sizeOf _) fun size => ?_
    dsimp only
    have tail : ∀ zero : Array Value, NewS P (match Instr.fill (fun i => some (i * size, size)) ((Array.range (len * size)).map fun x => zero[x % zero.size]!) parts.toList with
        | some cells => do
          let a ← newRow elem cells
          pure (Value.slice (some a) len len)
        | x => stuck "buildSlice: a part of the wrong size") := by
      intro zero
      split
      · exact .after (.row _ _) fun _ => .pure _
      · exact .halt _
    split
    · refine .bind (.unsupported _) fun _ => ?_
      split
      · exact .bind (.pure _) tail
      · exact .bind (.zeroValue _) fun _ => .bind (.pure _) tail
    · split
      · exact .bind (.pure _) tail
      · exact .bind (.zeroValue _) fun _ => .bind (.pure _) tail
  · exact .halt _

theorem NewS.alloc (t : TypeId) : NewS P (Instr.alloc t true (.tuple #[])) := by
  unfold Instr.alloc
  refine .bind (.zeroValue _) fun z => ?_
  exact .after (.row _ _) fun _ => .pure _
def newOp : Op → Bool
  | .buildSlice .. => true
  | .alloc .. => true
  | _ => false
/-- A read, and what it reads with a block more. -/
theorem readOp_up {o : Oper} (h : readOp P o.op = true) (ρ : Operand → Value) (w : World) (n : Next) (w' : World) (hr : (execOp ρ o).run P w = .ok n w') : ∀ ob, (execOp ρ o).run P (w.alloc ob) = .ok n (w.alloc ob) := by
  by_cases hp : pureOp P o.op = true
  · obtain ⟨v, h1, h2, h3⟩ := pureOp_still hp ρ w n w' hr
    intro ob
    rw [h3, h1]
  · cases hop : o.op <;> rw [hop] at h hp <;> first | (exact absurd h hp) | skip
    case load t x =>
      simp only [execOp, hop] at hr ⊢
      have hu : UpS P (Instr.loadAt t (ρ x) >>= fun v => Pure.pure (Next.value v)) := .bind (.bind (StillS.sureAddr _).up fun _ => .loadVar _ _) fun _ => (StillS.pure _).up
      exact (hu w n w' hr).2
theorem newOp_new {o : Oper} (h : newOp o.op = true) (ρ : Operand → Value) (w : World) (n : Next) (w' : World) (hr : (execOp ρ o).run P w = .ok n w') : (∃ v, n = .value v) ∧ ∃ ob, w' = w.alloc ob := by
  cases hop : o.op <;> rw [hop] at h <;> first | (cases h; done) | skip
  case buildSlice t len parts =>
    simp only [execOp, hop] at hr
    rw [Sem.run_bind] at hr
    cases h1 : (Instr.buildSlice t len (parts.map fun (i, x) => (i, ρ x))).run P w with
    | halt q y => rw [h1] at hr; simp [Result.andThen] at hr
    | ok q y =>
      rw [h1] at hr
      simp only [Result.andThen_ok, Sem.run_pure] at hr
      injection hr with h2 h3
      obtain ⟨ob, hob⟩ := NewS.buildSlice _ _ _ w q y h1
      exact ⟨⟨q, h2.symm⟩, ob, by rw [← h3, hob]⟩

  case alloc t =>
    simp only [execOp, hop] at hr
    rw [Sem.run_bind] at hr
    cases h1 : (Instr.alloc t true (.tuple #[])).run P w with
    | halt q y => rw [h1] at hr; simp [Result.andThen] at hr
    | ok q y =>
      rw [h1] at hr
      simp only [Result.andThen_ok, Sem.run_pure] at hr
      injection hr with h2 h3
      obtain ⟨ob, hob⟩ := NewS.alloc _ w q y h1
      exact ⟨⟨q, h2.symm⟩, ob, by rw [← h3, hob]⟩

variable {ops : Array Oper} {Q : Exit → Act → World → Prop} {K : Act → World → Prop}
def commC (P : Program) (ops : Array Oper) (x y : Oper) : Bool := commB P ops x y || (x.apart ops y && y.apart ops x && readOp P x.op && newOp y.op)

theorem newOp_step {i : Nat} {o : Oper} (hi : ops[i]? = some o) (hr : newOp o.op = true) {a : Act} {w : World} (h : wpOp P ops (Only Q) i K a w) :
    (∃ v ob, K (a.put o.dst v) (w.alloc ob) ∧ Region.wanted o (yielded ops a.tmps) = true ∧ (execOp a.eval o).run P w = .ok (.value v) (w.alloc ob)) ∨ (K (a.put o.dst undef) w ∧ Region.wanted o (yielded ops a.tmps) = false) := by
  unfold wpOp at h
  simp only [hi] at h
  split at h
  · rename_i hw
    rcases h with h | ⟨_, h⟩
    · unfold Oper.wp at h
      cases hrun : (execOp a.eval o).run P w with
      | halt x y => rw [hrun] at h; cases x <;> simp [Oper.upon, Only] at h
      | ok n y =>
        obtain ⟨⟨v, rfl⟩, ob, rfl⟩ := newOp_new hr _ _ _ _ hrun
        rw [hrun] at h
        exact .inl ⟨v, ob, h, hw, rfl⟩
    · exact absurd h Only.lets
  · rename_i hw
    exact .inr ⟨h, by simpa using hw⟩

theorem swapC {i j : Nat} {oi oj : Oper} (hi : ops[i]? = some oi) (hj : ops[j]? = some oj) (hc : commC P ops oi oj = true) (hsi : ∀ cs b, oi.op ≠ .select cs b) (hsj : ∀ cs b, oj.op ≠ .select cs b) {a : Act} {w : World}
    (h : wpOp P ops (Only Q) i (wpOp P ops (Only Q) j K) a w) : wpOp P ops (Only Q) j (wpOp P ops (Only Q) i K) a w := by
  simp only [commC, Bool.or_eq_true, Bool.and_eq_true] at hc
  rcases hc with hc | ⟨⟨⟨ha, hb⟩, hc1⟩, hc2⟩
  · exact swap hi hj hc hsi hsj h
  · obtain ⟨h1, h2, h3⟩ := Oper.apart_spec ha
    obtain ⟨v, hk, hv⟩ := readOp_step hi hc1 h
    rcases newOp_step hj hc2 hk with ⟨u, ob, hk2, hw2, hr2⟩ | ⟨hk2, hw2⟩
    · rw [wanted_put oj a oi.dst v h1] at hw2
      rw [execOp_put oj hsj a oi.dst v h1] at hr2
      unfold wpOp
      simp only [hj]
      rw [if_pos hw2]
      refine .inl ?_
      unfold Oper.wp
      rw [hr2]
      show wpOp P ops (Only Q) i K (a.put oj.dst u) (w.alloc ob)
      refine readOp_mk hi (v := v) ?_ ?_
      · rw [wanted_put oi a oj.dst u h3, execOp_put oi hsi a oj.dst u h3]
        rcases hv with ⟨g1, g2⟩ | g
        · exact .inl ⟨g1, readOp_up hc1 _ _ _ _ g2 ob⟩
        · exact .inr g
      · rw [← Act.put_comm a v u h2]
        exact hk2
    · rw [wanted_put oj a oi.dst v h1] at hw2
      unfold wpOp
      simp only [hj]
      rw [if_neg (by simp [hw2])]
      refine readOp_mk hi (v := v) ?_ ?_
      · rw [wanted_put oi a oj.dst undef h3, execOp_put oi hsi a oj.dst undef h3]
        exact hv
      · rw [← Act.put_comm a v undef h2]
        exact hk2

theorem wpSeq_frontC {i : Nat} {oi : Oper} (hi : ops[i]? = some oi) (hsel : ∀ (j : Nat) (o : Oper) cs b, ops[j]? = some o → o.op ≠ .select cs b) (post : List Nat) : ∀ (pre : List Nat) (a : Act) (w : World),
    (∀ k ∈ pre, ∃ ok, ops[k]? = some ok ∧ commC P ops ok oi = true) → wpSeq P ops Q K (pre ++ i :: post) a w → wpOp P ops (Only Q) i (wpSeq P ops Q K (pre ++ post)) a w
  | [], a, w, _, h => h
  | k :: pre, a, w, hp, h => by
    obtain ⟨ok, hk, hc⟩ := hp k (by simp)
    have h1 : wpOp P ops (Only Q) k (wpOp P ops (Only Q) i (wpSeq P ops Q K (pre ++ post))) a w :=
      wpOp_mono (fun a' w' hh => wpSeq_frontC hi hsel post pre a' w' (fun k' hk' => hp k' (by simp [hk'])) hh) h
    exact swapC hk hi hc (hsel k ok · · hk) (hsel i oi · · hi) h1

/-- The table B holds, of each operation, (some of) those that its edges put ahead of it; the others ahead of it in the text may change places with it. -/
def serialC (P : Program) (ops : Array Oper) (B : Array Nat) : Bool :=
  Region.noSelect ops && (List.range ops.size).all fun i => match ops[i]? with
    | none => true
    | some o => (o.after.all fun e => !Region.binds .any e || decide (e.on < i)) && (List.range i).all fun k =>
      if (B.getD i 0).testBit k then o.after.any fun e => Region.binds .any e && decide (e.on < i) && (e.on == k || (decide (k < e.on) && (B.getD e.on 0).testBit k))
      else match ops[k]? with | none => false | some ok => commC P ops ok o

theorem serialC_at {B : Array Nat} (hB : serialC P ops B = true) {i : Nat} {o : Oper} (hi : ops[i]? = some o) : (∀ e ∈ o.after, Region.binds .any e = true → e.on < i) ∧ ∀ k, k < i →
    ((B.getD i 0).testBit k = true ∧ ∃ e ∈ o.after, Region.binds .any e = true ∧ e.on < i ∧ (e.on = k ∨ (k < e.on ∧ (B.getD e.on 0).testBit k = true))) ∨ ((B.getD i 0).testBit k = false ∧ ∃ ok, ops[k]? = some ok ∧ commC P ops ok o = true) := by
  have hlt := (Array.getElem?_eq_some_iff.1 hi).1
  simp only [serialC, Bool.and_eq_true, List.all_eq_true, List.mem_range] at hB
  have h := hB.2 i hlt
  rw [hi] at h
  simp only [Bool.and_eq_true, List.all_eq_true, List.mem_range, Array.all_eq_true_iff_forall_mem] at h
  refine ⟨fun e he hb => by have := h.1 e he; simpa [hb] using this, fun k hk => ?_⟩
  have h2 := h.2 k hk
  split at h2
  · rename_i hb
    rw [Array.any_eq_true'] at h2
    obtain ⟨e, he, h3⟩ := h2
    simp only [Bool.and_eq_true, Bool.or_eq_true, decide_eq_true_eq, beq_iff_eq] at h3
    exact .inl ⟨hb, e, he, h3.1.1, h3.1.2, h3.2⟩
  · rename_i hb
    cases hk2 : ops[k]? with
    | none => rw [hk2] at h2; cases h2
    | some ok => rw [hk2] at h2; exact .inr ⟨by simpa using hb, ok, rfl, h2⟩

theorem ahead_listedC {B : Array Nat} (hB : serialC P ops B = true) {listed : Array Bool} (hd : Down ops listed) : ∀ (n i : Nat) (o : Oper), i ≤ n → ops[i]? = some o → (∀ e ∈ o.after, Region.binds .any e = true → listed.getD e.on false = true) →
    ∀ k, k < i → (B.getD i 0).testBit k = true → listed.getD k false = true
  | 0, i, o, hn, _, _, k, hk, _ => by omega
  | n + 1, i, o, hn, hi, hall, k, hk, hb => by
    rcases (serialC_at hB hi).2 k hk with ⟨_, e, he, hbi, hlt, h⟩ | ⟨hf, _⟩
    · rcases h with rfl | ⟨hk2, hb2⟩
      · exact hall e he hbi
      · have hon : ∃ o2, ops[e.on]? = some o2 := ⟨_, Array.getElem?_eq_getElem (by have := (Array.getElem?_eq_some_iff.1 hi).1; omega)⟩
        obtain ⟨o2, ho2⟩ := hon
        exact ahead_listedC hB hd n e.on o2 (by omega) ho2 (hd e.on o2 ho2 (hall e he hbi)) k hk2 hb2
    · rw [hb] at hf; cases hf

theorem serial_anyC {B : Array Nat} (hB : serialC P ops B = true) : ∀ (fuel : Nat) (listed : Array Bool) (a : Act) (w : World), Down ops listed → listed.size = ops.size → (left ops listed).length = fuel →
    wpSeq P ops Q (Q .normal) (left ops listed) a w → wpAny P .any ops (Only Q) fuel listed a w := by
  have hsel : ∀ (j : Nat) (o : Oper) cs b, ops[j]? = some o → o.op ≠ .select cs b := by
    intro j o cs b ho
    have : Region.noSelect ops = true := by simp only [serialC, Bool.and_eq_true] at hB; exact hB.1
    exact Region.noSelect_spec this j o cs b ho
  have hready : ∀ (listed : Array Bool), Down ops listed → listed.size = ops.size → ∀ i r, left ops listed = i :: r → i ∈ Region.ready .any ops listed := by
    intro listed hd hs i r hl
    have hi : i ∈ left ops listed := by rw [hl]; simp
    have hmin := (left_set (ops := ops) hs (s := []) (t := r) hl)
    unfold left at hi
    rw [List.mem_filter, List.mem_range] at hi
    rw [mem_ready]
    obtain ⟨o, ho⟩ : ∃ o, ops[i]? = some o := ⟨_, Array.getElem?_eq_getElem hi.1⟩
    refine ⟨?_, o, ho, fun e he hb => ?_⟩
    · have h1 := hi.2
      rw [Array.getD_eq_getD_getElem?, Array.getElem?_eq_getElem (by omega)] at h1 ⊢
      simpa using h1
    · have hlt := (serialC_at hB ho).1 e he hb
      cases hc : listed.getD e.on false
      · have hm : e.on ∈ left ops listed := by
          unfold left
          rw [List.mem_filter, List.mem_range]
          exact ⟨by omega, by simp [hc]⟩
        have hp : (left ops listed).Pairwise (· < ·) := List.Pairwise.filter _ List.pairwise_lt_range
        rw [hl] at hm hp
        rw [List.pairwise_cons] at hp
        rcases List.mem_cons.1 hm with h | h
        · omega
        · have := hp.1 _ h; omega
      · rfl
  intro fuel
  induction fuel with
  | zero =>
    intro listed a w hd hs hl h
    have hnil := List.eq_nil_of_length_eq_zero hl
    rw [hnil] at h
    refine ⟨?_, h⟩
    cases hr : Region.ready .any ops listed with
    | nil => rfl
    | cons i r =>
      have hi : i ∈ Region.ready .any ops listed := by rw [hr]; simp
      rw [mem_ready] at hi
      obtain ⟨h0, o, ho, _⟩ := hi
      have hm : i ∈ left ops listed := by
        unfold left
        rw [List.mem_filter, List.mem_range]
        have hlt := (Array.getElem?_eq_some_iff.1 ho).1
        refine ⟨hlt, ?_⟩
        rw [Array.getD_eq_getD_getElem?, Array.getElem?_eq_getElem (by omega)] at h0 ⊢
        simpa using h0
      rw [hnil] at hm
      cases hm
  | succ fuel ih =>
    intro listed a w hd hs hl h
    refine ⟨fun hr => ?_, fun i hi => ?_⟩
    · cases hl2 : left ops listed with
      | nil => rw [hl2] at hl; simp at hl
      | cons i r =>
        have := hready listed hd hs i r hl2
        rw [hr] at this
        cases this
    · rw [mem_ready] at hi
      obtain ⟨h0, o, ho, hall⟩ := hi
      have hlt := (Array.getElem?_eq_some_iff.1 ho).1
      have hm : i ∈ left ops listed := by
        unfold left
        rw [List.mem_filter, List.mem_range]
        refine ⟨hlt, ?_⟩
        rw [Array.getD_eq_getD_getElem?, Array.getElem?_eq_getElem (by omega)] at h0 ⊢
        simpa using h0
      obtain ⟨s, t, hst⟩ := List.append_of_mem hm
      obtain ⟨hset, hbefore⟩ := left_set (ops := ops) hs hst
      rw [hst] at h
      have hf := wpSeq_frontC ho hsel t s a w (fun k hk => by
        have hki := hbefore k hk
        have hkl : listed.getD k false = false := by
          have : k ∈ left ops listed := by rw [hst]; simp [hk]
          unfold left at this
          rw [List.mem_filter] at this
          simpa using this.2
        rcases (serialC_at hB ho).2 k hki with ⟨hb, _⟩ | ⟨_, h⟩
        · have := ahead_listedC hB hd i i o (Nat.le_refl _) ho hall k hki hb
          rw [hkl] at this
          cases this
        · exact h) h
      refine wpOp_mono (fun a' w' hh => ih _ a' w' ?_ (by simpa using hs) ?_ (by rw [hset]; exact hh)) hf
      · intro j oj hj hlj e he hb
        by_cases hji : i = j
        · subst hji
          rw [ho] at hj
          injection hj with hj
          subst hj
          exact getD_set_true (hall e he hb)
        · rw [getD_set_ne false hji] at hlj
          exact getD_set_true (hd j oj hj hlj e he hb)
      · rw [hset]
        rw [hst] at hl
        simp at hl ⊢
        omega

/-- THE WALK IN THE ORDER OF THE TEXT SERVES EVERY ORDER. -/
theorem wp_region_serialC {id : Nat} {l : List Oper} {a : Act} {w : World} (B : Array Nat) (hm : P.follows .mixedOrders = true) (hB : serialC P l.toArray B = true)
    (h : wpList P l.toArray (Only Q) l a w.drew) : (Code.region id l.toArray true).wp P Q a w := by
  refine Code.wp_mono Only.imp (wp_region_any hm ?_)
  have hleft : left l.toArray (Array.replicate l.toArray.size false) = List.range l.length := by
    unfold left
    rw [List.filter_eq_self.2 fun k hk => by simp [Array.getD_eq_getD_getElem?, Array.getElem?_replicate]; split <;> simp]
    simp
  refine serial_anyC hB _ _ _ _ ?_ (by simp) (by rw [hleft]; simp) ?_
  · intro i o ho hl
    simp [Array.getD_eq_getD_getElem?, Array.getElem?_replicate] at hl
    split at hl <;> simp at hl
  · rw [hleft, List.range_eq_range']
    exact wpSeq_list l 0 a _ (fun j => by simp) h

theorem wp_region_text2 {id : Nat} {l : List Oper} {a : Act} {w : World} (hm : P.follows .mixedOrders = true) (hB : serialC P l.toArray (Region.before l.toArray) = true)
    (h : wpList P l.toArray (Only Q) l a w.drew) : (Code.region id l.toArray true).wp P Q a w := wp_region_serialC _ hm hB h
end
end Go.Proofs.YtabpheanbomibaaGreatDoor
namespace Go.Proofs.YtabpheanbomibaaGreatDoor
open Go.RowKit

section
variable {α β : Type} {P : Program}
theorem ReadS.pure (v : α) : ReadS P (Pure.pure v : Sem α) := (StillS.pure v).read
theorem ReadS.mapL {f : α → Sem β} (hf : ∀ x, ReadS P (f x)) : ∀ l : List α, ReadS P (l.mapM f)
  | [] => by rw [List.mapM_nil]; exact .pure _
  | x :: r => by
    rw [List.mapM_cons]
    exact .bind (hf x) fun _ => .bind (ReadS.mapL hf r) fun _ => .pure _
theorem ReadS.mapA {f : α → Sem β} (hf : ∀ x, ReadS P (f x)) (l : Array α) : ReadS P (l.mapM f) := by
  rw [Array.mapM_eq_mapM_toList, map_eq_pure_bind]
  exact .bind (ReadS.mapL hf _) fun _ => .pure _
theorem ReadS.build (t : TypeId) (parts : Array (Nat × Value)) : ReadS P (Instr.build t parts) := by
  unfold Instr.build
  refine .bind (StillS.zeroValue t).read fun z => .bind (StillS.underlying t).read fun u => ?_
  split
  · refine .bind (.mapA (fun x => .bind (StillS.sizeOf _).read fun _ => .pure _) _) fun x => ?_
    split
    · exact .pure _
    · exact (StillS.stuck _).read
  · refine .bind (StillS.sizeOf _).read fun x => ?_
    split
    · exact .pure _
    · exact (StillS.stuck _).read
  · exact (StillS.stuck _).read

def readQ (P : Program) : Op → Bool
  | .build .. => true
  | o => readOp P o
theorem readQ_read {o : Oper} (h : readQ P o.op = true) (ρ : Operand → Value) (w : World) (n : Next) (w' : World) (hr : (execOp ρ o).run P w = .ok n w') : (∃ v, n = .value v) ∧ w' = w := by
  by_cases hp : readOp P o.op = true
  · exact readOp_read hp ρ w n w' hr
  · cases hop : o.op <;> rw [hop] at h hp <;> first | (exact absurd h hp) | skip
    case build t parts =>
      simp only [execOp, hop] at hr
      rw [Sem.run_bind] at hr
      cases h1 : (Instr.build t (parts.map fun (i, x) => (i, ρ x))).run P w with
      | halt q y => rw [h1] at hr; simp [Result.andThen] at hr
      | ok q y =>
        rw [h1] at hr
        simp only [Result.andThen_ok, Sem.run_pure] at hr
        injection hr with h2 h3
        exact ⟨⟨q, h2.symm⟩, h3.symm.trans (ReadS.build _ _ w q y h1)⟩

variable {ops : Array Oper} {Q : Exit → Act → World → Prop} {K : Act → World → Prop}
def commD (P : Program) (ops : Array Oper) (x y : Oper) : Bool := commC P ops x y || (x.apart ops y && y.apart ops x && readQ P x.op && readQ P y.op)

theorem readQ_step {i : Nat} {o : Oper} (hi : ops[i]? = some o) (hr : readQ P o.op = true) {a : Act} {w : World} (h : wpOp P ops (Only Q) i K a w) :
    ∃ v, K (a.put o.dst v) w ∧ ((Region.wanted o (yielded ops a.tmps) = true ∧ (execOp a.eval o).run P w = .ok (.value v) w) ∨ (Region.wanted o (yielded ops a.tmps) = false ∧ v = undef)) := by
  unfold wpOp at h
  simp only [hi] at h
  split at h
  · rename_i hw
    rcases h with h | ⟨_, h⟩
    · unfold Oper.wp at h
      cases hrun : (execOp a.eval o).run P w with
      | halt x y => rw [hrun] at h; cases x <;> simp [Oper.upon, Only] at h
      | ok n y =>
        obtain ⟨⟨v, rfl⟩, rfl⟩ := readQ_read hr _ _ _ _ hrun
        rw [hrun] at h
        exact ⟨v, h, .inl ⟨hw, rfl⟩⟩
    · exact absurd h Only.lets
  · rename_i hw
    exact ⟨undef, h, .inr ⟨by simpa using hw, rfl⟩⟩

theorem swapD {i j : Nat} {oi oj : Oper} (hi : ops[i]? = some oi) (hj : ops[j]? = some oj) (hc : commD P ops oi oj = true) (hsi : ∀ cs b, oi.op ≠ .select cs b) (hsj : ∀ cs b, oj.op ≠ .select cs b) {a : Act} {w : World}
    (h : wpOp P ops (Only Q) i (wpOp P ops (Only Q) j K) a w) : wpOp P ops (Only Q) j (wpOp P ops (Only Q) i K) a w := by
  simp only [commD, Bool.or_eq_true, Bool.and_eq_true] at hc
  rcases hc with hc | ⟨⟨⟨ha, hb⟩, hc1⟩, hc2⟩
  · exact swapC hi hj hc hsi hsj h
  · obtain ⟨v, hk, hv⟩ := readQ_step hi hc1 h
    obtain ⟨u, hk2, hu⟩ := readQ_step hj hc2 hk
    obtain ⟨h1, h2, h3⟩ := Oper.apart_spec ha
    rw [wanted_put oj a oi.dst v h1, execOp_put oj hsj a oi.dst v h1] at hu
    refine readOp_mk hj hu ?_
    refine readOp_mk hi (v := v) ?_ ?_
    · rw [wanted_put oi a oj.dst u h3, execOp_put oi hsi a oj.dst u h3]
      exact hv
    · rw [← Act.put_comm a v u h2]
      exact hk2

theorem wpSeq_frontD {i : Nat} {oi : Oper} (hi : ops[i]? = some oi) (hsel : ∀ (j : Nat) (o : Oper) cs b, ops[j]? = some o → o.op ≠ .select cs b) (post : List Nat) : ∀ (pre : List Nat) (a : Act) (w : World),
    (∀ k ∈ pre, ∃ ok, ops[k]? = some ok ∧ commD P ops ok oi = true) → wpSeq P ops Q K (pre ++ i :: post) a w → wpOp P ops (Only Q) i (wpSeq P ops Q K (pre ++ post)) a w
  | [], a, w, _, h => h
  | k :: pre, a, w, hp, h => by
    obtain ⟨ok, hk, hc⟩ := hp k (by simp)
    have h1 : wpOp P ops (Only Q) k (wpOp P ops (Only Q) i (wpSeq P ops Q K (pre ++ post))) a w :=
      wpOp_mono (fun a' w' hh => wpSeq_frontD hi hsel post pre a' w' (fun k' hk' => hp k' (by simp [hk'])) hh) h
    exact swapD hk hi hc (hsel k ok · · hk) (hsel i oi · · hi) h1

/-- The table B holds, of each operation, (some of) those that its edges put ahead of it; the others ahead of it in the text may change places with it. -/
def serialD (P : Program) (ops : Array Oper) (B : Array Nat) : Bool :=
  Region.noSelect ops && (List.range ops.size).all fun i => match ops[i]? with
    | none => true
    | some o => (o.after.all fun e => !Region.binds .any e || decide (e.on < i)) && (List.range i).all fun k =>
      if (B.getD i 0).testBit k then o.after.any fun e => Region.binds .any e && decide (e.on < i) && (e.on == k || (decide (k < e.on) && (B.getD e.on 0).testBit k))
      else match ops[k]? with | none => false | some ok => commD P ops ok o

theorem serialD_at {B : Array Nat} (hB : serialD P ops B = true) {i : Nat} {o : Oper} (hi : ops[i]? = some o) : (∀ e ∈ o.after, Region.binds .any e = true → e.on < i) ∧ ∀ k, k < i →
    ((B.getD i 0).testBit k = true ∧ ∃ e ∈ o.after, Region.binds .any e = true ∧ e.on < i ∧ (e.on = k ∨ (k < e.on ∧ (B.getD e.on 0).testBit k = true))) ∨ ((B.getD i 0).testBit k = false ∧ ∃ ok, ops[k]? = some ok ∧ commD P ops ok o = true) := by
  have hlt := (Array.getElem?_eq_some_iff.1 hi).1
  simp only [serialD, Bool.and_eq_true, List.all_eq_true, List.mem_range] at hB
  have h := hB.2 i hlt
  rw [hi] at h
  simp only [Bool.and_eq_true, List.all_eq_true, List.mem_range, Array.all_eq_true_iff_forall_mem] at h
  refine ⟨fun e he hb => by have := h.1 e he; simpa [hb] using this, fun k hk => ?_⟩
  have h2 := h.2 k hk
  split at h2
  · rename_i hb
    rw [Array.any_eq_true'] at h2
    obtain ⟨e, he, h3⟩ := h2
    simp only [Bool.and_eq_true, Bool.or_eq_true, decide_eq_true_eq, beq_iff_eq] at h3
    exact .inl ⟨hb, e, he, h3.1.1, h3.1.2, h3.2⟩
  · rename_i hb
    cases hk2 : ops[k]? with
    | none => rw [hk2] at h2; cases h2
    | some ok => rw [hk2] at h2; exact .inr ⟨by simpa using hb, ok, rfl, h2⟩

theorem ahead_listedD {B : Array Nat} (hB : serialD P ops B = true) {listed : Array Bool} (hd : Down ops listed) : ∀ (n i : Nat) (o : Oper), i ≤ n → ops[i]? = some o → (∀ e ∈ o.after, Region.binds .any e = true → listed.getD e.on false = true) →
    ∀ k, k < i → (B.getD i 0).testBit k = true → listed.getD k false = true
  | 0, i, o, hn, _, _, k, hk, _ => by omega
  | n + 1, i, o, hn, hi, hall, k, hk, hb => by
    rcases (serialD_at hB hi).2 k hk with ⟨_, e, he, hbi, hlt, h⟩ | ⟨hf, _⟩
    · rcases h with rfl | ⟨hk2, hb2⟩
      · exact hall e he hbi
      · have hon : ∃ o2, ops[e.on]? = some o2 := ⟨_, Array.getElem?_eq_getElem (by have := (Array.getElem?_eq_some_iff.1 hi).1; omega)⟩
        obtain ⟨o2, ho2⟩ := hon
        exact ahead_listedD hB hd n e.on o2 (by omega) ho2 (hd e.on o2 ho2 (hall e he hbi)) k hk2 hb2
    · rw [hb] at hf; cases hf

theorem serial_anyD {B : Array Nat} (hB : serialD P ops B = true) : ∀ (fuel : Nat) (listed : Array Bool) (a : Act) (w : World), Down ops listed → listed.size = ops.size → (left ops listed).length = fuel →
    wpSeq P ops Q (Q .normal) (left ops listed) a w → wpAny P .any ops (Only Q) fuel listed a w := by
  have hsel : ∀ (j : Nat) (o : Oper) cs b, ops[j]? = some o → o.op ≠ .select cs b := by
    intro j o cs b ho
    have : Region.noSelect ops = true := by simp only [serialD, Bool.and_eq_true] at hB; exact hB.1
    exact Region.noSelect_spec this j o cs b ho
  have hready : ∀ (listed : Array Bool), Down ops listed → listed.size = ops.size → ∀ i r, left ops listed = i :: r → i ∈ Region.ready .any ops listed := by
    intro listed hd hs i r hl
    have hi : i ∈ left ops listed := by rw [hl]; simp
    have hmin := (left_set (ops := ops) hs (s := []) (t := r) hl)
    unfold left at hi
    rw [List.mem_filter, List.mem_range] at hi
    rw [mem_ready]
    obtain ⟨o, ho⟩ : ∃ o, ops[i]? = some o := ⟨_, Array.getElem?_eq_getElem hi.1⟩
    refine ⟨?_, o, ho, fun e he hb => ?_⟩
    · have h1 := hi.2
      rw [Array.getD_eq_getD_getElem?, Array.getElem?_eq_getElem (by omega)] at h1 ⊢
      simpa using h1
    · have hlt := (serialD_at hB ho).1 e he hb
      cases hc : listed.getD e.on false
      · have hm : e.on ∈ left ops listed := by
          unfold left
          rw [List.mem_filter, List.mem_range]
          exact ⟨by omega, by simp [hc]⟩
        have hp : (left ops listed).Pairwise (· < ·) := List.Pairwise.filter _ List.pairwise_lt_range
        rw [hl] at hm hp
        rw [List.pairwise_cons] at hp
        rcases List.mem_cons.1 hm with h | h
        · omega
        · have := hp.1 _ h; omega
      · rfl
  intro fuel
  induction fuel with
  | zero =>
    intro listed a w hd hs hl h
    have hnil := List.eq_nil_of_length_eq_zero hl
    rw [hnil] at h
    refine ⟨?_, h⟩
    cases hr : Region.ready .any ops listed with
    | nil => rfl
    | cons i r =>
      have hi : i ∈ Region.ready .any ops listed := by rw [hr]; simp
      rw [mem_ready] at hi
      obtain ⟨h0, o, ho, _⟩ := hi
      have hm : i ∈ left ops listed := by
        unfold left
        rw [List.mem_filter, List.mem_range]
        have hlt := (Array.getElem?_eq_some_iff.1 ho).1
        refine ⟨hlt, ?_⟩
        rw [Array.getD_eq_getD_getElem?, Array.getElem?_eq_getElem (by omega)] at h0 ⊢
        simpa using h0
      rw [hnil] at hm
      cases hm
  | succ fuel ih =>
    intro listed a w hd hs hl h
    refine ⟨fun hr => ?_, fun i hi => ?_⟩
    · cases hl2 : left ops listed with
      | nil => rw [hl2] at hl; simp at hl
      | cons i r =>
        have := hready listed hd hs i r hl2
        rw [hr] at this
        cases this
    · rw [mem_ready] at hi
      obtain ⟨h0, o, ho, hall⟩ := hi
      have hlt := (Array.getElem?_eq_some_iff.1 ho).1
      have hm : i ∈ left ops listed := by
        unfold left
        rw [List.mem_filter, List.mem_range]
        refine ⟨hlt, ?_⟩
        rw [Array.getD_eq_getD_getElem?, Array.getElem?_eq_getElem (by omega)] at h0 ⊢
        simpa using h0
      obtain ⟨s, t, hst⟩ := List.append_of_mem hm
      obtain ⟨hset, hbefore⟩ := left_set (ops := ops) hs hst
      rw [hst] at h
      have hf := wpSeq_frontD ho hsel t s a w (fun k hk => by
        have hki := hbefore k hk
        have hkl : listed.getD k false = false := by
          have : k ∈ left ops listed := by rw [hst]; simp [hk]
          unfold left at this
          rw [List.mem_filter] at this
          simpa using this.2
        rcases (serialD_at hB ho).2 k hki with ⟨hb, _⟩ | ⟨_, h⟩
        · have := ahead_listedD hB hd i i o (Nat.le_refl _) ho hall k hki hb
          rw [hkl] at this
          cases this
        · exact h) h
      refine wpOp_mono (fun a' w' hh => ih _ a' w' ?_ (by simpa using hs) ?_ (by rw [hset]; exact hh)) hf
      · intro j oj hj hlj e he hb
        by_cases hji : i = j
        · subst hji
          rw [ho] at hj
          injection hj with hj
          subst hj
          exact getD_set_true (hall e he hb)
        · rw [getD_set_ne false hji] at hlj
          exact getD_set_true (hd j oj hj hlj e he hb)
      · rw [hset]
        rw [hst] at hl
        simp at hl ⊢
        omega

/-- THE WALK IN THE ORDER OF THE TEXT SERVES EVERY ORDER. -/
theorem wp_region_serialD {id : Nat} {l : List Oper} {a : Act} {w : World} (B : Array Nat) (hm : P.follows .mixedOrders = true) (hB : serialD P l.toArray B = true)
    (h : wpList P l.toArray (Only Q) l a w.drew) : (Code.region id l.toArray true).wp P Q a w := by
  refine Code.wp_mono Only.imp (wp_region_any hm ?_)
  have hleft : left l.toArray (Array.replicate l.toArray.size false) = List.range l.length := by
    unfold left
    rw [List.filter_eq_self.2 fun k hk => by simp [Array.getD_eq_getD_getElem?, Array.getElem?_replicate]; split <;> simp]
    simp
  refine serial_anyD hB _ _ _ _ ?_ (by simp) (by rw [hleft]; simp) ?_
  · intro i o ho hl
    simp [Array.getD_eq_getD_getElem?, Array.getElem?_replicate] at hl
    split at hl <;> simp at hl
  · rw [hleft, List.range_eq_range']
    exact wpSeq_list l 0 a _ (fun j => by simp) h

theorem wp_region_text3 {id : Nat} {l : List Oper} {a : Act} {w : World} (hm : P.follows .mixedOrders = true) (hB : serialD P l.toArray (Region.before l.toArray) = true)
    (h : wpList P l.toArray (Only Q) l a w.drew) : (Code.region id l.toArray true).wp P Q a w := wp_region_serialD _ hm hB h
end
end Go.Proofs.YtabpheanbomibaaGreatDoor
namespace Go.Proofs.YtabpheanbomibaaGreatDoor
open Go.RowKit
set_option linter.unusedVariables false

/-- Operation number j writes slot d; where the slots of 'needs' hold what stands there, it yields v. -/
structure Kn where
  j : Nat
  d : Nat
  needs : List (Nat × Value)
  v : Value
def knAt (ks : List Kn) (j : Nat) : Option Kn := ks.find? (fun k => k.j == j)
def knOf (ks : List Kn) (t : Nat) : Option Kn := ks.find? (fun k => k.d == t)
def putKn (o : Oper) (k : Kn) : Oper := { o with op := .move (.const k.v) }
def substL (ks : List Kn) : Nat → List Oper → List Oper
  | _, [] => []
  | i, o :: r => (match knAt ks i with | some k => putKn o k | none => o) :: substL ks (i + 1) r
def notW (l : List Oper) (t : Nat) : Bool := l.all fun o => o.dst != some t
def onlyW (l : List Oper) (j t : Nat) : Bool := (List.range l.length).all fun i => i == j || (l[i]?).all fun o => o.dst != some t
/-- What can be seen of the operations alone. -/
def knStatic (l : List Oper) (ks : List Kn) (size : Nat) : Bool :=
  ks.all fun k => decide (k.d < size) && onlyW l k.j k.d && match l[k.j]? with
    | none => false
    | some o => o.guard.isNone && o.dst == some k.d && k.needs.all fun p => match knOf ks p.1 with
      | none => notW l p.1
      | some k' => o.after.any fun e => e.on == k'.j && Region.binds .any e
def expect (a : Act) (ks : List Kn) (t : Nat) : Value := match knOf ks t with
  | some k => k.v
  | none => a.eval (.tmp t)
def needsAre (a : Act) (ks : List Kn) : List (Nat × Value) → Prop
  | [] => True
  | p :: r => expect a ks p.1 = p.2 ∧ needsAre a ks r
def knVals (a : Act) (ks : List Kn) : List Kn → Prop
  | [] => True
  | k :: r => needsAre a ks k.needs ∧ knVals a ks r
def needsHold (A : Act) : List (Nat × Value) → Prop
  | [] => True
  | p :: r => A.eval (.tmp p.1) = p.2 ∧ needsHold A r
def knRuns (P : Program) (l : List Oper) : List Kn → Prop
  | [] => True
  | k :: r => (∀ (A : Act) (w : World), needsHold A k.needs → (execOp A.eval (l.getD k.j default)).run P w = .ok (.value k.v) w) ∧ knRuns P l r

section
variable {P : Program} {l : List Oper} {ks : List Kn} {a0 : Act}
theorem substL_len : ∀ (l : List Oper) (i : Nat), (substL ks i l).length = l.length
  | [], _ => rfl
  | o :: r, i => by simp [substL, substL_len r]
theorem substL_at : ∀ (l : List Oper) (i j : Nat), (substL ks i l)[j]? = (l[j]?).map fun o => match knAt ks (i + j) with | some k => putKn o k | none => o
  | [], i, j => by simp [substL]
  | o :: r, i, 0 => by simp [substL]
  | o :: r, i, j + 1 => by
    simp only [substL, List.getElem?_cons_succ]
    rw [substL_at r (i + 1) j, show i + 1 + j = i + (j + 1) by omega]
theorem subst_at (j : Nat) : (substL ks 0 l).toArray[j]? = (l.toArray[j]?).map fun o => match knAt ks j with | some k => putKn o k | none => o := by
  rw [List.getElem?_toArray, List.getElem?_toArray, substL_at, Nat.zero_add]
theorem subst_dst (j : Nat) : (((substL ks 0 l).toArray[j]?).bind (·.dst)) = ((l.toArray[j]?).bind (·.dst)) := by
  rw [subst_at]
  cases l.toArray[j]? with
  | none => rfl
  | some o =>
    show (match knAt ks j with | some k => putKn o k | none => o).dst = o.dst
    split <;> rfl
theorem subst_yielded (t : Array Value) : yielded (substL ks 0 l).toArray t = yielded l.toArray t := by
  funext j
  unfold yielded
  rw [subst_dst]
theorem subst_ready (md : Region.Mode) (listed : Array Bool) : Region.ready md (substL ks 0 l).toArray listed = Region.ready md l.toArray listed := by
  unfold Region.ready
  have hs : (substL ks 0 l).toArray.size = l.toArray.size := by simp [substL_len]
  rw [hs]
  congr 1
  funext i
  rw [subst_at]
  cases l.toArray[i]? with
  | none => rfl
  | some o =>
    simp only [Option.map_some]
    have : (match knAt ks i with | some k => putKn o k | none => o).after = o.after := by split <;> rfl
    rw [this]
theorem knAt_mem {j : Nat} {k : Kn} (h : knAt ks j = some k) : k ∈ ks ∧ k.j = j := by
  unfold knAt at h
  have h1 := List.find?_some h
  exact ⟨List.mem_of_find?_eq_some h, by simpa using h1⟩
theorem knOf_mem {t : Nat} {k : Kn} (h : knOf ks t = some k) : k ∈ ks ∧ k.d = t := by
  unfold knOf at h
  have h1 := List.find?_some h
  exact ⟨List.mem_of_find?_eq_some h, by simpa using h1⟩
theorem knVals_mem {a : Act} : ∀ {r : List Kn}, knVals a ks r → ∀ k ∈ r, needsAre a ks k.needs
  | k' :: r, h, k, hk => by
    rcases List.mem_cons.1 hk with rfl | hk
    · exact h.1
    · exact knVals_mem h.2 k hk
theorem knRuns_mem : ∀ {r : List Kn}, knRuns P l r → ∀ k ∈ r, ∀ (A : Act) (w : World), needsHold A k.needs → (execOp A.eval (l.getD k.j default)).run P w = .ok (.value k.v) w
  | k' :: r, h, k, hk => by
    rcases List.mem_cons.1 hk with rfl | hk
    · exact h.1
    · exact knRuns_mem h.2 k hk

theorem upon_tm {o : Oper} {a : Act} {K : Act → World → Prop} {Q : Exit → Act → World → Prop} {r : Result Next} (h : o.upon P a K Q r) : o.upon P a (fun a' w' => K a' w' ∧ ∃ v, a'.tmps = (a.put o.dst v).tmps) Q r := by
  cases r with
  | ok n w' =>
    cases n with
    | value v => exact ⟨h, v, rfl⟩
    | skip => exact ⟨h, undef, rfl⟩
    | defer d => exact ⟨h, undef, by unfold Act.put; cases o.dst <;> rfl⟩
    | enter f args =>
      refine Calls.mono h fun e w'' hh => ?_
      cases e with
      | returned v => exact ⟨hh, v, rfl⟩
      | panicked c => exact hh
      | outgrown => exact hh
    | row row args => exact Rows.mono h fun v w'' hh => ⟨hh, v, rfl⟩
    | _ => exact h
  | halt x y => cases x <;> exact h
theorem wp_tm {o : Oper} {a : Act} {w : World} {K : Act → World → Prop} {Q : Exit → Act → World → Prop} (h : o.wp P a w K Q) : o.wp P a w (fun a' w' => K a' w' ∧ ∃ v, a'.tmps = (a.put o.dst v).tmps) Q := upon_tm h

theorem put_ne {a a' : Act} {dst : Option Tmp} {v : Value} {t : Nat} (h : a'.tmps = (a.put dst v).tmps) (hne : dst ≠ some t) : a'.eval (.tmp t) = a.eval (.tmp t) := by
  show a'.tmps.getD t undef = a.tmps.getD t undef
  rw [h]
  unfold Act.put
  cases dst with
  | none => rfl
  | some d =>
    have : d ≠ t := fun e => hne (by rw [e])
    simp only [Array.getD_eq_getD_getElem?, Array.getElem?_setIfInBounds_ne this]
theorem put_size {a a' : Act} {dst : Option Tmp} {v : Value} (h : a'.tmps = (a.put dst v).tmps) : a'.tmps.size = a.tmps.size := by
  rw [h]
  unfold Act.put
  cases dst <;> simp
theorem put_self {a : Act} {d : Nat} {v : Value} (h : d < a.tmps.size) : (a.put (some d) v).eval (.tmp d) = v := by
  show ((a.put (some d) v).tmps).getD d undef = v
  unfold Act.put
  simp only [Array.getD_eq_getD_getElem?, Array.getElem?_setIfInBounds_self_of_lt h, Option.getD_some]

structure KInv (l : List Oper) (ks : List Kn) (a0 : Act) (listed : Array Bool) (a : Act) : Prop where
  size : a.tmps.size = a0.tmps.size
  old : ∀ t, notW l t = true → a.eval (.tmp t) = a0.eval (.tmp t)
  new : ∀ k ∈ ks, listed.getD k.j false = true → a.eval (.tmp k.d) = k.v
  down : Down l.toArray listed
  lsz : listed.size = l.toArray.size

theorem notW_at {t : Nat} (h : notW l t = true) {i : Nat} {o : Oper} (hi : l.toArray[i]? = some o) : o.dst ≠ some t := by
  unfold notW at h
  rw [List.all_eq_true] at h
  have := h o (List.mem_of_getElem? (by simpa using hi))
  simpa using this
theorem onlyW_at {j t : Nat} (h : onlyW l j t = true) {i : Nat} {o : Oper} (hi : l.toArray[i]? = some o) (hne : i ≠ j) : o.dst ≠ some t := by
  unfold onlyW at h
  rw [List.all_eq_true] at h
  have hi2 : l[i]? = some o := by simpa using hi
  have hlt := (List.getElem?_eq_some_iff.1 hi2).1
  have h1 := h i (List.mem_range.2 hlt)
  rw [hi2] at h1
  simp only [Bool.or_eq_true, beq_iff_eq, Option.all_some, bne_iff_ne] at h1
  rcases h1 with h1 | h1
  · exact absurd h1 hne
  · exact h1
structure KSt (l : List Oper) (ks : List Kn) (size : Nat) (k : Kn) (o : Oper) : Prop where
  at_ : l.toArray[k.j]? = some o
  lt : k.d < size
  only : onlyW l k.j k.d = true
  grd : o.guard = none
  dst : o.dst = some k.d
  needs : ∀ p ∈ k.needs, match knOf ks p.1 with
    | none => notW l p.1 = true
    | some k' => ∃ e ∈ o.after, e.on = k'.j ∧ Region.binds .any e = true
theorem knStatic_at {size : Nat} (h : knStatic l ks size = true) (k : Kn) (hk : k ∈ ks) : ∃ o, KSt l ks size k o := by
  unfold knStatic at h
  rw [List.all_eq_true] at h
  have h1 := h k hk
  simp only [Bool.and_eq_true, decide_eq_true_eq] at h1
  obtain ⟨⟨h2, h3⟩, h4⟩ := h1
  split at h4
  · cases h4
  · rename_i o ho
    simp only [Bool.and_eq_true, Option.isNone_iff_eq_none, beq_iff_eq, List.all_eq_true] at h4
    refine ⟨o, by simpa using ho, h2, h3, h4.1.1, h4.1.2, fun p hp => ?_⟩
    have h5 := h4.2 p hp
    split at h5
    · rename_i hn
      exact h5
    · rename_i k' hn
      rw [Array.any_eq_true'] at h5
      obtain ⟨e, he, h6⟩ := h5
      simp only [Bool.and_eq_true, beq_iff_eq] at h6
      exact ⟨e, he, h6.1, h6.2⟩
theorem ready_at {md : Region.Mode} {listed : Array Bool} {i : Nat} (h : i ∈ Region.ready md l.toArray listed) : listed.getD i true = false ∧ ∃ o, l.toArray[i]? = some o ∧ ∀ e ∈ o.after, Region.binds md e = true → listed.getD e.on false = true := by
  unfold Region.ready at h
  rw [List.mem_filter] at h
  obtain ⟨h1, h2⟩ := h
  simp only [Bool.and_eq_true, Bool.not_eq_true'] at h2
  refine ⟨h2.1, ?_⟩
  cases ho : l.toArray[i]? with
  | none => rw [ho] at h2; cases h2.2
  | some o =>
    rw [ho] at h2
    refine ⟨o, rfl, fun e he hb => ?_⟩
    have h3 := h2.2
    simp only [Option.map_some, Option.getD_some, Array.all_eq_true_iff_forall_mem] at h3
    have := h3 e he
    simpa [hb] using this
theorem setL_other {listed : Array Bool} {i k : Nat} (h : k ≠ i) : (listed.setIfInBounds i true).getD k false = listed.getD k false := by
  simp only [Array.getD_eq_getD_getElem?, Array.getElem?_setIfInBounds_ne (Ne.symm h)]
theorem setL_le {listed : Array Bool} {i k : Nat} (h : listed.getD k false = true) : (listed.setIfInBounds i true).getD k false = true := by
  by_cases hk : k = i
  · subst hk
    have hlt : k < listed.size := by
      by_cases hlt : k < listed.size
      · exact hlt
      · simp [Array.getD_eq_getD_getElem?, Array.getElem?_eq_none (Nat.le_of_not_lt hlt)] at h
    simp only [Array.getD_eq_getD_getElem?, Array.getElem?_setIfInBounds_self_of_lt hlt, Option.getD_some]
  · rw [setL_other hk]; exact h
theorem KInv.step {size : Nat} (hs : knStatic l ks size = true) {listed : Array Bool} {a a' : Act} {v : Value} {i : Nat} {o : Oper} (h : KInv l ks a0 listed a) (hi : l.toArray[i]? = some o) (hr : ∀ e ∈ o.after, Region.binds .any e = true → listed.getD e.on false = true)
    (ht : a'.tmps = (a.put o.dst v).tmps) (hk : ∀ k ∈ ks, k.j = i → a'.eval (.tmp k.d) = k.v) : KInv l ks a0 (listed.setIfInBounds i true) a' := by
  refine ⟨(put_size ht).trans h.size, fun t hn => (put_ne ht (notW_at hn hi)).trans (h.old t hn), fun k hk2 hl => ?_, fun j oj hj hl e he hb => ?_, by simpa using h.lsz⟩
  · by_cases hki : k.j = i
    · exact hk k hk2 hki
    · rw [setL_other hki] at hl
      obtain ⟨ok, hst⟩ := knStatic_at hs k hk2
      exact (put_ne ht (onlyW_at hst.only hi (fun e => hki e.symm))).trans (h.new k hk2 hl)
  · by_cases hji : j = i
    · subst hji
      rw [hi] at hj
      injection hj with hj
      subst hj
      exact setL_le (hr e he hb)
    · rw [setL_other hji] at hl
      exact setL_le (h.down j oj hj hl e he hb)
theorem needs_hold {size : Nat} {listed : Array Bool} {a : Act} {k : Kn} {o : Oper} (h : KInv l ks a0 listed a) (hr : ∀ e ∈ o.after, Region.binds .any e = true → listed.getD e.on false = true) (hst : KSt l ks size k o) : ∀ (r : List (Nat × Value)), (∀ p ∈ r, p ∈ k.needs) → needsAre a0 ks r → needsHold a r
  | [], _, _ => trivial
  | p :: r, hm, hn => by
    refine ⟨?_, needs_hold h hr hst r (fun q hq => hm q (List.mem_cons_of_mem _ hq)) hn.2⟩
    have h1 := hst.needs p (hm p (List.mem_cons_self ..))
    have h2 := hn.1
    unfold expect at h2
    cases hq : knOf ks p.1 with
    | none =>
      rw [hq] at h1 h2
      exact (h.old p.1 h1).trans h2
    | some k' =>
      rw [hq] at h1 h2
      obtain ⟨e, he, h3, h4⟩ := h1
      obtain ⟨h5, h6⟩ := knOf_mem hq
      have := h.new k' h5 (by rw [← h3]; exact hr e he h4)
      rw [h6] at this
      exact this.trans h2

theorem known_any {Q : Exit → Act → World → Prop} (hs : knStatic l ks a0.tmps.size = true) (hv : knVals a0 ks ks) (hr : knRuns P l ks) : ∀ (fuel : Nat) (listed : Array Bool) (a : Act) (w : World), KInv l ks a0 listed a → wpAny P .any (substL ks 0 l).toArray (Only Q) fuel listed a w → wpAny P .any l.toArray (Only Q) fuel listed a w
  | 0, listed, a, w, _, h => by
    unfold wpAny at h ⊢
    rw [subst_ready] at h
    exact h
  | fuel + 1, listed, a, w, hI, h => by
    unfold wpAny at h ⊢
    rw [subst_ready] at h
    refine ⟨h.1, fun i hi => ?_⟩
    have h2 := h.2 i hi
    obtain ⟨_, o, ho, hrd⟩ := ready_at hi
    unfold wpOp at h2 ⊢
    rw [subst_yielded] at h2
    rw [subst_at, ho] at h2
    simp only [Option.map_some] at h2
    simp only [ho]
    cases hk : knAt ks i with
    | none =>
      rw [hk] at h2
      simp only at h2
      have hno : ∀ k ∈ ks, k.j = i → False := fun k hk2 e => by
        unfold knAt at hk
        rw [List.find?_eq_none] at hk
        exact hk k hk2 (by simpa using e)
      split at h2
      · rename_i hw
        rw [if_pos hw]
        rcases h2 with h2 | ⟨_, h2⟩
        · refine .inl (Oper.wp_mono (fun a' w' hh => ?_) (wp_tm h2))
          obtain ⟨h3, v, h4⟩ := hh
          exact known_any hs hv hr fuel _ a' w' (hI.step hs ho hrd h4 (fun k hk2 e => (hno k hk2 e).elim)) h3
        · exact absurd h2 Only.lets
      · rename_i hw
        rw [if_neg hw]
        exact known_any hs hv hr fuel _ _ w (hI.step hs ho hrd (v := undef) rfl (fun k hk2 e => (hno k hk2 e).elim)) h2
    | some k =>
      rw [hk] at h2
      simp only at h2
      obtain ⟨hkm, hkj⟩ := knAt_mem hk
      obtain ⟨ok, hst⟩ := knStatic_at hs k hkm
      have hok : ok = o := by
        have := hst.at_
        rw [hkj, ho] at this
        injection this with this
        exact this.symm
      subst hok
      have hw : ∀ y, Region.wanted ok y = true := fun y => by unfold Region.wanted; rw [hst.grd]
      have hw2 : ∀ y, Region.wanted (putKn ok k) y = true := fun y => by unfold Region.wanted putKn; rw [hst.grd]
      rw [if_pos (hw2 _)] at h2
      rw [if_pos (hw _)]
      have hrun := knRuns_mem hr k hkm a w (needs_hold hI hrd hst k.needs (fun _ h => h) (knVals_mem hv k hkm))
      have hgo : l.getD k.j default = ok := by
        have := hst.at_
        rw [List.getElem?_toArray] at this
        rw [List.getD_eq_getElem?_getD, this]
        rfl
      rw [hgo] at hrun
      rcases h2 with h2 | ⟨_, h2⟩
      · refine .inl ?_
        have hm : (execOp a.eval (putKn ok k)).run P w = .ok (.value k.v) w := rfl
        unfold Oper.wp at h2 ⊢
        rw [hm] at h2
        rw [hrun]
        rw [Oper.upon_value] at h2 ⊢
        have hd : (putKn ok k).dst = ok.dst := rfl
        rw [hd] at h2
        refine known_any hs hv hr fuel _ _ w (hI.step hs ho hrd (v := k.v) rfl (fun k2 hk2 e => ?_)) h2
        have hkk : k2.d = k.d ∧ k2.v = k.v ∨ True := .inr trivial
        obtain ⟨o2, hst2⟩ := knStatic_at hs k2 hk2
        have ho2 : o2 = ok := by
          have := hst2.at_
          rw [e, ho] at this
          injection this with this
          exact this.symm
        subst ho2
        have hdd : k2.d = k.d := by
          have := hst2.dst.symm.trans hst.dst
          injection this
        rw [hst.dst, hdd]
        have hrun2 := knRuns_mem hr k2 hk2 a w (needs_hold hI hrd hst2 k2.needs (fun _ h => h) (knVals_mem hv k2 hk2))
        have hj2 : k2.j = k.j := by rw [e, hkj]
        rw [hj2, hgo, hrun] at hrun2
        injection hrun2 with h8 _
        injection h8 with h8
        rw [← h8]
        exact put_self (by rw [hI.size]; exact hst.lt)
      · exact absurd h2 Only.lets

/-- THE WALK: known operations as moves, in the order of the text. -/
theorem wp_region_known {id : Nat} {a : Act} {w : World} {Q : Exit → Act → World → Prop} (ks : List Kn) (hm : P.follows .mixedOrders = true) (hs : knStatic l ks a.tmps.size = true) (hv : knVals a ks ks) (hr : knRuns P l ks)
    (hB : serialD P (substL ks 0 l).toArray (Region.before (substL ks 0 l).toArray) = true)
    (h : wpList P (substL ks 0 l).toArray (Only Q) (substL ks 0 l) a w.drew) : (Code.region id l.toArray true).wp P Q a w := by
  refine Code.wp_mono Only.imp (wp_region_any hm ?_)
  have hz : (substL ks 0 l).toArray.size = l.toArray.size := by simp [substL_len]
  have hl0 : (substL ks 0 l).length = l.length := substL_len l 0
  have key : wpAny P .any (substL ks 0 l).toArray (Only Q) l.toArray.size (Array.replicate l.toArray.size false) a w.drew := by
    rw [← hz]
    generalize substL ks 0 l = l' at hB h
    have hleft : left l'.toArray (Array.replicate l'.toArray.size false) = List.range l'.length := by
      unfold left
      rw [List.filter_eq_self.2 fun k hk => by simp [Array.getD_eq_getD_getElem?, Array.getElem?_replicate]; split <;> simp]
      simp
    refine serial_anyD hB _ _ _ _ ?_ (by simp) (by rw [hleft]; simp) ?_
    · intro i o ho hl
      simp [Array.getD_eq_getD_getElem?, Array.getElem?_replicate] at hl
      split at hl <;> simp at hl
    · rw [hleft, List.range_eq_range']
      exact wpSeq_list l' 0 a _ (fun j => by simp) h
  refine known_any hs hv hr _ _ a _ ⟨rfl, fun _ _ => rfl, fun k hk hl => ?_, ?_, by simp⟩ key
  · exfalso
    simp [Array.getD_eq_getD_getElem?, Array.getElem?_replicate] at hl
    split at hl <;> simp at hl
  · intro i o ho hl
    simp [Array.getD_eq_getD_getElem?, Array.getElem?_replicate] at hl
    split at hl <;> simp at hl
end
section
variable {P : Program} {o : Oper} {A : Act} {w : World}
theorem kn_move {t : Nat} {v : Value} (ho : o.op = .move (.tmp t)) (h : A.eval (.tmp t) = v) : (execOp A.eval o).run P w = .ok (.value v) w := by
  unfold execOp
  rw [ho]
  simp only [h, Sem.run_pure]
theorem kn_bin {op : BinOp} {ty ty2 : TypeId} {x y : Operand} {k : IntKind} {a b : Int} {r : Value} (ho : o.op = .binOp op ty x y ty2) (hx : A.eval x = .int k a) (hy : A.eval y = .int k b) (hr : (binOp op ty (.int k a) (.int k b)).run P w = .ok r w) : (execOp A.eval o).run P w = .ok (.value r) w := by
  unfold execOp
  rw [ho]
  have hg : eqGuard op ty x y (.int k a) (.int k b) = pure () := by cases op <;> rfl
  simp only [hx, hy, hg, Sem.run_bind, Sem.run_pure, Result.andThen_ok, hr]
theorem kn_sub {ty ty2 : TypeId} {x y : Operand} {a b c : Int} (ho : o.op = .binOp .sub ty x y ty2) (hx : A.eval x = .int .i64 a) (hy : A.eval y = .int .i64 b) (hc : IntKind.i64.wrap (a - b) = c) : (execOp A.eval o).run P w = .ok (.value (.int .i64 c)) w :=
  kn_bin ho hx hy (by subst hc; rfl)
theorem kn_add {ty ty2 : TypeId} {x y : Operand} {a b c : Int} (ho : o.op = .binOp .add ty x y ty2) (hx : A.eval x = .int .i64 a) (hy : A.eval y = .int .i64 b) (hc : IntKind.i64.wrap (a + b) = c) : (execOp A.eval o).run P w = .ok (.value (.int .i64 c)) w :=
  kn_bin ho hx hy (by subst hc; rfl)
theorem kn_quo {ty ty2 : TypeId} {x y : Operand} {a b c : Int} (ho : o.op = .binOp .quo ty x y ty2) (hx : A.eval x = .int .i64 a) (hy : A.eval y = .int .i64 b) (hb : b ≠ 0) (hc : IntKind.i64.wrap (a.tdiv b) = c) : (execOp A.eval o).run P w = .ok (.value (.int .i64 c)) w :=
  kn_bin ho hx hy (by
    subst hc
    have e : binOp .quo ty (.int .i64 a) (.int .i64 b) = Op.intDiv .quo .i64 a b := rfl
    rw [e]
    unfold Op.intDiv
    rw [if_neg hb]
    rfl)
end
end Go.Proofs.YtabpheanbomibaaGreatDoor
namespace Go.Proofs.YtabpheanbomibaaGreatDoor
open Go.RowKit
set_option linter.unusedVariables false

/-- A heap of ints, the least first, in memory. -/
def HeapAt (w : World) (B hb : Nat) (l : List HEnt) (came : Int) : Prop :=
  ∃ v, B ≤ hb ∧ Blk w hb 140 #[.func (.func 29) #[] #[], v, .int .i64 came] ∧ w.ownsRow B 146 2 v l.length (entVals l)
theorem less_any (a b : Int) (w : World) : Calls Tryz.prog 29 #[.int .i64 a, .int .i64 b] w fun e w' => e = .returned (.bool (decide (a < b))) ∧ w = w' := by
  go_enter Tryz.func29, Tryz.ntmps29
  go_wp2
  go_ret
  all_goals exact ⟨by simp, rfl⟩
/-- Two entries in cells of their own. -/
def TwoAt (w wx : World) (a b : Value) (x y : HEnt) : Prop := ∃ ga gb, a = .pointer (some ⟨ga, 0, none⟩) ∧ b = .pointer (some ⟨gb, 0, none⟩) ∧ Below w.heap.size w wx ∧ wx.cell? ⟨ga, 0, none⟩ = some (.int .i64 x.1) ∧ wx.cell? ⟨ga, 1, none⟩ = some (.int .i64 x.2) ∧ wx.cell? ⟨gb, 0, none⟩ = some (.int .i64 y.1) ∧ wx.cell? ⟨gb, 1, none⟩ = some (.int .i64 y.2)
theorem TwoAt.one (w : World) (x y : HEnt) (t : TypeId) : TwoAt w ((w.alloc (.cells #[.int .i64 x.1, .int .i64 x.2] t)).alloc (.cells #[.int .i64 y.1, .int .i64 y.2] t)).drew (.pointer (some ⟨w.heap.size, 0, none⟩)) (.pointer (some ⟨w.heap.size + 1, 0, none⟩)) x y := by
  have k1 := (Blk.new w t #[.int .i64 x.1, .int .i64 x.2]).alloc (.cells #[.int .i64 y.1, .int .i64 y.2] t)
  have k2 := Blk.new (w.alloc (.cells #[.int .i64 x.1, .int .i64 x.2] t)) t #[.int .i64 y.1, .int .i64 y.2]
  rw [World.size_alloc] at k2
  exact ⟨_, _, rfl, rfl, (((Below.refl _ _).alloc (Nat.le_refl _) _).alloc (by simp) _).drew, k1.cell 0, k1.cell 1, k2.cell 0, k2.cell 1⟩
theorem TwoAt.two (w : World) (x y : HEnt) (t : TypeId) : TwoAt w ((w.alloc (.cells #[.int .i64 y.1, .int .i64 y.2] t)).alloc (.cells #[.int .i64 x.1, .int .i64 x.2] t)).drew (.pointer (some ⟨w.heap.size + 1, 0, none⟩)) (.pointer (some ⟨w.heap.size, 0, none⟩)) x y := by
  have k1 := (Blk.new w t #[.int .i64 y.1, .int .i64 y.2]).alloc (.cells #[.int .i64 x.1, .int .i64 x.2] t)
  have k2 := Blk.new (w.alloc (.cells #[.int .i64 y.1, .int .i64 y.2] t)) t #[.int .i64 x.1, .int .i64 x.2]
  rw [World.size_alloc] at k2
  exact ⟨_, _, rfl, rfl, (((Below.refl _ _).alloc (Nat.le_refl _) _).alloc (by simp) _).drew, k2.cell 0, k2.cell 1, k1.cell 0, k1.cell 1⟩
theorem below_drewNs {B : Nat} {w w' : World} (h : Below B w w') (n : Nat) : Below B w (w'.drewN n) := ⟨h.os, h.tape, h.output, h.size, h.block⟩
/-- Like Frm, and no map has turned. -/
structure FrmH (B : Nat) (T : List TypeId) (w w' : World) : Prop where
  frm : Frm B T w w'
  maps : ∀ (g : Nat) (es : Array MapEntry) (c : Nat), w.heap[g]? = some (Obj.map es c) → w'.heap[g]? = w.heap[g]?
section
variable {B : Nat} {T : List TypeId} {w w' a b c : World}
theorem FrmH.refl (B : Nat) (T : List TypeId) (w : World) : FrmH B T w w := ⟨Frm.refl _ _ _, fun _ _ _ _ => rfl⟩
theorem FrmH.trans (h : FrmH B T a b) (k : FrmH B T b c) : FrmH B T a c :=
  ⟨h.frm.trans k.frm, fun g es d hg => (k.maps g es d ((h.maps g es d hg).trans hg)).trans (h.maps g es d hg)⟩
theorem FrmH.size (h : FrmH B T w w') : w.heap.size ≤ w'.heap.size := h.frm.size
theorem FrmH.drew (h : FrmH B T a w) : FrmH B T a w.drew := ⟨h.frm.drew, h.maps⟩
theorem FrmH.set_ (h : FrmH B T a w) {g i : Nat} {t : TypeId} {cs : Array Value} (hg : Blk w g t cs) (hB : B ≤ g) (ht : t ∈ T) (u : Value) : FrmH B T a (w.setCell ⟨g, i, none⟩ u) :=
  ⟨h.frm.set_ hg hB ht u, fun g' es d hg' => by
    have h1 := h.maps g' es d hg'
    rw [Below.heap_setCell w _ u g' ?_, h1]
    rintro rfl
    have h2 := (h1.trans hg').symm.trans hg
    cases h2⟩
theorem FrmH.of_below (h : Below w.heap.size w w') (hB : B ≤ w.heap.size) : FrmH B T w w' :=
  ⟨Frm.of_below h hB, fun g _ _ hg => h.block g (Array.getElem?_eq_some_iff.1 hg).1⟩
theorem FrmH.grown {base : Nat} {e : TypeId} {size n : Nat} {v : Value} {xs : List Value} (h : FrmH B T a w) (ho : w.ownsRow base e size v n xs) (hg : w.grownBy w' v.ownBlock) (hB : B ≤ base) (hs : B ≤ w.heap.size) (ht : e ∈ T) : FrmH B T a w' := by
  refine ⟨h.frm.grown ho hg hB hs ht, fun g es d hg' => ?_⟩
  have h1 := h.maps g es d hg'
  rw [hg.block g (Array.getElem?_eq_some_iff.1 (h1.trans hg')).1 ?_, h1]
  rcases ho.2 with ⟨rfl, _⟩ | ⟨g', cap, cur, rfl, _, hh, _⟩
  · simp [Value.ownBlock]
  · simp only [Value.ownBlock, ne_eq, Option.some.injEq]
    rintro rfl
    have h2 := (h1.trans hg').symm.trans hh
    cases h2
theorem FrmH.mk_ {P : Program} {k : TypeId} {κ : Type} {K : KeyT P k κ} {m : Nat} {f : κ → Option Value} (h : FrmH B T w w') (hm : MK K w m f) : MK K w' m f := by
  obtain ⟨es, clock, l, hb, r⟩ := hm
  exact ⟨es, clock, l, (h.maps m es clock hb).trans hb, r⟩
end
section
variable {B hb : Nat} {l : List HEnt} {came : Int}
theorem HeapAt.below {w w' : World} (h : HeapAt w B hb l came) (hw : Below w.heap.size w w') : HeapAt w' B hb l came := by
  obtain ⟨v, h1, h2, h3⟩ := h
  refine ⟨v, h1, h2.below hw h2.lt, ?_⟩
  obtain ⟨h4, h5⟩ := h3
  refine ⟨h4, ?_⟩
  rcases h5 with h5 | ⟨g, cap, cur, e1, e2, e3, e4⟩
  · exact .inl h5
  · exact .inr ⟨g, cap, cur, e1, e2, (hw.block g (Array.getElem?_eq_some_iff.1 e3).1).trans e3, e4⟩
set_option maxRecDepth 100000 in
theorem none_any (w : World) (h : HeapAt w B hb l came) : Calls Tryz.prog 84 #[.pointer (some ⟨hb, 0, none⟩)] w fun e w' => e = .returned (.bool false) ∧ w = w' := by
  obtain ⟨v, _, h2, _⟩ := h
  have c0 := h2.cell 0
  clear h2
  go_enter Tryz.func84, Tryz.ntmps84
  have hq : ∀ w : World, (binOp .eql 90 (.func (.func 29) #[] #[]) .nilFunc).run Tryz.prog w = .ok (.bool false) w := fun _ => by kernel_rfl
  go_wp2
  go_ret
  exact ⟨rfl, rfl⟩
set_option maxRecDepth 100000 in
set_option maxHeartbeats 800000 in
theorem ahead_any (w : World) (i k : Nat) (h : HeapAt w B hb l came) (hi : i < l.length) (hk : k < l.length) (hl : l.length ≤ 10000000) :
    Calls Tryz.prog 85 #[.pointer (some ⟨hb, 0, none⟩), .int .i64 i, .int .i64 k] w fun e w' => e = .returned (.bool (aheadH (atH l i) (atH l k))) ∧ Below w.heap.size w w' := by
  obtain ⟨v, h1, h2, h3⟩ := h
  obtain ⟨g, cap, rfl, hg⟩ := h3.form (by omega)
  have c0 := h2.cell 0
  have c1 := h2.cell 1
  have hlt := h2.lt
  have hgl := (h3.lt g rfl).2
  obtain ⟨p1, p2⟩ := entVals_at l i hi
  obtain ⟨q1, q2⟩ := entVals_at l k hk
  have ci := h3.cellAt (i * 2) (by omega)
  have ci1 := h3.cellAt (i * 2 + 1) (by omega)
  have ck := h3.cellAt (k * 2) (by omega)
  have ck1 := h3.cellAt (k * 2 + 1) (by omega)
  rw [p1] at ci
  rw [p2] at ci1
  rw [q1] at ck
  rw [q2] at ck1
  obtain ⟨x, hx⟩ : ∃ x, atH l i = x := ⟨_, rfl⟩
  obtain ⟨y, hy⟩ : ∃ y, atH l k = y := ⟨_, rfl⟩
  rw [hx] at ci ci1 ⊢
  rw [hy] at ck ck1 ⊢
  obtain ⟨n, hn⟩ : ∃ n, l.length = n := ⟨_, rfl⟩
  rw [hn] at hi hk hl c1
  clear h2 h3 hx hy p1 p2 q1 q2 hn
  have hiI : (i : Int) < n := by omega
  have hkI : (k : Int) < n := by omega
  obtain ⟨d1, hd1⟩ : ∃ d, decide (x.1 < y.1) = d := ⟨_, rfl⟩
  obtain ⟨d2, hd2⟩ : ∃ d, decide (y.1 < x.1) = d := ⟨_, rfl⟩
  obtain ⟨d3, hd3⟩ : ∃ d, decide (x.2 < y.2) = d := ⟨_, rfl⟩
  have hr : aheadH x y = (d1 || (!d2 && d3)) := by unfold aheadH; rw [hd1, hd2, hd3]
  rw [hr]
  have l1 := fun w' : World => less_any x.1 y.1 w'
  have l2 := fun w' : World => less_any y.1 x.1 w'
  rw [hd1] at l1
  rw [hd2] at l2
  have q2 : ∀ w' : World, Calls Tryz.prog 29 #[.int .i64 y.1, .int .i64 x.1] w' fun e w'' => e = .returned (.bool d2) ∧ w'' = w' := fun w' => (l2 w').mono fun e w'' h => ⟨h.1, h.2.symm⟩
  have Q2 := Lib.hid q2
  clear q2
  have L1 := Lib.hid l1
  have L2 := Lib.hid l2
  have H3 := Lib.hid hd3
  clear l1 l2 hd1 hd2 hr
  go_enter Tryz.func85, Tryz.ntmps85
  go_upto_region 1 with fail
  go_cut [7, 8] (fun s7 s8 wx => TwoAt w wx s7 s8 x y)
  case first =>
    go_region_held3 (fun w' => w'.cell? ⟨hb, 1, none⟩ = some (.slice (some ⟨g, 0, none⟩) n cap) ∧ w'.cell? ⟨g, i * 2, none⟩ = some (.int .i64 x.1) ∧ w'.cell? ⟨g, i * 2 + 1, none⟩ = some (.int .i64 x.2) ∧ w'.cell? ⟨g, k * 2, none⟩ = some (.int .i64 y.1) ∧ w'.cell? ⟨g, k * 2 + 1, none⟩ = some (.int .i64 y.2)) (first | exact ⟨c1, ci, ci1, ck, ck1⟩ | go_keep) ((first | fail))
    all_goals
      go_wp2_with fail
      go_meet
      first | exact TwoAt.one _ _ _ _ | exact TwoAt.two _ _ _ _
  case rest =>
    obtain ⟨ga, gb, rfl, rfl, hbl, a0, a1, b0, b1⟩ := hcut
    have h0 : wc.cell? ⟨hb, 0, none⟩ = some (.func (.func 29) #[] #[]) := (hbl.cell (p := ⟨hb, 0, none⟩) hlt).trans c0
    have BL := Lib.hid hbl
    clear hbl c0 c1 ci ci1 ck ck1 hg
    cases d1 with
    | true =>
      go_wp2_with fail
      go_region_held3 (fun w' => w'.cell? ⟨hb, 0, none⟩ = some (.func (.func 29) #[] #[]) ∧ w'.cell? ⟨ga, 0, none⟩ = some (.int .i64 x.1) ∧ w'.cell? ⟨gb, 0, none⟩ = some (.int .i64 y.1)) (first | exact ⟨h0, a0, b0⟩) ((first | (go_at_call 29; refine (L1.out _).mono ?_; rintro e w5 ⟨rfl, rfl⟩)))
      go_wp2_with fail
      go_ret
      exact ⟨rfl, BL.out.drew⟩
    | false =>
      go_wp2_with fail
      go_region_held3 (fun w' => w'.cell? ⟨hb, 0, none⟩ = some (.func (.func 29) #[] #[]) ∧ w'.cell? ⟨ga, 0, none⟩ = some (.int .i64 x.1) ∧ w'.cell? ⟨gb, 0, none⟩ = some (.int .i64 y.1)) (first | exact ⟨h0, a0, b0⟩) ((first | (go_at_call 29; refine (L1.out _).mono ?_; rintro e w5 ⟨rfl, rfl⟩)))
      go_wp2_with fail
      cases d2 with
      | true =>
        have e0 : wc.drew.cell? ⟨hb, 0, none⟩ = some (.func (.func 29) #[] #[]) := h0
        have e1 : wc.drew.cell? ⟨ga, 0, none⟩ = some (.int .i64 x.1) := a0
        have e2 : wc.drew.cell? ⟨gb, 0, none⟩ = some (.int .i64 y.1) := b0
        have BL2 := Lib.hid BL.out.drew
        clear h0 a0 a1 b0 b1 BL
        generalize wc.drew = w2 at *
        go_quiet ((exact Calls.quiet_of_same (Q2.out _)))
        go_wp2_with fail
        go_ret
        exact ⟨rfl, below_drewNs BL2.out _⟩
      | false =>
        go_region_held3 (fun w' => w'.cell? ⟨hb, 0, none⟩ = some (.func (.func 29) #[] #[]) ∧ w'.cell? ⟨ga, 0, none⟩ = some (.int .i64 x.1) ∧ w'.cell? ⟨gb, 0, none⟩ = some (.int .i64 y.1) ∧ w'.cell? ⟨ga, 1, none⟩ = some (.int .i64 x.2) ∧ w'.cell? ⟨gb, 1, none⟩ = some (.int .i64 y.2)) (first | exact ⟨h0, a0, b0, a1, b1⟩) ((first | (go_at_call 29; refine (L2.out _).mono ?_; rintro e w5 ⟨rfl, rfl⟩)))
        go_wp2_with fail
        go_ret
        exact ⟨by simp, BL.out.drew.drew⟩
end
end Go.Proofs.YtabpheanbomibaaGreatDoor
