/- A region that draws its order, whose operations that could tell one order from another stand in one order by their edges: the walk in the order of the text serves every order. No program in sight. -/
import Derived.Orders
import Derived.StillTail
import Derived.WalkKit
namespace Go.Proofs.Ytggibiodeecljaa
open Go.RowKit

/-- Q at the region's normal end, and no other end. -/
def Only (Q : Exit → Act → World → Prop) : Exit → Act → World → Prop
  | .normal, a, w => Q .normal a w
  | _, _, _ => False
theorem Only.lets {Q : Exit → Act → World → Prop} : ¬ LetsOut (Only Q) := fun ⟨_, _, h⟩ => h
theorem Only.imp {Q : Exit → Act → World → Prop} : ∀ (e : Exit) (a : Act) (w : World), Only Q e a w → Q e a w := fun e a w h => by
  cases e <;> first | exact h | exact (h : False).elim

/-- It looks at no world. -/
def StillS {α : Type} (P : Program) (s : Sem α) : Prop := ∀ w v w', s.run P w = .ok v w' → w' = w ∧ ∀ u, s.run P u = .ok v u
/-- It leaves the world as it is. -/
def ReadS {α : Type} (P : Program) (s : Sem α) : Prop := ∀ w v w', s.run P w = .ok v w' → w' = w

section
variable {α β : Type} {P : Program}
theorem StillS.pure (v : α) : StillS P (Pure.pure v : Sem α) := fun w v' w' h => by
  simp at h; obtain ⟨rfl, rfl⟩ := h; exact ⟨rfl, fun _ => rfl⟩
theorem StillS.halt (h : Halt) : StillS P (Sem.halt h : Sem α) := fun w v w' hh => by simp at hh
theorem StillS.never {s : Sem α} (h : ∀ w v w', s.run P w ≠ .ok v w') : StillS P s := fun w v w' hh => absurd hh (h w v w')
theorem StillS.program : StillS P Go.program := fun w v w' h => by
  simp [Go.program, Sem.run] at h; obtain ⟨rfl, rfl⟩ := h; exact ⟨rfl, fun _ => rfl⟩
theorem StillS.bind {s : Sem α} {f : α → Sem β} (hs : StillS P s) (hf : ∀ x, StillS P (f x)) : StillS P (s >>= f) := fun w v w' h => by
  rw [Sem.run_bind] at h
  cases h1 : s.run P w with
  | halt x y => rw [h1] at h; simp [Result.andThen] at h
  | ok x y =>
    rw [h1] at h
    simp only [Result.andThen_ok] at h
    obtain ⟨rfl, h2⟩ := hs w x y h1
    obtain ⟨rfl, h3⟩ := hf x _ v w' h
    exact ⟨rfl, fun u => by rw [Sem.run_bind, h2 u, Result.andThen_ok, h3 u]⟩
theorem StillS.read {s : Sem α} (h : StillS P s) : ReadS P s := fun w v w' hh => (h w v w' hh).1
theorem ReadS.bind {s : Sem α} {f : α → Sem β} (hs : ReadS P s) (hf : ∀ x, ReadS P (f x)) : ReadS P (s >>= f) := fun w v w' h => by
  rw [Sem.run_bind] at h
  cases h1 : s.run P w with
  | halt x y => rw [h1] at h; simp [Result.andThen] at h
  | ok x y =>
    rw [h1] at h
    simp only [Result.andThen_ok] at h
    have h2 := hs w x y h1
    subst h2
    exact hf x _ v w' h
theorem StillS.stuck (m : String) : StillS P (Go.stuck m : Sem α) := .halt _
theorem StillS.unsupported (d : Unsupported) : StillS P (Go.unsupported d : Sem α) := .halt _
def NeverS {α : Type} (P : Program) (s : Sem α) : Prop := ∀ w v w', s.run P w ≠ .ok v w'
theorem NeverS.halt (h : Halt) : NeverS P (Sem.halt h : Sem α) := fun w v w' hh => by simp at hh
theorem NeverS.bind {s : Sem α} {f : α → Sem β} (hf : ∀ x, NeverS P (f x)) : NeverS P (s >>= f) := fun w v w' h => by
  rw [Sem.run_bind] at h
  cases h1 : s.run P w with
  | halt x y => rw [h1] at h; simp [Result.andThen] at h
  | ok x y => rw [h1] at h; simp only [Result.andThen_ok] at h; exact hf x y v w' h
theorem NeverS.runtimePanic (e : RuntimeError) : NeverS P (Go.runtimePanic e : Sem α) := by
  unfold Go.runtimePanic
  refine .bind fun p => ?_
  simp only
  cases e
  case typeAssertion => exact .bind fun _ => .bind fun _ => .halt _
  case panicNil => exact .bind fun _ => .bind fun _ => .halt _
  all_goals exact .halt _
theorem NeverS.boundsPanic (k : IntKind) (x y : Int) (c : BoundsCode) : NeverS P (Go.boundsPanic k x y c : Sem α) := by
  unfold Go.boundsPanic
  dsimp only
  split <;> exact .bind fun _ => .runtimePanic _
theorem StillS.ite {c : Prop} [Decidable c] {x y : Sem α} (hx : StillS P x) (hy : StillS P y) : StillS P (if c then x else y) := by
  split
  · exact hx
  · exact hy
theorem StillS.typeInfo (t : TypeId) : StillS P (Go.typeInfo t) := by
  unfold Go.typeInfo
  refine .bind .program fun p => ?_
  split
  · exact .pure _
  · exact .stuck _
theorem StillS.underlying (t : TypeId) : StillS P (Go.underlying t) := by
  unfold Go.underlying
  refine .bind .program fun p => ?_
  split
  · exact .pure _
  · exact .stuck _
theorem StillS.sizeOf (t : TypeId) : StillS P (Go.sizeOf t) := .bind (.typeInfo t) fun _ => .pure _
theorem StillS.asBool (v : Value) : StillS P (Go.asBool v) := by
  unfold Go.asBool; split
  · exact .pure _
  · exact .stuck _
theorem StillS.asIntOf (v : Value) : StillS P (Go.asIntOf v) := by
  unfold Go.asIntOf; split
  · exact .pure _
  · exact .unsupported _
  · exact .stuck _
theorem StillS.sureAddr (v : Value) : StillS P (Instr.sureAddr v) := by
  unfold Instr.sureAddr; split
  · exact .pure _
  · exact .stuck _
theorem StillS.indexAt (t : TypeId) (x ix : Value) : StillS P (Instr.indexAt t x ix) := by
  unfold Instr.indexAt
  refine .bind (.asIntOf _) fun ki => ?_
  obtain ⟨k, i⟩ := ki
  dsimp only
  have tail : ∀ r : Option Addr × Nat × TypeId, StillS P (do
      let d ← Go.underlying t
      match r.1 with
      | some a =>
        if 0 ≤ i ∧ i < (r.2.1 : Int) then do
          let z ← Go.sizeOf r.2.2
          Pure.pure (Value.pointer (some (a.add (i.toNat * z))))
        else if (decide (r.2.1 ≤ 1) && (match d with | .array .. => true | _ => false)) = true then Go.unsupported (Unsupported.noEntry "op/indexAddr.an index out of range at an array of length 0 or 1 (ledger 616)")
        else Go.boundsPanic k i r.2.1 .index
      | none => Go.boundsPanic k i 0 .index) := fun r => .bind (.underlying _) fun d => by
    cases r.1 with
    | some a => exact .ite (.bind (.sizeOf _) fun _ => .pure _) (.ite (.unsupported _) (.never (NeverS.boundsPanic _ _ _ _)))
    | none => exact .never (NeverS.boundsPanic _ _ _ _)
  refine .bind (.underlying _) fun d => ?_
  split
  · exact .bind (.sureAddr _) fun _ => .bind (.pure _) tail
  · exact .bind (.pure _) tail
  · exact .bind (.stuck _) tail
theorem StillS.sliceBound (x : Value) (y : Nat) (code : BoundsCode) : StillS P (Instr.sliceBound x y code) := by
  unfold Instr.sliceBound
  refine .bind (.asIntOf _) fun ki => ?_
  obtain ⟨k, i⟩ := ki
  exact .ite (.pure _) (.never (NeverS.boundsPanic _ _ _ _))
theorem StillS.sliceBounds (b : Bool) (len cap : Nat) (lo hi mx : Option Value) : StillS P (Instr.sliceBounds b len cap lo hi mx) := by
  unfold Instr.sliceBounds
  cases mx with
  | none =>
    refine .bind (.pure _) fun m => ?_
    cases hi with
    | none =>
      refine .bind (.pure _) fun h => ?_
      cases lo with
      | none => exact .bind (.pure _) fun _ => .pure _
      | some v => exact .bind (.sliceBound _ _ _) fun _ => .pure _
    | some u =>
      refine .bind (.sliceBound _ _ _) fun h => ?_
      cases lo with
      | none => exact .bind (.pure _) fun _ => .pure _
      | some v => exact .bind (.sliceBound _ _ _) fun _ => .pure _
  | some z =>
    refine .bind (.sliceBound _ _ _) fun m => ?_
    cases hi with
    | none =>
      refine .bind (.stuck _) fun h => ?_
      cases lo with
      | none => exact .bind (.pure _) fun _ => .pure _
      | some v => exact .bind (.sliceBound _ _ _) fun _ => .pure _
    | some u =>
      refine .bind (.sliceBound _ _ _) fun h => ?_
      cases lo with
      | none => exact .bind (.pure _) fun _ => .pure _
      | some v => exact .bind (.sliceBound _ _ _) fun _ => .pure _
/-- Slicing, of a slice's type. -/
theorem StillS.sliceAt {t e : TypeId} (ht : P.underlying t = some (.slice e)) (x : Value) (lo hi mx : Option Value) : StillS P (Instr.sliceAt t x lo hi mx) := by
  have key : ∀ (f : TypeDesc → Sem Value), StillS P (f (.slice e)) → StillS P (Go.underlying t >>= f) := fun f hf w v w' hr => by
    rw [Sem.run_bind, run_underlying ht, Result.andThen_ok] at hr
    obtain ⟨h1, h2⟩ := hf w v w' hr
    exact ⟨h1, fun u => by rw [Sem.run_bind, run_underlying ht, Result.andThen_ok, h2 u]⟩
  unfold Instr.sliceAt
  refine key _ ?_
  simp only
  unfold Instr.slice
  refine key _ ?_
  cases x <;> simp only <;> first
    | exact .stuck _
    | exact .bind (.sliceBounds _ _ _ _ _ _) fun _ => .bind (.sizeOf _) fun _ => .pure _
theorem StillS.unary (op : UnOp) (x : Value) : StillS P (Op.unary op x) := by
  unfold Op.unary
  split <;> first
    | exact .pure _
    | exact .unsupported _
    | exact .stuck _
    | (unfold Op.intArith; repeat' (first | exact .pure _ | exact .stuck _ | split))
    | (unfold Op.intBits; repeat' (first | exact .pure _ | exact .stuck _ | split))
theorem StillS.extract (t : Value) (i : Nat) : StillS P (Instr.extract t i) := by
  unfold Instr.extract
  repeat' (first | exact .pure _ | exact .stuck _ | split)

theorem StillS.isAgg (t : TypeId) : StillS P (Go.isAgg t) := by
  unfold Go.isAgg
  refine .bind (.underlying _) fun d => ?_
  split <;> exact .pure _
theorem StillS.part (t : TypeId) (cs : Array Value) (off : Nat) : StillS P (Go.part t cs off) := by
  unfold Go.part
  refine .bind (StillS.isAgg _) fun b => ?_
  split
  · exact .bind (.sizeOf _) fun _ => .pure _
  · split
    · exact .pure _
    · exact .stuck _
theorem StillS.followBlind : ∀ (l : List FieldStep) (t : TypeId) (x : Option Value), StillS P (Go.followBlind l t x)
  | [], t, x => .pure _
  | s :: rest, t, x => by
    unfold Go.followBlind
    refine .bind (.underlying _) fun d => ?_
    split
    · split
      · split
        · exact .pure _
        · exact followBlind rest _ _
        · exact .stuck _
        · exact .pure _
        · exact .bind (.part _ _ _) fun _ => followBlind rest _ _
        · exact .stuck _
        · exact followBlind rest _ _
      · exact .stuck _
    · exact .stuck _
theorem StillS.nilAhead : ∀ (n : Nat) (t : TypeId) (v : Value) (name : String), StillS P (Go.nilAhead n t v name)
  | 0, _, _, _ => .pure _
  | n + 1, t, v, name => by
    unfold Go.nilAhead
    refine .bind (.typeInfo _) fun i => ?_
    split
    · refine .bind (.followBlind _ _ _) fun r => ?_
      split
      · exact .pure _
      · split
        · exact nilAhead n _ _ _
        · exact .pure _
        · exact .stuck _
        · exact .pure _
        · exact .pure _
        · refine .bind (.underlying _) fun d => ?_
          split <;> exact .pure _
    · exact .stuck _

/-- What it comes to is a value. -/
def ValS (P : Program) (s : Sem Next) : Prop := ∀ w n w', s.run P w = .ok n w' → ∃ v, n = .value v
theorem ValS.pure (v : Value) : ValS P (Pure.pure (Next.value v) : Sem Next) := fun w n w' h => by
  simp at h; exact ⟨v, h.1.symm⟩
theorem ValS.never {s : Sem Next} (h : NeverS P s) : ValS P s := fun w v w' hh => absurd hh (h w v w')
theorem ValS.bind {γ : Type} {s : Sem γ} {f : γ → Sem Next} (hf : ∀ x, ValS P (f x)) : ValS P (s >>= f) := fun w v w' h => by
  rw [Sem.run_bind] at h
  cases h1 : s.run P w with
  | halt x y => rw [h1] at h; simp [Result.andThen] at h
  | ok x y => rw [h1] at h; simp only [Result.andThen_ok] at h; exact hf x y v w' h

/-- 'len' of a slice or a string. -/
def lenOk (P : Program) (c : Call) : Bool :=
  (match c.callee with | .builtin .len => true | _ => false) && match c.argTypes[0]? with
    | some t => (match P.underlying t with | some (.slice _) => true | some .string => true | _ => false)
    | none => false
theorem lenOk_still {c : Call} (h : lenOk P c = true) (ty : TypeId) (args : Array Value) : c.callee = .builtin .len ∧ StillS P (Builtin.len_ c.argTypes ty args) := by
  simp only [lenOk, Bool.and_eq_true] at h
  obtain ⟨h1, h2⟩ := h
  refine ⟨?_, ?_⟩
  · cases hc : c.callee <;> rw [hc] at h1 <;> try (exact absurd h1 Bool.false_ne_true)
    rename_i b
    cases b <;> first | rfl | (exact absurd h1 Bool.false_ne_true)
  · cases ht : c.argTypes[0]? with
    | none => rw [ht] at h2; cases h2
    | some t =>
      rw [ht] at h2
      simp only at h2
      unfold Builtin.len_
      rw [ht]
      cases args[0]? with
      | none => exact .stuck _
      | some x =>
        simp only
        have hd : (∃ e, P.underlying t = some (.slice e)) ∨ P.underlying t = some .string := by
          split at h2
          · rename_i e he; exact .inl ⟨e, he⟩
          · rename_i he; exact .inr he
          · cases h2
        have key : ∀ d (f : TypeDesc → Sem Value), P.underlying t = some d → StillS P (f d) → StillS P (Go.underlying t >>= f) := fun d f hd hf w v w' hr => by
          rw [Sem.run_bind, run_underlying hd, Result.andThen_ok] at hr
          obtain ⟨h1, h2⟩ := hf w v w' hr
          exact ⟨h1, fun u => by rw [Sem.run_bind, run_underlying hd, Result.andThen_ok, h2 u]⟩
        rcases hd with ⟨e, hd⟩ | hd
        · refine key _ _ hd ?_
          cases x <;> first | exact .pure _ | exact .stuck _
        · refine key _ _ hd ?_
          cases x <;> first | exact .pure _ | exact .stuck _

/-- The operations that look at no world, by their kind alone. -/
def pureOp (P : Program) : Op → Bool
  | .move _ | .assign _ | .pick .. | .unOp .. | .extract .. => true
  | .indexAddr .. | .nilCheck _ => true
  | .call c => lenOk P c
  | .slice t _ _ _ _ => match P.underlying t with | some (.slice _) => true | _ => false
  | .fieldAddr s _ f => match P.underlying s with
    | some (.struct fields) => match fields[f]? with
      | some fl => match P.info? fl.type with
        | some i => i.size != 0
        | none => false
      | none => false
    | _ => false
  | _ => false

theorem StillS.fieldAt {s : TypeId} {f : Nat} {fields : Array Field} {fl : Field} {i : TypeInfo} (h1 : P.underlying s = some (.struct fields)) (h2 : fields[f]? = some fl) (h3 : P.info? fl.type = some i) (h4 : i.size ≠ 0) (v : Value) : StillS P (Instr.fieldAt s v f) := by
  intro w u w' h
  cases v with
  | pointer a =>
    cases a with
    | some a =>
      have hr : ∀ w, (Instr.fieldAt s (.pointer (some a)) f).run P w = .ok (.pointer (some (a.add fl.offset))) w := fun w => by
        simp [Instr.fieldAt, Instr.sureAddr, fieldPlace, Go.sizeOf, Go.typeInfo, run_underlying h1, h2, h3, h4, Go.program, Sem.run]
      rw [hr w] at h
      injection h with h5 h6
      subst h5 h6
      exact ⟨rfl, hr⟩
    | none => simp [Instr.fieldAt, Instr.sureAddr, run_underlying h1, h2, Go.stuck] at h
  | _ => simp [Instr.fieldAt, Instr.sureAddr, run_underlying h1, h2, Go.stuck] at h

/-- What a pure operation comes to is the same in every world. -/
theorem pureOp_still {o : Oper} (h : pureOp P o.op = true) (ρ : Operand → Value) (w : World) (n : Next) (w' : World) (hr : (execOp ρ o).run P w = .ok n w') :
    ∃ v, n = .value v ∧ w' = w ∧ ∀ u, (execOp ρ o).run P u = .ok (.value v) u := by
  have lift : ∀ s : Sem Value, StillS P s → (do let x ← s; Pure.pure (Next.value x) : Sem Next).run P w = .ok n w' → ∃ v, n = .value v ∧ w' = w ∧ ∀ u, (do let x ← s; Pure.pure (Next.value x) : Sem Next).run P u = .ok (.value v) u := by
    intro s hs hr
    rw [Sem.run_bind] at hr
    cases h1 : s.run P w with
    | halt x y => rw [h1] at hr; simp [Result.andThen] at hr
    | ok x y =>
      rw [h1] at hr
      simp only [Result.andThen_ok, Sem.run_pure] at hr
      injection hr with h2 h3
      obtain ⟨rfl, h4⟩ := hs w x y h1
      exact ⟨x, h2.symm, h3.symm, fun u => by rw [Sem.run_bind, h4 u]; rfl⟩
  cases hop : o.op <;> rw [hop] at h <;> simp only [pureOp] at h <;> try (exact absurd h Bool.false_ne_true)
  case move x =>
    simp only [execOp, hop, Sem.run_pure] at hr ⊢
    injection hr with h1 h2
    exact ⟨_, h1.symm, h2.symm, fun _ => rfl⟩
  case assign x =>
    simp only [execOp, hop, Sem.run_pure] at hr ⊢
    injection hr with h1 h2
    exact ⟨_, h1.symm, h2.symm, fun _ => rfl⟩
  case pick c a b =>
    simp only [execOp, hop] at hr ⊢
    rw [Sem.run_bind] at hr
    cases h1 : (Go.asBool (ρ c)).run P w with
    | halt x y => rw [h1] at hr; simp [Result.andThen] at hr
    | ok x y =>
      obtain ⟨rfl, h4⟩ := StillS.asBool (ρ c) w x y h1
      rw [h1] at hr
      simp only [Result.andThen_ok, Sem.run_pure] at hr
      injection hr with h2 h3
      exact ⟨_, h2.symm, h3.symm, fun u => by rw [Sem.run_bind, h4 u]; rfl⟩
  case nilCheck x =>
    simp only [execOp, hop] at hr ⊢
    have fin : StillS P (execOp ρ o) := by
      simp only [execOp, hop]
      split
      · exact .never (NeverS.runtimePanic _)
      · exact .never (NeverS.runtimePanic _)
      · exact .never (NeverS.runtimePanic _)
      · split
        · exact .never (NeverS.runtimePanic _)
        · refine .bind .program fun p => ?_
          refine .bind (.nilAhead _ _ _ _) fun r => ?_
          split
          · exact .bind (.unsupported _) fun _ => .pure _
          · exact .pure _
        · exact .pure _
      · exact .pure _
    have val : ValS P (execOp ρ o) := by
      simp only [execOp, hop]
      split
      · exact .never (NeverS.runtimePanic _)
      · exact .never (NeverS.runtimePanic _)
      · exact .never (NeverS.runtimePanic _)
      · split
        · exact .never (NeverS.runtimePanic _)
        · refine .bind fun p => ?_
          refine .bind fun r => ?_
          split
          · exact .bind fun _ => .pure _
          · exact .pure _
        · exact .pure _
      · exact .pure _
    simp only [execOp, hop] at fin val
    obtain ⟨h1, h2⟩ := fin w n w' hr
    obtain ⟨v, rfl⟩ := val w n w' hr
    exact ⟨v, rfl, h1, h2⟩
  case call c =>
    obtain ⟨h1, h2⟩ := lenOk_still h o.type (c.args.map ρ)
    have e : execOp ρ o = (do let x ← Builtin.len_ c.argTypes o.type (c.args.map ρ); Pure.pure (Next.value x) : Sem Next) := by
      simp only [execOp, hop, resolve, h1]
      rfl
    rw [e] at hr ⊢
    exact lift _ h2 hr
  case unOp op t x => simp only [execOp, hop] at hr ⊢; exact lift _ (.unary _ _) hr
  case extract t i => simp only [execOp, hop] at hr ⊢; exact lift _ (.extract _ _) hr
  case indexAddr t x i => simp only [execOp, hop] at hr ⊢; exact lift _ (.indexAt _ _ _) hr
  case slice t x lo hi mx =>
    simp only [execOp, hop] at hr ⊢
    split at h
    · rename_i e he
      exact lift _ (.sliceAt he _ _ _ _) hr
    · cases h
  case fieldAddr s x f =>
    simp only [execOp, hop] at hr ⊢
    split at h
    · rename_i fields h1
      split at h
      · rename_i fl h2
        split at h
        · rename_i i h3
          exact lift _ (.fieldAt h1 h2 h3 (by simpa using h) _) hr
        · cases h
      · cases h
    · cases h

theorem ReadS.load (a : Addr) (m : Mode) : ReadS P (Go.load a m) := by
  intro w v w' h
  unfold Go.load at h
  rw [Sem.run] at h
  split at h
  · simp [Sem.run] at h; exact h.2.symm
  · split at h
    · simp [Sem.run] at h; exact h.2.symm
    · cases h
theorem ReadS.cells (a : Addr) : ∀ (n i : Nat) (acc : Array Value), ReadS P (loadCellsFrom a i n acc)
  | 0, _, _ => (StillS.pure _).read
  | n + 1, i, acc => .bind (.load _ _) fun v => ReadS.cells a n (i + 1) (acc.push v)
theorem ReadS.loadVar (t : TypeId) (a : Addr) : ReadS P (Go.loadVar t a) := by
  unfold Go.loadVar
  refine .bind (StillS.isAgg t).read fun b => ?_
  split
  · exact .bind (StillS.sizeOf t).read fun _ => .bind (.cells a _ _ _) fun _ => (StillS.pure _).read
  · exact .load _ _

/-- The operations that leave the world as it is, by their kind alone. -/
def readOp (P : Program) : Op → Bool
  | .load .. => true
  | o => pureOp P o

theorem readOp_read {o : Oper} (h : readOp P o.op = true) (ρ : Operand → Value) (w : World) (n : Next) (w' : World) (hr : (execOp ρ o).run P w = .ok n w') : (∃ v, n = .value v) ∧ w' = w := by
  by_cases hp : pureOp P o.op = true
  · obtain ⟨v, h1, h2, _⟩ := pureOp_still hp ρ w n w' hr
    exact ⟨⟨v, h1⟩, h2⟩
  · cases hop : o.op <;> rw [hop] at h hp <;> first | (exact absurd h hp) | skip
    case load t x =>
      simp only [execOp, hop] at hr
      rw [Sem.run_bind] at hr
      have hrd : ReadS P (Instr.loadAt t (ρ x)) := .bind (StillS.sureAddr _).read fun _ => .loadVar _ _
      cases h1 : (Instr.loadAt t (ρ x)).run P w with
      | halt q y => rw [h1] at hr; simp [Result.andThen] at hr
      | ok q y =>
        rw [h1] at hr
        simp only [Result.andThen_ok, Sem.run_pure] at hr
        injection hr with h2 h3
        exact ⟨⟨q, h2.symm⟩, h3.symm.trans (hrd w q y h1)⟩

/-! the walk in the order of the text, over a list of places -/
variable {ops : Array Oper}
def wpSeq (P : Program) (ops : Array Oper) (Q : Exit → Act → World → Prop) (K : Act → World → Prop) : List Nat → Act → World → Prop
  | [] => K
  | i :: r => wpOp P ops (Only Q) i (wpSeq P ops Q K r)

variable {Q : Exit → Act → World → Prop} {K : Act → World → Prop}

/-- What an operation hands on, it hands on somewhere. -/
theorem wpOp_some {i : Nat} {o : Oper} (hi : ops[i]? = some o) {p : Act → Prop} (hd : ∀ a d, p { a with defers := d :: a.defers } → p a) {a : Act} {w : World} (h : wpOp P ops (Only Q) i (fun a' _ => p a') a w) : ∃ v, p (a.put o.dst v) := by
  unfold wpOp at h
  simp only [hi] at h
  split at h
  · rcases h with h | ⟨_, h⟩
    · unfold Oper.wp at h
      cases hr : (execOp a.eval o).run P w with
      | halt x y => rw [hr] at h; cases x <;> simp [Oper.upon, Only] at h
      | ok n y =>
        rw [hr] at h
        cases n <;> simp only [Oper.upon] at h
        case value v => exact ⟨v, h⟩
        case skip => exact ⟨undef, h⟩
        case defer d => exact ⟨undef, hd _ d (by have e := Act.put_defers a o.dst undef d; exact e ▸ h)⟩
        case enter f args =>
          obtain ⟨e, w', fr, hR, _⟩ := h []
          cases e with
          | returned v => exact ⟨v, hR⟩
          | panicked c => exact absurd hR id
          | outgrown => exact absurd hR Only.lets
        case row r args =>
          obtain ⟨v, w', hR, _⟩ := h default []
          exact ⟨v, hR⟩
    · exact absurd h Only.lets
  · exact ⟨undef, h⟩

theorem yields_inv {i : Nat} {o : Oper} (hi : ops[i]? = some o) {v : Value} {a : Act} {w : World} (hy : Yields P ops o v a) (h : wpOp P ops (Only Q) i K a w) : K (a.put o.dst v) w := by
  unfold wpOp at h
  simp only [hi] at h
  rcases hy with ⟨h1, h2⟩ | ⟨h1, rfl⟩
  · rw [if_pos h1] at h
    rcases h with h | ⟨_, h⟩
    · unfold Oper.wp at h
      rw [h2 w] at h
      exact h
    · exact absurd h Only.lets
  · rw [if_neg (by simp [h1])] at h
    exact h

/-- A pure operation that stands behind another yields already ahead of it. -/
theorem yields_of_behind {i j : Nat} {oi oj : Oper} (hi : ops[i]? = some oi) (hj : ops[j]? = some oj) (hpure : pureOp P oi.op = true) (hap : oi.apart ops oj = true) (hsi : ∀ cs b, oi.op ≠ .select cs b) {a : Act} {w : World}
    (h : wpOp P ops (Only Q) j (wpOp P ops (Only Q) i K) a w) : ∃ v, Yields P ops oi v a := by
  obtain ⟨_, _, h3⟩ := Oper.apart_spec hap
  have hp : wpOp P ops (Only Q) j (fun a' _ => ∃ v, Yields P ops oi v a') a w := by
    refine wpOp_mono (fun a' w' hh => ?_) h
    unfold wpOp at hh
    simp only [hi] at hh
    split at hh
    · rename_i hw
      rcases hh with hh | ⟨_, hh⟩
      · unfold Oper.wp at hh
        cases hr : (execOp a'.eval oi).run P w' with
        | halt x y => rw [hr] at hh; cases x <;> simp [Oper.upon, Only] at hh
        | ok n y =>
          obtain ⟨v, _, _, h4⟩ := pureOp_still hpure _ _ _ _ hr
          exact ⟨v, .inl ⟨hw, h4⟩⟩
      · exact absurd hh Only.lets
    · rename_i hw
      exact ⟨undef, .inr ⟨by simpa using hw, rfl⟩⟩
  obtain ⟨u, v, hy⟩ := wpOp_some hj (p := fun a' => ∃ v, Yields P ops oi v a') (fun a d ⟨v, hy⟩ => ⟨v, hy.of_same rfl rfl⟩) hp
  exact ⟨v, hy.of_same (execOp_put oi hsi a oj.dst u h3).symm (wanted_put oi a oj.dst u h3).symm⟩

/-- .. and may be taken ahead of it. -/
theorem wpOp_back {i j : Nat} {oi oj : Oper} {v : Value} (hi : ops[i]? = some oi) (hj : ops[j]? = some oj) (hap : oi.apart ops oj = true) (hsi : ∀ cs b, oi.op ≠ .select cs b) (hsj : ∀ cs b, oj.op ≠ .select cs b) {a : Act} {w : World}
    (hy : Yields P ops oi v a) (h : wpOp P ops (Only Q) j (wpOp P ops (Only Q) i K) a w) : wpOp P ops (Only Q) j K (a.put oi.dst v) w := by
  obtain ⟨h1, h2, h3⟩ := Oper.apart_spec hap
  have keep : ∀ (a : Act), Yields P ops oi v a → ∀ u, Yields P ops oi v (a.put oj.dst u) := fun a hy u =>
    hy.of_same (execOp_put oi hsi a oj.dst u h3) (wanted_put oi a oj.dst u h3)
  have keepD : ∀ d, Yields P ops oi v { a with defers := d :: a.defers } := fun d => hy.of_same rfl rfl
  have go : ∀ u w', wpOp P ops (Only Q) i K (a.put oj.dst u) w' → K ((a.put oi.dst v).put oj.dst u) w' := fun u w' hh => by
    have := yields_inv hi (keep a hy u) hh
    rwa [← Act.put_comm a v u h2] at this
  unfold wpOp
  simp only [hj]
  rw [wanted_put oj a oi.dst v h1]
  unfold wpOp at h
  simp only [hj] at h
  split
  · rename_i hw
    rw [if_pos hw] at h
    rcases h with h | ⟨_, h⟩
    · refine .inl ?_
      unfold Oper.wp at *
      rw [execOp_put oj hsj a oi.dst v h1]
      generalize (execOp a.eval oj).run P w = r at *
      cases r with
      | halt x y => cases x <;> simp [Oper.upon, Only] at h
      | ok n y =>
        cases n <;> simp only [Oper.upon] at h ⊢
        case value u => exact go u y h
        case skip => exact go _ y h
        case defer d =>
          have := yields_inv hi (keep _ (keepD d) undef) h
          rw [← Act.put_comm _ v undef h2, ← Act.put_defers] at this
          exact this
        case enter f args =>
          refine Calls.mono h fun e w'' he => ?_
          cases e with
          | returned u => exact go u w'' he
          | panicked c => exact absurd he id
          | outgrown => exact he
        case row r args => exact Rows.mono h fun u w'' he => go u w'' he
    · exact absurd h Only.lets
  · rename_i hw
    rw [if_neg hw] at h
    exact go _ _ h

/-- Two operations that may change places. -/
def commB (P : Program) (ops : Array Oper) (x y : Oper) : Bool := x.apart ops y && y.apart ops x && (pureOp P x.op || pureOp P y.op || (readOp P x.op && readOp P y.op))

theorem readOp_step {i : Nat} {o : Oper} (hi : ops[i]? = some o) (hr : readOp P o.op = true) {a : Act} {w : World} (h : wpOp P ops (Only Q) i K a w) :
    ∃ v, K (a.put o.dst v) w ∧ ((Region.wanted o (yielded ops a.tmps) = true ∧ (execOp a.eval o).run P w = .ok (.value v) w) ∨ (Region.wanted o (yielded ops a.tmps) = false ∧ v = undef)) := by
  unfold wpOp at h
  simp only [hi] at h
  split at h
  · rename_i hw
    rcases h with h | ⟨_, h⟩
    · unfold Oper.wp at h
      cases hrun : (execOp a.eval o).run P w with
      | halt x y => rw [hrun] at h; cases x <;> simp [Oper.upon, Only] at h
      | ok n y =>
        obtain ⟨⟨v, rfl⟩, rfl⟩ := readOp_read hr _ _ _ _ hrun
        rw [hrun] at h
        exact ⟨v, h, .inl ⟨hw, rfl⟩⟩
    · exact absurd h Only.lets
  · rename_i hw
    exact ⟨undef, h, .inr ⟨by simpa using hw, rfl⟩⟩
theorem readOp_mk {i : Nat} {o : Oper} (hi : ops[i]? = some o) {a : Act} {w : World} {v : Value}
    (hv : (Region.wanted o (yielded ops a.tmps) = true ∧ (execOp a.eval o).run P w = .ok (.value v) w) ∨ (Region.wanted o (yielded ops a.tmps) = false ∧ v = undef)) (h : K (a.put o.dst v) w) : wpOp P ops (Only Q) i K a w := by
  unfold wpOp
  simp only [hi]
  rcases hv with ⟨h1, h2⟩ | ⟨h1, rfl⟩
  · rw [if_pos h1]
    exact .inl (by unfold Oper.wp; rw [h2]; exact h)
  · rw [if_neg (by simp [h1])]
    exact h

theorem swap {i j : Nat} {oi oj : Oper} (hi : ops[i]? = some oi) (hj : ops[j]? = some oj) (hc : commB P ops oi oj = true) (hsi : ∀ cs b, oi.op ≠ .select cs b) (hsj : ∀ cs b, oj.op ≠ .select cs b) {a : Act} {w : World}
    (h : wpOp P ops (Only Q) i (wpOp P ops (Only Q) j K) a w) : wpOp P ops (Only Q) j (wpOp P ops (Only Q) i K) a w := by
  simp only [commB, Bool.and_eq_true, Bool.or_eq_true] at hc
  obtain ⟨⟨ha, hb⟩, hc⟩ := hc
  rcases hc with (hc | hc) | ⟨hc1, hc2⟩
  · -- the first is pure
    obtain ⟨v, hk, hv⟩ := readOp_step hi (by unfold readOp; split <;> first | rfl | exact hc) h
    have hy : Yields P ops oi v a := by
      rcases hv with ⟨h1, h2⟩ | hv
      · obtain ⟨u, h3, _, h4⟩ := pureOp_still hc _ _ _ _ h2
        injection h3 with h3
        subst h3
        exact .inl ⟨h1, h4⟩
      · exact .inr hv
    exact wpOp_mono (fun a' w' ⟨hy', hk'⟩ => hy'.wpOp hi hk') (wpOp_put hj ha hsi hsj (fun c a w h => h) hy hk)
  · -- the second is pure
    obtain ⟨v, hy⟩ := yields_of_behind hj hi hc hb hsj h
    exact hy.wpOp hj (wpOp_back hj hi hb hsj hsi hy h)
  · -- both only read
    obtain ⟨v, hk, hv⟩ := readOp_step hi hc1 h
    obtain ⟨u, hk2, hu⟩ := readOp_step hj hc2 hk
    obtain ⟨h1, h2, h3⟩ := Oper.apart_spec ha
    rw [wanted_put oj a oi.dst v h1, execOp_put oj hsj a oi.dst v h1] at hu
    refine readOp_mk hj hu ?_
    refine readOp_mk hi (v := v) ?_ ?_
    · rw [wanted_put oi a oj.dst u h3, execOp_put oi hsi a oj.dst u h3]
      exact hv
    · rw [← Act.put_comm a v u h2]
      exact hk2

theorem wpSeq_front {i : Nat} {oi : Oper} (hi : ops[i]? = some oi) (hsel : ∀ (j : Nat) (o : Oper) cs b, ops[j]? = some o → o.op ≠ .select cs b) (post : List Nat) : ∀ (pre : List Nat) (a : Act) (w : World),
    (∀ k ∈ pre, ∃ ok, ops[k]? = some ok ∧ commB P ops ok oi = true) → wpSeq P ops Q K (pre ++ i :: post) a w → wpOp P ops (Only Q) i (wpSeq P ops Q K (pre ++ post)) a w
  | [], a, w, _, h => h
  | k :: pre, a, w, hp, h => by
    obtain ⟨ok, hk, hc⟩ := hp k (by simp)
    have h1 : wpOp P ops (Only Q) k (wpOp P ops (Only Q) i (wpSeq P ops Q K (pre ++ post))) a w :=
      wpOp_mono (fun a' w' hh => wpSeq_front hi hsel post pre a' w' (fun k' hk' => hp k' (by simp [hk'])) hh) h
    exact swap hk hi hc (hsel k ok · · hk) (hsel i oi · · hi) h1

/-- The table B holds, of each operation, (some of) those that its edges put ahead of it; the others ahead of it in the text may change places with it. -/
def serialB (P : Program) (ops : Array Oper) (B : Array Nat) : Bool :=
  Region.noSelect ops && (List.range ops.size).all fun i => match ops[i]? with
    | none => true
    | some o => (o.after.all fun e => !Region.binds .any e || decide (e.on < i)) && (List.range i).all fun k =>
      if (B.getD i 0).testBit k then o.after.any fun e => Region.binds .any e && decide (e.on < i) && (e.on == k || (decide (k < e.on) && (B.getD e.on 0).testBit k))
      else match ops[k]? with | none => false | some ok => commB P ops ok o

theorem serialB_at {B : Array Nat} (hB : serialB P ops B = true) {i : Nat} {o : Oper} (hi : ops[i]? = some o) : (∀ e ∈ o.after, Region.binds .any e = true → e.on < i) ∧ ∀ k, k < i →
    ((B.getD i 0).testBit k = true ∧ ∃ e ∈ o.after, Region.binds .any e = true ∧ e.on < i ∧ (e.on = k ∨ (k < e.on ∧ (B.getD e.on 0).testBit k = true))) ∨ ((B.getD i 0).testBit k = false ∧ ∃ ok, ops[k]? = some ok ∧ commB P ops ok o = true) := by
  have hlt := (Array.getElem?_eq_some_iff.1 hi).1
  simp only [serialB, Bool.and_eq_true, List.all_eq_true, List.mem_range] at hB
  have h := hB.2 i hlt
  rw [hi] at h
  simp only [Bool.and_eq_true, List.all_eq_true, List.mem_range, Array.all_eq_true_iff_forall_mem] at h
  refine ⟨fun e he hb => by have := h.1 e he; simpa [hb] using this, fun k hk => ?_⟩
  have h2 := h.2 k hk
  split at h2
  · rename_i hb
    rw [Array.any_eq_true'] at h2
    obtain ⟨e, he, h3⟩ := h2
    simp only [Bool.and_eq_true, Bool.or_eq_true, decide_eq_true_eq, beq_iff_eq] at h3
    exact .inl ⟨hb, e, he, h3.1.1, h3.1.2, h3.2⟩
  · rename_i hb
    cases hk2 : ops[k]? with
    | none => rw [hk2] at h2; cases h2
    | some ok => rw [hk2] at h2; exact .inr ⟨by simpa using hb, ok, rfl, h2⟩

def Down (ops : Array Oper) (listed : Array Bool) : Prop := ∀ i o, ops[i]? = some o → listed.getD i false = true → ∀ e ∈ o.after, Region.binds .any e = true → listed.getD e.on false = true

theorem ahead_listed {B : Array Nat} (hB : serialB P ops B = true) {listed : Array Bool} (hd : Down ops listed) : ∀ (n i : Nat) (o : Oper), i ≤ n → ops[i]? = some o → (∀ e ∈ o.after, Region.binds .any e = true → listed.getD e.on false = true) →
    ∀ k, k < i → (B.getD i 0).testBit k = true → listed.getD k false = true
  | 0, i, o, hn, _, _, k, hk, _ => by omega
  | n + 1, i, o, hn, hi, hall, k, hk, hb => by
    rcases (serialB_at hB hi).2 k hk with ⟨_, e, he, hbi, hlt, h⟩ | ⟨hf, _⟩
    · rcases h with rfl | ⟨hk2, hb2⟩
      · exact hall e he hbi
      · have hon : ∃ o2, ops[e.on]? = some o2 := ⟨_, Array.getElem?_eq_getElem (by have := (Array.getElem?_eq_some_iff.1 hi).1; omega)⟩
        obtain ⟨o2, ho2⟩ := hon
        exact ahead_listed hB hd n e.on o2 (by omega) ho2 (hd e.on o2 ho2 (hall e he hbi)) k hk2 hb2
    · rw [hb] at hf; cases hf

def left (ops : Array Oper) (listed : Array Bool) : List Nat := (List.range ops.size).filter fun i => !listed.getD i false

theorem left_set {listed : Array Bool} (hs : listed.size = ops.size) {i : Nat} {s t : List Nat} (h : left ops listed = s ++ i :: t) : left ops (listed.setIfInBounds i true) = s ++ t ∧ (∀ k ∈ s, k < i) := by
  have hp : (left ops listed).Pairwise (· < ·) := List.Pairwise.filter _ List.pairwise_lt_range
  rw [h, List.pairwise_append] at hp
  obtain ⟨h1, h2, h3⟩ := hp
  rw [List.pairwise_cons] at h2
  have hi : i < ops.size := by
    have : i ∈ left ops listed := by rw [h]; simp
    unfold left at this
    rw [List.mem_filter, List.mem_range] at this
    exact this.1
  refine ⟨?_, fun k hk => h3 k hk i (by simp)⟩
  have e : left ops (listed.setIfInBounds i true) = (left ops listed).filter (fun k => k != i) := by
    unfold left
    rw [List.filter_filter]
    refine List.filter_congr fun k hk => ?_
    rw [List.mem_range] at hk
    by_cases hki : k = i
    · subst hki
      simp [Array.getD_eq_getD_getElem?, hs, hk]
    · simp [Array.getD_eq_getD_getElem?, Array.getElem?_setIfInBounds_ne (Ne.symm hki), hki]
  rw [e, h, List.filter_append, List.filter_cons]
  have es : s.filter (fun k => k != i) = s := List.filter_eq_self.2 fun k hk => by have := h3 k hk i (by simp); simp; omega
  have et : t.filter (fun k => k != i) = t := List.filter_eq_self.2 fun k hk => by have := h2.1 k hk; simp; omega
  rw [es, et]
  simp

theorem serial_any {B : Array Nat} (hB : serialB P ops B = true) : ∀ (fuel : Nat) (listed : Array Bool) (a : Act) (w : World), Down ops listed → listed.size = ops.size → (left ops listed).length = fuel →
    wpSeq P ops Q (Q .normal) (left ops listed) a w → wpAny P .any ops (Only Q) fuel listed a w := by
  have hsel : ∀ (j : Nat) (o : Oper) cs b, ops[j]? = some o → o.op ≠ .select cs b := by
    intro j o cs b ho
    have : Region.noSelect ops = true := by simp only [serialB, Bool.and_eq_true] at hB; exact hB.1
    exact Region.noSelect_spec this j o cs b ho
  have hready : ∀ (listed : Array Bool), Down ops listed → listed.size = ops.size → ∀ i r, left ops listed = i :: r → i ∈ Region.ready .any ops listed := by
    intro listed hd hs i r hl
    have hi : i ∈ left ops listed := by rw [hl]; simp
    have hmin := (left_set (ops := ops) hs (s := []) (t := r) hl)
    unfold left at hi
    rw [List.mem_filter, List.mem_range] at hi
    rw [mem_ready]
    obtain ⟨o, ho⟩ : ∃ o, ops[i]? = some o := ⟨_, Array.getElem?_eq_getElem hi.1⟩
    refine ⟨?_, o, ho, fun e he hb => ?_⟩
    · have h1 := hi.2
      rw [Array.getD_eq_getD_getElem?, Array.getElem?_eq_getElem (by omega)] at h1 ⊢
      simpa using h1
    · have hlt := (serialB_at hB ho).1 e he hb
      cases hc : listed.getD e.on false
      · have hm : e.on ∈ left ops listed := by
          unfold left
          rw [List.mem_filter, List.mem_range]
          exact ⟨by omega, by simp [hc]⟩
        have hp : (left ops listed).Pairwise (· < ·) := List.Pairwise.filter _ List.pairwise_lt_range
        rw [hl] at hm hp
        rw [List.pairwise_cons] at hp
        rcases List.mem_cons.1 hm with h | h
        · omega
        · have := hp.1 _ h; omega
      · rfl
  intro fuel
  induction fuel with
  | zero =>
    intro listed a w hd hs hl h
    have hnil := List.eq_nil_of_length_eq_zero hl
    rw [hnil] at h
    refine ⟨?_, h⟩
    cases hr : Region.ready .any ops listed with
    | nil => rfl
    | cons i r =>
      have hi : i ∈ Region.ready .any ops listed := by rw [hr]; simp
      rw [mem_ready] at hi
      obtain ⟨h0, o, ho, _⟩ := hi
      have hm : i ∈ left ops listed := by
        unfold left
        rw [List.mem_filter, List.mem_range]
        have hlt := (Array.getElem?_eq_some_iff.1 ho).1
        refine ⟨hlt, ?_⟩
        rw [Array.getD_eq_getD_getElem?, Array.getElem?_eq_getElem (by omega)] at h0 ⊢
        simpa using h0
      rw [hnil] at hm
      cases hm
  | succ fuel ih =>
    intro listed a w hd hs hl h
    refine ⟨fun hr => ?_, fun i hi => ?_⟩
    · cases hl2 : left ops listed with
      | nil => rw [hl2] at hl; simp at hl
      | cons i r =>
        have := hready listed hd hs i r hl2
        rw [hr] at this
        cases this
    · rw [mem_ready] at hi
      obtain ⟨h0, o, ho, hall⟩ := hi
      have hlt := (Array.getElem?_eq_some_iff.1 ho).1
      have hm : i ∈ left ops listed := by
        unfold left
        rw [List.mem_filter, List.mem_range]
        refine ⟨hlt, ?_⟩
        rw [Array.getD_eq_getD_getElem?, Array.getElem?_eq_getElem (by omega)] at h0 ⊢
        simpa using h0
      obtain ⟨s, t, hst⟩ := List.append_of_mem hm
      obtain ⟨hset, hbefore⟩ := left_set (ops := ops) hs hst
      rw [hst] at h
      have hf := wpSeq_front ho hsel t s a w (fun k hk => by
        have hki := hbefore k hk
        have hkl : listed.getD k false = false := by
          have : k ∈ left ops listed := by rw [hst]; simp [hk]
          unfold left at this
          rw [List.mem_filter] at this
          simpa using this.2
        rcases (serialB_at hB ho).2 k hki with ⟨hb, _⟩ | ⟨_, h⟩
        · have := ahead_listed hB hd i i o (Nat.le_refl _) ho hall k hki hb
          rw [hkl] at this
          cases this
        · exact h) h
      refine wpOp_mono (fun a' w' hh => ih _ a' w' ?_ (by simpa using hs) ?_ (by rw [hset]; exact hh)) hf
      · intro j oj hj hlj e he hb
        by_cases hji : i = j
        · subst hji
          rw [ho] at hj
          injection hj with hj
          subst hj
          exact getD_set_true (hall e he hb)
        · rw [getD_set_ne false hji] at hlj
          exact getD_set_true (hd j oj hj hlj e he hb)
      · rw [hset]
        rw [hst] at hl
        simp at hl ⊢
        omega

theorem wpSeq_list : ∀ (l : List Oper) (k : Nat) (a : Act) (w : World), (∀ j, l[j]? = ops[k + j]?) → wpList P ops (Only Q) l a w → wpSeq P ops Q (Q .normal) (List.range' k l.length) a w
  | [], k, a, w, _, h => h
  | o :: l, k, a, w, hl, h => by
    have h0 : ops[k]? = some o := by simpa using (hl 0).symm
    rw [List.length_cons, List.range'_succ]
    unfold wpSeq wpOp
    simp only [h0]
    unfold wpList at h
    have hm : ∀ a w, wpList P ops (Only Q) l a w → wpSeq P ops Q (Q .normal) (List.range' (k + 1) l.length) a w := fun a w h =>
      wpSeq_list l (k + 1) a w (fun j => by have := hl (j + 1); simpa [Nat.add_assoc, Nat.add_comm 1 j] using this) h
    split at h
    · rename_i hw
      rw [if_pos hw]
      exact h.imp (Oper.wp_mono hm) id
    · rename_i hw
      rw [if_neg hw]
      exact hm _ _ h

/-- THE WALK IN THE ORDER OF THE TEXT SERVES EVERY ORDER. -/
theorem wp_region_serial {id : Nat} {l : List Oper} {a : Act} {w : World} (B : Array Nat) (hm : P.follows .mixedOrders = true) (hB : serialB P l.toArray B = true)
    (h : wpList P l.toArray (Only Q) l a w.drew) : (Code.region id l.toArray true).wp P Q a w := by
  refine Code.wp_mono Only.imp (wp_region_any hm ?_)
  have hleft : left l.toArray (Array.replicate l.toArray.size false) = List.range l.length := by
    unfold left
    rw [List.filter_eq_self.2 fun k hk => by simp [Array.getD_eq_getD_getElem?, Array.getElem?_replicate]; split <;> simp]
    simp
  refine serial_any hB _ _ _ _ ?_ (by simp) (by rw [hleft]; simp) ?_
  · intro i o ho hl
    simp [Array.getD_eq_getD_getElem?, Array.getElem?_replicate] at hl
    split at hl <;> simp at hl
  · rw [hleft, List.range_eq_range']
    exact wpSeq_list l 0 a _ (fun j => by simp) h

theorem wp_region_text {id : Nat} {l : List Oper} {a : Act} {w : World} (hm : P.follows .mixedOrders = true) (hB : serialB P l.toArray (Region.before l.toArray) = true)
    (h : wpList P l.toArray (Only Q) l a w.drew) : (Code.region id l.toArray true).wp P Q a w := wp_region_serial _ hm hB h
theorem Only.normal {a : Act} {w : World} (h : Q .normal a w) : Only Q .normal a w := h
end
end Go.Proofs.Ytggibiodeecljaa
