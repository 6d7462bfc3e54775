/- A region that draws its order, walked in the order of the text: a read may change places with a list written out behind it, too. No program in sight. -/
import Derived.Test.YtggibiodeecljaaSerial
import Derived.Deep.RegionHeld
namespace Go.Proofs.Ytggibiodeecljaa
open Go.RowKit

/-- It leaves the world as it is, and with a block more it yields the same. -/
def UpS {α : Type} (P : Program) (s : Sem α) : Prop := ∀ w v w', s.run P w = .ok v w' → w' = w ∧ ∀ o, s.run P (w.alloc o) = .ok v (w.alloc o)
/-- It makes a block, and turns nothing else. -/
def NewS {α : Type} (P : Program) (s : Sem α) : Prop := ∀ w v w', s.run P w = .ok v w' → ∃ o, w' = w.alloc o

section
variable {α β : Type} {P : Program}
theorem StillS.up {s : Sem α} (h : StillS P s) : UpS P s := fun w v w' hh => by
  obtain ⟨h1, h2⟩ := h w v w' hh
  exact ⟨h1, fun o => h2 _⟩
theorem UpS.bind {s : Sem α} {f : α → Sem β} (hs : UpS P s) (hf : ∀ x, UpS P (f x)) : UpS P (s >>= f) := fun w v w' h => by
  rw [Sem.run_bind] at h
  cases h1 : s.run P w with
  | halt x y => rw [h1] at h; simp [Result.andThen] at h
  | ok x y =>
    rw [h1] at h
    simp only [Result.andThen_ok] at h
    obtain ⟨rfl, h2⟩ := hs w x y h1
    obtain ⟨rfl, h3⟩ := hf x _ v w' h
    exact ⟨rfl, fun o => by rw [Sem.run_bind, h2 o, Result.andThen_ok, h3 o]⟩
theorem heap_up {w : World} {i : Nat} {x : Obj} (h : w.heap[i]? = some x) (o : Obj) : (w.alloc o).heap[i]? = some x :=
  (Below.heap_alloc w o i (Array.getElem?_eq_some_iff.1 h).1).trans h
theorem seen_up {w : World} {p : Program} {at_ : Addr} {u : TypeId} {k : Addr} {m : Bool} {r} (h : w.seen p at_ u k m = .ok r) (o : Obj) : (w.alloc o).seen p at_ u k m = .ok r := by
  by_cases hb : at_.block < w.heap.size
  · have e : (w.alloc o).heap[at_.block]? = w.heap[at_.block]? := Below.heap_alloc w o _ hb
    unfold World.seen at h ⊢
    rw [e]
    exact h
  · exfalso
    have e : w.heap[at_.block]? = none := Array.getElem?_eq_none (by omega)
    unfold World.seen at h
    rw [e] at h
    simp only [bind, Except.bind] at h
    repeat' split at h
    all_goals first | (cases h; done) | skip
theorem farLoad_up {w : World} {p : Program} {a : Addr} {m : Bool} {r} (h : w.farLoad p a m = .ok r) (o : Obj) : (w.alloc o).cell? a = none ∧ (w.alloc o).farLoad p a m = .ok r := by
  unfold World.farLoad at h
  split at h
  · rename_i at_ u hv
    have hv2 := heap_up hv o
    refine ⟨by unfold World.cell?; rw [hv2], ?_⟩
    unfold World.farLoad
    rw [hv2]
    simp only
    split at h
    · rename_i r2 hr
      injection h with h
      subst h
      unfold World.viewLoad at hr ⊢
      simp only [bind, Except.bind] at hr ⊢
      split at hr
      · cases hr
      · rename_i x hx
        rw [seen_up hx o]
        simp only
        rw [hr]
    · cases h
  · cases h
theorem UpS.load (a : Addr) (m : Mode) : UpS P (Go.load a m) := by
  intro w v w' h
  unfold Go.load at h ⊢
  rw [Sem.run] at h
  cases hc : w.cell? a with
  | some x =>
    rw [hc] at h
    simp only [Sem.run] at h
    injection h with h1 h2
    subst h1 h2
    refine ⟨rfl, fun o => ?_⟩
    rw [Sem.run, World.cell?_alloc_some w a o (by rw [hc]; rfl), hc]
    rfl
  | none =>
    rw [hc] at h
    simp only at h
    split at h
    · rename_i x y hf
      simp only [Sem.run] at h
      injection h with h1 h2
      subst h1 h2
      refine ⟨rfl, fun o => ?_⟩
      obtain ⟨e1, e2⟩ := farLoad_up hf o
      rw [Sem.run, e1]
      simp only
      rw [e2]
      rfl
    · cases h
theorem UpS.cells (a : Addr) : ∀ (n i : Nat) (acc : Array Value), UpS P (loadCellsFrom a i n acc)
  | 0, _, _ => (StillS.pure _).up
  | n + 1, i, acc => .bind (.load _ _) fun v => UpS.cells a n (i + 1) (acc.push v)
theorem UpS.loadVar (t : TypeId) (a : Addr) : UpS P (Go.loadVar t a) := by
  unfold Go.loadVar
  refine .bind (StillS.isAgg t).up fun b => ?_
  split
  · exact .bind (StillS.sizeOf t).up fun _ => .bind (.cells a _ _ _) fun _ => (StillS.pure _).up
  · exact .load _ _
theorem NewS.bind {s : Sem α} {f : α → Sem β} (hs : StillS P s) (hf : ∀ x, NewS P (f x)) : NewS P (s >>= f) := fun w v w' h => by
  rw [Sem.run_bind] at h
  cases h1 : s.run P w with
  | halt x y => rw [h1] at h; simp [Result.andThen] at h
  | ok x y =>
    rw [h1] at h
    simp only [Result.andThen_ok] at h
    obtain ⟨rfl, _⟩ := hs w x y h1
    exact hf x _ v w' h
theorem NewS.after {s : Sem α} {f : α → Sem β} (hs : NewS P s) (hf : ∀ x, StillS P (f x)) : NewS P (s >>= f) := fun w v w' h => by
  rw [Sem.run_bind] at h
  cases h1 : s.run P w with
  | halt x y => rw [h1] at h; simp [Result.andThen] at h
  | ok x y =>
    rw [h1] at h
    simp only [Result.andThen_ok] at h
    obtain ⟨o, rfl⟩ := hs w x y h1
    obtain ⟨rfl, _⟩ := hf x _ v w' h
    exact ⟨o, rfl⟩
theorem NewS.halt (h : Halt) : NewS P (Sem.halt h : Sem α) := fun w v w' hh => by simp at hh
theorem NewS.row (e : TypeId) (cs : Array Value) : NewS P (newRow e cs) := by
  intro w v w' h
  unfold newRow newObj at h
  simp [Sem.run] at h
  exact ⟨_, h.2.symm⟩
theorem StillS.zeroValue (t : TypeId) : StillS P (Go.zeroValue t) := by
  unfold Go.zeroValue
  refine .bind (.typeInfo t) fun i => ?_
  split
  · exact .pure _
  · first | exact .halt _ | exact .stuck _ | exact .unsupported _
theorem NewS.buildSlice (t : TypeId) (len : Nat) (parts : Array (Nat × Value)) : NewS P (Instr.buildSlice t len parts) := by
  unfold Instr.buildSlice
  refine .bind (.underlying t) fun x => ?_
  split
  · rename_i elem
    refine .bind (.sizeOf _) fun size => ?_
    dsimp only
    have tail : ∀ zero : Array Value, NewS P (match Instr.fill (fun i => some (i * size, size)) ((Array.range (len * size)).map fun x => zero[x % zero.size]!) parts.toList with
        | some cells => do
          let a ← newRow elem cells
          pure (Value.slice (some a) len len)
        | x => stuck "buildSlice: a part of the wrong size") := by
      intro zero
      split
      · exact .after (.row _ _) fun _ => .pure _
      · exact .halt _
    split
    · refine .bind (.unsupported _) fun _ => ?_
      split
      · exact .bind (.pure _) tail
      · exact .bind (.zeroValue _) fun _ => .bind (.pure _) tail
    · split
      · exact .bind (.pure _) tail
      · exact .bind (.zeroValue _) fun _ => .bind (.pure _) tail
  · exact .halt _

theorem NewS.alloc (t : TypeId) : NewS P (Instr.alloc t true (.tuple #[])) := by
  unfold Instr.alloc
  refine .bind (.zeroValue _) fun z => ?_
  exact .after (.row _ _) fun _ => .pure _
def newOp : Op → Bool
  | .buildSlice .. => true
  | .alloc .. => true
  | _ => false
/-- A read, and what it reads with a block more. -/
theorem readOp_up {o : Oper} (h : readOp P o.op = true) (ρ : Operand → Value) (w : World) (n : Next) (w' : World) (hr : (execOp ρ o).run P w = .ok n w') : ∀ ob, (execOp ρ o).run P (w.alloc ob) = .ok n (w.alloc ob) := by
  by_cases hp : pureOp P o.op = true
  · obtain ⟨v, h1, h2, h3⟩ := pureOp_still hp ρ w n w' hr
    intro ob
    rw [h3, h1]
  · cases hop : o.op <;> rw [hop] at h hp <;> first | (exact absurd h hp) | skip
    case load t x =>
      simp only [execOp, hop] at hr ⊢
      have hu : UpS P (Instr.loadAt t (ρ x) >>= fun v => Pure.pure (Next.value v)) := .bind (.bind (StillS.sureAddr _).up fun _ => .loadVar _ _) fun _ => (StillS.pure _).up
      exact (hu w n w' hr).2
theorem newOp_new {o : Oper} (h : newOp o.op = true) (ρ : Operand → Value) (w : World) (n : Next) (w' : World) (hr : (execOp ρ o).run P w = .ok n w') : (∃ v, n = .value v) ∧ ∃ ob, w' = w.alloc ob := by
  cases hop : o.op <;> rw [hop] at h <;> first | (cases h; done) | skip
  case buildSlice t len parts =>
    simp only [execOp, hop] at hr
    rw [Sem.run_bind] at hr
    cases h1 : (Instr.buildSlice t len (parts.map fun (i, x) => (i, ρ x))).run P w with
    | halt q y => rw [h1] at hr; simp [Result.andThen] at hr
    | ok q y =>
      rw [h1] at hr
      simp only [Result.andThen_ok, Sem.run_pure] at hr
      injection hr with h2 h3
      obtain ⟨ob, hob⟩ := NewS.buildSlice _ _ _ w q y h1
      exact ⟨⟨q, h2.symm⟩, ob, by rw [← h3, hob]⟩

  case alloc t =>
    simp only [execOp, hop] at hr
    rw [Sem.run_bind] at hr
    cases h1 : (Instr.alloc t true (.tuple #[])).run P w with
    | halt q y => rw [h1] at hr; simp [Result.andThen] at hr
    | ok q y =>
      rw [h1] at hr
      simp only [Result.andThen_ok, Sem.run_pure] at hr
      injection hr with h2 h3
      obtain ⟨ob, hob⟩ := NewS.alloc _ w q y h1
      exact ⟨⟨q, h2.symm⟩, ob, by rw [← h3, hob]⟩

variable {ops : Array Oper} {Q : Exit → Act → World → Prop} {K : Act → World → Prop}
def commC (P : Program) (ops : Array Oper) (x y : Oper) : Bool := commB P ops x y || (x.apart ops y && y.apart ops x && readOp P x.op && newOp y.op)

theorem newOp_step {i : Nat} {o : Oper} (hi : ops[i]? = some o) (hr : newOp o.op = true) {a : Act} {w : World} (h : wpOp P ops (Only Q) i K a w) :
    (∃ v ob, K (a.put o.dst v) (w.alloc ob) ∧ Region.wanted o (yielded ops a.tmps) = true ∧ (execOp a.eval o).run P w = .ok (.value v) (w.alloc ob)) ∨ (K (a.put o.dst undef) w ∧ Region.wanted o (yielded ops a.tmps) = false) := by
  unfold wpOp at h
  simp only [hi] at h
  split at h
  · rename_i hw
    rcases h with h | ⟨_, h⟩
    · unfold Oper.wp at h
      cases hrun : (execOp a.eval o).run P w with
      | halt x y => rw [hrun] at h; cases x <;> simp [Oper.upon, Only] at h
      | ok n y =>
        obtain ⟨⟨v, rfl⟩, ob, rfl⟩ := newOp_new hr _ _ _ _ hrun
        rw [hrun] at h
        exact .inl ⟨v, ob, h, hw, rfl⟩
    · exact absurd h Only.lets
  · rename_i hw
    exact .inr ⟨h, by simpa using hw⟩

theorem swapC {i j : Nat} {oi oj : Oper} (hi : ops[i]? = some oi) (hj : ops[j]? = some oj) (hc : commC P ops oi oj = true) (hsi : ∀ cs b, oi.op ≠ .select cs b) (hsj : ∀ cs b, oj.op ≠ .select cs b) {a : Act} {w : World}
    (h : wpOp P ops (Only Q) i (wpOp P ops (Only Q) j K) a w) : wpOp P ops (Only Q) j (wpOp P ops (Only Q) i K) a w := by
  simp only [commC, Bool.or_eq_true, Bool.and_eq_true] at hc
  rcases hc with hc | ⟨⟨⟨ha, hb⟩, hc1⟩, hc2⟩
  · exact swap hi hj hc hsi hsj h
  · obtain ⟨h1, h2, h3⟩ := Oper.apart_spec ha
    obtain ⟨v, hk, hv⟩ := readOp_step hi hc1 h
    rcases newOp_step hj hc2 hk with ⟨u, ob, hk2, hw2, hr2⟩ | ⟨hk2, hw2⟩
    · rw [wanted_put oj a oi.dst v h1] at hw2
      rw [execOp_put oj hsj a oi.dst v h1] at hr2
      unfold wpOp
      simp only [hj]
      rw [if_pos hw2]
      refine .inl ?_
      unfold Oper.wp
      rw [hr2]
      show wpOp P ops (Only Q) i K (a.put oj.dst u) (w.alloc ob)
      refine readOp_mk hi (v := v) ?_ ?_
      · rw [wanted_put oi a oj.dst u h3, execOp_put oi hsi a oj.dst u h3]
        rcases hv with ⟨g1, g2⟩ | g
        · exact .inl ⟨g1, readOp_up hc1 _ _ _ _ g2 ob⟩
        · exact .inr g
      · rw [← Act.put_comm a v u h2]
        exact hk2
    · rw [wanted_put oj a oi.dst v h1] at hw2
      unfold wpOp
      simp only [hj]
      rw [if_neg (by simp [hw2])]
      refine readOp_mk hi (v := v) ?_ ?_
      · rw [wanted_put oi a oj.dst undef h3, execOp_put oi hsi a oj.dst undef h3]
        exact hv
      · rw [← Act.put_comm a v undef h2]
        exact hk2

theorem wpSeq_frontC {i : Nat} {oi : Oper} (hi : ops[i]? = some oi) (hsel : ∀ (j : Nat) (o : Oper) cs b, ops[j]? = some o → o.op ≠ .select cs b) (post : List Nat) : ∀ (pre : List Nat) (a : Act) (w : World),
    (∀ k ∈ pre, ∃ ok, ops[k]? = some ok ∧ commC P ops ok oi = true) → wpSeq P ops Q K (pre ++ i :: post) a w → wpOp P ops (Only Q) i (wpSeq P ops Q K (pre ++ post)) a w
  | [], a, w, _, h => h
  | k :: pre, a, w, hp, h => by
    obtain ⟨ok, hk, hc⟩ := hp k (by simp)
    have h1 : wpOp P ops (Only Q) k (wpOp P ops (Only Q) i (wpSeq P ops Q K (pre ++ post))) a w :=
      wpOp_mono (fun a' w' hh => wpSeq_frontC hi hsel post pre a' w' (fun k' hk' => hp k' (by simp [hk'])) hh) h
    exact swapC hk hi hc (hsel k ok · · hk) (hsel i oi · · hi) h1

/-- The table B holds, of each operation, (some of) those that its edges put ahead of it; the others ahead of it in the text may change places with it. -/
def serialC (P : Program) (ops : Array Oper) (B : Array Nat) : Bool :=
  Region.noSelect ops && (List.range ops.size).all fun i => match ops[i]? with
    | none => true
    | some o => (o.after.all fun e => !Region.binds .any e || decide (e.on < i)) && (List.range i).all fun k =>
      if (B.getD i 0).testBit k then o.after.any fun e => Region.binds .any e && decide (e.on < i) && (e.on == k || (decide (k < e.on) && (B.getD e.on 0).testBit k))
      else match ops[k]? with | none => false | some ok => commC P ops ok o

theorem serialC_at {B : Array Nat} (hB : serialC P ops B = true) {i : Nat} {o : Oper} (hi : ops[i]? = some o) : (∀ e ∈ o.after, Region.binds .any e = true → e.on < i) ∧ ∀ k, k < i →
    ((B.getD i 0).testBit k = true ∧ ∃ e ∈ o.after, Region.binds .any e = true ∧ e.on < i ∧ (e.on = k ∨ (k < e.on ∧ (B.getD e.on 0).testBit k = true))) ∨ ((B.getD i 0).testBit k = false ∧ ∃ ok, ops[k]? = some ok ∧ commC P ops ok o = true) := by
  have hlt := (Array.getElem?_eq_some_iff.1 hi).1
  simp only [serialC, Bool.and_eq_true, List.all_eq_true, List.mem_range] at hB
  have h := hB.2 i hlt
  rw [hi] at h
  simp only [Bool.and_eq_true, List.all_eq_true, List.mem_range, Array.all_eq_true_iff_forall_mem] at h
  refine ⟨fun e he hb => by have := h.1 e he; simpa [hb] using this, fun k hk => ?_⟩
  have h2 := h.2 k hk
  split at h2
  · rename_i hb
    rw [Array.any_eq_true'] at h2
    obtain ⟨e, he, h3⟩ := h2
    simp only [Bool.and_eq_true, Bool.or_eq_true, decide_eq_true_eq, beq_iff_eq] at h3
    exact .inl ⟨hb, e, he, h3.1.1, h3.1.2, h3.2⟩
  · rename_i hb
    cases hk2 : ops[k]? with
    | none => rw [hk2] at h2; cases h2
    | some ok => rw [hk2] at h2; exact .inr ⟨by simpa using hb, ok, rfl, h2⟩

theorem ahead_listedC {B : Array Nat} (hB : serialC P ops B = true) {listed : Array Bool} (hd : Down ops listed) : ∀ (n i : Nat) (o : Oper), i ≤ n → ops[i]? = some o → (∀ e ∈ o.after, Region.binds .any e = true → listed.getD e.on false = true) →
    ∀ k, k < i → (B.getD i 0).testBit k = true → listed.getD k false = true
  | 0, i, o, hn, _, _, k, hk, _ => by omega
  | n + 1, i, o, hn, hi, hall, k, hk, hb => by
    rcases (serialC_at hB hi).2 k hk with ⟨_, e, he, hbi, hlt, h⟩ | ⟨hf, _⟩
    · rcases h with rfl | ⟨hk2, hb2⟩
      · exact hall e he hbi
      · have hon : ∃ o2, ops[e.on]? = some o2 := ⟨_, Array.getElem?_eq_getElem (by have := (Array.getElem?_eq_some_iff.1 hi).1; omega)⟩
        obtain ⟨o2, ho2⟩ := hon
        exact ahead_listedC hB hd n e.on o2 (by omega) ho2 (hd e.on o2 ho2 (hall e he hbi)) k hk2 hb2
    · rw [hb] at hf; cases hf

theorem serial_anyC {B : Array Nat} (hB : serialC P ops B = true) : ∀ (fuel : Nat) (listed : Array Bool) (a : Act) (w : World), Down ops listed → listed.size = ops.size → (left ops listed).length = fuel →
    wpSeq P ops Q (Q .normal) (left ops listed) a w → wpAny P .any ops (Only Q) fuel listed a w := by
  have hsel : ∀ (j : Nat) (o : Oper) cs b, ops[j]? = some o → o.op ≠ .select cs b := by
    intro j o cs b ho
    have : Region.noSelect ops = true := by simp only [serialC, Bool.and_eq_true] at hB; exact hB.1
    exact Region.noSelect_spec this j o cs b ho
  have hready : ∀ (listed : Array Bool), Down ops listed → listed.size = ops.size → ∀ i r, left ops listed = i :: r → i ∈ Region.ready .any ops listed := by
    intro listed hd hs i r hl
    have hi : i ∈ left ops listed := by rw [hl]; simp
    have hmin := (left_set (ops := ops) hs (s := []) (t := r) hl)
    unfold left at hi
    rw [List.mem_filter, List.mem_range] at hi
    rw [mem_ready]
    obtain ⟨o, ho⟩ : ∃ o, ops[i]? = some o := ⟨_, Array.getElem?_eq_getElem hi.1⟩
    refine ⟨?_, o, ho, fun e he hb => ?_⟩
    · have h1 := hi.2
      rw [Array.getD_eq_getD_getElem?, Array.getElem?_eq_getElem (by omega)] at h1 ⊢
      simpa using h1
    · have hlt := (serialC_at hB ho).1 e he hb
      cases hc : listed.getD e.on false
      · have hm : e.on ∈ left ops listed := by
          unfold left
          rw [List.mem_filter, List.mem_range]
          exact ⟨by omega, by simp [hc]⟩
        have hp : (left ops listed).Pairwise (· < ·) := List.Pairwise.filter _ List.pairwise_lt_range
        rw [hl] at hm hp
        rw [List.pairwise_cons] at hp
        rcases List.mem_cons.1 hm with h | h
        · omega
        · have := hp.1 _ h; omega
      · rfl
  intro fuel
  induction fuel with
  | zero =>
    intro listed a w hd hs hl h
    have hnil := List.eq_nil_of_length_eq_zero hl
    rw [hnil] at h
    refine ⟨?_, h⟩
    cases hr : Region.ready .any ops listed with
    | nil => rfl
    | cons i r =>
      have hi : i ∈ Region.ready .any ops listed := by rw [hr]; simp
      rw [mem_ready] at hi
      obtain ⟨h0, o, ho, _⟩ := hi
      have hm : i ∈ left ops listed := by
        unfold left
        rw [List.mem_filter, List.mem_range]
        have hlt := (Array.getElem?_eq_some_iff.1 ho).1
        refine ⟨hlt, ?_⟩
        rw [Array.getD_eq_getD_getElem?, Array.getElem?_eq_getElem (by omega)] at h0 ⊢
        simpa using h0
      rw [hnil] at hm
      cases hm
  | succ fuel ih =>
    intro listed a w hd hs hl h
    refine ⟨fun hr => ?_, fun i hi => ?_⟩
    · cases hl2 : left ops listed with
      | nil => rw [hl2] at hl; simp at hl
      | cons i r =>
        have := hready listed hd hs i r hl2
        rw [hr] at this
        cases this
    · rw [mem_ready] at hi
      obtain ⟨h0, o, ho, hall⟩ := hi
      have hlt := (Array.getElem?_eq_some_iff.1 ho).1
      have hm : i ∈ left ops listed := by
        unfold left
        rw [List.mem_filter, List.mem_range]
        refine ⟨hlt, ?_⟩
        rw [Array.getD_eq_getD_getElem?, Array.getElem?_eq_getElem (by omega)] at h0 ⊢
        simpa using h0
      obtain ⟨s, t, hst⟩ := List.append_of_mem hm
      obtain ⟨hset, hbefore⟩ := left_set (ops := ops) hs hst
      rw [hst] at h
      have hf := wpSeq_frontC ho hsel t s a w (fun k hk => by
        have hki := hbefore k hk
        have hkl : listed.getD k false = false := by
          have : k ∈ left ops listed := by rw [hst]; simp [hk]
          unfold left at this
          rw [List.mem_filter] at this
          simpa using this.2
        rcases (serialC_at hB ho).2 k hki with ⟨hb, _⟩ | ⟨_, h⟩
        · have := ahead_listedC hB hd i i o (Nat.le_refl _) ho hall k hki hb
          rw [hkl] at this
          cases this
        · exact h) h
      refine wpOp_mono (fun a' w' hh => ih _ a' w' ?_ (by simpa using hs) ?_ (by rw [hset]; exact hh)) hf
      · intro j oj hj hlj e he hb
        by_cases hji : i = j
        · subst hji
          rw [ho] at hj
          injection hj with hj
          subst hj
          exact getD_set_true (hall e he hb)
        · rw [getD_set_ne false hji] at hlj
          exact getD_set_true (hd j oj hj hlj e he hb)
      · rw [hset]
        rw [hst] at hl
        simp at hl ⊢
        omega

/-- THE WALK IN THE ORDER OF THE TEXT SERVES EVERY ORDER. -/
theorem wp_region_serialC {id : Nat} {l : List Oper} {a : Act} {w : World} (B : Array Nat) (hm : P.follows .mixedOrders = true) (hB : serialC P l.toArray B = true)
    (h : wpList P l.toArray (Only Q) l a w.drew) : (Code.region id l.toArray true).wp P Q a w := by
  refine Code.wp_mono Only.imp (wp_region_any hm ?_)
  have hleft : left l.toArray (Array.replicate l.toArray.size false) = List.range l.length := by
    unfold left
    rw [List.filter_eq_self.2 fun k hk => by simp [Array.getD_eq_getD_getElem?, Array.getElem?_replicate]; split <;> simp]
    simp
  refine serial_anyC hB _ _ _ _ ?_ (by simp) (by rw [hleft]; simp) ?_
  · intro i o ho hl
    simp [Array.getD_eq_getD_getElem?, Array.getElem?_replicate] at hl
    split at hl <;> simp at hl
  · rw [hleft, List.range_eq_range']
    exact wpSeq_list l 0 a _ (fun j => by simp) h

theorem wp_region_text2 {id : Nat} {l : List Oper} {a : Act} {w : World} (hm : P.follows .mixedOrders = true) (hB : serialC P l.toArray (Region.before l.toArray) = true)
    (h : wpList P l.toArray (Only Q) l a w.drew) : (Code.region id l.toArray true).wp P Q a w := wp_region_serialC _ hm hB h
end
end Go.Proofs.Ytggibiodeecljaa
