/- What emit's maker does, as plain functions. No program in sight. Emission: jumps that wait stand within the code. No program in sight. What the looker's yes says of a tree to emission. No program in sight. Emission is short. No program in sight. EmitSame: the places of nodes say nothing to emission, nor to check.Able's yes. No program in sight. What check.Able's yes says of an ability. No program in sight. What check.Able's yes says of an ability to emission. -/
import Derived.Test.YtggibiodeecljaaMModel
import Derived.Test.YtggibiodeecljaaMAble0
namespace Go.Proofs.Ytggibiodeecljaa
open Go.RowKit
set_option linter.unusedVariables false

/-- The maker: its code so far, whether something was not found, which jumps are still to be laid (where, whereto). -/
structure MS where
  b : List Int
  bad : Bool
  later : List (Nat × Nat)
def MS.ms (s : MS) : Nat := s.b.length + s.later.length
def u8 (n : Int) : Int := IntKind.u8.wrap n
def hi8 (n : Int) : Int := IntKind.u8.wrap (n / 256)
def opE (c : Int) (x : List Int) (s : MS) : MS := { s with b := s.b ++ c :: x }
def wideE (c n : Int) (s : MS) : MS := opE c [hi8 n, u8 n] s
def numE (o : Option Int) (s : MS) : MS := { s with bad := s.bad || o.isNone }
def pushE (o : Option Int) (s : MS) : MS := wideE 1 (o.getD 0) (numE o s)
def aheadE (c : Int) (x : List Int) (s : MS) : MS := opE c (x ++ [0, 0]) s
def hereE (p : Nat) (s : MS) : MS := { s with later := s.later ++ [(p, s.b.length)] }
/-- Where the jump stands that was laid last. -/
def MS.at_ (s : MS) : Nat := s.b.length - 2
def plainCode (op : Int) : Option Int :=
  if op = 40 then some 19 else if op = 41 then some 20 else if op = 42 then some 21 else if op = 43 then some 22 else if op = 44 then some 10 else if op = 45 then some 11 else if op = 46 then some 12
  else if op = 47 then some 13 else if op = 48 then some 14 else if op = 34 then some 23 else if op = 35 then some 15 else if op = 31 then some 2 else if op = 32 then some 3 else if op = 17 then some 34 else if op = 18 then some 35 else none
def callCode (n : Int) : Int := [40, 0, 42, 43, 44, 0, 16, 17, 18].getD n.toNat 0

section
variable (pi : Int → Option Int) (pt : ByteArray → Option Int) (ts : List Node) (rec : Nat → MS → MS)
def allE (l : List Nat) (s : MS) : MS := l.foldl (fun s j => rec j s) s
def orE (l : List Nat) (s : MS) : MS :=
  let s1 := aheadE 31 [] (rec (l.getD 0 0) s)
  let s2 := aheadE 30 [] (opE 2 [] s1)
  hereE s2.at_ (rec (l.getD 1 0) (hereE s1.at_ s2))
def andE (l : List Nat) (s : MS) : MS :=
  let s1 := aheadE 31 [] (rec (l.getD 0 0) s)
  let s2 := aheadE 30 [] (rec (l.getD 1 0) s1)
  hereE s2.at_ (opE 3 [] (hereE s1.at_ s2))
def equalE (x : Node) (l : List Nat) (s : MS) : MS :=
  let s1 := opE 24 [u8 (ts.getD (l.getD 0 0) node0).kind] (allE rec l s)
  if x.op = 39 then opE 23 [] s1 else s1
def findE (o : Option Int) (s : MS) : MS := wideE 45 (o.getD 0) (numE o s)
def callE (x : Node) (l : List Nat) (s : MS) : MS :=
  if x.n = 1 then opE 41 [u8 (ts.getD (l.getD 1 0) node0).n] (rec (l.getD 0 0) s)
  else if x.n = 5 then findE (pt (ts.getD (l.getD 1 0) node0).text) (rec (l.getD 0 0) s)
  else opE (callCode x.n) [] (allE rec l s)
/-- The jump ahead of a fork's block. -/
def forkA (x : Node) (s : MS) : MS := aheadE (if x.op = 13 then 31 else 33) [] s
def forkB (x : Node) (s : MS) : MS := if x.op = 13 then s else opE 5 [u8 x.n] s
def forkE (x : Node) (l : List Nat) (s : MS) : MS :=
  let s1 := forkA x (rec (l.getD 0 0) s)
  let s2 := rec (l.getD 1 0) (forkB x s1)
  if l.length < 3 then hereE s1.at_ s2
  else
    let s3 := aheadE 30 [] s2
    hereE s3.at_ (rec (l.getD 2 0) (hereE s1.at_ s3))
def repeatA (x : Node) (s : MS) : MS := opE 5 [u8 x.m] (pushE (pi 0) s)
def repeatB (x : Node) (s : MS) : MS := aheadE 31 [] (opE 19 [] (pushE (pi x.n) (opE 4 [u8 x.m] s)))
def repeatC (x : Node) (top : Nat) (s : MS) : MS := wideE 30 top (opE 5 [u8 x.m] (opE 10 [] (pushE (pi 1) (opE 4 [u8 x.m] s))))
def repeatE (x : Node) (l : List Nat) (s : MS) : MS :=
  let s1 := repeatA pi x s
  let s2 := repeatB pi x s1
  hereE s2.at_ (repeatC pi x s1.b.length (allE rec l s2))
def eachA (x : Node) (s : MS) : MS := opE 5 [u8 (u8 x.m + 1)] (pushE (pi 0) (opE 5 [u8 x.m] s))
def eachE (x : Node) (l : List Nat) (s : MS) : MS :=
  let s1 := eachA pi x (rec (l.getD 0 0) (numE (pi 1) s))
  let s2 := aheadE 32 [u8 x.m, u8 (u8 x.m + 1)] s1
  hereE s2.at_ (wideE 30 s1.b.length (rec (l.getD 1 0) (opE 5 [u8 x.n] s2)))
def plainE (o : Option Int) (l : List Nat) (s : MS) : MS :=
  match o with
  | some c => opE c [] (allE rec l s)
  | none => s
/-- One node. -/
def emitF (i : Nat) (s : MS) : MS :=
  let x := ts.getD i node0
  let l := kidsOf ts i
  if x.op = 10 then allE rec l s
  else if x.op = 30 then pushE (pi x.n) s
  else if x.op = 33 then opE 4 [u8 x.n] s
  else if x.op = 36 then orE rec l s
  else if x.op = 37 then andE rec l s
  else if x.op = 38 ∨ x.op = 39 then equalE ts rec x l s
  else if x.op = 50 then callE pt ts rec x l s
  else if x.op = 13 ∨ x.op = 16 then forkE rec x l s
  else if x.op = 14 then repeatE pi rec x l s
  else if x.op = 15 then eachE pi rec x l s
  else if x.op = 49 then opE 46 [u8 x.n] (allE rec l s)
  else if x.op = 19 then opE 60 [u8 x.n] (allE rec l s)
  else if x.op = 11 ∨ x.op = 12 then opE 5 [u8 x.n] (allE rec l s)
  else plainE rec (plainCode x.op) l s
end
def emitM (pi : Int → Option Int) (pt : ByteArray → Option Int) (ts : List Node) : Nat → Nat → MS → MS
  | 0, _, s => s
  | f + 1, i, s => emitF pi pt ts (emitM pi pt ts f) i s

/-- The jumps laid. -/
def layE (l : List (Nat × Nat)) (b : List Int) : List Int := l.foldl (fun b p => (b.set p.1 (hi8 p.2)).set (p.1 + 1) (u8 p.2)) b
/-- emit.made. -/
def madeM (pi : Int → Option Int) (pt : ByteArray → Option Int) (when_ : Bool) (ts : List Node) : MS :=
  let s0 : MS := ⟨[], false, []⟩
  opE 34 [] (if when_ then
    let s1 := aheadE 31 [] (emitM pi pt ts ts.length 0 s0)
    hereE s1.at_ (emitM pi pt ts ts.length (behind ts 0).toNat s1)
  else emitM pi pt ts ts.length 0 s0)

/-- It grows. -/
theorem opE_ms (c : Int) (x : List Int) (s : MS) : (opE c x s).ms = s.ms + 1 + x.length := by simp [opE, MS.ms]; omega
theorem wideE_ms (c n : Int) (s : MS) : (wideE c n s).ms = s.ms + 3 := by simp [wideE, opE_ms]
theorem numE_ms (o : Option Int) (s : MS) : (numE o s).ms = s.ms := rfl
theorem pushE_ms (o : Option Int) (s : MS) : (pushE o s).ms = s.ms + 3 := by simp [pushE, wideE_ms, numE_ms]
theorem aheadE_ms (c : Int) (x : List Int) (s : MS) : (aheadE c x s).ms = s.ms + 3 + x.length := by simp [aheadE, opE_ms]; omega
theorem hereE_ms (p : Nat) (s : MS) : (hereE p s).ms = s.ms + 1 := by simp [hereE, MS.ms]; omega
def Grow (r : Nat → MS → MS) : Prop := ∀ i s, s.ms ≤ (r i s).ms
theorem allE_ms {rec : Nat → MS → MS} (hr : Grow rec) : ∀ (l : List Nat) (s : MS), s.ms ≤ (allE rec l s).ms
  | [], s => Nat.le_refl _
  | j :: l, s => Nat.le_trans (hr j s) (allE_ms hr l (rec j s))
section
variable {rec : Nat → MS → MS} (hr : Grow rec) (x : Node) (l : List Nat) (s : MS)
include hr
theorem orE_ms : s.ms ≤ (orE rec l s).ms := by
  unfold orE
  dsimp only
  rw [hereE_ms]
  refine Nat.le_trans ?_ (Nat.le_trans (hr _ _) (Nat.le_succ _))
  rw [hereE_ms, aheadE_ms, opE_ms, aheadE_ms]
  have := hr (l.getD 0 0) s
  omega
theorem andE_ms : s.ms ≤ (andE rec l s).ms := by
  unfold andE
  dsimp only
  rw [hereE_ms, opE_ms, hereE_ms, aheadE_ms]
  have h1 := hr (l.getD 0 0) s
  have h2 := hr (l.getD 1 0) (aheadE 31 [] (rec (l.getD 0 0) s))
  rw [aheadE_ms] at h2
  omega
theorem equalE_ms (ts : List Node) : s.ms ≤ (equalE ts rec x l s).ms := by
  have := allE_ms hr l s
  unfold equalE
  dsimp only
  split
  · rw [opE_ms, opE_ms]; omega
  · rw [opE_ms]; omega
theorem callE_ms (pt : ByteArray → Option Int) (ts : List Node) : s.ms ≤ (callE pt ts rec x l s).ms := by
  have h1 := hr (l.getD 0 0) s
  unfold callE
  split
  · rw [opE_ms]; omega
  split
  · unfold findE; rw [wideE_ms, numE_ms]; omega
  · have := allE_ms hr l s
    rw [opE_ms]; omega
omit hr in
theorem forkA_ms : (forkA x s).ms = s.ms + 3 := by unfold forkA; rw [aheadE_ms]; rfl
omit hr in
theorem forkB_ms : s.ms ≤ (forkB x s).ms := by
  unfold forkB
  split
  · exact Nat.le_refl _
  · rw [opE_ms]; omega
theorem forkE_ms : s.ms ≤ (forkE rec x l s).ms := by
  unfold forkE
  dsimp only
  have h1 := hr (l.getD 0 0) s
  have h2 := forkB_ms x (forkA x (rec (l.getD 0 0) s))
  rw [forkA_ms] at h2
  have h3 := hr (l.getD 1 0) (forkB x (forkA x (rec (l.getD 0 0) s)))
  split
  · rw [hereE_ms]; omega
  · rw [hereE_ms]
    refine Nat.le_trans ?_ (Nat.le_trans (hr _ _) (Nat.le_succ _))
    rw [hereE_ms, aheadE_ms]
    omega
theorem repeatE_ms (pi : Int → Option Int) : s.ms ≤ (repeatE pi rec x l s).ms := by
  unfold repeatE
  dsimp only
  have h := allE_ms hr l (repeatB pi x (repeatA pi x s))
  have e : (repeatB pi x (repeatA pi x s)).ms = s.ms + 14 := by
    unfold repeatB repeatA
    rw [aheadE_ms, opE_ms, pushE_ms, opE_ms, opE_ms, pushE_ms]
    simp
  rw [hereE_ms]
  unfold repeatC
  rw [wideE_ms, opE_ms, opE_ms, pushE_ms, opE_ms]
  omega
theorem eachE_ms (pi : Int → Option Int) : s.ms ≤ (eachE pi rec x l s).ms := by
  unfold eachE
  dsimp only
  have h2 := hr (l.getD 1 0) (opE 5 [u8 x.n] (aheadE 32 [u8 x.m, u8 (u8 x.m + 1)] (eachA pi x (rec (l.getD 0 0) (numE (pi 1) s)))))
  have h1 := hr (l.getD 0 0) (numE (pi 1) s)
  rw [numE_ms] at h1
  have h3 : (eachA pi x (rec (l.getD 0 0) (numE (pi 1) s))).ms = (rec (l.getD 0 0) (numE (pi 1) s)).ms + 7 := by
    unfold eachA
    rw [opE_ms, pushE_ms, opE_ms]
    simp
  rw [opE_ms, aheadE_ms, h3] at h2
  rw [hereE_ms, wideE_ms]
  omega
theorem plainE_ms (o : Option Int) : s.ms ≤ (plainE rec o l s).ms := by
  have := allE_ms hr l s
  unfold plainE
  split
  · rw [opE_ms]; omega
  · exact Nat.le_refl _
end
theorem emitF_grow (pi : Int → Option Int) (pt : ByteArray → Option Int) (ts : List Node) {rec : Nat → MS → MS} (hr : Grow rec) : Grow (emitF pi pt ts rec) := by
  intro i s
  have ha := allE_ms hr (kidsOf ts i) s
  unfold emitF
  obtain ⟨x, hx⟩ : ∃ x, x = ts.getD i node0 := ⟨_, rfl⟩
  obtain ⟨l, hl⟩ : ∃ l, l = kidsOf ts i := ⟨_, rfl⟩
  rw [← hl] at ha
  simp only [← hx, ← hl]
  by_cases q0 : x.op = 10
  · rw [if_pos q0]; exact ha
  rw [if_neg q0]
  by_cases q1 : x.op = 30
  · rw [if_pos q1]; rw [pushE_ms]; omega
  rw [if_neg q1]
  by_cases q2 : x.op = 33
  · rw [if_pos q2]; rw [opE_ms]; omega
  rw [if_neg q2]
  by_cases q3 : x.op = 36
  · rw [if_pos q3]; exact orE_ms hr _ _
  rw [if_neg q3]
  by_cases q4 : x.op = 37
  · rw [if_pos q4]; exact andE_ms hr _ _
  rw [if_neg q4]
  by_cases q5 : x.op = 38 ∨ x.op = 39
  · rw [if_pos q5]; exact equalE_ms hr _ _ _ _
  rw [if_neg q5]
  by_cases q6 : x.op = 50
  · rw [if_pos q6]; exact callE_ms hr _ _ _ _ _
  rw [if_neg q6]
  by_cases q7 : x.op = 13 ∨ x.op = 16
  · rw [if_pos q7]; exact forkE_ms hr _ _ _
  rw [if_neg q7]
  by_cases q8 : x.op = 14
  · rw [if_pos q8]; exact repeatE_ms hr _ _ _ _
  rw [if_neg q8]
  by_cases q9 : x.op = 15
  · rw [if_pos q9]; exact eachE_ms hr _ _ _ _
  rw [if_neg q9]
  by_cases q10 : x.op = 49
  · rw [if_pos q10]; rw [opE_ms]; omega
  rw [if_neg q10]
  by_cases q11 : x.op = 19
  · rw [if_pos q11]; rw [opE_ms]; omega
  rw [if_neg q11]
  by_cases q12 : x.op = 11 ∨ x.op = 12
  · rw [if_pos q12]; rw [opE_ms]; omega
  rw [if_neg q12]
  exact plainE_ms hr _ _ _
theorem emitM_grow (pi : Int → Option Int) (pt : ByteArray → Option Int) (ts : List Node) : ∀ f, Grow (emitM pi pt ts f)
  | 0 => fun _ _ => Nat.le_refl _
  | f + 1 => emitF_grow pi pt ts (emitM_grow pi pt ts f)
end Go.Proofs.Ytggibiodeecljaa
namespace Go.Proofs.Ytggibiodeecljaa
open Go.RowKit
set_option linter.unusedVariables false

def OKm (s : MS) : Prop := ∀ p ∈ s.later, p.1 + 1 < s.b.length ∧ p.2 ≤ s.b.length
def Up (s s' : MS) : Prop := s.b.length ≤ s'.b.length ∧ (OKm s → OKm s')
theorem Up.refl (s : MS) : Up s s := ⟨Nat.le_refl _, id⟩
theorem Up.trans {a b c : MS} (h : Up a b) (k : Up b c) : Up a c := ⟨Nat.le_trans h.1 k.1, fun x => k.2 (h.2 x)⟩
theorem opE_up (c : Int) (x : List Int) (s : MS) : Up s (opE c x s) := by
  refine ⟨by simp [opE], fun h p hp => ?_⟩
  have := h p hp
  simp only [opE, List.length_append, List.length_cons]
  omega
theorem wideE_up (c n : Int) (s : MS) : Up s (wideE c n s) := opE_up _ _ _
theorem numE_up (o : Option Int) (s : MS) : Up s (numE o s) := ⟨Nat.le_refl _, fun h => h⟩
theorem pushE_up (o : Option Int) (s : MS) : Up s (pushE o s) := (numE_up o s).trans (wideE_up _ _ _)
theorem aheadE_up (c : Int) (x : List Int) (s : MS) : Up s (aheadE c x s) := opE_up _ _ _
theorem ahead_at (c : Int) (x : List Int) (s : MS) : (aheadE c x s).at_ + 1 < (aheadE c x s).b.length := by
  unfold MS.at_
  simp only [aheadE, opE, List.length_append, List.length_cons, List.length_nil]
  omega
theorem hereE_up {p : Nat} {s : MS} (hp : p + 1 < s.b.length) : Up s (hereE p s) := by
  refine ⟨Nat.le_refl _, fun h q hq => ?_⟩
  simp only [hereE, List.mem_append, List.mem_singleton] at hq
  rcases hq with hq | rfl
  · exact h q hq
  · exact ⟨hp, Nat.le_refl _⟩
/-- A jump laid ahead, the code behind it, where it goes to. -/
theorem jump_up {c : Int} {x : List Int} {s s' : MS} (h : Up (aheadE c x s) s') : Up s' (hereE (aheadE c x s).at_ s') := hereE_up (Nat.lt_of_lt_of_le (ahead_at c x s) h.1)

section
variable {rec : Nat → MS → MS} (hr : ∀ i s, Up s (rec i s)) (x : Node) (l : List Nat) (s : MS)
include hr
theorem allE_up : ∀ (l : List Nat) (s : MS), Up s (allE rec l s)
  | [], s => Up.refl s
  | j :: l, s => (hr j s).trans (allE_up l (rec j s))
theorem orE_up : Up s (orE rec l s) := by
  unfold orE
  dsimp only
  have h1 := (hr (l.getD 0 0) s).trans (aheadE_up 31 [] _)
  have h2 := (opE_up 2 [] (aheadE 31 [] (rec (l.getD 0 0) s))).trans (aheadE_up 30 [] _)
  have h3 := jump_up h2
  have h4 := h3.trans (hr (l.getD 1 0) _)
  exact ((h1.trans h2).trans h4).trans (jump_up h4)
theorem andE_up : Up s (andE rec l s) := by
  unfold andE
  dsimp only
  have h1 := (hr (l.getD 0 0) s).trans (aheadE_up 31 [] _)
  have h2 := (hr (l.getD 1 0) (aheadE 31 [] (rec (l.getD 0 0) s))).trans (aheadE_up 30 [] _)
  have h3 := jump_up h2
  have h4 := h3.trans (opE_up 3 [] _)
  exact ((h1.trans h2).trans h4).trans (jump_up h4)
theorem equalE_up (ts : List Node) : Up s (equalE ts rec x l s) := by
  unfold equalE
  dsimp only
  split
  · exact ((allE_up hr l s).trans (opE_up _ _ _)).trans (opE_up _ _ _)
  · exact (allE_up hr l s).trans (opE_up _ _ _)
theorem callE_up (pt : ByteArray → Option Int) (ts : List Node) : Up s (callE pt ts rec x l s) := by
  unfold callE
  split
  · exact (hr _ s).trans (opE_up _ _ _)
  split
  · exact ((hr _ s).trans (numE_up _ _)).trans (wideE_up _ _ _)
  · exact (allE_up hr l s).trans (opE_up _ _ _)
theorem forkE_up : Up s (forkE rec x l s) := by
  unfold forkE
  dsimp only
  have h1 := (hr (l.getD 0 0) s).trans (aheadE_up (if x.op = 13 then 31 else 33) [] _)
  have hB : ∀ s, Up s (forkB x s) := fun s => by
    unfold forkB
    split
    · exact Up.refl _
    · exact opE_up _ _ _
  have h2 := (hB (forkA x (rec (l.getD 0 0) s))).trans (hr (l.getD 1 0) _)
  split
  · exact (h1.trans h2).trans (jump_up h2)
  · have h3 := h2.trans (aheadE_up 30 [] _)
    have h4 := (jump_up h3).trans (hr (l.getD 2 0) _)
    exact ((h1.trans h3).trans h4).trans (jump_up h4)
theorem repeatE_up (pi : Int → Option Int) : Up s (repeatE pi rec x l s) := by
  unfold repeatE
  dsimp only
  have h1 : Up s (repeatA pi x s) := (pushE_up _ _).trans (opE_up _ _ _)
  have h2 : Up (repeatA pi x s) (repeatB pi x (repeatA pi x s)) := (((opE_up _ _ _).trans (pushE_up _ _)).trans (opE_up _ _ _)).trans (aheadE_up _ _ _)
  have h3 := allE_up hr l (repeatB pi x (repeatA pi x s))
  have h4 : ∀ s n, Up s (repeatC pi x n s) := fun s n => (((((opE_up _ _ _).trans (pushE_up _ _)).trans (opE_up _ _ _)).trans (opE_up _ _ _))).trans (wideE_up _ _ _)
  have h5 := h3.trans (h4 _ (repeatA pi x s).b.length)
  exact ((h1.trans h2).trans h5).trans (jump_up h5)
theorem eachE_up (pi : Int → Option Int) : Up s (eachE pi rec x l s) := by
  unfold eachE
  dsimp only
  have h1 := (numE_up (pi 1) s).trans (hr (l.getD 0 0) _)
  have h2 : ∀ s, Up s (eachA pi x s) := fun s => ((opE_up _ _ _).trans (pushE_up _ _)).trans (opE_up _ _ _)
  have h3 := (h1.trans (h2 _)).trans (aheadE_up 32 [u8 x.m, u8 (u8 x.m + 1)] _)
  have h4 := ((opE_up 5 [u8 x.n] (aheadE 32 [u8 x.m, u8 (u8 x.m + 1)] (eachA pi x (rec (l.getD 0 0) (numE (pi 1) s))))).trans (hr (l.getD 1 0) _)).trans (wideE_up 30 (eachA pi x (rec (l.getD 0 0) (numE (pi 1) s))).b.length _)
  exact (h3.trans h4).trans (jump_up h4)
theorem plainE_up (o : Option Int) : Up s (plainE rec o l s) := by
  unfold plainE
  split
  · exact (allE_up hr l s).trans (opE_up _ _ _)
  · exact Up.refl _
end
theorem emitF_up (pi : Int → Option Int) (pt : ByteArray → Option Int) (ts : List Node) {rec : Nat → MS → MS} (hr : ∀ i s, Up s (rec i s)) (i : Nat) (s : MS) : Up s (emitF pi pt ts rec i s) := by
  have ha := allE_up hr (kidsOf ts i) s
  unfold emitF
  obtain ⟨x, hx⟩ : ∃ x, x = ts.getD i node0 := ⟨_, rfl⟩
  obtain ⟨l, hl⟩ : ∃ l, l = kidsOf ts i := ⟨_, rfl⟩
  rw [← hl] at ha
  simp only [← hx, ← hl]
  by_cases q0 : x.op = 10
  · rw [if_pos q0]; exact ha
  rw [if_neg q0]
  by_cases q1 : x.op = 30
  · rw [if_pos q1]; exact pushE_up _ _
  rw [if_neg q1]
  by_cases q2 : x.op = 33
  · rw [if_pos q2]; exact opE_up _ _ _
  rw [if_neg q2]
  by_cases q3 : x.op = 36
  · rw [if_pos q3]; exact orE_up hr _ _
  rw [if_neg q3]
  by_cases q4 : x.op = 37
  · rw [if_pos q4]; exact andE_up hr _ _
  rw [if_neg q4]
  by_cases q5 : x.op = 38 ∨ x.op = 39
  · rw [if_pos q5]; exact equalE_up hr _ _ _ _
  rw [if_neg q5]
  by_cases q6 : x.op = 50
  · rw [if_pos q6]; exact callE_up hr _ _ _ _ _
  rw [if_neg q6]
  by_cases q7 : x.op = 13 ∨ x.op = 16
  · rw [if_pos q7]; exact forkE_up hr _ _ _
  rw [if_neg q7]
  by_cases q8 : x.op = 14
  · rw [if_pos q8]; exact repeatE_up hr _ _ _ _
  rw [if_neg q8]
  by_cases q9 : x.op = 15
  · rw [if_pos q9]; exact eachE_up hr _ _ _ _
  rw [if_neg q9]
  by_cases q10 : x.op = 49
  · rw [if_pos q10]; exact ha.trans (opE_up _ _ _)
  rw [if_neg q10]
  by_cases q11 : x.op = 19
  · rw [if_pos q11]; exact ha.trans (opE_up _ _ _)
  rw [if_neg q11]
  by_cases q12 : x.op = 11 ∨ x.op = 12
  · rw [if_pos q12]; exact ha.trans (opE_up _ _ _)
  rw [if_neg q12]
  exact plainE_up hr _ _ _
theorem emitM_up (pi : Int → Option Int) (pt : ByteArray → Option Int) (ts : List Node) : ∀ f i s, Up s (emitM pi pt ts f i s)
  | 0, _, s => Up.refl s
  | f + 1, i, s => emitF_up pi pt ts (emitM_up pi pt ts f) i s
theorem madeM_ok (pi : Int → Option Int) (pt : ByteArray → Option Int) (wh : Bool) (ts : List Node) : OKm (madeM pi pt wh ts) := by
  have h0 : OKm ⟨[], false, []⟩ := fun p hp => by simp at hp
  unfold madeM
  dsimp only
  have hn := emitM_up pi pt ts ts.length
  cases wh with
  | false => exact ((hn 0 _).trans (opE_up _ _ _)).2 h0
  | true =>
    have h1 := (hn 0 ⟨[], false, []⟩).trans (aheadE_up 31 [] _)
    have h2 := hn (behind ts 0).toNat (aheadE 31 [] (emitM pi pt ts ts.length 0 ⟨[], false, []⟩))
    exact (((h1.trans h2).trans (jump_up h2)).trans (opE_up _ _ _)).2 h0
end Go.Proofs.Ytggibiodeecljaa
namespace Go.Proofs.Ytggibiodeecljaa
open Go.RowKit

/-- The kids that are written. -/
def argsE (x : Node) (l : List Nat) : List Nat := if x.op = 50 ∧ (x.n = 1 ∨ x.n = 5) then l.take 1 else l
/-- A tree that can be written. -/
def FitE (ts : List Node) : Nat → Nat → Prop
  | 0, _ => True
  | f + 1, i => arityB (ts.getD i node0) (kidsOf ts i).length = true ∧ (ts.getD i node0).op ≠ 51 ∧ (ts.getD i node0).op ≠ 52 ∧ ∀ k ∈ argsE (ts.getD i node0) (kidsOf ts i), FitE ts f k
theorem argsE_all {x : Node} (l : List Nat) (h : x.op ≠ 50) : argsE x l = l := by
  unfold argsE
  rw [if_neg (fun q => h q.1)]
theorem plain_of {x : Node} {n : Nat} (h : ¬ (x.op = 10 ∨ x.op = 30 ∨ x.op = 33 ∨ x.op = 36 ∨ x.op = 37 ∨ (x.op = 38 ∨ x.op = 39) ∨ x.op = 50 ∨ (x.op = 13 ∨ x.op = 16) ∨ x.op = 14 ∨ x.op = 15 ∨ x.op = 49 ∨ x.op = 19 ∨ (x.op = 11 ∨ x.op = 12) ∨ x.op = 51 ∨ x.op = 52)) (ha : arityB x n = true) : ∃ c, plainCode x.op = some c := by
  by_cases hr : x.op = 17 ∨ x.op = 18 ∨ x.op = 31 ∨ x.op = 32 ∨ x.op = 34 ∨ x.op = 35 ∨ x.op = 40 ∨ x.op = 41 ∨ x.op = 42 ∨ x.op = 43 ∨ x.op = 44 ∨ x.op = 45 ∨ x.op = 46 ∨ x.op = 47 ∨ x.op = 48
  · rcases hr with q | q | q | q | q | q | q | q | q | q | q | q | q | q | q <;> rw [q] <;> exact ⟨_, rfl⟩
  · exfalso
    unfold arityB at ha
    rw [if_neg (by omega), if_neg (by omega), if_neg (by omega), if_neg (by omega), if_neg (by omega), if_neg (by omega), if_neg (by omega), if_neg (by omega), if_neg (by omega), if_neg (by omega), if_neg (by omega), if_neg (by omega), if_neg (by omega), if_neg (by omega)] at ha
    cases ha

theorem FitE.le {ts : List Node} : ∀ {f g i : Nat}, FitE ts f i → g ≤ f → FitE ts g i
  | _, 0, _, _, _ => trivial
  | 0, g + 1, _, _, h => absurd h (by omega)
  | f + 1, g + 1, i, hf, h => ⟨hf.1, hf.2.1, hf.2.2.1, fun k hk => (hf.2.2.2 k hk).le (by omega)⟩

theorem funcs_pos {n : Int} {s : Sign} (h : signOf funcsM n = some s) (h1 : n ≠ 1) (h5 : n ≠ 5) : ∀ u ∈ s.args, u ≠ -1 ∧ u ≠ -2 := by
  obtain ⟨g1, g2, g3, _⟩ := signOf_mem h
  have g2 : n.toNat < 9 := g2
  have : n.toNat = 0 ∨ n.toNat = 2 ∨ n.toNat = 3 ∨ n.toNat = 4 ∨ n.toNat = 6 ∨ n.toNat = 7 ∨ n.toNat = 8 := by omega
  rcases this with q | q | q | q | q | q | q <;> rw [q] at g3 <;> simp [funcsM] at g3 <;> subst g3 <;> simp
theorem funcs_isOf {n : Int} {s : Sign} (h : signOf funcsM n = some s) (h1 : n = 1 ∨ n = 5) : s.args = [4, -1] ∨ s.args = [3, -2] := by
  obtain ⟨g1, g2, g3, _⟩ := signOf_mem h
  rcases h1 with q | q <;> subst q <;> simp [funcsM] at g3 <;> subst g3 <;> simp
theorem effects_pos {s : Sign} (h : s ∈ effectsM) : ∀ u ∈ s.args, u ≠ -1 ∧ u ≠ -2 := by
  have : ∀ s ∈ effectsM, ∀ u ∈ s.args, u ≠ -1 ∧ u ≠ -2 := by simp [effectsM]
  exact this s h

section
variable {ts : List Node} (P : Nat → Prop)
section
variable {rec : Nat → Bool → ER} (hrec : ∀ i, (rec i true).2.2 = true) (hfit : ∀ i, (rec i false).2.2 = false → P i)
include hrec hfit
theorem callLoop_kids : ∀ (l : List (Nat × Int)) (high values : Int), (callLoop rec ts l high values false).2 = false → ∀ k u, (k, u) ∈ l → u ≠ -1 → u ≠ -2 → P k
  | [], _, _, _, k, u, h, _, _ => by simp at h
  | (kid, arg) :: r, high, values, hb, k, u, h, hu1, hu2 => by
    simp only [callLoop] at hb
    split at hb
    · rename_i ha
      generalize hc : (false || !((ts.getD kid node0).op == 51 && (ts.getD kid node0).kids == 0 && decide (0 ≤ (ts.getD kid node0).n) && decide ((ts.getD kid node0).n ≤ 3)) || !(likeB (ts.getD kid node0) 0 (ts.getD kid node0).n 0)) = c at hb
      cases c with
      | true => rw [callLoop_true hrec] at hb; cases hb
      | false =>
        rcases List.mem_cons.1 h with h | h
        · cases h; exact absurd ha hu1
        · exact callLoop_kids r _ _ hb k u h hu1 hu2
    · split at hb
      · rename_i ha
        generalize hc : (false || !((ts.getD kid node0).op == 52 && (ts.getD kid node0).kids == 0 && rightM (ts.getD kid node0).text) || !(likeB (ts.getD kid node0) 0 0 0)) = c at hb
        cases c with
        | true => rw [callLoop_true hrec] at hb; cases hb
        | false =>
          rcases List.mem_cons.1 h with h | h
          · cases h; exact absurd ha hu2
          · exact callLoop_kids r _ _ hb k u h hu1 hu2
      · generalize hc : (wantedF (rec kid false) arg).2 = c at hb
        cases c with
        | true => rw [callLoop_true hrec] at hb; cases hb
        | false =>
          simp only [wantedF, Bool.or_eq_false_iff] at hc
          rcases List.mem_cons.1 h with h | h
          · cases h; exact hfit _ hc.1
          · exact callLoop_kids r _ _ hb k u h hu1 hu2
theorem callF_kids {i : Nat} {s : Sign} (h : (callF rec ts i (kidsOf ts i) s).2 = false) : (kidsOf ts i).length = s.args.length ∧ ∀ k u, (k, u) ∈ (kidsOf ts i).zip s.args → u ≠ -1 → u ≠ -2 → P k := by
  unfold callF at h
  simp only at h
  split at h
  · rename_i hc
    exact ⟨hc.1, callLoop_kids P hrec hfit _ _ _ h⟩
  · cases h
theorem callF_all {i : Nat} {s : Sign} (h : (callF rec ts i (kidsOf ts i) s).2 = false) (hs : ∀ u ∈ s.args, u ≠ -1 ∧ u ≠ -2) : ∀ k ∈ kidsOf ts i, P k := by
  obtain ⟨h1, h2⟩ := callF_kids P hrec hfit h
  intro k hk
  obtain ⟨u, hu⟩ := zip_mem hk h1
  have := hs u (List.of_mem_zip hu).2
  exact h2 k u hu this.1 this.2
omit hrec in
theorem operatorF_kids {i : Nat} (h : (operatorF rec ts i (kidsOf ts i)).2.2 = false) : (34 ≤ (ts.getD i node0).op ∧ (ts.getD i node0).op ≤ 48) ∧ ∀ k ∈ kidsOf ts i, P k := by
  unfold operatorF at h
  simp only at h
  by_cases hm : (ts.getD i node0).op = 34 ∨ (ts.getD i node0).op = 35
  · simp only [hm, if_true] at h
    split at h
    · rename_i hc
      obtain ⟨hr, hl, -⟩ := hc
      refine ⟨hr, ?_⟩
      match hk : kidsOf ts i, hl with
      | [a], _ =>
        rw [hk] at h
        have h1 : ¬ ((1 : Nat) = 2) := by omega
        simp only [h1, false_and, if_false] at h
        intro k hk
        rw [List.mem_singleton] at hk
        subst hk
        have hq : ¬ ((ts.getD i node0).op = 38 ∨ (ts.getD i node0).op = 39) := by omega
        simp only [hq, if_false, wantedF, Bool.or_eq_false_iff] at h
        exact hfit _ h.1
    · cases h
  · simp only [hm, if_false] at h
    split at h
    · rename_i hc
      obtain ⟨hr, hl, -⟩ := hc
      refine ⟨hr, ?_⟩
      match hk : kidsOf ts i, hl with
      | [a, b], _ =>
        rw [hk] at h
        simp only [true_and] at h
        have e0 : ([a, b] : List Nat).getD 0 0 = a := rfl
        have e1 : ([a, b] : List Nat).getD 1 0 = b := rfl
        rw [e0, e1] at h
        have hab : (rec a false).2.2 = false ∧ (rec b false).2.2 = false := by
          by_cases q : (ts.getD i node0).op = 38 ∨ (ts.getD i node0).op = 39
          · simp only [q, if_true] at h
            split at h
            · rename_i hf
              exact ⟨(Bool.or_eq_false_iff.1 hf).1, (Bool.or_eq_false_iff.1 h).1⟩
            · rename_i hf
              exact absurd h hf
          · simp only [q, if_false] at h
            split at h
            · rename_i hf
              exact ⟨(Bool.or_eq_false_iff.1 hf).1, (Bool.or_eq_false_iff.1 h).1⟩
            · rename_i hf
              exact absurd h hf
        obtain ⟨h1, h2⟩ := hab
        intro k hk
        simp only [List.mem_cons, List.not_mem_nil, or_false] at hk
        rcases hk with rfl | rfl
        · exact hfit _ h1
        · exact hfit _ h2
    · cases h
end
section
variable {recS recB : Nat → LSt → LSt} (hS : ∀ i s, (recS i s).bad = false → P i) (hB : ∀ i s, (recB i s).bad = false → P i)
include hS
theorem blockLoop_kids : ∀ (l : List Nat) (own : List Int) (s : LSt), (blockLoop ts recS l own s).bad = false → s.bad = false ∧ ∀ k ∈ l, P k
  | [], [], s, h => ⟨h, fun k hk => by simp at hk⟩
  | [], n :: o, s, h => by
    have := blockLoop_kids [] o (forget n s) (by simpa only [blockLoop, List.foldl_cons] using h)
    exact ⟨this.1, fun k hk => by simp at hk⟩
  | k :: r, own, s, h => by
    rw [blockLoop] at h
    split at h
    · rename_i hb; rw [hb] at h; cases h
    · rename_i hb
      obtain ⟨h1, h2⟩ := blockLoop_kids r _ _ h
      refine ⟨by simpa using hb, fun j hj => ?_⟩
      rcases List.mem_cons.1 hj with rfl | hj
      · exact hS _ _ h1
      · exact h2 j hj
include hB
theorem blocksF_kids : ∀ (l : List Nat) (i : Nat) (s : LSt), (blocksF ts recS recB i l s).bad = false → s.bad = false ∧ ∀ k ∈ l, P k
  | [], i, s, h => ⟨h, fun k hk => by simp at hk⟩
  | k :: r, i, s, h => by
    rw [blocksF] at h
    have ih := blocksF_kids r _ _ h
    obtain ⟨h1, h2⟩ := ih
    split at h1
    · rename_i hb; rw [hb] at h1; cases h1
    · rename_i hb
      refine ⟨by simpa using hb, fun j hj => ?_⟩
      rcases List.mem_cons.1 hj with rfl | hj
      · split at h1
        · exact hS _ _ h1
        · exact hB _ _ h1
      · exact h2 j hj
theorem stmtF_kids (hE : ∀ (s : LSt) (k : Nat), (exprS ts s k false).2.2 = false → P k) (i : Nat) (s : LSt) (h : (stmtF ts recS recB i s).bad = false) : (11 ≤ (ts.getD i node0).op ∧ (ts.getD i node0).op ≤ 19) ∧ ∀ k ∈ kidsOf ts i, P k := by
  have h0 : (kidsOf ts i).length = 0 → ∀ k ∈ kidsOf ts i, P k := fun h k hk => by rw [List.length_eq_zero_iff.1 h] at hk; simp at hk
  have hV : ∀ {s : LSt} {k : Nat} {kd : Int}, s.bad = false → (valueF ts k kd s).bad = false → P k := fun hb h => by
    unfold valueF highF at h
    rw [hb] at h
    simp only [wantedF, Bool.or_eq_false_iff] at h
    exact hE _ _ h.1.1
  have hVb : ∀ {s : LSt} {k : Nat} {kd : Int}, (valueF ts k kd s).bad = false → s.bad = false := fun {s k kd} h => by
    unfold valueF highF at h
    simp only [wantedF, Bool.or_eq_false_iff] at h
    cases hb : s.bad with
    | false => rfl
    | true => have h1 := h.1.1; rw [hb] at h1; unfold exprS at h1; rw [exprM_true] at h1; cases h1
  have hD : ∀ {n : Int} {b : Bool} {l : List Int} {s : LSt}, (declareF n b l s).bad = false → s.bad = false := fun {n b l s} h => by
    unfold declareF at h
    split at h
    · exact h
    · rename_i hb; simpa using hb
  have hb := fun l i s h => blocksF_kids (ts := ts) P hS hB l i s h
  unfold stmtF at h
  simp only at h
  split at h
  · rename_i q
    refine ⟨by omega, ?_⟩
    split at h
    · rename_i hc
      have h1 := hD h
      simp only [highF, Bool.or_eq_false_iff] at h1
      intro k hk
      match hk2 : kidsOf ts i, hc.1 with
      | [a], _ => rw [hk2] at hk h1; rw [List.mem_singleton] at hk; subst hk; exact hE _ _ h1.1
    · cases h
  split at h
  · rename_i q
    refine ⟨by omega, ?_⟩
    split at h
    · rename_i hc
      intro k hk
      match hk2 : kidsOf ts i, hc.1 with
      | [a], _ => rw [hk2] at hk h; rw [List.mem_singleton] at hk; subst hk; exact hV (hVb h) h
    · cases h
  split at h
  · rename_i q
    refine ⟨by omega, ?_⟩
    split at h
    · rename_i hc
      have h1 := hb _ _ _ h
      intro k hk
      match hk2 : kidsOf ts i, hc.1 with
      | a :: r, _ =>
        rw [hk2] at hk h1
        rcases List.mem_cons.1 hk with rfl | hk
        · exact hV (hVb h1.1) h1.1
        · exact h1.2 k (by simpa using hk)
      | [], hl => simp at hl
    · cases h
  split at h
  · rename_i q
    refine ⟨by omega, ?_⟩
    split at h
    · exact (hb _ _ _ h).2
    · cases h
  split at h
  · rename_i q
    refine ⟨by omega, ?_⟩
    split at h
    · rename_i hc
      have h1 := hb _ _ _ h
      intro k hk
      match hk2 : kidsOf ts i, hc.1 with
      | a :: r, _ =>
        rw [hk2] at hk h1
        rcases List.mem_cons.1 hk with rfl | hk
        · exact hV (hVb (hD h1.1)) (hD h1.1)
        · exact h1.2 k (by simpa using hk)
    · cases h
  split at h
  · rename_i q
    refine ⟨by omega, ?_⟩
    split at h
    · rename_i hc
      have key : ∀ l, (forget (ts.getD i node0).n (blocksF ts recS recB 0 l (declareF (ts.getD i node0).n false [3] (valueF ts ((kidsOf ts i).getD 0 0) 6 s)))).bad = false → P ((kidsOf ts i).getD 0 0) ∧ ∀ k ∈ l, P k := fun l h => by
        have h1 := hb _ _ _ (show (blocksF ts recS recB 0 l _).bad = false from h)
        exact ⟨hV (hVb (hD h1.1)) (hD h1.1), h1.2⟩
      match hk2 : kidsOf ts i, hc.1 with
      | [a, b], _ =>
        rw [hk2] at h key
        rw [if_neg (by simp)] at h
        obtain ⟨k1, k2⟩ := key _ h
        intro k hk
        simp only [List.mem_cons, List.not_mem_nil, or_false] at hk
        rcases hk with rfl | rfl
        · exact k1
        · exact k2 _ (by simp)
      | [a, b, d], _ =>
        rw [hk2] at h key
        by_cases hb2 : (forget (ts.getD i node0).n (blocksF ts recS recB 0 (List.take 1 (List.drop 1 [a, b, d])) (declareF (ts.getD i node0).n false [3] (valueF ts ([a, b, d].getD 0 0) 6 s)))).bad = false
        · rw [if_pos ⟨rfl, hb2⟩] at h
          obtain ⟨k1, k2⟩ := key _ hb2
          intro k hk
          simp only [List.mem_cons, List.not_mem_nil, or_false] at hk
          rcases hk with rfl | rfl | rfl
          · exact k1
          · exact k2 _ (by simp)
          · exact hB _ _ h
        · rw [if_neg (by simp only [not_and]; exact fun _ => hb2)] at h
          exact absurd h hb2
      | [], hl => simp at hl
      | [_], hl => simp at hl
      | _ :: _ :: _ :: _ :: _, hl => simp at hl
    · cases h
  split at h
  · rename_i q
    refine ⟨by omega, ?_⟩
    simp only [Bool.or_eq_false_iff, Bool.not_eq_false', decide_eq_true_eq] at h
    exact h0 h.1
  split at h
  · rename_i q
    refine ⟨by omega, ?_⟩
    split at h
    · cases h
    · rename_i sg hs
      simp only [highF, Bool.or_eq_false_iff] at h
      exact callF_all P (ts := ts) (rec := exprS ts s) (fun j => exprM_true _ _ _ _) (fun j hj => hE _ _ hj) h.1 (effects_pos (signOf_mem hs).2.2.2)
  · cases h
end
end

theorem exprM_fitE (ts : List Node) (slots : List Int) (seen : Int → Option Value) : ∀ (f i : Nat), (exprM ts slots seen f i false).2.2 = false → FitE ts f i
  | 0, _, _ => trivial
  | f + 1, i, h => by
    have ih := exprM_fitE ts slots seen f
    have ht := exprM_true (ts := ts) slots seen f
    have har := (exprM_fit slots seen (f + 1) i h).1
    have h0 : (kidsOf ts i).length = 0 → ∀ k ∈ argsE (ts.getD i node0) (kidsOf ts i), FitE ts f k := fun h k hk => by rw [List.length_eq_zero_iff.1 h] at hk; simp [argsE] at hk
    have hk : ∀ x : Node, x.op ≠ 50 → (∀ k ∈ kidsOf ts i, FitE ts f k) → ∀ k ∈ argsE x (kidsOf ts i), FitE ts f k := fun x hx h => by rw [argsE_all _ hx]; exact h
    rw [exprM] at h
    generalize exprM ts slots seen f = rec at h ih ht
    show _ ∧ _
    refine ⟨har, ?_⟩
    unfold exprF at h
    simp only [Bool.false_eq_true, if_false] at h
    split at h
    · rename_i q
      simp only [Bool.or_eq_false_iff, Bool.not_eq_false', Bool.and_eq_true, decide_eq_true_eq] at h
      exact ⟨by omega, by omega, h0 h.1.2⟩
    split at h
    · rename_i q
      simp only [Bool.or_eq_false_iff, Bool.not_eq_false', decide_eq_true_eq] at h
      exact ⟨by omega, by omega, h0 h.1⟩
    split at h
    · rename_i q
      split at h
      · rename_i hc
        exact ⟨by omega, by omega, h0 hc.2.2.2⟩
      · cases h
    split at h
    · rename_i q
      split at h
      · cases h
      · rename_i s hs
        split at h
        · rename_i hc
          refine ⟨by omega, by omega, hk _ (by omega) ?_⟩
          simp only [wantedF, Bool.or_eq_false_iff] at h
          match hk2 : kidsOf ts i, hc.1 with
          | [a], _ =>
            rw [hk2] at h
            intro k hk
            rw [List.mem_singleton] at hk
            subst hk
            exact ih _ h.1
        · cases h
    split at h
    · rename_i q
      split at h
      · cases h
      · rename_i s hs
        refine ⟨by omega, by omega, ?_⟩
        by_cases hn : (ts.getD i node0).n = 1 ∨ (ts.getD i node0).n = 5
        · obtain ⟨h1, h2⟩ := callF_kids (FitE ts f) ht ih h
          unfold argsE
          rw [if_pos ⟨q, hn⟩]
          have hl : (kidsOf ts i).length = 2 := by rw [h1]; rcases funcs_isOf hs hn with e | e <;> rw [e] <;> rfl
          match hk2 : kidsOf ts i, hl with
          | [a, b], _ =>
            rw [hk2] at h2
            intro k hk
            simp at hk
            subst hk
            rcases funcs_isOf hs hn with e | e <;> rw [e] at h2
            · exact h2 _ 4 (by simp) (by decide) (by decide)
            · exact h2 _ 3 (by simp) (by decide) (by decide)
        · unfold argsE
          rw [if_neg (fun h => hn h.2)]
          exact callF_all (FitE ts f) ht ih h (funcs_pos hs (by omega) (by omega))
    · obtain ⟨h1, h2⟩ := operatorF_kids (FitE ts f) ih h
      exact ⟨by omega, by omega, hk _ (by omega) h2⟩

theorem sbM_fitE (ts : List Node) : ∀ f, f ≤ ts.length + 1 → (∀ i s, ((sbM ts f).1 i s).bad = false → FitE ts f i) ∧ (∀ i s, ((sbM ts f).2 i s).bad = false → FitE ts f i)
  | 0, _ => ⟨fun _ _ _ => trivial, fun _ _ _ => trivial⟩
  | f + 1, h => by
    obtain ⟨i1, i2⟩ := sbM_fitE ts f (by omega)
    obtain ⟨a1, a2⟩ := sbM_fit ts (f + 1) h
    refine ⟨fun i s hb => ?_, fun i s hb => ?_⟩
    · obtain ⟨h1, h2⟩ := stmtF_kids (FitE ts f) i1 i2 (fun s k hk => (exprM_fitE ts _ _ _ _ hk).le (by omega)) i s hb
      exact ⟨(a1 i s hb).1, by omega, by omega, by rw [argsE_all _ (by omega)]; exact h2⟩
    · have hb2 := hb
      simp only [sbM] at hb2
      unfold blockF at hb2
      simp only at hb2
      split at hb2
      · rename_i hc
        have hop := hc.1
        exact ⟨(a2 i s hb).1, by omega, by omega, by rw [argsE_all _ (by omega)]; exact (blockLoop_kids (FitE ts f) i1 _ _ _ hb2).2⟩
      · cases hb2
end Go.Proofs.Ytggibiodeecljaa
namespace Go.Proofs.Ytggibiodeecljaa
open Go.RowKit
set_option linter.unusedVariables false

section
variable {ts : List Node} {rec : Nat → MS → MS}
/-- What a node adds at most. -/
def Bnd (ts : List Node) (rec : Nat → MS → MS) (j : Nat) : Prop := ∀ s, 0 ≤ behind ts j → j < (behind ts j).toNat → (rec j s).ms ≤ s.ms + 26 * ((behind ts j).toNat - j)
theorem allE_bnd : ∀ (l : List Nat) (p q : Nat) (s : MS), (∀ j ∈ l, Bnd ts rec j) → Chain ts p q l → (allE rec l s).ms ≤ s.ms + 26 * (q - p)
  | [], p, q, s, _, hc => by simp [allE]
  | j :: l, p, q, s, h, hc => by
    obtain ⟨rfl, h1, h2, h3⟩ := hc
    have h4 := h j (by simp) s h1 h2
    have h5 := allE_bnd l _ q (rec j s) (fun k hk => h k (by simp [hk])) h3
    have h6 := Chain.le h3
    have e : allE rec (j :: l) s = allE rec l (rec j s) := rfl
    rw [e]
    omega
/-- The kids one by one. -/
theorem one_bnd {p q j : Nat} {l : List Nat} (hc : Chain ts p q (j :: l)) (hb : Bnd ts rec j) (s : MS) : ∃ r, Chain ts r q l ∧ p < r ∧ r ≤ q ∧ (rec j s).ms ≤ s.ms + 26 * (r - p) := by
  obtain ⟨rfl, h1, h2, h3⟩ := hc
  exact ⟨_, h3, h2, Chain.le h3, hb s h1 h2⟩
end
theorem emitM_bnd (pi : Int → Option Int) (pt : ByteArray → Option Int) (ts : List Node) : ∀ f i, FitE ts f i → Bnd ts (emitM pi pt ts f) i
  | 0, i, _ => fun s _ _ => by show s.ms ≤ _; omega
  | f + 1, i, hf => by
    intro s h0 h1
    obtain ⟨ha, n51, n52, hk⟩ := hf
    have hr : ∀ k ∈ argsE (ts.getD i node0) (kidsOf ts i), Bnd ts (emitM pi pt ts f) k := fun k hk' => emitM_bnd pi pt ts f k (hk k hk')
    have hc := kidsOf_chain h0
    have hle := Chain.le hc
    show (emitF pi pt ts (emitM pi pt ts f) i s).ms ≤ _
    clear hk
    generalize emitM pi pt ts f = rec at hr
    obtain ⟨q, hq⟩ : ∃ q, q = (behind ts i).toNat := ⟨_, rfl⟩
    rw [← hq] at hc hle h1 ⊢
    unfold emitF
    obtain ⟨x, hx⟩ : ∃ x, x = ts.getD i node0 := ⟨_, rfl⟩
    obtain ⟨l, hl⟩ : ∃ l, l = kidsOf ts i := ⟨_, rfl⟩
    rw [← hx] at ha n51 n52 hr
    rw [← hl] at ha hc hr
    simp only [← hx, ← hl]
    clear hq hx hl
    have hA : x.op ≠ 50 → (allE rec l s).ms ≤ s.ms + 26 * (q - (i + 1)) := fun h => allE_bnd l _ _ s (by rw [argsE_all l h] at hr; exact hr) hc
    by_cases q0 : x.op = 10
    · rw [if_pos q0]; have := hA (by omega); omega
    rw [if_neg q0]
    by_cases q1 : x.op = 30
    · rw [if_pos q1, pushE_ms]; omega
    rw [if_neg q1]
    by_cases q2 : x.op = 33
    · rw [if_pos q2, opE_ms]; simp only [List.length_cons, List.length_nil]; omega
    rw [if_neg q2]
    by_cases q3 : x.op = 36
    · rw [if_pos q3]
      rw [argsE_all l (by omega)] at hr
      have hl2 : l.length = 2 := by simpa [arityB, q3] using ha
      match l, hl2 with
      | [a, b], _ =>
        obtain ⟨r, hc2, hp, hrq, hb1⟩ := one_bnd hc (hr a (by simp)) s
        obtain ⟨r2, hc3, hp2, hrq2, hb2⟩ := one_bnd hc2 (hr b (by simp)) (hereE (aheadE 31 [] (rec a s)).at_ (aheadE 30 [] (opE 2 [] (aheadE 31 [] (rec a s)))))
        rw [hereE_ms, aheadE_ms, opE_ms, aheadE_ms] at hb2
        simp only [List.length_nil] at hb2
        have e : orE rec [a, b] s = hereE (aheadE 30 [] (opE 2 [] (aheadE 31 [] (rec a s)))).at_ (rec b (hereE (aheadE 31 [] (rec a s)).at_ (aheadE 30 [] (opE 2 [] (aheadE 31 [] (rec a s)))))) := rfl
        rw [e, hereE_ms]
        omega
    rw [if_neg q3]
    by_cases q4 : x.op = 37
    · rw [if_pos q4]
      rw [argsE_all l (by omega)] at hr
      have hl2 : l.length = 2 := by simpa [arityB, q4] using ha
      match l, hl2 with
      | [a, b], _ =>
        obtain ⟨r, hc2, hp, hrq, hb1⟩ := one_bnd hc (hr a (by simp)) s
        obtain ⟨r2, hc3, hp2, hrq2, hb2⟩ := one_bnd hc2 (hr b (by simp)) (aheadE 31 [] (rec a s))
        rw [aheadE_ms] at hb2
        simp only [List.length_nil] at hb2
        have e : andE rec [a, b] s = hereE (aheadE 30 [] (rec b (aheadE 31 [] (rec a s)))).at_ (opE 3 [] (hereE (aheadE 31 [] (rec a s)).at_ (aheadE 30 [] (rec b (aheadE 31 [] (rec a s)))))) := rfl
        rw [e, hereE_ms, opE_ms, hereE_ms, aheadE_ms]
        simp only [List.length_nil]
        omega
    rw [if_neg q4]
    by_cases q5 : x.op = 38 ∨ x.op = 39
    · rw [if_pos q5]
      have h := hA (by omega)
      unfold equalE
      dsimp only
      split
      · rw [opE_ms, opE_ms]; simp only [List.length_cons, List.length_nil]; omega
      · rw [opE_ms]; simp only [List.length_cons, List.length_nil]; omega
    rw [if_neg q5]
    by_cases q6 : x.op = 50
    · rw [if_pos q6]
      unfold callE
      by_cases hn : x.n = 1 ∨ x.n = 5
      · have hl2 : l.length = 2 := by
          rcases hn with q | q <;> simp [arityB, q6, q, signOf, funcsM] at ha <;> exact ha
        unfold argsE at hr
        rw [if_pos ⟨q6, hn⟩] at hr
        match l, hl2 with
        | [a, b], _ =>
          obtain ⟨r, hc2, hp, hrq, hb1⟩ := one_bnd hc (hr a (by simp)) s
          have e : ([a, b] : List Nat).getD 0 0 = a := rfl
          rw [e]
          split
          · rw [opE_ms]; simp only [List.length_cons, List.length_nil]; omega
          split
          · unfold findE; rw [wideE_ms, numE_ms]; omega
          · omega
      · unfold argsE at hr
        rw [if_neg (fun h => hn h.2)] at hr
        have h := allE_bnd l _ _ s hr hc
        rw [if_neg (fun h => hn (.inl h)), if_neg (fun h => hn (.inr h)), opE_ms]
        simp only [List.length_nil]
        omega
    rw [if_neg q6]
    by_cases q7 : x.op = 13 ∨ x.op = 16
    · rw [if_pos q7]
      rw [argsE_all l (by omega)] at hr
      have hl2 : l.length = 2 ∨ l.length = 3 := by rcases q7 with q | q <;> simpa [arityB, q] using ha
      have hB : ∀ s, (forkB x s).ms ≤ s.ms + 2 := fun s => by
        unfold forkB
        split
        · omega
        · rw [opE_ms]; simp only [List.length_cons, List.length_nil]; omega
      match l, hl2 with
      | [a, b], _ =>
        obtain ⟨r, hc2, hp, hrq, hb1⟩ := one_bnd hc (hr a (by simp)) s
        obtain ⟨r2, hc3, hp2, hrq2, hb2⟩ := one_bnd hc2 (hr b (by simp)) (forkB x (forkA x (rec a s)))
        have h3 := hB (forkA x (rec a s))
        rw [forkA_ms] at h3
        have e : forkE rec x [a, b] s = hereE (forkA x (rec a s)).at_ (rec b (forkB x (forkA x (rec a s)))) := rfl
        rw [e, hereE_ms]
        omega
      | [a, b, d], _ =>
        obtain ⟨r, hc2, hp, hrq, hb1⟩ := one_bnd hc (hr a (by simp)) s
        obtain ⟨r2, hc3, hp2, hrq2, hb2⟩ := one_bnd hc2 (hr b (by simp)) (forkB x (forkA x (rec a s)))
        have h3 := hB (forkA x (rec a s))
        rw [forkA_ms] at h3
        obtain ⟨r3, hc4, hp3, hrq3, hb3⟩ := one_bnd hc3 (hr d (by simp)) (hereE (forkA x (rec a s)).at_ (aheadE 30 [] (rec b (forkB x (forkA x (rec a s))))))
        rw [hereE_ms, aheadE_ms] at hb3
        simp only [List.length_nil] at hb3
        have e : forkE rec x [a, b, d] s = hereE (aheadE 30 [] (rec b (forkB x (forkA x (rec a s))))).at_ (rec d (hereE (forkA x (rec a s)).at_ (aheadE 30 [] (rec b (forkB x (forkA x (rec a s))))))) := rfl
        rw [e, hereE_ms]
        omega
      | [], hl => simp at hl
      | [_], hl => simp at hl
      | _ :: _ :: _ :: _ :: _, hl => simp at hl
    rw [if_neg q7]
    by_cases q8 : x.op = 14
    · rw [if_pos q8]
      rw [argsE_all l (by omega)] at hr
      unfold repeatE
      dsimp only
      have h := allE_bnd l _ _ (repeatB pi x (repeatA pi x s)) hr hc
      have e : (repeatB pi x (repeatA pi x s)).ms = s.ms + 14 := by
        unfold repeatB repeatA
        rw [aheadE_ms, opE_ms, pushE_ms, opE_ms, opE_ms, pushE_ms]
        simp
      rw [hereE_ms]
      unfold repeatC
      rw [wideE_ms, opE_ms, opE_ms, pushE_ms, opE_ms]
      simp only [List.length_cons, List.length_nil]
      omega
    rw [if_neg q8]
    by_cases q9 : x.op = 15
    · rw [if_pos q9]
      rw [argsE_all l (by omega)] at hr
      have hl2 : l.length = 2 := by simpa [arityB, q9] using ha
      match l, hl2 with
      | [a, b], _ =>
        obtain ⟨r, hc2, hp, hrq, hb1⟩ := one_bnd hc (hr a (by simp)) (numE (pi 1) s)
        obtain ⟨r2, hc3, hp2, hrq2, hb2⟩ := one_bnd hc2 (hr b (by simp)) (opE 5 [u8 x.n] (aheadE 32 [u8 x.m, u8 (u8 x.m + 1)] (eachA pi x (rec a (numE (pi 1) s)))))
        have h3 : (eachA pi x (rec a (numE (pi 1) s))).ms = (rec a (numE (pi 1) s)).ms + 7 := by
          unfold eachA
          rw [opE_ms, pushE_ms, opE_ms]
          simp
        rw [opE_ms, aheadE_ms, h3] at hb2
        rw [numE_ms] at hb1
        simp only [List.length_cons, List.length_nil] at hb2
        unfold eachE
        dsimp only
        have e0 : ([a, b] : List Nat).getD 0 0 = a := rfl
        have e1 : ([a, b] : List Nat).getD 1 0 = b := rfl
        rw [e0, e1, hereE_ms, wideE_ms]
        omega
    rw [if_neg q9]
    have h := hA (by omega)
    by_cases q10 : x.op = 49
    · rw [if_pos q10, opE_ms]; simp only [List.length_cons, List.length_nil]; omega
    rw [if_neg q10]
    by_cases q11 : x.op = 19
    · rw [if_pos q11, opE_ms]; simp only [List.length_cons, List.length_nil]; omega
    rw [if_neg q11]
    by_cases q12 : x.op = 11 ∨ x.op = 12
    · rw [if_pos q12, opE_ms]; simp only [List.length_cons, List.length_nil]; omega
    rw [if_neg q12]
    unfold plainE
    split
    · rw [opE_ms]; simp only [List.length_nil]; omega
    · omega
end Go.Proofs.Ytggibiodeecljaa
namespace Go.Proofs.Ytggibiodeecljaa
open Go.RowKit
set_option linter.unusedVariables false

def Node.low (x : Node) : Node := { x with pos := 0 }
def lowT (ts : List Node) : List Node := ts.map Node.low
theorem lowT_len (ts : List Node) : (lowT ts).length = ts.length := by simp [lowT]
theorem lowT_at (ts : List Node) (i : Nat) : (lowT ts).getD i node0 = (ts.getD i node0).low := by
  unfold lowT
  rw [List.getD_eq_getElem?_getD, List.getD_eq_getElem?_getD, List.getElem?_map]
  cases ts[i]? <;> rfl
theorem sizes_low (len : Nat) : ∀ l : List Node, sizes len (lowT l) = sizes len l
  | [] => rfl
  | x :: r => by
    have h := sizes_low len r
    have e : lowT (x :: r) = x.low :: lowT r := rfl
    rw [e, sizes, sizes, h]
    rfl
theorem behind_low (ts : List Node) (i : Nat) : behind (lowT ts) i = behind ts i := by
  rw [behind_eq, behind_eq, lowT_len, sizes_low]
theorem kidsFrom_low (ts : List Node) : ∀ c p, kidsFrom (lowT ts) c p = kidsFrom ts c p
  | 0, _ => rfl
  | c + 1, p => by rw [kidsFrom, kidsFrom, behind_low, kidsFrom_low ts c]
theorem kidsOf_low (ts : List Node) (i : Nat) : kidsOf (lowT ts) i = kidsOf ts i := by
  unfold kidsOf
  rw [behind_low, kidsFrom_low, lowT_at]
  rfl
theorem like_low {x : Node} {k n m : Int} (h : likeB x k n m = true) : likeB x.low k n m = true := by
  simp only [likeB, Bool.and_eq_true, decide_eq_true_eq] at h ⊢
  exact ⟨⟨h.1.1, Int.le_refl _⟩, h.2⟩

/-- Emission. -/
theorem equalE_low (ts : List Node) (rec : Nat → MS → MS) (x : Node) (l : List Nat) (s : MS) : equalE (lowT ts) rec x l s = equalE ts rec x l s := by
  unfold equalE
  rw [lowT_at]
  rfl
theorem callE_low (pt : ByteArray → Option Int) (ts : List Node) (rec : Nat → MS → MS) (x : Node) (l : List Nat) (s : MS) : callE pt (lowT ts) rec x l s = callE pt ts rec x l s := by
  unfold callE
  rw [lowT_at]
  rfl
theorem emitF_low (pi : Int → Option Int) (pt : ByteArray → Option Int) (ts : List Node) (rec : Nat → MS → MS) (i : Nat) (s : MS) : emitF pi pt (lowT ts) rec i s = emitF pi pt ts rec i s := by
  unfold emitF
  simp only [kidsOf_low, equalE_low, callE_low]
  rw [lowT_at]
  rfl
theorem emitM_low (pi : Int → Option Int) (pt : ByteArray → Option Int) (ts : List Node) : ∀ f, emitM pi pt (lowT ts) f = emitM pi pt ts f
  | 0 => rfl
  | f + 1 => by
    funext i s
    show emitF pi pt (lowT ts) (emitM pi pt (lowT ts) f) i s = emitF pi pt ts (emitM pi pt ts f) i s
    rw [emitM_low pi pt ts f, emitF_low]
theorem madeM_low (pi : Int → Option Int) (pt : ByteArray → Option Int) (wh : Bool) (ts : List Node) : madeM pi pt wh (lowT ts) = madeM pi pt wh ts := by
  unfold madeM
  rw [lowT_len, emitM_low, behind_low]

section
variable {ts : List Node}
section
variable {rec rec' : Nat → Bool → ER} (ht : ∀ i, (rec i true).2.2 = true) (hr : ∀ i, (rec i false).2.2 = false → rec' i false = rec i false)
include ht hr
theorem callLoop_low : ∀ (l : List (Nat × Int)) (high values : Int), (callLoop rec ts l high values false).2 = false → callLoop rec' (lowT ts) l high values false = callLoop rec ts l high values false
  | [], _, _, _ => rfl
  | (kid, arg) :: r, high, values, hb => by
    rw [callLoop] at hb ⊢
    rw [callLoop]
    simp only [lowT_at] at hb ⊢
    by_cases ha : arg = -1
    · rw [if_pos ha] at hb
      rw [if_pos ha, if_pos ha]
      generalize hc : ((false || !((ts.getD kid node0).op == 51 && (ts.getD kid node0).kids == 0 && decide (0 ≤ (ts.getD kid node0).n) && decide ((ts.getD kid node0).n ≤ 3))) || !(likeB (ts.getD kid node0) 0 (ts.getD kid node0).n 0)) = c at hb ⊢
      cases c with
      | true => rw [callLoop_true ht] at hb; cases hb
      | false =>
        simp only [Bool.or_eq_false_iff, Bool.not_eq_false'] at hc
        have e : ((false || !((ts.getD kid node0).low.op == 51 && (ts.getD kid node0).low.kids == 0 && decide (0 ≤ (ts.getD kid node0).low.n) && decide ((ts.getD kid node0).low.n ≤ 3))) || !(likeB (ts.getD kid node0).low 0 (ts.getD kid node0).low.n 0)) = false := by
          simp only [Bool.or_eq_false_iff, Bool.not_eq_false']
          exact ⟨⟨trivial, hc.1.2⟩, like_low hc.2⟩
        rw [e]
        exact callLoop_low r high values hb
    rw [if_neg ha] at hb
    rw [if_neg ha, if_neg ha]
    by_cases hb2 : arg = -2
    · rw [if_pos hb2] at hb
      rw [if_pos hb2, if_pos hb2]
      generalize hc : ((false || !((ts.getD kid node0).op == 52 && (ts.getD kid node0).kids == 0 && rightM (ts.getD kid node0).text)) || !(likeB (ts.getD kid node0) 0 0 0)) = c at hb ⊢
      cases c with
      | true => rw [callLoop_true ht] at hb; cases hb
      | false =>
        simp only [Bool.or_eq_false_iff, Bool.not_eq_false'] at hc
        have e : ((false || !((ts.getD kid node0).low.op == 52 && (ts.getD kid node0).low.kids == 0 && rightM (ts.getD kid node0).low.text)) || !(likeB (ts.getD kid node0).low 0 0 0)) = false := by
          simp only [Bool.or_eq_false_iff, Bool.not_eq_false']
          exact ⟨⟨trivial, hc.1.2⟩, like_low hc.2⟩
        rw [e]
        exact callLoop_low r high values hb
    rw [if_neg hb2] at hb
    rw [if_neg hb2, if_neg hb2]
    cases hw : (wantedF (rec kid false) arg).2 with
    | true => rw [hw, callLoop_true ht] at hb; cases hb
    | false =>
      have hk : (rec kid false).2.2 = false := by
        simp only [wantedF, Bool.or_eq_false_iff] at hw
        exact hw.1
      rw [hr kid hk, hw]
      rw [hw] at hb
      exact callLoop_low r _ _ hb
theorem callF_low {i : Nat} {l : List Nat} {s : Sign} (h : (callF rec ts i l s).2 = false) : callF rec' (lowT ts) i l s = callF rec ts i l s := by
  unfold callF at h ⊢
  simp only [lowT_at] at h ⊢
  split at h
  · rename_i hc
    rw [if_pos hc, if_pos ⟨hc.1, like_low hc.2⟩]
    exact callLoop_low ht hr _ _ _ h
  · cases h
omit ht in
theorem operatorF_low {i : Nat} {l : List Nat} (h : (operatorF rec ts i l).2.2 = false) : operatorF rec' (lowT ts) i l = operatorF rec ts i l := by
  unfold operatorF at h ⊢
  simp only [lowT_at] at h ⊢
  obtain ⟨x, hx⟩ : ∃ x, x = ts.getD i node0 := ⟨_, rfl⟩
  simp only [← hx] at h ⊢
  have e1 : x.low.op = x.op := rfl
  rw [e1]
  generalize hm : (if x.op = 34 ∨ x.op = 35 then 1 else 2) = many at h ⊢
  split at h
  · rename_i hc
    rw [if_pos hc, if_pos ⟨hc.1, hc.2.1, like_low hc.2.2⟩]
    by_cases q : x.op = 38 ∨ x.op = 39
    · simp only [q, if_true] at h ⊢
      have h0 : (rec (l.getD 0 0) false).2.2 = false := by
        split at h
        · rename_i hf
          exact (Bool.or_eq_false_iff.1 hf.2).1
        · simp only [Bool.or_eq_false_iff] at h; exact h.1
      rw [hr _ h0]
      split
      · rename_i hf
        rw [if_pos hf] at h
        have h1 : (rec (l.getD 1 0) false).2.2 = false := by
          simp only [wantedF, Bool.or_eq_false_iff] at h; exact h.1
        rw [hr _ h1]
      · rfl
    · simp only [q, if_false] at h ⊢
      have h0 : (rec (l.getD 0 0) false).2.2 = false := by
        split at h
        · rename_i hf
          exact (Bool.or_eq_false_iff.1 hf.2).1
        · simp only [wantedF, Bool.or_eq_false_iff] at h; exact h.1
      rw [hr _ h0]
      split
      · rename_i hf
        rw [if_pos hf] at h
        have h1 : (rec (l.getD 1 0) false).2.2 = false := by
          simp only [wantedF, Bool.or_eq_false_iff] at h; exact h.1
        rw [hr _ h1]
      · rfl
  · cases h
theorem exprF_low {slots : List Int} {seen : Int → Option Value} {i : Nat} (h : (exprF rec ts slots seen i false).2.2 = false) : exprF rec' (lowT ts) slots seen i false = exprF rec ts slots seen i false := by
  unfold exprF at h ⊢
  simp only [lowT_at, kidsOf_low, Bool.false_eq_true, if_false] at h ⊢
  obtain ⟨x, hx⟩ : ∃ x, x = ts.getD i node0 := ⟨_, rfl⟩
  simp only [← hx] at h ⊢
  have e1 : x.low.op = x.op := rfl
  have e2 : x.low.n = x.n := rfl
  have e3 : x.low.kids = x.kids := rfl
  rw [e1, e2]
  by_cases q0 : x.op = 30
  · rw [if_pos q0] at h
    rw [if_pos q0, if_pos q0]
    simp only [Bool.or_eq_false_iff, Bool.not_eq_false'] at h
    rw [like_low h.2, h.2]
  rw [if_neg q0] at h
  rw [if_neg q0, if_neg q0]
  by_cases q1 : x.op = 31 ∨ x.op = 32
  · rw [if_pos q1] at h
    rw [if_pos q1, if_pos q1]
    simp only [Bool.or_eq_false_iff, Bool.not_eq_false'] at h
    rw [like_low h.2, h.2]
  rw [if_neg q1] at h
  rw [if_neg q1, if_neg q1]
  by_cases q2 : x.op = 33
  · rw [if_pos q2] at h
    rw [if_pos q2, if_pos q2]
    split at h
    · rename_i hc
      rw [if_pos hc, if_pos hc]
      simp only [Bool.not_eq_false'] at h
      rw [like_low h, h]
    · cases h
  rw [if_neg q2] at h
  rw [if_neg q2, if_neg q2]
  by_cases q3 : x.op = 49
  · rw [if_pos q3] at h
    rw [if_pos q3, if_pos q3]
    split at h
    · cases h
    · rename_i s hs
      split at h
      · rename_i hc
        rw [if_pos hc, if_pos ⟨hc.1, like_low hc.2⟩]
        have h1 : (rec ((kidsOf ts i).getD 0 0) false).2.2 = false := by
          simp only [wantedF, Bool.or_eq_false_iff] at h; exact h.1
        rw [hr _ h1]
      · cases h
  rw [if_neg q3] at h
  rw [if_neg q3, if_neg q3]
  by_cases q4 : x.op = 50
  · rw [if_pos q4] at h
    rw [if_pos q4, if_pos q4]
    split at h
    · cases h
    · rename_i s hs
      rw [callF_low ht hr h]
  rw [if_neg q4] at h
  rw [if_neg q4, if_neg q4]
  exact operatorF_low hr h
end
theorem exprM_low (ts : List Node) (slots : List Int) (seen : Int → Option Value) : ∀ (f i : Nat), (exprM ts slots seen f i false).2.2 = false → exprM (lowT ts) slots seen f i false = exprM ts slots seen f i false
  | 0, _, h => rfl
  | f + 1, i, h => by
    rw [exprM] at h ⊢
    rw [exprM]
    exact exprF_low (fun j => exprM_true slots seen f j) (fun j hj => exprM_low ts slots seen f j hj) h
end
section
variable {ts : List Node}
theorem exprS_low {s : LSt} {k : Nat} (h : (exprS ts s k false).2.2 = false) : exprS (lowT ts) s k false = exprS ts s k false := by
  unfold exprS at h ⊢
  rw [lowT_len]
  exact exprM_low ts _ _ _ _ h
theorem valueF_bad {s : LSt} {k : Nat} {kd : Int} (h : (valueF ts k kd s).bad = false) : s.bad = false ∧ (exprS ts s k false).2.2 = false := by
  unfold valueF highF at h
  simp only [wantedF, Bool.or_eq_false_iff] at h
  cases hb : s.bad with
  | false => rw [hb] at h; exact ⟨rfl, h.1.1⟩
  | true => have h1 := h.1.1; rw [hb] at h1; unfold exprS at h1; rw [exprM_true] at h1; cases h1
theorem valueF_low {s : LSt} {k : Nat} {kd : Int} (h : (valueF ts k kd s).bad = false) : valueF (lowT ts) k kd s = valueF ts k kd s := by
  obtain ⟨h1, h2⟩ := valueF_bad h
  unfold valueF
  rw [h1, exprS_low h2]
theorem declareF_bad {n : Int} {b : Bool} {l : List Int} {s : LSt} (h : (declareF n b l s).bad = false) : s.bad = false := by
  unfold declareF at h
  split at h
  · exact h
  · rename_i hb; simpa using hb
section
variable {recS recB recS' recB' : Nat → LSt → LSt} (hS : ∀ i s, (recS i s).bad = false → recS' i s = recS i s) (hB : ∀ i s, (recB i s).bad = false → recB' i s = recB i s)
include hS
theorem blockLoop_low : ∀ (l : List Nat) (own : List Int) (s : LSt), (blockLoop ts recS l own s).bad = false → blockLoop (lowT ts) recS' l own s = blockLoop ts recS l own s
  | [], own, s, _ => by rw [blockLoop, blockLoop]
  | k :: r, own, s, h => by
    rw [blockLoop] at h
    rw [blockLoop, blockLoop]
    split at h
    · rename_i hb; rw [hb] at h; cases h
    · rename_i hb
      rw [if_neg hb, if_neg hb, lowT_at]
      have h1 := (blockLoop_kids (ts := ts) (fun _ => True) (fun _ _ _ => trivial) r _ _ h).1
      rw [hS _ _ h1]
      exact blockLoop_low r _ _ h
theorem blockF_low {i : Nat} {s : LSt} (h : (blockF ts recS i s).bad = false) : blockF (lowT ts) recS' i s = blockF ts recS i s := by
  unfold blockF at h ⊢
  simp only [lowT_at, kidsOf_low] at h ⊢
  split at h
  · rename_i hc
    rw [if_pos hc, if_pos ⟨hc.1, like_low hc.2⟩]
    exact blockLoop_low hS _ _ _ h
  · cases h
include hB
theorem blocksF_low : ∀ (l : List Nat) (i : Nat) (s : LSt), (blocksF ts recS recB i l s).bad = false → blocksF (lowT ts) recS' recB' i l s = blocksF ts recS recB i l s
  | [], i, s, _ => by rw [blocksF, blocksF]
  | k :: r, i, s, h => by
    rw [blocksF] at h
    rw [blocksF, blocksF, lowT_at]
    have h1 := (blocksF_kids (ts := ts) (fun _ => True) (fun _ _ _ => trivial) (fun _ _ _ => trivial) r _ _ h).1
    have e : (if s.bad = true then s else if i = 1 ∧ (ts.getD k node0).low.op = 13 then recS' k s else recB' k s) = (if s.bad = true then s else if i = 1 ∧ (ts.getD k node0).op = 13 then recS k s else recB k s) := by
      have e1 : (ts.getD k node0).low.op = (ts.getD k node0).op := rfl
      rw [e1]
      split at h1
      · rename_i hb; rw [if_pos hb, if_pos hb]
      · rename_i hb
        rw [if_neg hb, if_neg hb]
        split at h1
        · rename_i hc; rw [if_pos hc, if_pos hc, hS _ _ h1]
        · rename_i hc; rw [if_neg hc, if_neg hc, hB _ _ h1]
    rw [e]
    exact blocksF_low r _ _ h
theorem stmtF_low {i : Nat} {s : LSt} (h : (stmtF ts recS recB i s).bad = false) : stmtF (lowT ts) recS' recB' i s = stmtF ts recS recB i s := by
  have hb := fun l i s h => (blocksF_kids (ts := ts) (recS := recS) (recB := recB) (fun _ => True) (fun _ _ _ => trivial) (fun _ _ _ => trivial) l i s h).1
  have hbl := fun l i s h => blocksF_low (ts := ts) hS hB l i s h
  unfold stmtF at h ⊢
  simp only [lowT_at, kidsOf_low] at h ⊢
  obtain ⟨x, hx⟩ : ∃ x, x = ts.getD i node0 := ⟨_, rfl⟩
  simp only [← hx] at h ⊢
  have e1 : x.low.op = x.op := rfl
  have e2 : x.low.n = x.n := rfl
  have e3 : x.low.m = x.m := rfl
  rw [e1, e2, e3]
  by_cases q0 : x.op = 11
  · rw [if_pos q0] at h
    rw [if_pos q0, if_pos q0]
    split at h
    · rename_i hc
      rw [if_pos hc, if_pos ⟨hc.1, like_low hc.2⟩]
      have h1 := declareF_bad h
      simp only [highF, Bool.or_eq_false_iff] at h1
      rw [exprS_low h1.1]
    · cases h
  rw [if_neg q0] at h
  rw [if_neg q0, if_neg q0]
  by_cases q1 : x.op = 12
  · rw [if_pos q1] at h
    rw [if_pos q1, if_pos q1]
    split at h
    · rename_i hc
      rw [if_pos hc, if_pos ⟨hc.1, hc.2.1, like_low hc.2.2⟩]
      exact valueF_low h
    · cases h
  rw [if_neg q1] at h
  rw [if_neg q1, if_neg q1]
  by_cases q2 : x.op = 13
  · rw [if_pos q2] at h
    rw [if_pos q2, if_pos q2]
    split at h
    · rename_i hc
      rw [if_pos hc, if_pos ⟨hc.1, like_low hc.2⟩]
      rw [valueF_low (hb _ _ _ h)]
      exact hbl _ _ _ h
    · cases h
  rw [if_neg q2] at h
  rw [if_neg q2, if_neg q2]
  by_cases q3 : x.op = 14
  · rw [if_pos q3] at h
    rw [if_pos q3, if_pos q3]
    split at h
    · rename_i hc
      rw [if_pos hc, if_pos ⟨hc.1, hc.2.1, like_low hc.2.2⟩]
      rw [hbl _ _ _ h]
    · cases h
  rw [if_neg q3] at h
  rw [if_neg q3, if_neg q3]
  by_cases q4 : x.op = 15
  · rw [if_pos q4] at h
    rw [if_pos q4, if_pos q4]
    split at h
    · rename_i hc
      rw [if_pos hc, if_pos ⟨hc.1, hc.2.1, like_low hc.2.2⟩]
      rw [valueF_low (declareF_bad (hb _ _ _ h)), hbl _ _ _ h]
    · cases h
  rw [if_neg q4] at h
  rw [if_neg q4, if_neg q4]
  by_cases q5 : x.op = 16
  · rw [if_pos q5] at h
    rw [if_pos q5, if_pos q5]
    split at h
    · rename_i hc
      rw [if_pos hc, if_pos ⟨hc.1, like_low hc.2⟩]
      have key : ∀ l, (forget x.n (blocksF ts recS recB 0 l (declareF x.n false [3] (valueF ts ((kidsOf ts i).getD 0 0) 6 s)))).bad = false → blocksF (lowT ts) recS' recB' 0 l (declareF x.n false [3] (valueF (lowT ts) ((kidsOf ts i).getD 0 0) 6 s)) = blocksF ts recS recB 0 l (declareF x.n false [3] (valueF ts ((kidsOf ts i).getD 0 0) 6 s)) := fun l h => by
        have h0 : (blocksF ts recS recB 0 l (declareF x.n false [3] (valueF ts ((kidsOf ts i).getD 0 0) 6 s))).bad = false := h
        rw [valueF_low (declareF_bad (hb _ _ _ h0)), hbl _ _ _ h0]
      by_cases hb2 : (kidsOf ts i).length = 3 ∧ (forget x.n (blocksF ts recS recB 0 (((kidsOf ts i).drop 1).take 1) (declareF x.n false [3] (valueF ts ((kidsOf ts i).getD 0 0) 6 s)))).bad = false
      · rw [if_pos hb2] at h
        rw [key _ hb2.2, if_pos hb2, if_pos hb2]
        exact hB _ _ h
      · rw [if_neg hb2] at h
        rw [key _ h, if_neg hb2, if_neg hb2]
    · cases h
  rw [if_neg q5] at h
  rw [if_neg q5, if_neg q5]
  by_cases q6 : x.op = 17 ∨ x.op = 18
  · rw [if_pos q6] at h
    rw [if_pos q6, if_pos q6]
    simp only [Bool.or_eq_false_iff, Bool.not_eq_false'] at h
    rw [like_low h.2, h.2]
  rw [if_neg q6] at h
  rw [if_neg q6, if_neg q6]
  by_cases q7 : x.op = 19
  · rw [if_pos q7] at h
    rw [if_pos q7, if_pos q7]
    split at h
    · cases h
    · rename_i sg hs
      simp only [highF, Bool.or_eq_false_iff] at h
      rw [callF_low (rec := exprS ts s) (fun j => exprM_true _ _ _ _) (fun j hj => exprS_low hj) h.1]
  rw [if_neg q7] at h
  cases h
end
end
theorem sbM_low (ts : List Node) : ∀ f, (∀ i s, ((sbM ts f).1 i s).bad = false → (sbM (lowT ts) f).1 i s = (sbM ts f).1 i s) ∧ (∀ i s, ((sbM ts f).2 i s).bad = false → (sbM (lowT ts) f).2 i s = (sbM ts f).2 i s)
  | 0 => ⟨fun i s h => (by cases h), fun i s h => (by cases h)⟩
  | f + 1 => by
    obtain ⟨i1, i2⟩ := sbM_low ts f
    exact ⟨fun i s h => stmtF_low i1 i2 h, fun i s h => blockF_low i1 h⟩
end Go.Proofs.Ytggibiodeecljaa
namespace Go.Proofs.Ytggibiodeecljaa
open Go.RowKit

/-- What check.Able's yes says of an ability. -/
theorem able_whole {on : Int} {slots : List Int} {when_ : Bool} {ts : List Node} (h : checkAble on slots when_ ts = true) : ts.length ≤ 2000 ∧ 0 < ts.length ∧
    ∃ m : Nat, blockOf when_ ts = m ∧ m < ts.length ∧ behind ts m = ts.length ∧ Fit ts (ts.length + 1) m ∧ (when_ = true → behind ts 0 = m ∧ Fit ts (ts.length) 0) ∧ (when_ = false → m = 0) := by
  unfold checkAble at h
  simp only [Bool.and_eq_true, decide_eq_true_eq, Bool.not_eq_true'] at h
  obtain ⟨⟨⟨⟨⟨⟨h0, h1⟩, h2⟩, h3⟩, h4⟩, h5⟩, h6⟩ := h
  unfold wholeB at h4
  simp only [Bool.and_eq_true, decide_eq_true_eq] at h4
  obtain ⟨hb, he⟩ := h4
  obtain ⟨m, hm⟩ := Int.eq_ofNat_of_zero_le hb
  rw [hm, Int.toNat_natCast] at he
  have hml : m < ts.length := by
    by_cases h : m < ts.length
    · exact h
    · have e : behind ts m = -1 := by unfold behind; rw [if_neg h]
      rw [e] at he; omega
  have hb1 : (look1 when_ ts).bad = false := by
    unfold look2 at h5
    split at h5
    · rename_i hh; rw [hh] at h5; cases h5
    · rename_i hh; simpa using hh
  have hb2 : ((sbM ts (ts.length + 1)).2 m (look1 when_ ts)).bad = false := by
    unfold look2 at h5
    rw [if_neg (by rw [hb1]; decide), hm, Int.toNat_natCast] at h5
    exact h5
  refine ⟨h3, by omega, m, hm, hml, he, (sbM_fit ts (ts.length + 1) (Nat.le_refl _)).2 m _ hb2, fun hw => ?_, fun hw => ?_⟩
  · subst hw
    refine ⟨by unfold blockOf at hm; rw [if_pos rfl] at hm; exact hm, ?_⟩
    unfold look1 at hb1
    rw [if_pos rfl] at hb1
    unfold valueF highF at hb1
    simp only [wantedF, Bool.or_eq_false_iff] at hb1
    exact exprM_fit _ _ _ _ hb1.1.1
  · subst hw
    unfold blockOf at hm
    rw [if_neg (by decide)] at hm
    omega
end Go.Proofs.Ytggibiodeecljaa
namespace Go.Proofs.Ytggibiodeecljaa
open Go.RowKit
set_option linter.unusedVariables false

theorem able_wholeE {on : Int} {slots : List Int} {when_ : Bool} {ts : List Node} (h : checkAble on slots when_ ts = true) : FitE ts ts.length (blockOf when_ ts).toNat ∧ (when_ = true → FitE ts ts.length 0) := by
  unfold checkAble at h
  simp only [Bool.and_eq_true, decide_eq_true_eq, Bool.not_eq_true'] at h
  obtain ⟨⟨⟨⟨⟨⟨h0, h1⟩, h2⟩, h3⟩, h4⟩, h5⟩, h6⟩ := h
  have hb1 : (look1 when_ ts).bad = false := by
    unfold look2 at h5
    split at h5
    · rename_i hh; rw [hh] at h5; cases h5
    · rename_i hh; simpa using hh
  have hb2 : ((sbM ts (ts.length + 1)).2 (blockOf when_ ts).toNat (look1 when_ ts)).bad = false := by
    unfold look2 at h5
    rw [if_neg (by rw [hb1]; decide)] at h5
    exact h5
  refine ⟨((sbM_fitE ts (ts.length + 1) (Nat.le_refl _)).2 _ _ hb2).le (by omega), fun hw => ?_⟩
  subst hw
  unfold look1 at hb1
  rw [if_pos rfl] at hb1
  unfold valueF highF at hb1
  simp only [wantedF, Bool.or_eq_false_iff] at hb1
  exact exprM_fitE ts _ _ _ _ hb1.1.1
theorem madeM_small (pi : Int → Option Int) (pt : ByteArray → Option Int) {on : Int} {slots : List Int} {when_ : Bool} {ts : List Node} (h : checkAble on slots when_ ts = true) : (madeM pi pt when_ ts).ms ≤ 1000000 := by
  obtain ⟨f1, f2⟩ := able_wholeE h
  obtain ⟨hl, hp, m, hm, hml, he, _, hwt, hwf⟩ := able_whole h
  rw [hm, Int.toNat_natCast] at f1
  have z0 : (⟨[], false, []⟩ : MS).ms = 0 := rfl
  have b1 := emitM_bnd pi pt ts ts.length m f1
  unfold madeM
  dsimp only
  rw [opE_ms]
  cases when_ with
  | false =>
    have hm0 := hwf rfl
    subst hm0
    have h1 := b1 ⟨[], false, []⟩ (by rw [he]; omega) (by rw [he]; simpa using hp)
    rw [he, z0, Int.toNat_natCast] at h1
    simp only [Bool.false_eq_true, if_false, List.length_nil]
    omega
  | true =>
    obtain ⟨hb0, _⟩ := hwt rfl
    have h0 : 0 < m := by
      have hb := hb0
      rcases Nat.eq_zero_or_pos m with h | h
      · rw [h] at hb he; rw [he] at hb; omega
      · exact h
    have h1 := emitM_bnd pi pt ts ts.length 0 (f2 rfl) ⟨[], false, []⟩ (by rw [hb0]; omega) (by rw [hb0, Int.toNat_natCast]; exact h0)
    have h2 := b1 (aheadE 31 [] (emitM pi pt ts ts.length 0 ⟨[], false, []⟩)) (by rw [he]; omega) (by rw [he, Int.toNat_natCast]; exact hml)
    rw [hb0, z0, Int.toNat_natCast] at h1
    rw [he, aheadE_ms, Int.toNat_natCast] at h2
    simp only [if_true, hb0, Int.toNat_natCast, List.length_nil] at h2 ⊢
    rw [hereE_ms]
    omega
end Go.Proofs.Ytggibiodeecljaa
