/- verify.Code, as plain functions. No program in sight. -/
import Derived.Test.YtggibiodeecljaaAll
import Derived.Test.YtggibiodeecljaaHeapM
import Derived.Test.YtggibiodeecljaaKinds
namespace Go.Proofs.Ytggibiodeecljaa
open Go.RowKit
set_option linter.unusedVariables false

/-- verify.limits. -/
def limitsV (b slots : List Int) (ints texts : Int) : Int :=
  if 65535 < b.length ∨ 32 < slots.length ∨ slots.any (fun k => decide (k < 1) || decide (6 < k)) = true ∨ ints < 0 ∨ 4096 < ints ∨ texts < 0 ∨ 4096 < texts then 56
  else if slots.length < 2 ∨ slots.getD 0 0 ≠ 3 ∨ slots.getD 1 0 ≠ 4 then 43
  else if b.length = 0 then 49
  else 0
def poolV (ints texts : Int) (op : Int) : Option Int :=
  if op = 1 then some ints else if op = 45 then some texts else if op = 41 then some 4 else if op = 46 then some 13 else if op = 60 then some 9 else none
/-- checker.numbers. -/
def numbersV (slots : List Int) (ints texts : Int) (x : Ins) : Int :=
  if x.op = 4 ∨ x.op = 5 then (if (slots.length : Int) ≤ x.a then 43 else 0)
  else if x.op = 32 then
    if (slots.length : Int) ≤ x.a ∨ (slots.length : Int) ≤ x.b then 43
    else if slots.getD x.a.toNat 0 ≠ 6 ∨ slots.getD x.b.toNat 0 ≠ 1 then 46 else 0
  else if x.op = 24 then (if x.a < 1 ∨ 5 < x.a then 42 else 0)
  else match poolV ints texts x.op with
    | some m => if m ≤ x.a then 42 else 0
    | none => 0
/-- target. -/
def targetV (x : Ins) : Option Int := if x.op = 30 ∨ x.op = 31 ∨ x.op = 33 then some x.a else if x.op = 32 then some x.c else none
/-- The second look: the instructions, or the first fault and its offset. -/
def scanV (b slots : List Int) (ints texts : Int) : Nat → Nat → List Ins → List Ins ⊕ (Int × Int)
  | 0, _, acc => .inl acc
  | f + 1, o, acc =>
    if b.length ≤ o then .inl acc
    else if (readM b o).2 ≠ 0 then .inr ((readM b o).2, o)
    else if numbersV slots ints texts (readM b o).1 ≠ 0 then .inr (numbersV slots ints texts (readM b o).1, o)
    else scanV b slots ints texts f (o + (sizeI (readM b o).1.op).toNat) (acc ++ [(readM b o).1])
def insAt (l : List Ins) (o : Int) : Option Ins := l.find? (fun x => x.at_ == o)
/-- The third look: the first jump that leads to no instruction. -/
def jumpsV (l : List Ins) : List Ins → Option (Int × Int)
  | [] => none
  | x :: r => match targetV x with
    | some tg => if (insAt l tg).isSome = true then jumpsV l r else some (44, x.at_)
    | none => jumpsV l r
/-- What an instruction takes and lays. -/
def takesV (slots : List Int) (x : Ins) : List Int × List Int :=
  if x.op = 1 then ([], [1])
  else if x.op = 2 ∨ x.op = 3 then ([], [2])
  else if x.op = 4 then ([], [slots.getD x.a.toNat 0])
  else if x.op = 5 then ([slots.getD x.a.toNat 0], [])
  else if x.op = 10 ∨ x.op = 11 ∨ x.op = 12 ∨ x.op = 13 ∨ x.op = 14 ∨ x.op = 17 ∨ x.op = 18 then ([1, 1], [1])
  else if x.op = 15 ∨ x.op = 16 ∨ x.op = 42 then ([1], [1])
  else if x.op = 19 ∨ x.op = 20 ∨ x.op = 21 ∨ x.op = 22 then ([1, 1], [2])
  else if x.op = 23 then ([2], [2])
  else if x.op = 24 then ([IntKind.i8.wrap x.a, IntKind.i8.wrap x.a], [2])
  else if x.op = 31 then ([2], [])
  else if x.op = 32 then ([], [3])
  else if x.op = 33 then ([6], [3])
  else if x.op = 40 then ([4], [4])
  else if x.op = 41 then ([4], [5])
  else if x.op = 43 then ([5], [3])
  else if x.op = 44 then ([6, 3], [2])
  else if x.op = 45 then ([3], [2])
  else if x.op = 46 then ((fieldsM.getD x.a.toNat ⟨ByteArray.empty, [], 0, false⟩).args, [(fieldsM.getD x.a.toNat ⟨ByteArray.empty, [], 0, false⟩).tell])
  else if x.op = 60 then ((effectsM.getD x.a.toNat ⟨ByteArray.empty, [], 0, false⟩).args, [])
  else ([], [])

/-- The look's state: the shapes so far, the heap of what waits, the next number of an entry. -/
structure VS where
  stacks : Int → Option (List Int)
  heap : List HEnt
  came : Int
def setV (f : Int → Option (List Int)) (o : Int) (s : List Int) : Int → Option (List Int) := fun y => if y = o then some s else f y
/-- checker.give. -/
def giveV (len : Nat) (frm tg : Int) (st : List Int) (v : VS) : VS × Option (Int × Int) :=
  if (len : Int) ≤ tg then (v, some (49, frm))
  else match v.stacks tg with
    | some s => if s = st then (v, none) else (v, some (48, tg))
    | none => (⟨setV v.stacks tg st, putH v.heap (tg, v.came), v.came + 1⟩, none)
/-- checker.look. -/
def lookV (len : Nat) (slots : List Int) (x : Ins) (v : VS) : VS × Option (Int × Int) :=
  let t := takesV slots x
  let s := (v.stacks x.at_).getD []
  if s.length < t.1.length then (v, some (45, x.at_))
  else
    let bare := s.take (s.length - t.1.length)
    if s.drop (s.length - t.1.length) ≠ t.1 then (v, some (46, x.at_))
    else if 256 < (bare ++ t.2).length then (v, some (47, x.at_))
    else if x.op = 34 ∨ x.op = 35 then (v, none)
    else
      let r := if x.op = 30 then (v, none) else giveV len x.at_ (x.at_ + sizeI x.op) (bare ++ t.2) v
      match r.2 with
      | some f => (r.1, some f)
      | none => match targetV x with
        | none => (r.1, none)
        | some tg => giveV len x.at_ tg (if x.op = 32 ∨ x.op = 33 then bare else bare ++ t.2) r.1
/-- The loop of Code. -/
def loopV (len : Nat) (slots : List Int) (l : List Ins) : Nat → VS → VS × Option (Int × Int)
  | 0, v => (v, none)
  | f + 1, v =>
    if v.heap = [] then (v, none)
    else
      let r := lookV len slots ((insAt l (atH v.heap 0).1).getD ins0) ⟨v.stacks, takeH v.heap, v.came⟩
      match r.2 with
      | some e => (r.1, some e)
      | none => loopV len slots l f r.1
def startV : VS := ⟨setV (fun _ => none) 0 [], [(0, 0)], 1⟩
/-- The shapes in the order of their offsets. -/
def shapesV (len : Nat) (f : Int → Option (List Int)) : List (Int × List Int) := (List.range len).filterMap fun (o : Nat) => (f (o : Int)).map fun s => ((o : Int), s)
def highV (l : List (Int × List Int)) : Int := l.foldl (fun m p => max m (p.2.length : Int)) 0
/-- verify.Code: the shapes, the height; or the fault: the error and the offset. -/
def codeV (b slots : List Int) (ints texts : Int) : List (Int × List Int) × Int × Int × Int :=
  if limitsV b slots ints texts ≠ 0 then ([], 0, limitsV b slots ints texts, 0)
  else match scanV b slots ints texts b.length 0 [] with
    | .inr (e, o) => ([], 0, e, o)
    | .inl l => match jumpsV l l with
      | some (e, o) => ([], 0, e, o)
      | none => match loopV b.length slots l b.length startV with
        | (_, some (e, o)) => ([], 0, e, o)
        | (v, none) => (shapesV b.length v.stacks, highV (shapesV b.length v.stacks), 0, 0)
end Go.Proofs.Ytggibiodeecljaa
