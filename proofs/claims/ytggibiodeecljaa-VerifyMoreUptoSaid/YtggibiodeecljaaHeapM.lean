/- rows.Heap[int], as plain functions on the list of its entries. No program in sight. -/
import Derived.Test.YtggibiodeecljaaNode
namespace Go.Proofs.Ytggibiodeecljaa
open Go.RowKit
set_option linter.unusedVariables false

/-- An entry: the thing, and when it came. -/
abbrev HEnt := Int × Int
def aheadH (a b : HEnt) : Bool := decide (a.1 < b.1) || (!decide (b.1 < a.1) && decide (a.2 < b.2))
def atH (l : List HEnt) (i : Nat) : HEnt := l.getD i (0, 0)
def swapH (l : List HEnt) (i k : Nat) : List HEnt := (l.set i (atH l k)).set k (atH l i)
def upH : Nat → Nat → List HEnt → List HEnt
  | 0, _, l => l
  | f + 1, i, l => if 0 < i ∧ aheadH (atH l i) (atH l ((i - 1) / 2)) = true then upH f ((i - 1) / 2) (swapH l i ((i - 1) / 2)) else l
/-- Put, of one. -/
def putH (l : List HEnt) (e : HEnt) : List HEnt := upH (l.length + 1) l.length (l ++ [e])
/-- Which of the two below. -/
def kidH (l : List HEnt) (i : Nat) : Nat := if 2 * i + 2 < l.length ∧ aheadH (atH l (2 * i + 2)) (atH l (2 * i + 1)) = true then 2 * i + 2 else 2 * i + 1
def downH : Nat → Nat → List HEnt → List HEnt
  | 0, _, l => l
  | f + 1, i, l => if l.length ≤ 2 * i + 1 then l else if aheadH (atH l (kidH l i)) (atH l i) = true then downH f (kidH l i) (swapH l i (kidH l i)) else l
/-- The last one first, without the last. -/
def cutH (l : List HEnt) : List HEnt := (l.set 0 (atH l (l.length - 1))).take (l.length - 1)
/-- Take, of what is not empty: what is left. -/
def takeH (l : List HEnt) : List HEnt := downH (l.length - 1) 0 (cutH l)

theorem swapH_len (l : List HEnt) (i k : Nat) : (swapH l i k).length = l.length := by simp [swapH]
theorem upH_len : ∀ f i l, (upH f i l).length = l.length
  | 0, _, l => rfl
  | f + 1, i, l => by
    rw [upH]
    split
    · rw [upH_len f, swapH_len]
    · rfl
theorem putH_len (l : List HEnt) (e : HEnt) : (putH l e).length = l.length + 1 := by simp [putH, upH_len]
theorem downH_len : ∀ f i l, (downH f i l).length = l.length
  | 0, _, l => rfl
  | f + 1, i, l => by
    rw [downH]
    split
    · rfl
    split
    · rw [downH_len f, swapH_len]
    · rfl
theorem cutH_len (l : List HEnt) : (cutH l).length = l.length - 1 := by simp [cutH]
theorem takeH_len (l : List HEnt) : (takeH l).length = l.length - 1 := by rw [takeH, downH_len, cutH_len]
def entVals (l : List HEnt) : List Value := l.flatMap fun e => [.int .i64 e.1, .int .i64 e.2]
theorem entVals_len (l : List HEnt) : (entVals l).length = l.length * 2 := by
  induction l with
  | nil => rfl
  | cons x r ih => simp only [entVals, List.flatMap_cons, List.length_append, List.length_cons, List.length_nil] at ih ⊢; omega
theorem entVals_at : ∀ (l : List HEnt) (i : Nat), i < l.length → (entVals l)[i * 2]? = some (.int .i64 (atH l i).1) ∧ (entVals l)[i * 2 + 1]? = some (.int .i64 (atH l i).2)
  | [], i, h => by simp at h
  | x :: r, 0, _ => ⟨rfl, rfl⟩
  | x :: r, i + 1, h => by
    have := entVals_at r i (by simpa using h)
    have e : entVals (x :: r) = .int .i64 x.1 :: .int .i64 x.2 :: entVals r := rfl
    rw [e, show (i + 1) * 2 = i * 2 + 1 + 1 by omega]
    exact this
theorem entVals_app (l m : List HEnt) : entVals (l ++ m) = entVals l ++ entVals m := by simp [entVals]
theorem entVals_set : ∀ (l : List HEnt) (i : Nat) (e : HEnt), entVals (l.set i e) = ((entVals l).set (i * 2) (.int .i64 e.1)).set (i * 2 + 1) (.int .i64 e.2)
  | [], i, e => by simp [entVals]
  | x :: r, 0, e => rfl
  | x :: r, i + 1, e => by
    have h := entVals_set r i e
    have q : ∀ y s, entVals (y :: s) = .int .i64 y.1 :: .int .i64 y.2 :: entVals s := fun _ _ => rfl
    rw [List.set_cons_succ, q, q, h, show (i + 1) * 2 = i * 2 + 1 + 1 by omega, show i * 2 + 1 + 1 + 1 = (i * 2 + 1) + 1 + 1 by omega]
    rfl
theorem entVals_take (l : List HEnt) (n : Nat) : entVals (l.take n) = (entVals l).take (n * 2) := by
  induction l generalizing n with
  | nil => simp [entVals]
  | cons x r ih =>
    cases n with
    | zero => simp [entVals]
    | succ n =>
      have q : ∀ y s, entVals (y :: s) = .int .i64 y.1 :: .int .i64 y.2 :: entVals s := fun _ _ => rfl
      rw [List.take_succ_cons, q, q, ih, show (n + 1) * 2 = n * 2 + 1 + 1 by omega]
      rfl
end Go.Proofs.Ytggibiodeecljaa
