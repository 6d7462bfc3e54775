/- Floats: words, or what is no number; what '+', '-', '*', '/' give. No program in sight. -/
import Derived.Test.YtocekmgjhdlkgaaGreatDoorNode
import Derived.WalkLawsBesides
namespace Go.Proofs.YtocekmgjhdlkgaaGreatDoor
open Go.RowKit
set_option linter.unusedVariables false

abbrev dbl : Ieee.Format := FloatKind.f64.format
/-- A word that stands for itself, or is no number. -/
def Rep (b : Nat) (o : Option Nat) : Prop := o = some b ∨ (o = none ∧ dbl.order b b = none)
def fop (op : BinOp) : Option Nat → Option Nat → Option Nat
  | some x, some y => floatBits op .f64 x y
  | _, _ => none
def Arith (op : BinOp) : Prop := op = .add ∨ op = .sub ∨ op = .mul ∨ op = .quo
theorem order_none {d : Ieee.Datum} (h : d.order d = none) : ∃ s f, d = .nan s f := by
  cases d with
  | nan s f => exact ⟨s, f, rfl⟩
  | infinity s => cases h
  | number s m i => cases h
theorem nan_read {b : Nat} (h : dbl.order b b = none) : ∃ s f, dbl.read b = .nan s f := order_none h
theorem sum_nan (d : Ieee.Datum) (s : Bool) (f : Nat) : (Ieee.Datum.nan s f).sum d = none ∧ d.sum (.nan s f) = none := by
  cases d <;> exact ⟨rfl, rfl⟩
theorem product_nan (d : Ieee.Datum) (s : Bool) (f : Nat) : (Ieee.Datum.nan s f).product d = none ∧ d.product (.nan s f) = none := by
  cases d <;> exact ⟨rfl, rfl⟩
theorem quotient_nan (k : Nat) (d : Ieee.Datum) (s : Bool) (f : Nat) : (Ieee.Datum.nan s f).quotient k d = none ∧ d.quotient k (.nan s f) = none := by
  cases d <;> exact ⟨rfl, rfl⟩
theorem nan_left {op : BinOp} (hop : Arith op) {x y : Nat} (h : dbl.order x x = none) : floatBits op .f64 x y = none := by
  obtain ⟨s, f, e⟩ := nan_read h
  rcases hop with rfl | rfl | rfl | rfl
  · show ((dbl.read x).sum (dbl.read y)).map dbl.write = none
    rw [e, (sum_nan _ _ _).1]; rfl
  · show ((dbl.read x).sum (dbl.read y).opposite).map dbl.write = none
    rw [e, (sum_nan _ _ _).1]; rfl
  · show ((dbl.read x).product (dbl.read y)).map dbl.write = none
    rw [e, (product_nan _ _ _).1]; rfl
  · show ((dbl.read x).quotient _ (dbl.read y)).map dbl.write = none
    rw [e, (quotient_nan _ _ _ _).1]; rfl
theorem nan_right {op : BinOp} (hop : Arith op) {x y : Nat} (h : dbl.order y y = none) : floatBits op .f64 x y = none := by
  obtain ⟨s, f, e⟩ := nan_read h
  rcases hop with rfl | rfl | rfl | rfl
  · show ((dbl.read x).sum (dbl.read y)).map dbl.write = none
    rw [e, (sum_nan _ _ _).2]; rfl
  · show ((dbl.read x).sum (dbl.read y).opposite).map dbl.write = none
    rw [e]
    show ((dbl.read x).sum (.nan (!s) f)).map dbl.write = none
    rw [(sum_nan _ _ _).2]; rfl
  · show ((dbl.read x).product (dbl.read y)).map dbl.write = none
    rw [e, (product_nan _ _ _).2]; rfl
  · show ((dbl.read x).quotient _ (dbl.read y)).map dbl.write = none
    rw [e, (quotient_nan _ _ _ _).2]; rfl
theorem rep_bits {op : BinOp} (hop : Arith op) {x y : Nat} {o p : Option Nat} (hx : Rep x o) (hy : Rep y p) : floatBits op .f64 x y = fop op o p := by
  rcases hx with rfl | ⟨rfl, hx⟩
  · rcases hy with rfl | ⟨rfl, hy⟩
    · rfl
    · rw [nan_right hop hy]; rfl
  · rw [nan_left hop hx]
    cases p <;> rfl
/-- The result's word. -/
def fres (op : BinOp) (x y : Nat) (w : World) : Nat := match floatBits op .f64 x y with
  | some r => r
  | none => (Question.nanBits .f64 x y).cut (w.tape w.drawn (.nanBits .f64 x y))
/-- The world behind. -/
def fwor (op : BinOp) (x y : Nat) (w : World) : World := match floatBits op .f64 x y with
  | some _ => w
  | none => w.drew
theorem nan_cut (q : Question) (x y t : Nat) (hq : q = .nanBits .f64 x y) : dbl.order (q.cut t) (q.cut t) = none := by
  subst hq
  have h : ∃ s f, dbl.read ((t % 2) * 2 ^ 63 + 0x7ff0000000000000 + 1 + (t / 2) % (2 ^ 52 - 1)) = .nan s f := by
    have h1 : (t / 2) % (2 ^ 52 - 1) < 2 ^ 52 - 1 := Nat.mod_lt _ (by decide)
    have h2 : t % 2 < 2 := Nat.mod_lt _ (by decide)
    generalize (t / 2) % (2 ^ 52 - 1) = a at h1
    generalize t % 2 = c at h2
    have hw : dbl.signWeight = 2 ^ 63 := rfl
    have hb : dbl.binade = 2 ^ 52 := rfl
    have hi : dbl.infRung = 0x7ff0000000000000 := rfl
    have hr : (c * 2 ^ 63 + 0x7ff0000000000000 + 1 + a) % 2 ^ 63 = 0x7ff0000000000000 + 1 + a := by omega
    refine ⟨(c * 2 ^ 63 + 0x7ff0000000000000 + 1 + a) / 2 ^ 63 % 2 == 1, (0x7ff0000000000000 + 1 + a) - 0x7ff0000000000000, ?_⟩
    unfold Ieee.Format.read
    simp only [hw, hr, hb, hi]
    rw [if_neg (by omega), if_neg (by omega), if_neg (by omega)]
  obtain ⟨s, f, e⟩ := h
  show (dbl.read ((t % 2) * 2 ^ 63 + 0x7ff0000000000000 + 1 + (t / 2) % (2 ^ 52 - 1))).order (dbl.read ((t % 2) * 2 ^ 63 + 0x7ff0000000000000 + 1 + (t / 2) % (2 ^ 52 - 1))) = none
  rw [e]
  rfl
theorem rep_res {op : BinOp} (hop : Arith op) {x y : Nat} {o p : Option Nat} (w : World) (hx : Rep x o) (hy : Rep y p) : Rep (fres op x y w) (fop op o p) := by
  have h := rep_bits hop hx hy
  unfold fres
  rw [← h]
  cases hq : floatBits op .f64 x y with
  | some r => exact .inl rfl
  | none => exact .inr ⟨rfl, nan_cut _ x y _ rfl⟩
theorem rep_self (b : Nat) : Rep b (some b) := .inl rfl
theorem fwor_draw (op : BinOp) (x y : Nat) (w : World) : ∃ n, fwor op x y w = w.drewN n := by
  unfold fwor
  cases floatBits op .f64 x y with
  | some r => exact ⟨0, rfl⟩
  | none => exact ⟨1, rfl⟩
theorem fwor_cell (op : BinOp) (x y : Nat) (w : World) (p : Addr) : (fwor op x y w).cell? p = w.cell? p := by
  obtain ⟨n, h⟩ := fwor_draw op x y w
  rw [h]; rfl
theorem fwor_frozen (op : BinOp) (x y : Nat) (w : World) (p : Addr) : (fwor op x y w).frozen? p = w.frozen? p := by
  obtain ⟨n, h⟩ := fwor_draw op x y w
  rw [h]; rfl
theorem fwor_size (op : BinOp) (x y : Nat) (w : World) : (fwor op x y w).heap.size = w.heap.size := by
  obtain ⟨n, h⟩ := fwor_draw op x y w
  rw [h]; rfl
theorem run_f {P : Program} {op : BinOp} (hop : Arith op) (t : TypeId) (x y : Nat) (w : World) : (binOp op t (.float .f64 x) (.float .f64 y)).run P w = .ok (.float .f64 (fres op x y w)) (fwor op x y w) := by
  unfold fres fwor
  cases h : floatBits op .f64 x y with
  | some r => exact run_float_arith w op t .f64 x y r h
  | none =>
    rcases hop with rfl | rfl | rfl | rfl <;> simp only [floatBits] at h <;> simp [binOp, Op.floatArith, h, choose, Sem.run, Question.forced] <;> rfl
/-- Two that are the same, or no numbers both. -/
theorem rep_same {a b : Nat} {o : Option Nat} (ha : Rep a o) (hb : Rep b o) : (dbl.order a b == some .eq || ((dbl.order a a != some .eq) && (dbl.order b b != some .eq))) = true := by
  rcases ha with h1 | ⟨h1, h2⟩
  · rcases hb with h3 | ⟨h3, h4⟩
    · rw [h1] at h3
      injection h3 with h3
      subst h3
      by_cases h : dbl.order a a = some .eq
      · simp [h]
      · simp [h]
    · rw [h1] at h3; cases h3
  · rcases hb with h3 | ⟨h3, h4⟩
    · rw [h1] at h3; cases h3
    · rw [h2, h4]
      cases dbl.order a b with
      | none => rfl
      | some v => cases v <;> rfl
/-- The mean and the sum behind so many numbers. -/
def ofI (n : Int) : Nat := floatOfInt .f64 n
def welStep (st : Option Nat × Option Nat) (i : Nat) (x : Nat) : Option Nat × Option Nat :=
  let d := fop .sub (some x) st.1
  let m := fop .add st.1 (fop .quo d (some (ofI ((i : Int) + 1))))
  (m, fop .add st.2 (fop .mul d (fop .sub (some x) m)))
def welTo (l : List Nat) : Nat → Option Nat × Option Nat
  | 0 => (some 0, some 0)
  | k + 1 => welStep (welTo l k) k (l.getD k 0)
def welM (l : List Nat) : Option Nat × Option Nat :=
  if l = [] then (none, none) else ((welTo l l.length).1, fop .quo (welTo l l.length).2 (some (ofI l.length)))
end Go.Proofs.YtocekmgjhdlkgaaGreatDoor
