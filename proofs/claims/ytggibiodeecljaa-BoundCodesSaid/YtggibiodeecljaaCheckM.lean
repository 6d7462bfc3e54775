/- What check.Able's looker computes, as plain functions. -/
import Derived.Test.YtggibiodeecljaaLook
import Derived.Test.YtggibiodeecljaaTreeP
import Derived.Test.YtggibiodeecljaaSign
import Derived.Test.YtggibiodeecljaaSmall
namespace Go.Proofs.Ytggibiodeecljaa
open Go.RowKit

/-- An expression's kind, its height, and whether something was not so. -/
abbrev ER := Int × Int × Bool

def wantedF (r : ER) (kind : Int) : Int × Bool := (r.2.1, r.2.2 || !(r.1 == kind))
def signOf (l : List Sign) (n : Int) : Option Sign := if n < 0 then none else l[n.toNat]?

section
variable (rec : Nat → Bool → ER) (ts : List Node)

def callLoop : List (Nat × Int) → Int → Int → Bool → Int × Bool
  | [], high, _, bad => (high, bad)
  | (kid, arg) :: r, high, values, bad =>
    let y := ts.getD kid node0
    if arg = -1 then callLoop r high values ((bad || !(y.op == 51 && y.kids == 0 && decide (0 ≤ y.n) && decide (y.n ≤ 3))) || !(likeB y 0 y.n 0))
    else if arg = -2 then callLoop r high values ((bad || !(y.op == 52 && y.kids == 0 && rightM y.text)) || !(likeB y 0 0 0))
    else callLoop r (max high (values + (wantedF (rec kid bad) arg).1)) (values + 1) (wantedF (rec kid bad) arg).2

/-- looker.call, nothing bad so far. -/
def callF (i : Nat) (kids : List Nat) (s : Sign) : Int × Bool :=
  let x := ts.getD i node0
  if kids.length = s.args.length ∧ likeB x s.tell x.n 0 = true then callLoop rec ts (kids.zip s.args) 0 0 false else (0, true)

/-- looker.operator, nothing bad so far. -/
def operatorF (i : Nat) (kids : List Nat) : ER :=
  let x := ts.getD i node0
  let many := if x.op = 34 ∨ x.op = 35 then 1 else 2
  if (34 ≤ x.op ∧ x.op ≤ 48) ∧ kids.length = many ∧ likeB x (operatorM x.op).2 0 0 = true then
    let first : Int × Int × Bool :=
      if x.op = 38 ∨ x.op = 39 then ((rec (kids.getD 0 0) false).1, (rec (kids.getD 0 0) false).2.1, (rec (kids.getD 0 0) false).2.2 || !((rec (kids.getD 0 0) false).1 != 6))
      else ((operatorM x.op).1, (wantedF (rec (kids.getD 0 0) false) (operatorM x.op).1).1, (wantedF (rec (kids.getD 0 0) false) (operatorM x.op).1).2)
    if many = 2 ∧ first.2.2 = false then
      let w := wantedF (rec (kids.getD 1 0) false) first.1
      ((operatorM x.op).2, max first.2.1 (if x.op ≠ 37 ∧ x.op ≠ 36 then w.1 + 1 else w.1), w.2)
    else ((operatorM x.op).2, first.2.1, first.2.2)
  else (0, 0, true)

/-- looker.expr. -/
def exprF (slots : List Int) (seen : Int → Option Value) (i : Nat) (bad : Bool) : ER :=
  let x := ts.getD i node0
  let kids := kidsOf ts i
  if bad = true then (0, 0, true)
  else if x.op = 30 then (1, 1, !(decide (0 ≤ x.n) && decide (kids.length = 0)) || !(likeB x 1 x.n 0))
  else if x.op = 31 ∨ x.op = 32 then (2, 1, !(decide (kids.length = 0)) || !(likeB x 2 0 0))
  else if x.op = 33 then
    if (seen x.n).isSome = true ∧ 0 ≤ x.n ∧ x.n < 1048576 ∧ kids.length = 0 then (slots.getD x.n.toNat 0, 1, !(likeB x (slots.getD x.n.toNat 0) x.n 0)) else (0, 0, true)
  else if x.op = 49 then
    match signOf fieldsM x.n with
    | none => (0, 0, true)
    | some s => if kids.length = 1 ∧ likeB x s.tell x.n 0 = true then (s.tell, (wantedF (rec (kids.getD 0 0) false) (s.args.getD 0 0)).1, (wantedF (rec (kids.getD 0 0) false) (s.args.getD 0 0)).2) else (0, 0, true)
  else if x.op = 50 then
    match signOf funcsM x.n with
    | none => (0, 0, true)
    | some s => (s.tell, max 1 (callF rec ts i kids s).1, (callF rec ts i kids s).2)
  else operatorF rec ts i kids
end

def exprM (ts : List Node) (slots : List Int) (seen : Int → Option Value) : Nat → Nat → Bool → ER
  | 0, _, _ => (0, 0, true)
  | f + 1, i, bad => exprF (exprM ts slots seen f) ts slots seen i bad

/-- Heights are small: no more than the fuel, twice. -/
theorem callLoop_high (rec : Nat → Bool → ER) (ts : List Node) (H : Int) (hH : 0 ≤ H) (hr : ∀ i b, 0 ≤ (rec i b).2.1 ∧ (rec i b).2.1 ≤ H) : ∀ (l : List (Nat × Int)) (high values : Int) (bad : Bool), 0 ≤ high → high ≤ H + values → 0 ≤ values →
    0 ≤ (callLoop rec ts l high values bad).1 ∧ (callLoop rec ts l high values bad).1 ≤ H + values + l.length
  | [], high, values, bad, h1, h2, _ => by simp only [callLoop, List.length_nil]; omega
  | (kid, arg) :: r, high, values, bad, h1, h2, h3 => by
    have hk := hr kid bad
    simp only [callLoop, List.length_cons]
    split
    · have := callLoop_high rec ts H hH hr r high values ((bad || !((ts.getD kid node0).op == 51 && (ts.getD kid node0).kids == 0 && decide (0 ≤ (ts.getD kid node0).n) && decide ((ts.getD kid node0).n ≤ 3))) || !(likeB (ts.getD kid node0) 0 (ts.getD kid node0).n 0)) h1 h2 h3
      omega
    · split
      · have := callLoop_high rec ts H hH hr r high values ((bad || !((ts.getD kid node0).op == 52 && (ts.getD kid node0).kids == 0 && rightM (ts.getD kid node0).text)) || !(likeB (ts.getD kid node0) 0 0 0)) h1 h2 h3
        omega
      · have hw : (wantedF (rec kid bad) arg).1 = (rec kid bad).2.1 := rfl
        have := callLoop_high rec ts H hH hr r (max high (values + (wantedF (rec kid bad) arg).1)) (values + 1) (wantedF (rec kid bad) arg).2 (by omega) (by omega) (by omega)
        omega

theorem signOf_mem {l : List Sign} {n : Int} {s : Sign} (h : signOf l n = some s) : 0 ≤ n ∧ n.toNat < l.length ∧ l[n.toNat]? = some s ∧ s ∈ l := by
  unfold signOf at h
  split at h
  · cases h
  · exact ⟨by omega, (List.getElem?_eq_some_iff.1 h).1, h, List.mem_of_getElem? h⟩
theorem funcs_args {s : Sign} (h : s ∈ funcsM) : s.args.length ≤ 2 := by
  have : ∀ s ∈ funcsM, s.args.length ≤ 2 := by simp [funcsM]
  exact this s h
theorem effects_args {s : Sign} (h : s ∈ effectsM) : s.args.length ≤ 2 := by
  have : ∀ s ∈ effectsM, s.args.length ≤ 2 := by simp [effectsM]
  exact this s h
theorem fields_args {s : Sign} (h : s ∈ fieldsM) : s.args.length = 1 := by
  have : ∀ s ∈ fieldsM, s.args.length = 1 := by simp [fieldsM]
  exact this s h

theorem callF_high (rec : Nat → Bool → ER) (ts : List Node) (H : Int) (hH : 0 ≤ H) (hr : ∀ i b, 0 ≤ (rec i b).2.1 ∧ (rec i b).2.1 ≤ H) (i : Nat) (kids : List Nat) (s : Sign) (hs : s.args.length ≤ 2) :
    0 ≤ (callF rec ts i kids s).1 ∧ (callF rec ts i kids s).1 ≤ H + 2 := by
  unfold callF
  simp only
  split
  · rename_i h
    have := callLoop_high rec ts H hH hr (kids.zip s.args) 0 0 false (by omega) (by omega) (by omega)
    have hl : (kids.zip s.args).length ≤ 2 := by rw [List.length_zip]; omega
    omega
  · simp only; omega

theorem exprF_high (rec : Nat → Bool → ER) (ts : List Node) (H : Int) (hH : 0 ≤ H) (hr : ∀ i b, 0 ≤ (rec i b).2.1 ∧ (rec i b).2.1 ≤ H) (slots : List Int) (seen : Int → Option Value) (i : Nat) (bad : Bool) :
    0 ≤ (exprF rec ts slots seen i bad).2.1 ∧ (exprF rec ts slots seen i bad).2.1 ≤ H + 2 := by
  unfold exprF
  simp only
  split
  · simp only; omega
  split
  · simp only; omega
  split
  · simp only; omega
  split
  · split <;> simp only <;> omega
  split
  · split
    · simp only; omega
    · split
      · have := hr ((kidsOf ts i).getD 0 0) false
        simp only [wantedF]; omega
      · simp only; omega
  split
  · split
    · simp only; omega
    · rename_i s hs
      have := callF_high rec ts H hH hr i (kidsOf ts i) s (funcs_args (signOf_mem hs).2.2.2)
      simp only; omega
  · unfold operatorF
    simp only
    have h0 := hr ((kidsOf ts i).getD 0 0) false
    have h1 := hr ((kidsOf ts i).getD 1 0) false
    generalize (if (ts.getD i node0).op = 34 ∨ (ts.getD i node0).op = 35 then 1 else 2) = many
    split
    · by_cases hq : (ts.getD i node0).op = 38 ∨ (ts.getD i node0).op = 39
      · simp only [hq, if_true]
        split
        · simp only [wantedF]
          split <;> omega
        · simp only; omega
      · simp only [hq, if_false]
        split
        · simp only [wantedF]
          split <;> omega
        · simp only [wantedF]; omega
    · simp only; omega

theorem exprM_high (ts : List Node) (slots : List Int) (seen : Int → Option Value) : ∀ (f i : Nat) (bad : Bool), 0 ≤ (exprM ts slots seen f i bad).2.1 ∧ (exprM ts slots seen f i bad).2.1 ≤ 2 * f
  | 0, i, bad => by simp [exprM]
  | f + 1, i, bad => by
    have := exprF_high (exprM ts slots seen f) ts (2 * f) (by omega) (fun i b => exprM_high ts slots seen f i b) slots seen i bad
    rw [exprM]
    omega
end Go.Proofs.Ytggibiodeecljaa
