/- What check.Able's looker computes, as plain functions. What check.Able's looker does at statements and blocks, as plain functions. What the looker's yes says of a tree's shape. No program in sight. -/
import Derived.Test.YtggibiodeecljaaMLook
import Derived.Test.YtggibiodeecljaaMBase
import Derived.Test.YtggibiodeecljaaMKinds
namespace Go.Proofs.Ytggibiodeecljaa
open Go.RowKit

/-- An expression's kind, its height, and whether something was not so. -/
abbrev ER := Int × Int × Bool

def wantedF (r : ER) (kind : Int) : Int × Bool := (r.2.1, r.2.2 || !(r.1 == kind))
def signOf (l : List Sign) (n : Int) : Option Sign := if n < 0 then none else l[n.toNat]?

section
variable (rec : Nat → Bool → ER) (ts : List Node)

def callLoop : List (Nat × Int) → Int → Int → Bool → Int × Bool
  | [], high, _, bad => (high, bad)
  | (kid, arg) :: r, high, values, bad =>
    let y := ts.getD kid node0
    if arg = -1 then callLoop r high values ((bad || !(y.op == 51 && y.kids == 0 && decide (0 ≤ y.n) && decide (y.n ≤ 3))) || !(likeB y 0 y.n 0))
    else if arg = -2 then callLoop r high values ((bad || !(y.op == 52 && y.kids == 0 && rightM y.text)) || !(likeB y 0 0 0))
    else callLoop r (max high (values + (wantedF (rec kid bad) arg).1)) (values + 1) (wantedF (rec kid bad) arg).2

/-- looker.call, nothing bad so far. -/
def callF (i : Nat) (kids : List Nat) (s : Sign) : Int × Bool :=
  let x := ts.getD i node0
  if kids.length = s.args.length ∧ likeB x s.tell x.n 0 = true then callLoop rec ts (kids.zip s.args) 0 0 false else (0, true)

/-- looker.operator, nothing bad so far. -/
def operatorF (i : Nat) (kids : List Nat) : ER :=
  let x := ts.getD i node0
  let many := if x.op = 34 ∨ x.op = 35 then 1 else 2
  if (34 ≤ x.op ∧ x.op ≤ 48) ∧ kids.length = many ∧ likeB x (operatorM x.op).2 0 0 = true then
    let first : Int × Int × Bool :=
      if x.op = 38 ∨ x.op = 39 then ((rec (kids.getD 0 0) false).1, (rec (kids.getD 0 0) false).2.1, (rec (kids.getD 0 0) false).2.2 || !((rec (kids.getD 0 0) false).1 != 6))
      else ((operatorM x.op).1, (wantedF (rec (kids.getD 0 0) false) (operatorM x.op).1).1, (wantedF (rec (kids.getD 0 0) false) (operatorM x.op).1).2)
    if many = 2 ∧ first.2.2 = false then
      let w := wantedF (rec (kids.getD 1 0) false) first.1
      ((operatorM x.op).2, max first.2.1 (if x.op ≠ 37 ∧ x.op ≠ 36 then w.1 + 1 else w.1), w.2)
    else ((operatorM x.op).2, first.2.1, first.2.2)
  else (0, 0, true)

/-- looker.expr. -/
def exprF (slots : List Int) (seen : Int → Option Value) (i : Nat) (bad : Bool) : ER :=
  let x := ts.getD i node0
  let kids := kidsOf ts i
  if bad = true then (0, 0, true)
  else if x.op = 30 then (1, 1, !(decide (0 ≤ x.n) && decide (kids.length = 0)) || !(likeB x 1 x.n 0))
  else if x.op = 31 ∨ x.op = 32 then (2, 1, !(decide (kids.length = 0)) || !(likeB x 2 0 0))
  else if x.op = 33 then
    if (seen x.n).isSome = true ∧ 0 ≤ x.n ∧ x.n < 1048576 ∧ kids.length = 0 then (slots.getD x.n.toNat 0, 1, !(likeB x (slots.getD x.n.toNat 0) x.n 0)) else (0, 0, true)
  else if x.op = 49 then
    match signOf fieldsM x.n with
    | none => (0, 0, true)
    | some s => if kids.length = 1 ∧ likeB x s.tell x.n 0 = true then (s.tell, (wantedF (rec (kids.getD 0 0) false) (s.args.getD 0 0)).1, (wantedF (rec (kids.getD 0 0) false) (s.args.getD 0 0)).2) else (0, 0, true)
  else if x.op = 50 then
    match signOf funcsM x.n with
    | none => (0, 0, true)
    | some s => (s.tell, max 1 (callF rec ts i kids s).1, (callF rec ts i kids s).2)
  else operatorF rec ts i kids
end

def exprM (ts : List Node) (slots : List Int) (seen : Int → Option Value) : Nat → Nat → Bool → ER
  | 0, _, _ => (0, 0, true)
  | f + 1, i, bad => exprF (exprM ts slots seen f) ts slots seen i bad

/-- Heights are small: no more than the fuel, twice. -/
theorem callLoop_high (rec : Nat → Bool → ER) (ts : List Node) (H : Int) (hH : 0 ≤ H) (hr : ∀ i b, 0 ≤ (rec i b).2.1 ∧ (rec i b).2.1 ≤ H) : ∀ (l : List (Nat × Int)) (high values : Int) (bad : Bool), 0 ≤ high → high ≤ H + values → 0 ≤ values →
    0 ≤ (callLoop rec ts l high values bad).1 ∧ (callLoop rec ts l high values bad).1 ≤ H + values + l.length
  | [], high, values, bad, h1, h2, _ => by simp only [callLoop, List.length_nil]; omega
  | (kid, arg) :: r, high, values, bad, h1, h2, h3 => by
    have hk := hr kid bad
    simp only [callLoop, List.length_cons]
    split
    · have := callLoop_high rec ts H hH hr r high values ((bad || !((ts.getD kid node0).op == 51 && (ts.getD kid node0).kids == 0 && decide (0 ≤ (ts.getD kid node0).n) && decide ((ts.getD kid node0).n ≤ 3))) || !(likeB (ts.getD kid node0) 0 (ts.getD kid node0).n 0)) h1 h2 h3
      omega
    · split
      · have := callLoop_high rec ts H hH hr r high values ((bad || !((ts.getD kid node0).op == 52 && (ts.getD kid node0).kids == 0 && rightM (ts.getD kid node0).text)) || !(likeB (ts.getD kid node0) 0 0 0)) h1 h2 h3
        omega
      · have hw : (wantedF (rec kid bad) arg).1 = (rec kid bad).2.1 := rfl
        have := callLoop_high rec ts H hH hr r (max high (values + (wantedF (rec kid bad) arg).1)) (values + 1) (wantedF (rec kid bad) arg).2 (by omega) (by omega) (by omega)
        omega

theorem signOf_mem {l : List Sign} {n : Int} {s : Sign} (h : signOf l n = some s) : 0 ≤ n ∧ n.toNat < l.length ∧ l[n.toNat]? = some s ∧ s ∈ l := by
  unfold signOf at h
  split at h
  · cases h
  · exact ⟨by omega, (List.getElem?_eq_some_iff.1 h).1, h, List.mem_of_getElem? h⟩
theorem funcs_args {s : Sign} (h : s ∈ funcsM) : s.args.length ≤ 2 := by
  have : ∀ s ∈ funcsM, s.args.length ≤ 2 := by simp [funcsM]
  exact this s h
theorem effects_args {s : Sign} (h : s ∈ effectsM) : s.args.length ≤ 2 := by
  have : ∀ s ∈ effectsM, s.args.length ≤ 2 := by simp [effectsM]
  exact this s h
theorem fields_args {s : Sign} (h : s ∈ fieldsM) : s.args.length = 1 := by
  have : ∀ s ∈ fieldsM, s.args.length = 1 := by simp [fieldsM]
  exact this s h

theorem callF_high (rec : Nat → Bool → ER) (ts : List Node) (H : Int) (hH : 0 ≤ H) (hr : ∀ i b, 0 ≤ (rec i b).2.1 ∧ (rec i b).2.1 ≤ H) (i : Nat) (kids : List Nat) (s : Sign) (hs : s.args.length ≤ 2) :
    0 ≤ (callF rec ts i kids s).1 ∧ (callF rec ts i kids s).1 ≤ H + 2 := by
  unfold callF
  simp only
  split
  · rename_i h
    have := callLoop_high rec ts H hH hr (kids.zip s.args) 0 0 false (by omega) (by omega) (by omega)
    have hl : (kids.zip s.args).length ≤ 2 := by rw [List.length_zip]; omega
    omega
  · simp only; omega

theorem exprF_high (rec : Nat → Bool → ER) (ts : List Node) (H : Int) (hH : 0 ≤ H) (hr : ∀ i b, 0 ≤ (rec i b).2.1 ∧ (rec i b).2.1 ≤ H) (slots : List Int) (seen : Int → Option Value) (i : Nat) (bad : Bool) :
    0 ≤ (exprF rec ts slots seen i bad).2.1 ∧ (exprF rec ts slots seen i bad).2.1 ≤ H + 2 := by
  unfold exprF
  simp only
  split
  · simp only; omega
  split
  · simp only; omega
  split
  · simp only; omega
  split
  · split <;> simp only <;> omega
  split
  · split
    · simp only; omega
    · split
      · have := hr ((kidsOf ts i).getD 0 0) false
        simp only [wantedF]; omega
      · simp only; omega
  split
  · split
    · simp only; omega
    · rename_i s hs
      have := callF_high rec ts H hH hr i (kidsOf ts i) s (funcs_args (signOf_mem hs).2.2.2)
      simp only; omega
  · unfold operatorF
    simp only
    have h0 := hr ((kidsOf ts i).getD 0 0) false
    have h1 := hr ((kidsOf ts i).getD 1 0) false
    generalize (if (ts.getD i node0).op = 34 ∨ (ts.getD i node0).op = 35 then 1 else 2) = many
    split
    · by_cases hq : (ts.getD i node0).op = 38 ∨ (ts.getD i node0).op = 39
      · simp only [hq, if_true]
        split
        · simp only [wantedF]
          split <;> omega
        · simp only; omega
      · simp only [hq, if_false]
        split
        · simp only [wantedF]
          split <;> omega
        · simp only [wantedF]; omega
    · simp only; omega

theorem exprM_high (ts : List Node) (slots : List Int) (seen : Int → Option Value) : ∀ (f i : Nat) (bad : Bool), 0 ≤ (exprM ts slots seen f i bad).2.1 ∧ (exprM ts slots seen f i bad).2.1 ≤ 2 * f
  | 0, i, bad => by simp [exprM]
  | f + 1, i, bad => by
    have := exprF_high (exprM ts slots seen f) ts (2 * f) (by omega) (fun i b => exprM_high ts slots seen f i b) slots seen i bad
    rw [exprM]
    omega
end Go.Proofs.Ytggibiodeecljaa
namespace Go.Proofs.Ytggibiodeecljaa
open Go.RowKit

def lookB : Option Value → Bool
  | some (.bool b) => b
  | _ => false
noncomputable def declareF (slot : Int) (b : Bool) (l : List Int) (s : LSt) : LSt :=
  if s.bad = true then s
  else if slot = s.slots.length then ⟨s.slots ++ l, upd keyI s.seen (s.slots.length : Int) (some (.bool b)), false⟩
  else { s with bad := true }
noncomputable def forget (n : Int) (s : LSt) : LSt := { s with seen := upd keyI s.seen n none }
noncomputable def highF (r : Int × Bool) (s : LSt) : LSt := { s with bad := r.2 || !(decide (r.1 ≤ 256)) }
noncomputable def badF (s : LSt) : LSt := { s with bad := true }

section
variable (ts : List Node)
noncomputable def exprS (s : LSt) (i : Nat) (b : Bool) : ER := exprM ts s.slots s.seen ts.length i b
/-- looker.value. -/
noncomputable def valueF (i : Nat) (kind : Int) (s : LSt) : LSt := highF (wantedF (exprS ts s i s.bad) kind) s

section
variable (recS recB : Nat → LSt → LSt)
noncomputable def blocksF : Nat → List Nat → LSt → LSt
  | _, [], s => s
  | i, k :: r, s => blocksF (i + 1) r (if s.bad = true then s else if i = 1 ∧ (ts.getD k node0).op = 13 then recS k s else recB k s)
noncomputable def blockLoop : List Nat → List Int → LSt → LSt
  | [], own, s => own.foldl (fun s n => forget n s) s
  | k :: r, own, s => if s.bad = true then s else blockLoop r (if (ts.getD k node0).op = 11 then own ++ [(ts.getD k node0).n] else own) (recS k s)
/-- looker.block, nothing bad so far. -/
noncomputable def blockF (i : Nat) (s : LSt) : LSt :=
  let x := ts.getD i node0
  if x.op = 10 ∧ likeB x 0 0 0 = true then blockLoop ts recS (kidsOf ts i) [] s else badF s

/-- looker.stmt, nothing bad so far. -/
noncomputable def stmtF (i : Nat) (s : LSt) : LSt :=
  let x := ts.getD i node0
  let kids := kidsOf ts i
  if x.op = 11 then
    if kids.length = 1 ∧ likeB x 0 x.n 0 = true then
      declareF x.n true [(exprS ts s (kids.getD 0 0) false).1] (highF ((exprS ts s (kids.getD 0 0) false).2.1, (exprS ts s (kids.getD 0 0) false).2.2) s)
    else badF s
  else if x.op = 12 then
    if kids.length = 1 ∧ (0 ≤ x.n ∧ x.n < 1048576 ∧ lookB (s.seen x.n) = true) ∧ likeB x 0 x.n 0 = true then valueF ts (kids.getD 0 0) (s.slots.getD x.n.toNat 0) s else badF s
  else if x.op = 13 then
    if (kids.length = 2 ∨ kids.length = 3) ∧ likeB x 0 0 0 = true then blocksF ts recS recB 0 (kids.drop 1) (valueF ts (kids.getD 0 0) 2 s) else badF s
  else if x.op = 14 then
    if kids.length = 1 ∧ (0 ≤ x.n ∧ x.n ≤ 255) ∧ likeB x 0 x.n x.m = true then forget x.m (blocksF ts recS recB 0 kids (declareF x.m false [1] s)) else badF s
  else if x.op = 15 then
    if kids.length = 2 ∧ (0 ≤ x.n ∧ wrap64 (x.m - 1) = x.n) ∧ likeB x 0 x.n x.m = true then forget x.n (blocksF ts recS recB 0 (kids.drop 1) (declareF x.n false [3, 6, 1] (valueF ts (kids.getD 0 0) 6 s))) else badF s
  else if x.op = 16 then
    if (kids.length = 2 ∨ kids.length = 3) ∧ likeB x 0 x.n 0 = true then
      let s1 := forget x.n (blocksF ts recS recB 0 ((kids.drop 1).take 1) (declareF x.n false [3] (valueF ts (kids.getD 0 0) 6 s)))
      if kids.length = 3 ∧ s1.bad = false then recB (kids.getD 2 0) s1 else s1
    else badF s
  else if x.op = 17 ∨ x.op = 18 then { s with bad := !(decide (kids.length = 0)) || !(likeB x 0 0 0) }
  else if x.op = 19 then
    match signOf effectsM x.n with
    | none => badF s
    | some sg => highF (callF (exprS ts s) ts i kids sg) s
  else badF s
end

/-- looker.stmt and looker.block. -/
noncomputable def sbM : Nat → (Nat → LSt → LSt) × (Nat → LSt → LSt)
  | 0 => (fun _ s => badF s, fun _ s => badF s)
  | f + 1 => (stmtF ts (sbM f).1 (sbM f).2, blockF ts (sbM f).1)

/-- What is seen is a slot; the map's values are truth values. -/
structure Good (s : LSt) : Prop where
  key : ∀ n, (s.seen n).isSome = true → 0 ≤ n → n < s.slots.length
  val : ∀ n v, s.seen n = some v → ∃ b, v = .bool b
end

theorem Good.bad {s : LSt} (h : Good s) (b : Bool) : Good { s with bad := b } := ⟨h.key, h.val⟩
theorem upd_int (f : Int → Option Value) (x y : Int) (v : Option Value) : upd keyI f x v y = if y = x then v else f y := by
  unfold upd
  have : keyI.eqb y x = decide (y = x) := by show (y == x) = _; rw [Bool.eq_iff_iff]; simp
  rw [this]
  by_cases h : y = x <;> simp [h]
theorem Good.forget {s : LSt} (h : Good s) (n : Int) : Good (forget n s) := by
  constructor
  · intro m hm h0
    simp only [Go.Proofs.Ytggibiodeecljaa.forget, upd_int] at hm ⊢
    split at hm
    · cases hm
    · exact h.key m hm h0
  · intro m v hv
    simp only [Go.Proofs.Ytggibiodeecljaa.forget, upd_int] at hv
    split at hv
    · cases hv
    · exact h.val m v hv
theorem Good.declare {s : LSt} (h : Good s) (slot : Int) (b : Bool) (l : List Int) (hl : l ≠ []) : Good (declareF slot b l s) := by
  unfold declareF
  split
  · exact h
  · split
    · have hp : 0 < l.length := List.length_pos_iff.2 hl
      constructor
      · intro m hm h0
        simp only [upd_int, List.length_append] at hm ⊢
        split at hm
        · omega
        · have := h.key m hm h0; omega
      · intro m v hv
        simp only [upd_int] at hv
        split at hv
        · cases hv; exact ⟨b, rfl⟩
        · exact h.val m v hv
    · exact h.bad true
theorem Good.value {s : LSt} (h : Good s) (ts : List Node) (i : Nat) (kind : Int) : Good (valueF ts i kind s) := h.bad _
theorem Good.high {s : LSt} (h : Good s) (r : Int × Bool) : Good (highF r s) := h.bad _

section
variable (ts : List Node) (recS recB : Nat → LSt → LSt) (hS : ∀ i s, Good s → Good (recS i s)) (hB : ∀ i s, Good s → Good (recB i s))
include hS hB
theorem blocksF_good : ∀ (l : List Nat) (i : Nat) (s : LSt), Good s → Good (blocksF ts recS recB i l s)
  | [], i, s, h => h
  | k :: r, i, s, h => by
    rw [blocksF]
    refine blocksF_good r _ _ ?_
    split
    · exact h
    · split
      · exact hS k s h
      · exact hB k s h
omit hB in
theorem blockLoop_good : ∀ (l : List Nat) (own : List Int) (s : LSt), Good s → Good (blockLoop ts recS l own s)
  | [], [], s, h => h
  | [], n :: o, s, h => by
    have := blockLoop_good [] o (forget n s) (h.forget n)
    simpa only [blockLoop, List.foldl_cons] using this
  | k :: r, own, s, h => by
    rw [blockLoop]
    split
    · exact h
    · exact blockLoop_good r _ _ (hS k s h)
omit hB in
theorem blockF_good (i : Nat) (s : LSt) (h : Good s) : Good (blockF ts recS i s) := by
  unfold blockF
  simp only
  split
  · exact blockLoop_good ts recS hS _ _ _ h
  · exact h.bad true
theorem stmtF_good (i : Nat) (s : LSt) (h : Good s) : Good (stmtF ts recS recB i s) := by
  have hb := blocksF_good ts recS recB hS hB
  have h1 : ∀ n, [n] ≠ ([] : List Int) := by simp
  unfold stmtF
  simp only
  split
  · split
    · exact (h.high _).declare _ _ _ (by simp)
    · exact h.bad true
  split
  · split
    · exact h.value ts _ _
    · exact h.bad true
  split
  · split
    · exact hb _ _ _ (h.value ts _ _)
    · exact h.bad true
  split
  · split
    · exact (hb _ _ _ (h.declare _ _ _ (by simp))).forget _
    · exact h.bad true
  split
  · split
    · exact (hb _ _ _ ((h.value ts _ _).declare _ _ _ (by simp))).forget _
    · exact h.bad true
  split
  · split
    · split
      · exact hB _ _ ((hb _ _ _ ((h.value ts _ _).declare _ _ _ (by simp))).forget _)
      · exact (hb _ _ _ ((h.value ts _ _).declare _ _ _ (by simp))).forget _
    · exact h.bad true
  split
  · exact h.bad _
  split
  · split
    · exact h.bad true
    · exact h.high _
  · exact h.bad true
end
theorem sbM_good (ts : List Node) : ∀ f, (∀ i s, Good s → Good ((sbM ts f).1 i s)) ∧ (∀ i s, Good s → Good ((sbM ts f).2 i s))
  | 0 => ⟨fun _ _ h => h.bad true, fun _ _ h => h.bad true⟩
  | f + 1 => ⟨stmtF_good ts _ _ (sbM_good ts f).1 (sbM_good ts f).2, blockF_good ts _ (sbM_good ts f).1⟩

/-- Kids stand one behind the other. -/
def Chain (ts : List Node) : Nat → Nat → List Nat → Prop
  | p, q, [] => p = q
  | p, q, k :: r => k = p ∧ 0 ≤ behind ts p ∧ p < (behind ts p).toNat ∧ Chain ts (behind ts p).toNat q r
theorem Chain.le {ts : List Node} : ∀ {l : List Nat} {p q : Nat}, Chain ts p q l → p ≤ q
  | [], p, q, h => by simp only [Chain] at h; omega
  | k :: r, p, q, h => by
    have := Chain.le h.2.2.2
    have := h.2.2.1
    omega
theorem kidsFrom_chain (ts : List Node) : ∀ (c p q : Nat), adv (sizes ts.length ts) c p = some q → Chain ts p q (kidsFrom ts c p)
  | 0, p, q, h => by simp only [adv, Option.some.injEq] at h; exact h
  | c + 1, p, q, h => by
    simp only [adv] at h
    rcases hz : (sizes ts.length ts)[p]? with _ | _ | z <;> rw [hz] at h <;> simp only at h
    · cases h
    · cases h
    · have hp := size_pos hz
      have hb : behind ts p = (p : Int) + z := by rw [behind_eq, hz]
      simp only [kidsFrom]
      refine ⟨rfl, by omega, by omega, ?_⟩
      rw [hb, show ((p : Int) + z).toNat = p + z by omega]
      exact kidsFrom_chain ts c _ _ h
theorem kidsOf_chain {ts : List Node} {i : Nat} (h : 0 ≤ behind ts i) : Chain ts (i + 1) (behind ts i).toNat (kidsOf ts i) := by
  unfold kidsOf
  rw [if_neg (by omega)]
  rw [behind_eq] at h ⊢
  rcases hz : (sizes ts.length ts)[i]? with _ | _ | z <;> rw [hz] at h <;> simp only at h ⊢
  · omega
  · omega
  · have hi : i < ts.length := by have := size_pos hz; omega
    have hx : ts[i]? = some (ts.getD i node0) := by rw [List.getD_eq_getElem?_getD, List.getElem?_eq_getElem hi]; rfl
    have hk := size_kids hx hz
    rw [show ((i : Int) + z).toNat = i + z by omega]
    exact kidsFrom_chain ts _ _ _ hk.2.2

theorem declareF_len (slot : Int) (b : Bool) (l : List Int) (s : LSt) : (declareF slot b l s).slots.length ≤ s.slots.length + l.length := by
  unfold declareF
  split
  · omega
  · split
    · simp
    · simp
theorem foldl_forget_len : ∀ (own : List Int) (s : LSt), (own.foldl (fun s n => forget n s) s).slots = s.slots
  | [], _ => rfl
  | n :: o, s => by rw [List.foldl_cons, foldl_forget_len o]; rfl

/-- Slots are no more than places so far. -/
def Lens (ts : List Node) (r : Nat → LSt → LSt) : Prop := ∀ i s, 0 ≤ behind ts i → i < (behind ts i).toNat → s.slots.length ≤ 2 + 3 * i → (r i s).slots.length ≤ 2 + 3 * (behind ts i).toNat

section
variable (ts : List Node) (recS recB : Nat → LSt → LSt) (hS : Lens ts recS) (hB : Lens ts recB)
include hS hB
theorem blocksF_len : ∀ (l : List Nat) (i p q : Nat) (s : LSt), Chain ts p q l → s.slots.length ≤ 2 + 3 * p → (blocksF ts recS recB i l s).slots.length ≤ 2 + 3 * q
  | [], i, p, q, s, hc, h => by simp only [Chain] at hc; subst hc; exact h
  | k :: r, i, p, q, s, hc, h => by
    obtain ⟨rfl, h1, h2, h3⟩ := hc
    rw [blocksF]
    refine blocksF_len r _ _ _ _ h3 ?_
    split
    · omega
    · split
      · exact hS k s h1 h2 h
      · exact hB k s h1 h2 h
omit hB in
theorem blockLoop_len : ∀ (l : List Nat) (own : List Int) (p q : Nat) (s : LSt), Chain ts p q l → s.slots.length ≤ 2 + 3 * p → (blockLoop ts recS l own s).slots.length ≤ 2 + 3 * q
  | [], own, p, q, s, hc, h => by simp only [Chain] at hc; subst hc; rw [blockLoop, foldl_forget_len]; exact h
  | k :: r, own, p, q, s, hc, h => by
    have hle := Chain.le hc
    obtain ⟨rfl, h1, h2, h3⟩ := hc
    rw [blockLoop]
    split
    · omega
    · exact blockLoop_len r _ _ _ _ h3 (hS k s h1 h2 h)
omit hB in
theorem blockF_len : Lens ts (blockF ts recS) := by
  intro i s h0 h1 h
  have hc := kidsOf_chain h0
  unfold blockF
  simp only
  split
  · exact blockLoop_len ts recS hS _ _ _ _ _ hc (by omega)
  · show s.slots.length ≤ _; omega
theorem stmtF_len : Lens ts (stmtF ts recS recB) := by
  intro i s h0 h1 h
  have hc := kidsOf_chain h0
  have hle := Chain.le hc
  have hb := blocksF_len ts recS recB hS hB
  have hbad : (badF s).slots.length ≤ 2 + 3 * (behind ts i).toNat := by show s.slots.length ≤ _; omega
  have hv : ∀ k kd, (valueF ts k kd s).slots = s.slots := fun _ _ => rfl
  have hf : ∀ n s, (forget n s).slots = s.slots := fun _ _ => rfl
  have hh : ∀ r s, (highF r s).slots = s.slots := fun _ _ => rfl
  unfold stmtF
  simp only
  split
  · split
    · refine Nat.le_trans (declareF_len _ _ _ _) ?_
      rw [hh]; simp; omega
    · exact hbad
  split
  · split
    · rw [hv]; omega
    · exact hbad
  split
  · split
    · rename_i hk
      match hl : kidsOf ts i, hc with
      | [], _ => rw [hl] at hk; simp at hk
      | k :: r, hc =>
        obtain ⟨rfl, g1, g2, g3⟩ := hc
        exact hb _ _ _ _ _ g3 (by rw [hv]; omega)
    · exact hbad
  split
  · split
    · rw [hf]
      exact hb _ _ _ _ _ hc (Nat.le_trans (declareF_len _ _ _ _) (by simp; omega))
    · exact hbad
  split
  · split
    · rename_i hk
      rw [hf]
      match hl : kidsOf ts i, hc with
      | [], _ => rw [hl] at hk; simp at hk
      | k :: r, hc =>
        obtain ⟨rfl, g1, g2, g3⟩ := hc
        exact hb _ _ _ _ _ g3 (Nat.le_trans (declareF_len _ _ _ _) (by rw [hv]; simp; omega))
    · exact hbad
  split
  · split
    · rename_i hk
      match hl : kidsOf ts i, hc with
      | [], _ => rw [hl] at hk; simp at hk
      | [_], _ => rw [hl] at hk; simp at hk
      | k :: k1 :: r, hc =>
        obtain ⟨rfl, g1, g2, rfl, g3, g4, g5⟩ := hc
        have hle2 := Chain.le g5
        have hm : ∀ s', s'.slots = s.slots → (blocksF ts recS recB 0 ((((i + 1) :: (behind ts (i + 1)).toNat :: r).drop 1).take 1) (declareF (ts.getD i node0).n false [3] s')).slots.length ≤ 2 + 3 * (behind ts (behind ts (i + 1)).toNat).toNat := fun s' hs' =>
          hb _ _ (behind ts (i + 1)).toNat _ _ ⟨rfl, g3, g4, rfl⟩ (Nat.le_trans (declareF_len _ _ _ _) (by rw [hs']; simp; omega))
        split
        · rename_i h3
          rcases r with _ | ⟨k2, r2⟩
          · exact absurd h3.1 (by simp)
          · have hm := hm
            obtain ⟨rfl, g6, g7, g8⟩ := g5
            have := Chain.le g8
            exact Nat.le_trans (hB _ _ g6 g7 (by rw [hf]; exact hm _ (hv _ _))) (by simp; omega)
        · rw [hf]; exact Nat.le_trans (hm _ (hv _ _)) (by omega)
    · exact hbad
  split
  · show s.slots.length ≤ _; omega
  split
  · split
    · exact hbad
    · rw [hh]; omega
  · exact hbad
end
theorem sbM_len (ts : List Node) : ∀ f, Lens ts (sbM ts f).1 ∧ Lens ts (sbM ts f).2
  | 0 => ⟨fun i s h0 h1 h => by show s.slots.length ≤ _; omega, fun i s h0 h1 h => by show s.slots.length ≤ _; omega⟩
  | f + 1 => ⟨stmtF_len ts _ _ (sbM_len ts f).1 (sbM_len ts f).2, blockF_len ts _ (sbM_len ts f).1⟩
end Go.Proofs.Ytggibiodeecljaa
namespace Go.Proofs.Ytggibiodeecljaa
open Go.RowKit

/-- How many kids a node has, by its Op; which numbers it may bear. -/
def arityB (x : Node) (n : Nat) : Bool :=
  if x.op = 10 then true
  else if x.op = 11 ∨ x.op = 12 then n == 1
  else if x.op = 13 then n == 2 || n == 3
  else if x.op = 14 then n == 1 && decide (0 ≤ x.n) && decide (x.n ≤ 255)
  else if x.op = 15 then n == 2
  else if x.op = 16 then n == 2 || n == 3
  else if x.op = 17 ∨ x.op = 18 then n == 0
  else if x.op = 19 then match signOf effectsM x.n with | none => false | some s => n == s.args.length
  else if x.op = 30 ∨ x.op = 31 ∨ x.op = 32 ∨ x.op = 33 then n == 0
  else if x.op = 34 ∨ x.op = 35 then n == 1
  else if x.op = 49 then n == 1 && (signOf fieldsM x.n).isSome
  else if x.op = 50 then match signOf funcsM x.n with | none => false | some s => n == s.args.length
  else if x.op = 51 ∨ x.op = 52 then n == 0
  else if 36 ≤ x.op ∧ x.op ≤ 48 then n == 2
  else false

/-- A tree all of whose nodes have as many kids as they want (down to so many levels). -/
def Fit (ts : List Node) : Nat → Nat → Prop
  | 0, _ => True
  | f + 1, i => arityB (ts.getD i node0) (kidsOf ts i).length = true ∧ ∀ k ∈ kidsOf ts i, Fit ts f k

section
variable {ts : List Node}
theorem Fit.le : ∀ {f g i : Nat}, Fit ts f i → g ≤ f → Fit ts g i
  | _, 0, _, _, _ => trivial
  | 0, g + 1, _, _, h => absurd h (by omega)
  | f + 1, g + 1, i, hf, h => ⟨hf.1, fun k hk => (hf.2 k hk).le (by omega)⟩
theorem exprM_true (slots : List Int) (seen : Int → Option Value) (f i : Nat) : (exprM ts slots seen f i true).2.2 = true := by
  cases f with
  | zero => rfl
  | succ f => simp [exprM, exprF]

theorem zip_mem {α β : Type} : ∀ {l : List α} {m : List β} {x : α}, x ∈ l → l.length = m.length → ∃ y, (x, y) ∈ l.zip m
  | [], m, x, h, _ => by simp at h
  | a :: l, [], x, h, e => by simp at e
  | a :: l, b :: m, x, h, e => by
    rcases List.mem_cons.1 h with rfl | h
    · exact ⟨b, by simp⟩
    · obtain ⟨y, hy⟩ := zip_mem (m := m) h (by simpa using e)
      exact ⟨y, by simp [hy]⟩

section
variable {rec : Nat → Bool → ER} (hrec : ∀ i, (rec i true).2.2 = true) (f : Nat) (hfit : ∀ i, (rec i false).2.2 = false → Fit ts f i)
include hrec
theorem callLoop_true : ∀ (l : List (Nat × Int)) (high values : Int), (callLoop rec ts l high values true).2 = true
  | [], _, _ => rfl
  | (kid, arg) :: r, high, values => by
    simp only [callLoop]
    split
    · simp only [Bool.true_or]; exact callLoop_true r _ _
    · split
      · simp only [Bool.true_or]; exact callLoop_true r _ _
      · simp only [wantedF, hrec, Bool.true_or]; exact callLoop_true r _ _
include hfit
theorem callLoop_fit : ∀ (l : List (Nat × Int)) (high values : Int), (callLoop rec ts l high values false).2 = false → ∀ k u, (k, u) ∈ l → (kidsOf ts k).length = 0 ∧ (ts.getD k node0).op = 51 ∨ (kidsOf ts k).length = 0 ∧ (ts.getD k node0).op = 52 ∨ Fit ts f k
  | [], _, _, _, k, u, h => by simp at h
  | (kid, arg) :: r, high, values, hb, k, u, h => by
    have hleaf : ∀ {y : Int}, (ts.getD kid node0).kids = 0 → (kidsOf ts kid).length = 0 := fun {_} h => by
      unfold kidsOf
      split
      · rfl
      · rw [kidsFrom_length, h]; rfl
    simp only [callLoop] at hb
    split at hb
    · rename_i ha
      generalize hc : (false || !((ts.getD kid node0).op == 51 && (ts.getD kid node0).kids == 0 && decide (0 ≤ (ts.getD kid node0).n) && decide ((ts.getD kid node0).n ≤ 3)) || !(likeB (ts.getD kid node0) 0 (ts.getD kid node0).n 0)) = c at hb
      cases c with
      | true => rw [callLoop_true hrec] at hb; cases hb
      | false =>
        simp only [Bool.or_eq_false_iff, Bool.not_eq_false', Bool.and_eq_true, beq_iff_eq, decide_eq_true_eq] at hc
        rcases List.mem_cons.1 h with h | h
        · cases h; exact .inl ⟨hleaf (y := 0) hc.1.2.1.1.2, hc.1.2.1.1.1⟩
        · exact callLoop_fit r _ _ hb k u h
    · split at hb
      · generalize hc : (false || !((ts.getD kid node0).op == 52 && (ts.getD kid node0).kids == 0 && rightM (ts.getD kid node0).text) || !(likeB (ts.getD kid node0) 0 0 0)) = c at hb
        cases c with
        | true => rw [callLoop_true hrec] at hb; cases hb
        | false =>
          simp only [Bool.or_eq_false_iff, Bool.not_eq_false', Bool.and_eq_true, beq_iff_eq] at hc
          rcases List.mem_cons.1 h with h | h
          · cases h; exact .inr (.inl ⟨hleaf (y := 0) hc.1.2.1.2, hc.1.2.1.1⟩)
          · exact callLoop_fit r _ _ hb k u h
      · generalize hc : (wantedF (rec kid false) arg).2 = c at hb
        cases c with
        | true => rw [callLoop_true hrec] at hb; cases hb
        | false =>
          simp only [wantedF, Bool.or_eq_false_iff] at hc
          rcases List.mem_cons.1 h with h | h
          · cases h; exact .inr (.inr (hfit _ hc.1))
          · exact callLoop_fit r _ _ hb k u h
omit hrec hfit in
theorem fit_leaf {k : Nat} (h : (kidsOf ts k).length = 0) (hop : (ts.getD k node0).op = 51 ∨ (ts.getD k node0).op = 52) : Fit ts f k := by
  cases f with
  | zero => trivial
  | succ f =>
    refine ⟨?_, fun j hj => ?_⟩
    · rw [h]; unfold arityB
      rcases hop with h | h <;> rw [h] <;> rfl
    · rw [List.length_eq_zero_iff.1 h] at hj; simp at hj
theorem callF_fit {i : Nat} {s : Sign} (h : (callF rec ts i (kidsOf ts i) s).2 = false) : (kidsOf ts i).length = s.args.length ∧ ∀ k ∈ kidsOf ts i, Fit ts f k := by
  unfold callF at h
  simp only at h
  split at h
  · rename_i hc
    refine ⟨hc.1, fun k hk => ?_⟩
    obtain ⟨u, hu⟩ := zip_mem hk hc.1
    rcases callLoop_fit hrec f hfit _ _ _ h k u hu with ⟨h1, h2⟩ | ⟨h1, h2⟩ | h
    · exact fit_leaf f h1 (.inl h2)
    · exact fit_leaf f h1 (.inr h2)
    · exact h
  · cases h
omit hrec in
theorem operatorF_fit {i : Nat} (h : (operatorF rec ts i (kidsOf ts i)).2.2 = false) : arityB (ts.getD i node0) (kidsOf ts i).length = true ∧ ∀ k ∈ kidsOf ts i, Fit ts f k := by
  unfold operatorF at h
  simp only at h
  by_cases hm : (ts.getD i node0).op = 34 ∨ (ts.getD i node0).op = 35
  · simp only [hm, if_true] at h
    split at h
    · rename_i hc
      obtain ⟨hr, hl, -⟩ := hc
      match hk : kidsOf ts i, hl with
      | [a], _ =>
        rw [hk] at h
        have h1 : ¬ ((1 : Nat) = 2) := by omega
        simp only [h1, false_and, if_false] at h
        refine ⟨?_, fun k hk => ?_⟩
        · unfold arityB
          rcases hm with h | h <;> rw [h] <;> rfl
        · rw [List.mem_singleton] at hk
          subst hk
          have hq : ¬ ((ts.getD i node0).op = 38 ∨ (ts.getD i node0).op = 39) := by omega
          simp only [hq, if_false, wantedF, Bool.or_eq_false_iff] at h
          exact hfit _ h.1
    · cases h
  · simp only [hm, if_false] at h
    split at h
    · rename_i hc
      obtain ⟨hr, hl, -⟩ := hc
      match hk : kidsOf ts i, hl with
      | [a, b], _ =>
        rw [hk] at h
        simp only [true_and] at h
        have e0 : ([a, b] : List Nat).getD 0 0 = a := rfl
        have e1 : ([a, b] : List Nat).getD 1 0 = b := rfl
        rw [e0, e1] at h
        have hab : (rec a false).2.2 = false ∧ (rec b false).2.2 = false := by
          by_cases q : (ts.getD i node0).op = 38 ∨ (ts.getD i node0).op = 39
          · simp only [q, if_true] at h
            split at h
            · rename_i hf
              exact ⟨(Bool.or_eq_false_iff.1 hf).1, (Bool.or_eq_false_iff.1 h).1⟩
            · rename_i hf
              exact absurd h hf
          · simp only [q, if_false] at h
            split at h
            · rename_i hf
              exact ⟨(Bool.or_eq_false_iff.1 hf).1, (Bool.or_eq_false_iff.1 h).1⟩
            · rename_i hf
              exact absurd h hf
        obtain ⟨h1, h2⟩ := hab
        refine ⟨?_, fun k hk => ?_⟩
        · unfold arityB
          have n1 : ¬ (ts.getD i node0).op = 10 := by omega
          have n2 : ¬ ((ts.getD i node0).op = 11 ∨ (ts.getD i node0).op = 12) := by omega
          have n3 : ¬ (ts.getD i node0).op = 13 := by omega
          have n4 : ¬ (ts.getD i node0).op = 14 := by omega
          have n5 : ¬ (ts.getD i node0).op = 15 := by omega
          have n6 : ¬ (ts.getD i node0).op = 16 := by omega
          have n7 : ¬ ((ts.getD i node0).op = 17 ∨ (ts.getD i node0).op = 18) := by omega
          have n8 : ¬ (ts.getD i node0).op = 19 := by omega
          have n9 : ¬ ((ts.getD i node0).op = 30 ∨ (ts.getD i node0).op = 31 ∨ (ts.getD i node0).op = 32 ∨ (ts.getD i node0).op = 33) := by omega
          have n10 : ¬ (ts.getD i node0).op = 49 := by omega
          have n11 : ¬ (ts.getD i node0).op = 50 := by omega
          have n12 : ¬ ((ts.getD i node0).op = 51 ∨ (ts.getD i node0).op = 52) := by omega
          have n13 : 36 ≤ (ts.getD i node0).op ∧ (ts.getD i node0).op ≤ 48 := by omega
          rw [if_neg n1, if_neg n2, if_neg n3, if_neg n4, if_neg n5, if_neg n6, if_neg n7, if_neg n8, if_neg n9, if_neg hm, if_neg n10, if_neg n11, if_neg n12, if_pos n13]
          rfl
        · simp only [List.mem_cons, List.not_mem_nil, or_false] at hk
          rcases hk with rfl | rfl
          · exact hfit _ h1
          · exact hfit _ h2
    · cases h
end

theorem exprM_fit (slots : List Int) (seen : Int → Option Value) : ∀ (f i : Nat), (exprM ts slots seen f i false).2.2 = false → Fit ts f i
  | 0, _, _ => trivial
  | f + 1, i, h => by
    have ih := exprM_fit slots seen f
    have ht := exprM_true (ts := ts) slots seen f
    have h0 : ∀ P : Prop, (kidsOf ts i).length = 0 → ∀ k ∈ kidsOf ts i, P := fun P h k hk => by rw [List.length_eq_zero_iff.1 h] at hk; simp at hk
    rw [exprM] at h
    generalize exprM ts slots seen f = rec at h ih ht
    show _ ∧ _
    unfold exprF at h
    simp only [Bool.false_eq_true, if_false] at h
    split at h
    · rename_i q
      simp only [Bool.or_eq_false_iff, Bool.not_eq_false', Bool.and_eq_true, decide_eq_true_eq] at h
      refine ⟨by unfold arityB; rw [q, h.1.2]; rfl, fun k hk => h0 _ h.1.2 k hk⟩
    split at h
    · rename_i q
      simp only [Bool.or_eq_false_iff, Bool.not_eq_false', decide_eq_true_eq] at h
      refine ⟨by unfold arityB; rw [h.1]; rcases q with q | q <;> rw [q] <;> rfl, fun k hk => h0 _ h.1 k hk⟩
    split at h
    · rename_i q
      split at h
      · rename_i hc
        refine ⟨by unfold arityB; rw [hc.2.2.2, q]; rfl, fun k hk => h0 _ hc.2.2.2 k hk⟩
      · cases h
    split at h
    · rename_i q
      split at h
      · cases h
      · rename_i s hs
        split at h
        · rename_i hc
          refine ⟨by unfold arityB; rw [hc.1, q, hs]; rfl, fun k hk => ?_⟩
          simp only [wantedF, Bool.or_eq_false_iff] at h
          match hk2 : kidsOf ts i, hc.1 with
          | [a], _ =>
            rw [hk2] at hk h
            rw [List.mem_singleton] at hk
            subst hk
            exact ih _ h.1
        · cases h
    split at h
    · rename_i q
      split at h
      · cases h
      · rename_i s hs
        have := callF_fit ht f ih h
        refine ⟨by unfold arityB; rw [q, hs, this.1]; simp, this.2⟩
    · exact operatorF_fit f ih h

/-- A step of the looker: nothing bad behind it says that its tree is fit. -/
def FitsS (ts : List Node) (f : Nat) (r : Nat → LSt → LSt) : Prop := ∀ i s, (r i s).bad = false → Fit ts f i
section
variable {recS recB : Nat → LSt → LSt} {f : Nat} (hS : FitsS ts f recS) (hB : FitsS ts f recB)
include hS hB
theorem blocksF_fit : ∀ (l : List Nat) (i : Nat) (s : LSt), (blocksF ts recS recB i l s).bad = false → s.bad = false ∧ ∀ k ∈ l, Fit ts f k
  | [], i, s, h => ⟨h, fun k hk => by simp at hk⟩
  | k :: r, i, s, h => by
    rw [blocksF] at h
    have ih := blocksF_fit r _ _ h
    obtain ⟨h1, h2⟩ := ih
    split at h1
    · rename_i hb; rw [hb] at h1; cases h1
    · rename_i hb
      refine ⟨by simpa using hb, fun j hj => ?_⟩
      rcases List.mem_cons.1 hj with rfl | hj
      · split at h1
        · exact hS _ _ h1
        · exact hB _ _ h1
      · exact h2 j hj
omit hB in
theorem blockLoop_fit : ∀ (l : List Nat) (own : List Int) (s : LSt), (blockLoop ts recS l own s).bad = false → s.bad = false ∧ ∀ k ∈ l, Fit ts f k
  | [], [], s, h => ⟨h, fun k hk => by simp at hk⟩
  | [], n :: o, s, h => by
    have := blockLoop_fit [] o (forget n s) (by simpa only [blockLoop, List.foldl_cons] using h)
    exact ⟨this.1, fun k hk => by simp at hk⟩
  | k :: r, own, s, h => by
    rw [blockLoop] at h
    split at h
    · rename_i hb; rw [hb] at h; cases h
    · rename_i hb
      obtain ⟨h1, h2⟩ := blockLoop_fit r _ _ h
      refine ⟨by simpa using hb, fun j hj => ?_⟩
      rcases List.mem_cons.1 hj with rfl | hj
      · exact hS _ _ h1
      · exact h2 j hj
omit hB in
theorem blockF_fit : FitsS ts (f + 1) (blockF ts recS) := by
  intro i s h
  unfold blockF at h
  simp only at h
  split at h
  · rename_i hc
    refine ⟨by unfold arityB; rw [if_pos hc.1], (blockLoop_fit hS _ _ _ h).2⟩
  · cases h
theorem stmtF_fit (hf : f ≤ ts.length) : FitsS ts (f + 1) (stmtF ts recS recB) := by
  intro i s h
  have h0 : ∀ P : Prop, (kidsOf ts i).length = 0 → ∀ k ∈ kidsOf ts i, P := fun P h k hk => by rw [List.length_eq_zero_iff.1 h] at hk; simp at hk
  have hE : ∀ {s : LSt} {k : Nat}, (exprS ts s k false).2.2 = false → Fit ts f k := fun h => (exprM_fit _ _ _ _ h).le hf
  have hV : ∀ {s : LSt} {k : Nat} {kd : Int}, s.bad = false → (valueF ts k kd s).bad = false → Fit ts f k := fun hb h => by
    unfold valueF highF at h
    rw [hb] at h
    simp only [wantedF, Bool.or_eq_false_iff] at h
    exact hE h.1.1
  have hVb : ∀ {s : LSt} {k : Nat} {kd : Int}, (valueF ts k kd s).bad = false → s.bad = false := fun {s k kd} h => by
    unfold valueF highF at h
    simp only [wantedF, Bool.or_eq_false_iff] at h
    cases hb : s.bad with
    | false => rfl
    | true => have h1 := h.1.1; rw [hb] at h1; unfold exprS at h1; rw [exprM_true] at h1; cases h1
  have hD : ∀ {n : Int} {b : Bool} {l : List Int} {s : LSt}, (declareF n b l s).bad = false → s.bad = false := fun {n b l s} h => by
    unfold declareF at h
    split at h
    · exact h
    · rename_i hb; simpa using hb
  have hb := fun l i s h => blocksF_fit (ts := ts) hS hB l i s h
  show _ ∧ _
  unfold stmtF at h
  simp only at h
  split at h
  · rename_i q
    split at h
    · rename_i hc
      have h1 := hD h
      simp only [highF, Bool.or_eq_false_iff] at h1
      refine ⟨by unfold arityB; rw [hc.1, q]; rfl, fun k hk => ?_⟩
      match hk2 : kidsOf ts i, hc.1 with
      | [a], _ => rw [hk2] at hk h1; rw [List.mem_singleton] at hk; subst hk; exact hE h1.1
    · cases h
  split at h
  · rename_i q
    split at h
    · rename_i hc
      refine ⟨by unfold arityB; rw [hc.1, q]; rfl, fun k hk => ?_⟩
      match hk2 : kidsOf ts i, hc.1 with
      | [a], _ => rw [hk2] at hk h; rw [List.mem_singleton] at hk; subst hk; exact hV (hVb h) h
    · cases h
  split at h
  · rename_i q
    split at h
    · rename_i hc
      have h1 := hb _ _ _ h
      refine ⟨by unfold arityB; rw [q]; rcases hc.1 with e | e <;> rw [e] <;> rfl, fun k hk => ?_⟩
      match hk2 : kidsOf ts i, hc.1 with
      | a :: r, _ =>
        rw [hk2] at hk h1
        rcases List.mem_cons.1 hk with rfl | hk
        · exact hV (hVb h1.1) h1.1
        · exact h1.2 k (by simpa using hk)
      | [], hl => simp at hl
    · cases h
  split at h
  · rename_i q
    split at h
    · rename_i hc
      have h1 := hb _ _ _ h
      refine ⟨by unfold arityB; rw [q, hc.1]; simpa using hc.2.1, h1.2⟩
    · cases h
  split at h
  · rename_i q
    split at h
    · rename_i hc
      have h1 := hb _ _ _ h
      refine ⟨by unfold arityB; rw [q, hc.1]; rfl, fun k hk => ?_⟩
      match hk2 : kidsOf ts i, hc.1 with
      | a :: r, _ =>
        rw [hk2] at hk h1
        rcases List.mem_cons.1 hk with rfl | hk
        · exact hV (hVb (hD h1.1)) (hD h1.1)
        · exact h1.2 k (by simpa using hk)
    · cases h
  split at h
  · rename_i q
    split at h
    · rename_i hc
      have har : arityB (ts.getD i node0) (kidsOf ts i).length = true := by unfold arityB; rw [q]; rcases hc.1 with e | e <;> rw [e] <;> rfl
      refine ⟨har, ?_⟩
      have key : ∀ l, (forget (ts.getD i node0).n (blocksF ts recS recB 0 l (declareF (ts.getD i node0).n false [3] (valueF ts ((kidsOf ts i).getD 0 0) 6 s)))).bad = false → Fit ts f ((kidsOf ts i).getD 0 0) ∧ ∀ k ∈ l, Fit ts f k := fun l h => by
        have h1 := hb _ _ _ (show (blocksF ts recS recB 0 l _).bad = false from h)
        exact ⟨hV (hVb (hD h1.1)) (hD h1.1), h1.2⟩
      match hk2 : kidsOf ts i, hc.1 with
      | [a, b], _ =>
        rw [hk2] at h key
        rw [if_neg (by simp)] at h
        obtain ⟨k1, k2⟩ := key _ h
        intro k hk
        simp only [List.mem_cons, List.not_mem_nil, or_false] at hk
        rcases hk with rfl | rfl
        · exact k1
        · exact k2 _ (by simp)
      | [a, b, d], _ =>
        rw [hk2] at h key
        by_cases hb2 : (forget (ts.getD i node0).n (blocksF ts recS recB 0 (List.take 1 (List.drop 1 [a, b, d])) (declareF (ts.getD i node0).n false [3] (valueF ts ([a, b, d].getD 0 0) 6 s)))).bad = false
        · rw [if_pos ⟨rfl, hb2⟩] at h
          obtain ⟨k1, k2⟩ := key _ hb2
          intro k hk
          simp only [List.mem_cons, List.not_mem_nil, or_false] at hk
          rcases hk with rfl | rfl | rfl
          · exact k1
          · exact k2 _ (by simp)
          · exact hB _ _ h
        · rw [if_neg (by simp only [not_and]; exact fun _ => hb2)] at h
          exact absurd h hb2
      | [], hl => simp at hl
      | [_], hl => simp at hl
      | _ :: _ :: _ :: _ :: _, hl => simp at hl
    · cases h
  split at h
  · rename_i q
    simp only [Bool.or_eq_false_iff, Bool.not_eq_false', decide_eq_true_eq] at h
    refine ⟨by unfold arityB; rw [h.1]; rcases q with q | q <;> rw [q] <;> rfl, fun k hk => h0 _ h.1 k hk⟩
  split at h
  · rename_i q
    split at h
    · cases h
    · rename_i sg hs
      simp only [highF, Bool.or_eq_false_iff] at h
      have := callF_fit (ts := ts) (rec := exprS ts s) (fun j => exprM_true _ _ _ _) f (fun j hj => hE hj) h.1
      refine ⟨by unfold arityB; rw [q, hs, this.1]; simp, this.2⟩
  · cases h
end
theorem sbM_fit (ts : List Node) : ∀ f, f ≤ ts.length + 1 → FitsS ts f (sbM ts f).1 ∧ FitsS ts f (sbM ts f).2
  | 0, _ => ⟨fun _ _ _ => trivial, fun _ _ _ => trivial⟩
  | f + 1, h => ⟨stmtF_fit (sbM_fit ts f (by omega)).1 (sbM_fit ts f (by omega)).2 (by omega), blockF_fit (sbM_fit ts f (by omega)).1⟩
end
end Go.Proofs.Ytggibiodeecljaa
