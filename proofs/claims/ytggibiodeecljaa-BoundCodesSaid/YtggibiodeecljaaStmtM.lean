/- What check.Able's looker does at statements and blocks, as plain functions. -/
import Derived.Test.YtggibiodeecljaaCheckM
namespace Go.Proofs.Ytggibiodeecljaa
open Go.RowKit

def lookB : Option Value → Bool
  | some (.bool b) => b
  | _ => false
noncomputable def declareF (slot : Int) (b : Bool) (l : List Int) (s : LSt) : LSt :=
  if s.bad = true then s
  else if slot = s.slots.length then ⟨s.slots ++ l, upd keyI s.seen (s.slots.length : Int) (some (.bool b)), false⟩
  else { s with bad := true }
noncomputable def forget (n : Int) (s : LSt) : LSt := { s with seen := upd keyI s.seen n none }
noncomputable def highF (r : Int × Bool) (s : LSt) : LSt := { s with bad := r.2 || !(decide (r.1 ≤ 256)) }
noncomputable def badF (s : LSt) : LSt := { s with bad := true }

section
variable (ts : List Node)
noncomputable def exprS (s : LSt) (i : Nat) (b : Bool) : ER := exprM ts s.slots s.seen ts.length i b
/-- looker.value. -/
noncomputable def valueF (i : Nat) (kind : Int) (s : LSt) : LSt := highF (wantedF (exprS ts s i s.bad) kind) s

section
variable (recS recB : Nat → LSt → LSt)
noncomputable def blocksF : Nat → List Nat → LSt → LSt
  | _, [], s => s
  | i, k :: r, s => blocksF (i + 1) r (if s.bad = true then s else if i = 1 ∧ (ts.getD k node0).op = 13 then recS k s else recB k s)
noncomputable def blockLoop : List Nat → List Int → LSt → LSt
  | [], own, s => own.foldl (fun s n => forget n s) s
  | k :: r, own, s => if s.bad = true then s else blockLoop r (if (ts.getD k node0).op = 11 then own ++ [(ts.getD k node0).n] else own) (recS k s)
/-- looker.block, nothing bad so far. -/
noncomputable def blockF (i : Nat) (s : LSt) : LSt :=
  let x := ts.getD i node0
  if x.op = 10 ∧ likeB x 0 0 0 = true then blockLoop ts recS (kidsOf ts i) [] s else badF s

/-- looker.stmt, nothing bad so far. -/
noncomputable def stmtF (i : Nat) (s : LSt) : LSt :=
  let x := ts.getD i node0
  let kids := kidsOf ts i
  if x.op = 11 then
    if kids.length = 1 ∧ likeB x 0 x.n 0 = true then
      declareF x.n true [(exprS ts s (kids.getD 0 0) false).1] (highF ((exprS ts s (kids.getD 0 0) false).2.1, (exprS ts s (kids.getD 0 0) false).2.2) s)
    else badF s
  else if x.op = 12 then
    if kids.length = 1 ∧ (0 ≤ x.n ∧ x.n < 1048576 ∧ lookB (s.seen x.n) = true) ∧ likeB x 0 x.n 0 = true then valueF ts (kids.getD 0 0) (s.slots.getD x.n.toNat 0) s else badF s
  else if x.op = 13 then
    if (kids.length = 2 ∨ kids.length = 3) ∧ likeB x 0 0 0 = true then blocksF ts recS recB 0 (kids.drop 1) (valueF ts (kids.getD 0 0) 2 s) else badF s
  else if x.op = 14 then
    if kids.length = 1 ∧ (0 ≤ x.n ∧ x.n ≤ 255) ∧ likeB x 0 x.n x.m = true then forget x.m (blocksF ts recS recB 0 kids (declareF x.m false [1] s)) else badF s
  else if x.op = 15 then
    if kids.length = 2 ∧ (0 ≤ x.n ∧ wrap64 (x.m - 1) = x.n) ∧ likeB x 0 x.n x.m = true then forget x.n (blocksF ts recS recB 0 (kids.drop 1) (declareF x.n false [3, 6, 1] (valueF ts (kids.getD 0 0) 6 s))) else badF s
  else if x.op = 16 then
    if (kids.length = 2 ∨ kids.length = 3) ∧ likeB x 0 x.n 0 = true then
      let s1 := forget x.n (blocksF ts recS recB 0 ((kids.drop 1).take 1) (declareF x.n false [3] (valueF ts (kids.getD 0 0) 6 s)))
      if kids.length = 3 ∧ s1.bad = false then recB (kids.getD 2 0) s1 else s1
    else badF s
  else if x.op = 17 ∨ x.op = 18 then { s with bad := !(decide (kids.length = 0)) || !(likeB x 0 0 0) }
  else if x.op = 19 then
    match signOf effectsM x.n with
    | none => badF s
    | some sg => highF (callF (exprS ts s) ts i kids sg) s
  else badF s
end

/-- looker.stmt and looker.block. -/
noncomputable def sbM : Nat → (Nat → LSt → LSt) × (Nat → LSt → LSt)
  | 0 => (fun _ s => badF s, fun _ s => badF s)
  | f + 1 => (stmtF ts (sbM f).1 (sbM f).2, blockF ts (sbM f).1)

/-- What is seen is a slot; the map's values are truth values. -/
structure Good (s : LSt) : Prop where
  key : ∀ n, (s.seen n).isSome = true → 0 ≤ n → n < s.slots.length
  val : ∀ n v, s.seen n = some v → ∃ b, v = .bool b
end

theorem Good.bad {s : LSt} (h : Good s) (b : Bool) : Good { s with bad := b } := ⟨h.key, h.val⟩
theorem upd_int (f : Int → Option Value) (x y : Int) (v : Option Value) : upd keyI f x v y = if y = x then v else f y := by
  unfold upd
  have : keyI.eqb y x = decide (y = x) := by show (y == x) = _; rw [Bool.eq_iff_iff]; simp
  rw [this]
  by_cases h : y = x <;> simp [h]
theorem Good.forget {s : LSt} (h : Good s) (n : Int) : Good (forget n s) := by
  constructor
  · intro m hm h0
    simp only [Go.Proofs.Ytggibiodeecljaa.forget, upd_int] at hm ⊢
    split at hm
    · cases hm
    · exact h.key m hm h0
  · intro m v hv
    simp only [Go.Proofs.Ytggibiodeecljaa.forget, upd_int] at hv
    split at hv
    · cases hv
    · exact h.val m v hv
theorem Good.declare {s : LSt} (h : Good s) (slot : Int) (b : Bool) (l : List Int) (hl : l ≠ []) : Good (declareF slot b l s) := by
  unfold declareF
  split
  · exact h
  · split
    · have hp : 0 < l.length := List.length_pos_iff.2 hl
      constructor
      · intro m hm h0
        simp only [upd_int, List.length_append] at hm ⊢
        split at hm
        · omega
        · have := h.key m hm h0; omega
      · intro m v hv
        simp only [upd_int] at hv
        split at hv
        · cases hv; exact ⟨b, rfl⟩
        · exact h.val m v hv
    · exact h.bad true
theorem Good.value {s : LSt} (h : Good s) (ts : List Node) (i : Nat) (kind : Int) : Good (valueF ts i kind s) := h.bad _
theorem Good.high {s : LSt} (h : Good s) (r : Int × Bool) : Good (highF r s) := h.bad _

section
variable (ts : List Node) (recS recB : Nat → LSt → LSt) (hS : ∀ i s, Good s → Good (recS i s)) (hB : ∀ i s, Good s → Good (recB i s))
include hS hB
theorem blocksF_good : ∀ (l : List Nat) (i : Nat) (s : LSt), Good s → Good (blocksF ts recS recB i l s)
  | [], i, s, h => h
  | k :: r, i, s, h => by
    rw [blocksF]
    refine blocksF_good r _ _ ?_
    split
    · exact h
    · split
      · exact hS k s h
      · exact hB k s h
omit hB in
theorem blockLoop_good : ∀ (l : List Nat) (own : List Int) (s : LSt), Good s → Good (blockLoop ts recS l own s)
  | [], [], s, h => h
  | [], n :: o, s, h => by
    have := blockLoop_good [] o (forget n s) (h.forget n)
    simpa only [blockLoop, List.foldl_cons] using this
  | k :: r, own, s, h => by
    rw [blockLoop]
    split
    · exact h
    · exact blockLoop_good r _ _ (hS k s h)
omit hB in
theorem blockF_good (i : Nat) (s : LSt) (h : Good s) : Good (blockF ts recS i s) := by
  unfold blockF
  simp only
  split
  · exact blockLoop_good ts recS hS _ _ _ h
  · exact h.bad true
theorem stmtF_good (i : Nat) (s : LSt) (h : Good s) : Good (stmtF ts recS recB i s) := by
  have hb := blocksF_good ts recS recB hS hB
  have h1 : ∀ n, [n] ≠ ([] : List Int) := by simp
  unfold stmtF
  simp only
  split
  · split
    · exact (h.high _).declare _ _ _ (by simp)
    · exact h.bad true
  split
  · split
    · exact h.value ts _ _
    · exact h.bad true
  split
  · split
    · exact hb _ _ _ (h.value ts _ _)
    · exact h.bad true
  split
  · split
    · exact (hb _ _ _ (h.declare _ _ _ (by simp))).forget _
    · exact h.bad true
  split
  · split
    · exact (hb _ _ _ ((h.value ts _ _).declare _ _ _ (by simp))).forget _
    · exact h.bad true
  split
  · split
    · split
      · exact hB _ _ ((hb _ _ _ ((h.value ts _ _).declare _ _ _ (by simp))).forget _)
      · exact (hb _ _ _ ((h.value ts _ _).declare _ _ _ (by simp))).forget _
    · exact h.bad true
  split
  · exact h.bad _
  split
  · split
    · exact h.bad true
    · exact h.high _
  · exact h.bad true
end
theorem sbM_good (ts : List Node) : ∀ f, (∀ i s, Good s → Good ((sbM ts f).1 i s)) ∧ (∀ i s, Good s → Good ((sbM ts f).2 i s))
  | 0 => ⟨fun _ _ h => h.bad true, fun _ _ h => h.bad true⟩
  | f + 1 => ⟨stmtF_good ts _ _ (sbM_good ts f).1 (sbM_good ts f).2, blockF_good ts _ (sbM_good ts f).1⟩

/-- Kids stand one behind the other. -/
def Chain (ts : List Node) : Nat → Nat → List Nat → Prop
  | p, q, [] => p = q
  | p, q, k :: r => k = p ∧ 0 ≤ behind ts p ∧ p < (behind ts p).toNat ∧ Chain ts (behind ts p).toNat q r
theorem Chain.le {ts : List Node} : ∀ {l : List Nat} {p q : Nat}, Chain ts p q l → p ≤ q
  | [], p, q, h => by simp only [Chain] at h; omega
  | k :: r, p, q, h => by
    have := Chain.le h.2.2.2
    have := h.2.2.1
    omega
theorem kidsFrom_chain (ts : List Node) : ∀ (c p q : Nat), adv (sizes ts.length ts) c p = some q → Chain ts p q (kidsFrom ts c p)
  | 0, p, q, h => by simp only [adv, Option.some.injEq] at h; exact h
  | c + 1, p, q, h => by
    simp only [adv] at h
    rcases hz : (sizes ts.length ts)[p]? with _ | _ | z <;> rw [hz] at h <;> simp only at h
    · cases h
    · cases h
    · have hp := size_pos hz
      have hb : behind ts p = (p : Int) + z := by rw [behind_eq, hz]
      simp only [kidsFrom]
      refine ⟨rfl, by omega, by omega, ?_⟩
      rw [hb, show ((p : Int) + z).toNat = p + z by omega]
      exact kidsFrom_chain ts c _ _ h
theorem kidsOf_chain {ts : List Node} {i : Nat} (h : 0 ≤ behind ts i) : Chain ts (i + 1) (behind ts i).toNat (kidsOf ts i) := by
  unfold kidsOf
  rw [if_neg (by omega)]
  rw [behind_eq] at h ⊢
  rcases hz : (sizes ts.length ts)[i]? with _ | _ | z <;> rw [hz] at h <;> simp only at h ⊢
  · omega
  · omega
  · have hi : i < ts.length := by have := size_pos hz; omega
    have hx : ts[i]? = some (ts.getD i node0) := by rw [List.getD_eq_getElem?_getD, List.getElem?_eq_getElem hi]; rfl
    have hk := size_kids hx hz
    rw [show ((i : Int) + z).toNat = i + z by omega]
    exact kidsFrom_chain ts _ _ _ hk.2.2

theorem declareF_len (slot : Int) (b : Bool) (l : List Int) (s : LSt) : (declareF slot b l s).slots.length ≤ s.slots.length + l.length := by
  unfold declareF
  split
  · omega
  · split
    · simp
    · simp
theorem foldl_forget_len : ∀ (own : List Int) (s : LSt), (own.foldl (fun s n => forget n s) s).slots = s.slots
  | [], _ => rfl
  | n :: o, s => by rw [List.foldl_cons, foldl_forget_len o]; rfl

/-- Slots are no more than places so far. -/
def Lens (ts : List Node) (r : Nat → LSt → LSt) : Prop := ∀ i s, 0 ≤ behind ts i → i < (behind ts i).toNat → s.slots.length ≤ 2 + 3 * i → (r i s).slots.length ≤ 2 + 3 * (behind ts i).toNat

section
variable (ts : List Node) (recS recB : Nat → LSt → LSt) (hS : Lens ts recS) (hB : Lens ts recB)
include hS hB
theorem blocksF_len : ∀ (l : List Nat) (i p q : Nat) (s : LSt), Chain ts p q l → s.slots.length ≤ 2 + 3 * p → (blocksF ts recS recB i l s).slots.length ≤ 2 + 3 * q
  | [], i, p, q, s, hc, h => by simp only [Chain] at hc; subst hc; exact h
  | k :: r, i, p, q, s, hc, h => by
    obtain ⟨rfl, h1, h2, h3⟩ := hc
    rw [blocksF]
    refine blocksF_len r _ _ _ _ h3 ?_
    split
    · omega
    · split
      · exact hS k s h1 h2 h
      · exact hB k s h1 h2 h
omit hB in
theorem blockLoop_len : ∀ (l : List Nat) (own : List Int) (p q : Nat) (s : LSt), Chain ts p q l → s.slots.length ≤ 2 + 3 * p → (blockLoop ts recS l own s).slots.length ≤ 2 + 3 * q
  | [], own, p, q, s, hc, h => by simp only [Chain] at hc; subst hc; rw [blockLoop, foldl_forget_len]; exact h
  | k :: r, own, p, q, s, hc, h => by
    have hle := Chain.le hc
    obtain ⟨rfl, h1, h2, h3⟩ := hc
    rw [blockLoop]
    split
    · omega
    · exact blockLoop_len r _ _ _ _ h3 (hS k s h1 h2 h)
omit hB in
theorem blockF_len : Lens ts (blockF ts recS) := by
  intro i s h0 h1 h
  have hc := kidsOf_chain h0
  unfold blockF
  simp only
  split
  · exact blockLoop_len ts recS hS _ _ _ _ _ hc (by omega)
  · show s.slots.length ≤ _; omega
theorem stmtF_len : Lens ts (stmtF ts recS recB) := by
  intro i s h0 h1 h
  have hc := kidsOf_chain h0
  have hle := Chain.le hc
  have hb := blocksF_len ts recS recB hS hB
  have hbad : (badF s).slots.length ≤ 2 + 3 * (behind ts i).toNat := by show s.slots.length ≤ _; omega
  have hv : ∀ k kd, (valueF ts k kd s).slots = s.slots := fun _ _ => rfl
  have hf : ∀ n s, (forget n s).slots = s.slots := fun _ _ => rfl
  have hh : ∀ r s, (highF r s).slots = s.slots := fun _ _ => rfl
  unfold stmtF
  simp only
  split
  · split
    · refine Nat.le_trans (declareF_len _ _ _ _) ?_
      rw [hh]; simp; omega
    · exact hbad
  split
  · split
    · rw [hv]; omega
    · exact hbad
  split
  · split
    · rename_i hk
      match hl : kidsOf ts i, hc with
      | [], _ => rw [hl] at hk; simp at hk
      | k :: r, hc =>
        obtain ⟨rfl, g1, g2, g3⟩ := hc
        exact hb _ _ _ _ _ g3 (by rw [hv]; omega)
    · exact hbad
  split
  · split
    · rw [hf]
      exact hb _ _ _ _ _ hc (Nat.le_trans (declareF_len _ _ _ _) (by simp; omega))
    · exact hbad
  split
  · split
    · rename_i hk
      rw [hf]
      match hl : kidsOf ts i, hc with
      | [], _ => rw [hl] at hk; simp at hk
      | k :: r, hc =>
        obtain ⟨rfl, g1, g2, g3⟩ := hc
        exact hb _ _ _ _ _ g3 (Nat.le_trans (declareF_len _ _ _ _) (by rw [hv]; simp; omega))
    · exact hbad
  split
  · split
    · rename_i hk
      match hl : kidsOf ts i, hc with
      | [], _ => rw [hl] at hk; simp at hk
      | [_], _ => rw [hl] at hk; simp at hk
      | k :: k1 :: r, hc =>
        obtain ⟨rfl, g1, g2, rfl, g3, g4, g5⟩ := hc
        have hle2 := Chain.le g5
        have hm : ∀ s', s'.slots = s.slots → (blocksF ts recS recB 0 ((((i + 1) :: (behind ts (i + 1)).toNat :: r).drop 1).take 1) (declareF (ts.getD i node0).n false [3] s')).slots.length ≤ 2 + 3 * (behind ts (behind ts (i + 1)).toNat).toNat := fun s' hs' =>
          hb _ _ (behind ts (i + 1)).toNat _ _ ⟨rfl, g3, g4, rfl⟩ (Nat.le_trans (declareF_len _ _ _ _) (by rw [hs']; simp; omega))
        split
        · rename_i h3
          rcases r with _ | ⟨k2, r2⟩
          · exact absurd h3.1 (by simp)
          · have hm := hm
            obtain ⟨rfl, g6, g7, g8⟩ := g5
            have := Chain.le g8
            exact Nat.le_trans (hB _ _ g6 g7 (by rw [hf]; exact hm _ (hv _ _))) (by simp; omega)
        · rw [hf]; exact Nat.le_trans (hm _ (hv _ _)) (by omega)
    · exact hbad
  split
  · show s.slots.length ≤ _; omega
  split
  · split
    · exact hbad
    · rw [hh]; omega
  · exact hbad
end
theorem sbM_len (ts : List Node) : ∀ f, Lens ts (sbM ts f).1 ∧ Lens ts (sbM ts f).2
  | 0 => ⟨fun i s h0 h1 h => by show s.slots.length ≤ _; omega, fun i s h0 h1 h => by show s.slots.length ≤ _; omega⟩
  | f + 1 => ⟨stmtF_len ts _ _ (sbM_len ts f).1 (sbM_len ts f).2, blockF_len ts _ (sbM_len ts f).1⟩
end Go.Proofs.Ytggibiodeecljaa
