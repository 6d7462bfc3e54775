/- EmitSame: more in the pools says nothing where all was found. emit.Able. EmitSame's plain law. No program in sight but emit.Able's model. -/
import Derived.Test.YtggibiodeecljaaMEmitM
import Derived.Test.YtggibiodeecljaaMEmit7
import Derived.Test.YtggibiodeecljaaEmit11
import Derived.Test.YtggibiodeecljaaAbleAll
import Derived.Test.YtggibiodeecljaaMRows
namespace Go.Proofs.Ytggibiodeecljaa
open Go.RowKit
set_option linter.unusedVariables false

def Ext {κ : Type} (f g : κ → Option Int) : Prop := ∀ n v, f n = some v → g n = some v
theorem Ext.refl {κ : Type} (f : κ → Option Int) : Ext f f := fun _ _ h => h
theorem Ext.trans {κ : Type} {f g h : κ → Option Int} (a : Ext f g) (b : Ext g h) : Ext f h := fun n v q => b n v (a n v q)
section
variable {κ : Type} {eqb : κ → κ → Bool} (he : ∀ a b, eqb a b = true → a = b)
include he
theorem numG_ext : ∀ (l : List κ) (k : Nat) (f : κ → Option Int), Ext f (numG eqb k f l)
  | [], k, f => Ext.refl f
  | x :: r, k, f => by
    rw [numG]
    refine Ext.trans ?_ (numG_ext r (k + 1) _)
    split
    · rename_i hc
      intro n v h
      show (if eqb n x = true then some (k : Int) else f n) = some v
      split
      · rename_i hq
        rw [he n x hq] at h
        rw [h] at hc
        cases hc.1
      · exact h
    · exact Ext.refl f
omit he in
theorem numG_app : ∀ (l m : List κ) (k : Nat) (f : κ → Option Int), numG eqb k f (l ++ m) = numG eqb (k + l.length) (numG eqb k f l) m
  | [], m, k, f => rfl
  | x :: r, m, k, f => by
    rw [List.cons_append, numG, numG, numG_app r m (k + 1), List.length_cons]
    rw [show k + 1 + r.length = k + (r.length + 1) by omega]
omit he in
theorem numG_bnd : ∀ (l : List κ) (k : Nat) (f : κ → Option Int), (∀ n v, f n = some v → 0 ≤ v ∧ v ≤ 4095) → ∀ n v, numG eqb k f l n = some v → 0 ≤ v ∧ v ≤ 4095
  | [], k, f, hf => hf
  | x :: r, k, f, hf => by
    rw [numG]
    refine numG_bnd r (k + 1) _ ?_
    split
    · rename_i hc
      intro n v h
      have h : (if eqb n x = true then some (k : Int) else f n) = some v := h
      split at h
      · injection h with h
        have := hc.2
        omega
      · exact hf n v h
    · exact hf
end
theorem numI_ext (l m : List Int) : Ext (numI l) (numI (l ++ m)) := by
  unfold numI
  rw [numG_app]
  exact numG_ext (fun a b h => (keyL.eqb_iff a b).1 h) _ _ _
theorem numS_ext (l m : List ByteArray) : Ext (numS l) (numS (l ++ m)) := by
  unfold numS
  rw [numG_app]
  exact numG_ext (fun a b h => (keyS.eqb_iff a b).1 h) _ _ _
theorem numI_bnd (l : List Int) : ∀ n v, numI l n = some v → 0 ≤ v ∧ v ≤ 4095 := numG_bnd l 0 _ (fun n v h => by cases h)
theorem numS_bnd (l : List ByteArray) : ∀ n v, numS l n = some v → 0 ≤ v ∧ v ≤ 4095 := numG_bnd l 0 _ (fun n v h => by cases h)

/-- Where all was found, all is found. -/
def Sm (r r' : Nat → MS → MS) : Prop := ∀ i s, (r i s).bad = false → s.bad = false ∧ r' i s = r i s
section
variable {pi pi' : Int → Option Int} {pt pt' : ByteArray → Option Int} (hi : Ext pi pi') (hq : Ext pt pt')
theorem numE_sm {κ : Type} {f g : κ → Option Int} (h : Ext f g) {n : κ} {s : MS} (hb : (numE (f n) s).bad = false) : s.bad = false ∧ g n = f n := by
  have hb : (s.bad || (f n).isNone) = false := hb
  rw [Bool.or_eq_false_iff] at hb
  refine ⟨hb.1, ?_⟩
  cases hf : f n with
  | none => rw [hf] at hb; cases hb.2
  | some v => exact h n v hf
include hi in
theorem pushE_sm {n : Int} {s : MS} (hb : (pushE (pi n) s).bad = false) : s.bad = false ∧ pi' n = pi n := numE_sm hi (s := s) hb
variable {rec rec' : Nat → MS → MS} (hr : Sm rec rec')
include hr
theorem allE_sm : ∀ (l : List Nat) (s : MS), (allE rec l s).bad = false → s.bad = false ∧ allE rec' l s = allE rec l s
  | [], s, h => ⟨h, rfl⟩
  | j :: l, s, h => by
    have e : ∀ r, allE r (j :: l) s = allE r l (r j s) := fun _ => rfl
    rw [e] at h
    obtain ⟨h1, h2⟩ := allE_sm l _ h
    obtain ⟨h3, h4⟩ := hr _ _ h1
    exact ⟨h3, by rw [e, e, h4, h2]⟩
theorem orE_sm (l : List Nat) (s : MS) (h : (orE rec l s).bad = false) : s.bad = false ∧ orE rec' l s = orE rec l s := by
  unfold orE at h ⊢
  dsimp only at h ⊢
  obtain ⟨h1, h2⟩ := hr _ _ (show (rec (l.getD 1 0) _).bad = false from h)
  obtain ⟨h3, h4⟩ := hr (l.getD 0 0) s h1
  exact ⟨h3, by rw [h4, h2]⟩
theorem andE_sm (l : List Nat) (s : MS) (h : (andE rec l s).bad = false) : s.bad = false ∧ andE rec' l s = andE rec l s := by
  unfold andE at h ⊢
  dsimp only at h ⊢
  obtain ⟨h1, h2⟩ := hr _ _ (show (rec (l.getD 1 0) _).bad = false from h)
  obtain ⟨h3, h4⟩ := hr (l.getD 0 0) s h1
  exact ⟨h3, by rw [h4, h2]⟩
theorem equalE_sm (ts : List Node) (x : Node) (l : List Nat) (s : MS) (h : (equalE ts rec x l s).bad = false) : s.bad = false ∧ equalE ts rec' x l s = equalE ts rec x l s := by
  unfold equalE at h ⊢
  dsimp only at h ⊢
  have h0 : (allE rec l s).bad = false := by
    split at h
    · exact h
    · exact h
  obtain ⟨h1, h2⟩ := allE_sm hr l s h0
  exact ⟨h1, by rw [h2]⟩
include hq in
theorem callE_sm (ts : List Node) (x : Node) (l : List Nat) (s : MS) (h : (callE pt ts rec x l s).bad = false) : s.bad = false ∧ callE pt' ts rec' x l s = callE pt ts rec x l s := by
  unfold callE at h ⊢
  by_cases q1 : x.n = 1
  · rw [if_pos q1] at h
    rw [if_pos q1, if_pos q1]
    obtain ⟨h1, h2⟩ := hr (l.getD 0 0) s h
    exact ⟨h1, by rw [h2]⟩
  rw [if_neg q1] at h
  rw [if_neg q1, if_neg q1]
  by_cases q5 : x.n = 5
  · rw [if_pos q5] at h
    rw [if_pos q5, if_pos q5]
    unfold findE at h ⊢
    obtain ⟨h0, h5⟩ := numE_sm hq (show (numE (pt _) _).bad = false from h)
    obtain ⟨h1, h2⟩ := hr (l.getD 0 0) s h0
    exact ⟨h1, by rw [h2, h5]⟩
  rw [if_neg q5] at h
  rw [if_neg q5, if_neg q5]
  obtain ⟨h1, h2⟩ := allE_sm hr l s h
  exact ⟨h1, by rw [h2]⟩
omit hr in
theorem forkB_bad (x : Node) (s : MS) : (forkB x s).bad = s.bad := by
  unfold forkB
  split <;> rfl
theorem forkE_sm (x : Node) (l : List Nat) (s : MS) (h : (forkE rec x l s).bad = false) : s.bad = false ∧ forkE rec' x l s = forkE rec x l s := by
  unfold forkE at h ⊢
  dsimp only at h ⊢
  by_cases q : l.length < 3
  · rw [if_pos q] at h
    rw [if_pos q, if_pos q]
    obtain ⟨h1, h2⟩ := hr _ _ (show (rec (l.getD 1 0) _).bad = false from h)
    rw [forkB_bad] at h1
    obtain ⟨h3, h4⟩ := hr (l.getD 0 0) s h1
    exact ⟨h3, by rw [h4, h2]⟩
  · rw [if_neg q] at h
    rw [if_neg q, if_neg q]
    obtain ⟨h5, h6⟩ := hr _ _ (show (rec (l.getD 2 0) _).bad = false from h)
    obtain ⟨h1, h2⟩ := hr _ _ (show (rec (l.getD 1 0) _).bad = false from h5)
    rw [forkB_bad] at h1
    obtain ⟨h3, h4⟩ := hr (l.getD 0 0) s h1
    exact ⟨h3, by rw [h4, h2, h6]⟩
include hi in
theorem repeatE_sm (x : Node) (l : List Nat) (s : MS) (h : (repeatE pi rec x l s).bad = false) : s.bad = false ∧ repeatE pi' rec' x l s = repeatE pi rec x l s := by
  unfold repeatE at h ⊢
  dsimp only at h ⊢
  obtain ⟨h1, e1⟩ := pushE_sm hi (show (pushE (pi 1) (opE 4 [u8 x.m] (allE rec l (repeatB pi x (repeatA pi x s))))).bad = false from h)
  obtain ⟨h2, e2⟩ := allE_sm hr l _ h1
  obtain ⟨h3, e3⟩ := pushE_sm hi (show (pushE (pi x.n) (opE 4 [u8 x.m] (repeatA pi x s))).bad = false from h2)
  obtain ⟨h4, e4⟩ := pushE_sm hi (show (pushE (pi 0) s).bad = false from h3)
  have ea : repeatA pi' x s = repeatA pi x s := by unfold repeatA; rw [e4]
  have eb : ∀ s, repeatB pi' x s = repeatB pi x s := fun s => by unfold repeatB; rw [e3]
  have ec : ∀ t s, repeatC pi' x t s = repeatC pi x t s := fun t s => by unfold repeatC; rw [e1]
  exact ⟨h4, by rw [ea, eb, ec, e2]⟩
include hi in
theorem eachE_sm (x : Node) (l : List Nat) (s : MS) (h : (eachE pi rec x l s).bad = false) : s.bad = false ∧ eachE pi' rec' x l s = eachE pi rec x l s := by
  unfold eachE at h ⊢
  dsimp only at h ⊢
  obtain ⟨h1, e1⟩ := hr _ _ (show (rec (l.getD 1 0) _).bad = false from h)
  obtain ⟨h2, e2⟩ := pushE_sm hi (show (pushE (pi 0) (opE 5 [u8 x.m] (rec (l.getD 0 0) (numE (pi 1) s)))).bad = false from h1)
  obtain ⟨h3, e3⟩ := hr _ _ (show (rec (l.getD 0 0) (numE (pi 1) s)).bad = false from h2)
  obtain ⟨h4, e4⟩ := numE_sm hi h3
  have ea : ∀ s, eachA pi' x s = eachA pi x s := fun s => by unfold eachA; rw [e2]
  exact ⟨h4, by rw [e4, e3, ea, e1]⟩
theorem plainE_sm (o : Option Int) (l : List Nat) (s : MS) (h : (plainE rec o l s).bad = false) : s.bad = false ∧ plainE rec' o l s = plainE rec o l s := by
  unfold plainE at h ⊢
  cases o with
  | some c =>
    obtain ⟨h1, h2⟩ := allE_sm hr l s h
    exact ⟨h1, by dsimp only; rw [h2]⟩
  | none => exact ⟨h, rfl⟩
include hi hq in
theorem emitF_sm (ts : List Node) : Sm (emitF pi pt ts rec) (emitF pi' pt' ts rec') := by
  intro i s h
  unfold emitF at h ⊢
  obtain ⟨x, hx⟩ : ∃ x, x = ts.getD i node0 := ⟨_, rfl⟩
  obtain ⟨l, hl⟩ : ∃ l, l = kidsOf ts i := ⟨_, rfl⟩
  simp only [← hx, ← hl] at h ⊢
  have ha := allE_sm hr l s
  by_cases q0 : x.op = 10
  · rw [if_pos q0] at h; rw [if_pos q0, if_pos q0]; exact ha h
  rw [if_neg q0] at h; rw [if_neg q0, if_neg q0]
  by_cases q1 : x.op = 30
  · rw [if_pos q1] at h; rw [if_pos q1, if_pos q1]
    obtain ⟨h1, h2⟩ := pushE_sm hi h
    exact ⟨h1, by rw [h2]⟩
  rw [if_neg q1] at h; rw [if_neg q1, if_neg q1]
  by_cases q2 : x.op = 33
  · rw [if_pos q2] at h; rw [if_pos q2, if_pos q2]; exact ⟨h, rfl⟩
  rw [if_neg q2] at h; rw [if_neg q2, if_neg q2]
  by_cases q3 : x.op = 36
  · rw [if_pos q3] at h; rw [if_pos q3, if_pos q3]; exact orE_sm hr l s h
  rw [if_neg q3] at h; rw [if_neg q3, if_neg q3]
  by_cases q4 : x.op = 37
  · rw [if_pos q4] at h; rw [if_pos q4, if_pos q4]; exact andE_sm hr l s h
  rw [if_neg q4] at h; rw [if_neg q4, if_neg q4]
  by_cases q5 : x.op = 38 ∨ x.op = 39
  · rw [if_pos q5] at h; rw [if_pos q5, if_pos q5]; exact equalE_sm hr ts x l s h
  rw [if_neg q5] at h; rw [if_neg q5, if_neg q5]
  by_cases q6 : x.op = 50
  · rw [if_pos q6] at h; rw [if_pos q6, if_pos q6]; exact callE_sm hq hr ts x l s h
  rw [if_neg q6] at h; rw [if_neg q6, if_neg q6]
  by_cases q7 : x.op = 13 ∨ x.op = 16
  · rw [if_pos q7] at h; rw [if_pos q7, if_pos q7]; exact forkE_sm hr x l s h
  rw [if_neg q7] at h; rw [if_neg q7, if_neg q7]
  by_cases q8 : x.op = 14
  · rw [if_pos q8] at h; rw [if_pos q8, if_pos q8]; exact repeatE_sm hi hr x l s h
  rw [if_neg q8] at h; rw [if_neg q8, if_neg q8]
  by_cases q9 : x.op = 15
  · rw [if_pos q9] at h; rw [if_pos q9, if_pos q9]; exact eachE_sm hi hr x l s h
  rw [if_neg q9] at h; rw [if_neg q9, if_neg q9]
  by_cases q10 : x.op = 49
  · rw [if_pos q10] at h; rw [if_pos q10, if_pos q10]; obtain ⟨h1, h2⟩ := ha h; exact ⟨h1, by rw [h2]⟩
  rw [if_neg q10] at h; rw [if_neg q10, if_neg q10]
  by_cases q11 : x.op = 19
  · rw [if_pos q11] at h; rw [if_pos q11, if_pos q11]; obtain ⟨h1, h2⟩ := ha h; exact ⟨h1, by rw [h2]⟩
  rw [if_neg q11] at h; rw [if_neg q11, if_neg q11]
  by_cases q12 : x.op = 11 ∨ x.op = 12
  · rw [if_pos q12] at h; rw [if_pos q12, if_pos q12]; obtain ⟨h1, h2⟩ := ha h; exact ⟨h1, by rw [h2]⟩
  rw [if_neg q12] at h; rw [if_neg q12, if_neg q12]
  exact plainE_sm hr _ l s h
end
section
variable {pi pi' : Int → Option Int} {pt pt' : ByteArray → Option Int} (hi : Ext pi pi') (hq : Ext pt pt')
include hi hq
theorem emitM_sm (ts : List Node) : ∀ f, Sm (emitM pi pt ts f) (emitM pi' pt' ts f)
  | 0 => fun i s h => ⟨h, rfl⟩
  | f + 1 => emitF_sm hi hq (emitM_sm ts f) ts
theorem madeM_sm (wh : Bool) (ts : List Node) (h : (madeM pi pt wh ts).bad = false) : madeM pi' pt' wh ts = madeM pi pt wh ts := by
  have hs := emitM_sm hi hq ts ts.length
  unfold madeM at h ⊢
  dsimp only at h ⊢
  cases wh with
  | false =>
    simp only [Bool.false_eq_true, if_false] at h ⊢
    rw [(hs _ _ (show (emitM pi pt ts ts.length 0 _).bad = false from h)).2]
  | true =>
    simp only [if_true] at h ⊢
    obtain ⟨h1, h2⟩ := hs _ _ (show (emitM pi pt ts ts.length (behind ts 0).toNat _).bad = false from h)
    obtain ⟨h3, h4⟩ := hs 0 _ (show (emitM pi pt ts ts.length 0 _).bad = false from h1)
    rw [h4, h2]
end

/-- check.Able's yes does not ask where nodes stood, nor of what event. -/
theorem checkAble_low {on on' : Int} {slots : List Int} {wh : Bool} {ts : List Node} (h0 : 0 ≤ on') (h4 : on' ≤ 4) (h : checkAble on slots wh ts = true) : checkAble on' slots wh (lowT ts) = true := by
  have hw : (look2 wh ts).bad = false := by
    unfold checkAble at h
    simp only [Bool.and_eq_true, Bool.not_eq_true'] at h
    exact h.1.2
  have e1b : (look1 wh ts).bad = false := by
    unfold look2 at hw
    split at hw
    · rename_i hh; rw [hh] at hw; cases hw
    · rename_i hh; simpa using hh
  have e1 : look1 wh (lowT ts) = look1 wh ts := by
    unfold look1 at e1b ⊢
    split
    · rename_i hc
      rw [if_pos hc] at e1b
      exact valueF_low e1b
    · rfl
  have eb : blockOf wh (lowT ts) = blockOf wh ts := by unfold blockOf; rw [behind_low]
  have e2 : look2 wh (lowT ts) = look2 wh ts := by
    unfold look2 at hw ⊢
    rw [e1, eb, lowT_len]
    rw [if_neg (by rw [e1b]; decide)] at hw
    rw [if_neg (by rw [e1b]; decide), if_neg (by rw [e1b]; decide)]
    exact (sbM_low ts _).2 _ _ hw
  have e3 : wholeB wh (lowT ts) = wholeB wh ts := by unfold wholeB; rw [eb, behind_low, lowT_len]
  unfold checkAble at h ⊢
  rw [e2, e3, lowT_len]
  simp only [Bool.and_eq_true, decide_eq_true_eq] at h ⊢
  exact ⟨⟨⟨⟨⟨⟨h0, h4⟩, h.1.1.1.1.2⟩, h.1.1.1.2⟩, h.1.1.2⟩, h.1.2⟩, h.2⟩
end Go.Proofs.Ytggibiodeecljaa
namespace Go.Proofs.Ytggibiodeecljaa
open Go.RowKit
set_option linter.unusedVariables false

/-- emit.Able, as a plain function: the code, and the error's number. -/
noncomputable def ableE (on : Int) (slots : List Int) (wh : Bool) (ts : List Node) (ints : List Int) (texts : List ByteArray) : List Int × Int :=
  if checkAble on slots wh ts = true then
    if (madeM (numI ints) (numS texts) wh ts).bad = true then ([], 42) else (layE (madeM (numI ints) (numS texts) wh ts).later (madeM (numI ints) (numS texts) wh ts).b, 0)
  else ([], 1)

theorem made_able (on : Int) (SA TA : Option Addr) (slots : List Int) (sc tc : Nat) (wh : Bool) (ts : List Node) (im tm : Value) (pi : Int → Option Int) (pt : ByteArray → Option Int) (w : World) (hb : checkAble on slots wh ts = true) (hT : TreeAt w TA ts)
    (hp : PoolI w w.heap.size im pi) (hpb : ∀ n v, pi n = some v → 0 ≤ v ∧ v ≤ 4095) (hpt : PoolT w w.heap.size tm pt) (hptb : ∀ n v, pt n = some v → 0 ≤ v ∧ v ≤ 4095) :
    Calls Try.prog 38 #[.agg #[.int .i64 on, .slice SA slots.length sc, .bool wh, .slice TA ts.length tc], im, tm] w fun e w' => ∃ bv, e = .returned (.tuple #[bv, .bool (!(madeM pi pt wh ts).bad)]) ∧ w'.ownsRow w.heap.size 5 1 bv (madeM pi pt wh ts).b.length (u8Vals (layE (madeM pi pt wh ts).later (madeM pi pt wh ts).b)) ∧ Below w.heap.size w w' := by
  have hm := madeM_small pi pt hb
  obtain ⟨f1, f2⟩ := able_wholeE hb
  obtain ⟨hl, hp0, m, hmm, hml, he, _, hwt, hwf⟩ := able_whole hb
  have hpb' : ∀ n v, pi n = some v → 0 ≤ v ∧ v ≤ 10000000 := fun n v h => by have := hpb n v h; omega
  have hptb' : ∀ n v, pt n = some v → 0 ≤ v ∧ v ≤ 10000000 := fun n v h => by have := hptb n v h; omega
  rcases hT with rfl | ⟨tb, toff, rfl, htb, hn⟩
  · simp at hp0
  rw [hmm, Int.toNat_natCast] at f1
  cases wh with
  | false =>
    have := hwf rfl
    subst this
    exact made_no on SA slots.length sc tb toff tc ts im tm pi pt w hl hp0 hn htb hp hpb' hpt hptb' f1 (by omega) hm
  | true =>
    obtain ⟨hbm, _⟩ := hwt rfl
    have hbn : (behind ts 0).toNat = m := by rw [hbm]; rfl
    exact made_yes on SA slots.length sc tb toff tc ts im tm pi pt w hl hp0 hn htb hp hpb' hpt hptb' (f2 rfl) (by omega) (by omega) (by rw [hbn]; exact f1) (by rw [hbn]; omega) hm

def EOut (w : World) (r : List Int × Int) (e : Ending) (w' : World) : Prop := ∃ bv, e = .returned (.tuple #[bv, .int .i64 r.2]) ∧ w'.ownsRow w.heap.size 5 1 bv r.1.length (u8Vals r.1) ∧ Below w.heap.size w w'
section
variable (on : Int) (SA TA : Option Addr) (slots : List Int) (sc tc : Nat) (wh : Bool) (ts : List Node) (IA XA : Option Addr) (ints : List Int) (texts : List ByteArray) (ic xc : Nat) (w : World)
theorem able_boxE (hT : TreeAt w TA ts) (hS : SmallsAt w SA slots) (htxt : ∀ y ∈ ts, y.text.size ≤ 1099511627776) (bx : Array Value) (b : Bool) (hb : checkAble on slots wh ts = b) :
    Calls Try.prog 37 #[.agg #[.int .i64 on, .slice SA slots.length sc, .bool wh, .slice TA ts.length tc]] (w.alloc (.cells bx 25)) fun e w' => e = .returned (.bool b) ∧ Below w.heap.size w w' ∧ Blk w' w.heap.size 25 bx := by
  have hbel : Below w.heap.size w (w.alloc (.cells bx 25)) := (Below.refl _ _).alloc (Nat.le_refl _) _
  refine (able_any on SA TA slots sc tc wh ts _ (hT.below hbel) (hS.below hbel) htxt).mono ?_
  rintro e w' ⟨rfl, h⟩
  rw [hb]
  simp only [World.size_alloc] at h
  exact ⟨rfl, hbel.trans (h.mono (by omega)), (Blk.new w _ bx).below h (by omega)⟩
set_option maxRecDepth 100000 in
set_option maxHeartbeats 1000000 in
theorem eable_no (hT : TreeAt w TA ts) (hS : SmallsAt w SA slots) (htxt : ∀ y ∈ ts, y.text.size ≤ 1099511627776) (hb : checkAble on slots wh ts = false) :
    Calls Try.prog 11 #[.agg #[.int .i64 on, .slice SA slots.length sc, .bool wh, .slice TA ts.length tc], .slice IA ints.length ic, .slice XA texts.length xc] w (EOut w ([], 1)) := by
  have hc := able_boxE on SA TA slots sc tc wh ts w hT hS htxt #[.int .i64 on, .slice SA slots.length sc, .bool wh, .slice TA ts.length tc] false hb
  have HC := Lib.hid hc
  clear hc hT hS htxt hb
  go_enter Try.func11, Try.ntmps11
  go_wp2_with fail
  refine HC.out.mono ?_
  rintro e w1 ⟨rfl, h1, h2⟩
  go_wp2_with fail
  go_ret2
  exact ⟨_, rfl, World.ownsRow_nil _ _ _ _, h1⟩
set_option maxRecDepth 100000 in
set_option maxHeartbeats 2000000 in
theorem eable_yes (M : MS) (hM : madeM (numI ints) (numS texts) wh ts = M) (hi : ints.length ≤ 100000000) (hx : texts.length ≤ 100000000) (hI : IntsAt w IA ints) (hX : TextsAt w XA texts) (hT : TreeAt w TA ts) (hS : SmallsAt w SA slots) (htxt : ∀ y ∈ ts, y.text.size ≤ 1099511627776) (hb : checkAble on slots wh ts = true) (q : Bool) (hq : M.bad = q) :
    Calls Try.prog 11 #[.agg #[.int .i64 on, .slice SA slots.length sc, .bool wh, .slice TA ts.length tc], .slice IA ints.length ic, .slice XA texts.length xc] w (EOut w (if q = true then ([], 42) else (layE M.later M.b, 0))) := by
  have hc := able_boxE on SA TA slots sc tc wh ts w hT hS htxt #[.int .i64 on, .slice SA slots.length sc, .bool wh, .slice TA ts.length tc] true hb
  have hni := fun (w' : World) (h : Below w.heap.size w w') => numbersI_any IA ints ints.length ic w' (hI.below h) rfl hi
  have hnx := fun (w' : World) (h : Below w.heap.size w w') => numbersS_any XA texts texts.length xc w' (hX.below h) rfl hx
  have hmd := fun (im tm : Value) (w' : World) (h : Below w.heap.size w w') (hp : PoolI w' w'.heap.size im (numI ints)) (hpt : PoolT w' w'.heap.size tm (numS texts)) => made_able on SA TA slots sc tc wh ts im tm (numI ints) (numS texts) w' hb (hT.below h) hp (numI_bnd ints) hpt (numS_bnd texts)
  simp only [hM, hq] at hmd
  have hlen : (layE M.later M.b).length = M.b.length := layE_len _ _
  rw [← hlen] at hmd
  obtain ⟨L, hL⟩ : ∃ L, L = layE M.later M.b := ⟨_, rfl⟩
  rw [← hL] at hmd ⊢
  obtain ⟨r, hr⟩ : ∃ r : List Int × Int, r = (if q = true then ([], 42) else (L, 0)) := ⟨_, rfl⟩
  rw [← hr]
  have HR := Lib.hid hr
  clear hr
  obtain ⟨ni, hni'⟩ : ∃ n, ints.length = n := ⟨_, rfl⟩
  obtain ⟨nx, hnx'⟩ : ∃ n, texts.length = n := ⟨_, rfl⟩
  obtain ⟨ns, hns'⟩ : ∃ n, slots.length = n := ⟨_, rfl⟩
  obtain ⟨nt, hnt'⟩ : ∃ n, ts.length = n := ⟨_, rfl⟩
  rw [hni'] at hni ⊢
  rw [hnx'] at hnx ⊢
  rw [hns', hnt'] at hc ⊢
  simp only [hns', hnt'] at hmd
  have HC := Lib.hid hc
  have HNI := Lib.hid hni
  have HNX := Lib.hid hnx
  have HMD := Lib.hid hmd
  clear hc hni hnx hmd hT hS htxt hb hI hX hM hq hlen hL hni' hnx' hns' hnt' hi hx
  go_enter Try.func11, Try.ntmps11
  go_wp2_with fail
  refine HC.out.mono ?_
  rintro e w1 ⟨rfl, h1, k1⟩
  have B1 := Lib.hid h1
  have K1 := Lib.hid k1
  clear h1 k1
  go_wp2_with fail
  have sA : w1.drew.cell? ⟨w.heap.size, 0, none⟩ = some (.int .i64 on) ∧ w1.drew.cell? ⟨w.heap.size, 1, none⟩ = some (.slice SA ns sc) ∧ w1.drew.cell? ⟨w.heap.size, 2, none⟩ = some (.bool wh) ∧ w1.drew.cell? ⟨w.heap.size, 3, none⟩ = some (.slice TA nt tc) := ⟨K1.out.cell 0, K1.out.cell 1, K1.out.cell 2, K1.out.cell 3⟩
  go_region_held3 (fun w' => w'.cell? ⟨w.heap.size, 0, none⟩ = some (.int .i64 on) ∧ w'.cell? ⟨w.heap.size, 1, none⟩ = some (.slice SA ns sc) ∧ w'.cell? ⟨w.heap.size, 2, none⟩ = some (.bool wh) ∧ w'.cell? ⟨w.heap.size, 3, none⟩ = some (.slice TA nt tc)) (first | exact sA | exact sB | exact sC | exact sD)
    ((first | (go_at_call 39; refine (HNI.out _ B1.out.drew).mono ?_; rintro e w2 ⟨m1, rfl, hg2, hm2, hb2⟩; have B2 := Lib.hid (B1.out.drew.trans (hb2.mono B1.out.size)); have k2 := K1.out.drew.below hb2 K1.out.lt; have K2 := Lib.hid k2; have M2 := Lib.hid hm2; have z2 : m1 < w2.heap.size := hm2.lt keyL; have sB : w2.cell? ⟨w.heap.size, 0, none⟩ = some (.int .i64 on) ∧ w2.cell? ⟨w.heap.size, 1, none⟩ = some (.slice SA ns sc) ∧ w2.cell? ⟨w.heap.size, 2, none⟩ = some (.bool wh) ∧ w2.cell? ⟨w.heap.size, 3, none⟩ = some (.slice TA nt tc) := ⟨k2.cell 0, k2.cell 1, k2.cell 2, k2.cell 3⟩; clear hm2 hb2 k2)
              | (go_at_call 40; refine (HNX.out _ B2.out).mono ?_; rintro e w3 ⟨m2, rfl, hg3, hm3, hb3⟩; have B3 := Lib.hid (B2.out.trans (hb3.mono B2.out.size)); have k3 := K2.out.below hb3 K2.out.lt; have K3 := Lib.hid k3; have P2 : Hid (PoolI w3 w3.heap.size (.map (some m1)) (numI ints)) := Lib.hid (PoolI.up (B := w2.heap.size) ⟨m1, rfl, z2, M2.out⟩ hb3 hb3.size); have P3 : Hid (PoolT w3 w3.heap.size (.map (some m2)) (numS texts)) := Lib.hid ⟨m2, rfl, hm3.lt keyS, hm3⟩; have sC : w3.cell? ⟨w.heap.size, 0, none⟩ = some (.int .i64 on) ∧ w3.cell? ⟨w.heap.size, 1, none⟩ = some (.slice SA ns sc) ∧ w3.cell? ⟨w.heap.size, 2, none⟩ = some (.bool wh) ∧ w3.cell? ⟨w.heap.size, 3, none⟩ = some (.slice TA nt tc) := ⟨k3.cell 0, k3.cell 1, k3.cell 2, k3.cell 3⟩; clear hm3 hb3 k3)
              | (go_at_call 38; refine (HMD.out _ _ _ B3.out P2.out P3.out).mono ?_; rintro e w4 ⟨bv, rfl, ho4, hb4⟩; have B4 := Lib.hid (B3.out.trans (hb4.mono B3.out.size)); have O4 := Lib.hid (own_low ho4 B3.out.size); have k4 := K3.out.below hb4 K3.out.lt; have sD : w4.cell? ⟨w.heap.size, 0, none⟩ = some (.int .i64 on) ∧ w4.cell? ⟨w.heap.size, 1, none⟩ = some (.slice SA ns sc) ∧ w4.cell? ⟨w.heap.size, 2, none⟩ = some (.bool wh) ∧ w4.cell? ⟨w.heap.size, 3, none⟩ = some (.slice TA nt tc) := ⟨k4.cell 0, k4.cell 1, k4.cell 2, k4.cell 3⟩; clear ho4 hb4 k4)))
  cases q with
  | true =>
    obtain rfl : r = ([], 42) := HR.out
    go_wp2_with fail
    go_ret2
    exact ⟨_, rfl, World.ownsRow_nil _ _ _ _, B4.out⟩
  | false =>
    obtain rfl : r = (L, 0) := HR.out
    go_wp2_with fail
    go_ret2
    exact ⟨_, rfl, O4.out, B4.out⟩
/-- emit.Able of every ability. -/
theorem eable_any (hi : ints.length ≤ 100000000) (hx : texts.length ≤ 100000000) (hI : IntsAt w IA ints) (hX : TextsAt w XA texts) (hT : TreeAt w TA ts) (hS : SmallsAt w SA slots) (htxt : ∀ y ∈ ts, y.text.size ≤ 1099511627776) :
    Calls Try.prog 11 #[.agg #[.int .i64 on, .slice SA slots.length sc, .bool wh, .slice TA ts.length tc], .slice IA ints.length ic, .slice XA texts.length xc] w (EOut w (ableE on slots wh ts ints texts)) := by
  cases hb : checkAble on slots wh ts with
  | false =>
    have e : ableE on slots wh ts ints texts = ([], 1) := by unfold ableE; rw [if_neg (by rw [hb]; decide)]
    rw [e]
    exact eable_no on SA TA slots sc tc wh ts IA XA ints texts ic xc w hT hS htxt hb
  | true =>
    have e : ableE on slots wh ts ints texts = (if (madeM (numI ints) (numS texts) wh ts).bad = true then ([], 42) else (layE (madeM (numI ints) (numS texts) wh ts).later (madeM (numI ints) (numS texts) wh ts).b, 0)) := by unfold ableE; rw [if_pos hb]
    rw [e]
    exact eable_yes on SA TA slots sc tc wh ts IA XA ints texts ic xc w _ rfl hi hx hI hX hT hS htxt hb _ rfl
end
end Go.Proofs.Ytggibiodeecljaa
namespace Go.Proofs.Ytggibiodeecljaa
open Go.RowKit
set_option linter.unusedVariables false

theorem ableE_bad {on : Int} {slots : List Int} {wh : Bool} {ts : List Node} {ints : List Int} {texts : List ByteArray} {x : List Int} {e : Int} (h : ableE on slots wh ts ints texts = (x, e)) (he : e ≠ 0) : x = [] ∧ (e = 1 ∨ e = 42) := by
  unfold ableE at h
  split at h
  · split at h
    · injection h with h1 h2; exact ⟨h1.symm, .inr h2.symm⟩
    · injection h with h1 h2; exact absurd h2.symm he
  · injection h with h1 h2; exact ⟨h1.symm, .inl h2.symm⟩
theorem ableE_good {on : Int} {slots : List Int} {wh : Bool} {ts : List Node} {ints : List Int} {texts : List ByteArray} {x : List Int} (h : ableE on slots wh ts ints texts = (x, 0)) : checkAble on slots wh ts = true ∧ (madeM (numI ints) (numS texts) wh ts).bad = false ∧ x = layE (madeM (numI ints) (numS texts) wh ts).later (madeM (numI ints) (numS texts) wh ts).b := by
  unfold ableE at h
  split at h
  · rename_i hc
    split at h
    · injection h with h1 h2; cases h2
    · rename_i hb; injection h with h1 h2; exact ⟨hc, by simpa using hb, h1.symm⟩
  · injection h with h1 h2; cases h2
theorem able_on {on : Int} {slots : List Int} {wh : Bool} {ts : List Node} (h : checkAble on slots wh ts = true) : 0 ≤ on ∧ on ≤ 4 ∧ slots.length ≤ 32 ∧ ts.length ≤ 2000 := by
  unfold checkAble at h
  simp only [Bool.and_eq_true, decide_eq_true_eq] at h
  exact ⟨h.1.1.1.1.1.1, h.1.1.1.1.1.2, h.1.1.1.1.2, h.1.1.1.2⟩
/-- Where nodes stood, the event, more in the pools: the same code. -/
theorem ableE_same {on : Int} {slots : List Int} {wh : Bool} {ts : List Node} {ints more : List Int} {texts : List ByteArray} {x : List Int} (t : List ByteArray) (h : ableE on slots wh ts ints texts = (x, 0)) : 0 ≤ on ∧ on ≤ 4 ∧ 0 < ts.length ∧ x.length ≤ 1000000 ∧ ableE ((on + 1) % 5) slots wh (lowT ts) (ints ++ more) (texts ++ t) = (x, 0) := by
  obtain ⟨h1, h2, h3⟩ := ableE_good h
  obtain ⟨a0, a1, a2, a3⟩ := able_on h1
  refine ⟨a0, a1, (able_whole h1).2.1, ?_, ?_⟩
  · have hm := madeM_small (numI ints) (numS texts) h1
    rw [h3, layE_len]
    unfold MS.ms at hm
    omega
  unfold ableE
  rw [if_pos (checkAble_low (by omega) (by omega) h1), madeM_low, madeM_sm (numI_ext ints more) (numS_ext texts t) wh ts h2, if_neg (by rw [h2]; decide), h3]

def tsLittle : List Node := [nd 10 0 0 0 1, nd 19 0 6 0 2, nd 33 3 0 0 0, nd 30 1 5 0 0]
theorem little_yes : ableE 0 [3, 4] false tsLittle [0, 1, 5] [] = ([4, 0, 1, 0, 2, 60, 6, 34], 0) := by kernel_rfl
theorem little_no : ableE 0 [3, 4] false tsLittle [0, 1] [] = ([], 42) := by kernel_rfl
end Go.Proofs.Ytggibiodeecljaa
