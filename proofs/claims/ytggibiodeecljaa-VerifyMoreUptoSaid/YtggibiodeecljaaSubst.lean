/- A region that draws its order: operations whose yield is known ahead of the region are moves of a constant. No program in sight. -/
import Derived.Test.YtggibiodeecljaaSerial3
namespace Go.Proofs.Ytggibiodeecljaa
open Go.RowKit
set_option linter.unusedVariables false

/-- Operation number j writes slot d; where the slots of 'needs' hold what stands there, it yields v. -/
structure Kn where
  j : Nat
  d : Nat
  needs : List (Nat × Value)
  v : Value
def knAt (ks : List Kn) (j : Nat) : Option Kn := ks.find? (fun k => k.j == j)
def knOf (ks : List Kn) (t : Nat) : Option Kn := ks.find? (fun k => k.d == t)
def putKn (o : Oper) (k : Kn) : Oper := { o with op := .move (.const k.v) }
def substL (ks : List Kn) : Nat → List Oper → List Oper
  | _, [] => []
  | i, o :: r => (match knAt ks i with | some k => putKn o k | none => o) :: substL ks (i + 1) r
def notW (l : List Oper) (t : Nat) : Bool := l.all fun o => o.dst != some t
def onlyW (l : List Oper) (j t : Nat) : Bool := (List.range l.length).all fun i => i == j || (l[i]?).all fun o => o.dst != some t
/-- What can be seen of the operations alone. -/
def knStatic (l : List Oper) (ks : List Kn) (size : Nat) : Bool :=
  ks.all fun k => decide (k.d < size) && onlyW l k.j k.d && match l[k.j]? with
    | none => false
    | some o => o.guard.isNone && o.dst == some k.d && k.needs.all fun p => match knOf ks p.1 with
      | none => notW l p.1
      | some k' => o.after.any fun e => e.on == k'.j && Region.binds .any e
def expect (a : Act) (ks : List Kn) (t : Nat) : Value := match knOf ks t with
  | some k => k.v
  | none => a.eval (.tmp t)
def needsAre (a : Act) (ks : List Kn) : List (Nat × Value) → Prop
  | [] => True
  | p :: r => expect a ks p.1 = p.2 ∧ needsAre a ks r
def knVals (a : Act) (ks : List Kn) : List Kn → Prop
  | [] => True
  | k :: r => needsAre a ks k.needs ∧ knVals a ks r
def needsHold (A : Act) : List (Nat × Value) → Prop
  | [] => True
  | p :: r => A.eval (.tmp p.1) = p.2 ∧ needsHold A r
def knRuns (P : Program) (l : List Oper) : List Kn → Prop
  | [] => True
  | k :: r => (∀ (A : Act) (w : World), needsHold A k.needs → (execOp A.eval (l.getD k.j default)).run P w = .ok (.value k.v) w) ∧ knRuns P l r

section
variable {P : Program} {l : List Oper} {ks : List Kn} {a0 : Act}
theorem substL_len : ∀ (l : List Oper) (i : Nat), (substL ks i l).length = l.length
  | [], _ => rfl
  | o :: r, i => by simp [substL, substL_len r]
theorem substL_at : ∀ (l : List Oper) (i j : Nat), (substL ks i l)[j]? = (l[j]?).map fun o => match knAt ks (i + j) with | some k => putKn o k | none => o
  | [], i, j => by simp [substL]
  | o :: r, i, 0 => by simp [substL]
  | o :: r, i, j + 1 => by
    simp only [substL, List.getElem?_cons_succ]
    rw [substL_at r (i + 1) j, show i + 1 + j = i + (j + 1) by omega]
theorem subst_at (j : Nat) : (substL ks 0 l).toArray[j]? = (l.toArray[j]?).map fun o => match knAt ks j with | some k => putKn o k | none => o := by
  rw [List.getElem?_toArray, List.getElem?_toArray, substL_at, Nat.zero_add]
theorem subst_dst (j : Nat) : (((substL ks 0 l).toArray[j]?).bind (·.dst)) = ((l.toArray[j]?).bind (·.dst)) := by
  rw [subst_at]
  cases l.toArray[j]? with
  | none => rfl
  | some o =>
    show (match knAt ks j with | some k => putKn o k | none => o).dst = o.dst
    split <;> rfl
theorem subst_yielded (t : Array Value) : yielded (substL ks 0 l).toArray t = yielded l.toArray t := by
  funext j
  unfold yielded
  rw [subst_dst]
theorem subst_ready (md : Region.Mode) (listed : Array Bool) : Region.ready md (substL ks 0 l).toArray listed = Region.ready md l.toArray listed := by
  unfold Region.ready
  have hs : (substL ks 0 l).toArray.size = l.toArray.size := by simp [substL_len]
  rw [hs]
  congr 1
  funext i
  rw [subst_at]
  cases l.toArray[i]? with
  | none => rfl
  | some o =>
    simp only [Option.map_some]
    have : (match knAt ks i with | some k => putKn o k | none => o).after = o.after := by split <;> rfl
    rw [this]
theorem knAt_mem {j : Nat} {k : Kn} (h : knAt ks j = some k) : k ∈ ks ∧ k.j = j := by
  unfold knAt at h
  have h1 := List.find?_some h
  exact ⟨List.mem_of_find?_eq_some h, by simpa using h1⟩
theorem knOf_mem {t : Nat} {k : Kn} (h : knOf ks t = some k) : k ∈ ks ∧ k.d = t := by
  unfold knOf at h
  have h1 := List.find?_some h
  exact ⟨List.mem_of_find?_eq_some h, by simpa using h1⟩
theorem knVals_mem {a : Act} : ∀ {r : List Kn}, knVals a ks r → ∀ k ∈ r, needsAre a ks k.needs
  | k' :: r, h, k, hk => by
    rcases List.mem_cons.1 hk with rfl | hk
    · exact h.1
    · exact knVals_mem h.2 k hk
theorem knRuns_mem : ∀ {r : List Kn}, knRuns P l r → ∀ k ∈ r, ∀ (A : Act) (w : World), needsHold A k.needs → (execOp A.eval (l.getD k.j default)).run P w = .ok (.value k.v) w
  | k' :: r, h, k, hk => by
    rcases List.mem_cons.1 hk with rfl | hk
    · exact h.1
    · exact knRuns_mem h.2 k hk

theorem upon_tm {o : Oper} {a : Act} {K : Act → World → Prop} {Q : Exit → Act → World → Prop} {r : Result Next} (h : o.upon P a K Q r) : o.upon P a (fun a' w' => K a' w' ∧ ∃ v, a'.tmps = (a.put o.dst v).tmps) Q r := by
  cases r with
  | ok n w' =>
    cases n with
    | value v => exact ⟨h, v, rfl⟩
    | skip => exact ⟨h, undef, rfl⟩
    | defer d => exact ⟨h, undef, by unfold Act.put; cases o.dst <;> rfl⟩
    | enter f args =>
      refine Calls.mono h fun e w'' hh => ?_
      cases e with
      | returned v => exact ⟨hh, v, rfl⟩
      | panicked c => exact hh
      | outgrown => exact hh
    | row row args => exact Rows.mono h fun v w'' hh => ⟨hh, v, rfl⟩
    | _ => exact h
  | halt x y => cases x <;> exact h
theorem wp_tm {o : Oper} {a : Act} {w : World} {K : Act → World → Prop} {Q : Exit → Act → World → Prop} (h : o.wp P a w K Q) : o.wp P a w (fun a' w' => K a' w' ∧ ∃ v, a'.tmps = (a.put o.dst v).tmps) Q := upon_tm h

theorem put_ne {a a' : Act} {dst : Option Tmp} {v : Value} {t : Nat} (h : a'.tmps = (a.put dst v).tmps) (hne : dst ≠ some t) : a'.eval (.tmp t) = a.eval (.tmp t) := by
  show a'.tmps.getD t undef = a.tmps.getD t undef
  rw [h]
  unfold Act.put
  cases dst with
  | none => rfl
  | some d =>
    have : d ≠ t := fun e => hne (by rw [e])
    simp only [Array.getD_eq_getD_getElem?, Array.getElem?_setIfInBounds_ne this]
theorem put_size {a a' : Act} {dst : Option Tmp} {v : Value} (h : a'.tmps = (a.put dst v).tmps) : a'.tmps.size = a.tmps.size := by
  rw [h]
  unfold Act.put
  cases dst <;> simp
theorem put_self {a : Act} {d : Nat} {v : Value} (h : d < a.tmps.size) : (a.put (some d) v).eval (.tmp d) = v := by
  show ((a.put (some d) v).tmps).getD d undef = v
  unfold Act.put
  simp only [Array.getD_eq_getD_getElem?, Array.getElem?_setIfInBounds_self_of_lt h, Option.getD_some]

structure KInv (l : List Oper) (ks : List Kn) (a0 : Act) (listed : Array Bool) (a : Act) : Prop where
  size : a.tmps.size = a0.tmps.size
  old : ∀ t, notW l t = true → a.eval (.tmp t) = a0.eval (.tmp t)
  new : ∀ k ∈ ks, listed.getD k.j false = true → a.eval (.tmp k.d) = k.v
  down : Down l.toArray listed
  lsz : listed.size = l.toArray.size

theorem notW_at {t : Nat} (h : notW l t = true) {i : Nat} {o : Oper} (hi : l.toArray[i]? = some o) : o.dst ≠ some t := by
  unfold notW at h
  rw [List.all_eq_true] at h
  have := h o (List.mem_of_getElem? (by simpa using hi))
  simpa using this
theorem onlyW_at {j t : Nat} (h : onlyW l j t = true) {i : Nat} {o : Oper} (hi : l.toArray[i]? = some o) (hne : i ≠ j) : o.dst ≠ some t := by
  unfold onlyW at h
  rw [List.all_eq_true] at h
  have hi2 : l[i]? = some o := by simpa using hi
  have hlt := (List.getElem?_eq_some_iff.1 hi2).1
  have h1 := h i (List.mem_range.2 hlt)
  rw [hi2] at h1
  simp only [Bool.or_eq_true, beq_iff_eq, Option.all_some, bne_iff_ne] at h1
  rcases h1 with h1 | h1
  · exact absurd h1 hne
  · exact h1
structure KSt (l : List Oper) (ks : List Kn) (size : Nat) (k : Kn) (o : Oper) : Prop where
  at_ : l.toArray[k.j]? = some o
  lt : k.d < size
  only : onlyW l k.j k.d = true
  grd : o.guard = none
  dst : o.dst = some k.d
  needs : ∀ p ∈ k.needs, match knOf ks p.1 with
    | none => notW l p.1 = true
    | some k' => ∃ e ∈ o.after, e.on = k'.j ∧ Region.binds .any e = true
theorem knStatic_at {size : Nat} (h : knStatic l ks size = true) (k : Kn) (hk : k ∈ ks) : ∃ o, KSt l ks size k o := by
  unfold knStatic at h
  rw [List.all_eq_true] at h
  have h1 := h k hk
  simp only [Bool.and_eq_true, decide_eq_true_eq] at h1
  obtain ⟨⟨h2, h3⟩, h4⟩ := h1
  split at h4
  · cases h4
  · rename_i o ho
    simp only [Bool.and_eq_true, Option.isNone_iff_eq_none, beq_iff_eq, List.all_eq_true] at h4
    refine ⟨o, by simpa using ho, h2, h3, h4.1.1, h4.1.2, fun p hp => ?_⟩
    have h5 := h4.2 p hp
    split at h5
    · rename_i hn
      exact h5
    · rename_i k' hn
      rw [Array.any_eq_true'] at h5
      obtain ⟨e, he, h6⟩ := h5
      simp only [Bool.and_eq_true, beq_iff_eq] at h6
      exact ⟨e, he, h6.1, h6.2⟩
theorem ready_at {md : Region.Mode} {listed : Array Bool} {i : Nat} (h : i ∈ Region.ready md l.toArray listed) : listed.getD i true = false ∧ ∃ o, l.toArray[i]? = some o ∧ ∀ e ∈ o.after, Region.binds md e = true → listed.getD e.on false = true := by
  unfold Region.ready at h
  rw [List.mem_filter] at h
  obtain ⟨h1, h2⟩ := h
  simp only [Bool.and_eq_true, Bool.not_eq_true'] at h2
  refine ⟨h2.1, ?_⟩
  cases ho : l.toArray[i]? with
  | none => rw [ho] at h2; cases h2.2
  | some o =>
    rw [ho] at h2
    refine ⟨o, rfl, fun e he hb => ?_⟩
    have h3 := h2.2
    simp only [Option.map_some, Option.getD_some, Array.all_eq_true_iff_forall_mem] at h3
    have := h3 e he
    simpa [hb] using this
theorem setL_other {listed : Array Bool} {i k : Nat} (h : k ≠ i) : (listed.setIfInBounds i true).getD k false = listed.getD k false := by
  simp only [Array.getD_eq_getD_getElem?, Array.getElem?_setIfInBounds_ne (Ne.symm h)]
theorem setL_le {listed : Array Bool} {i k : Nat} (h : listed.getD k false = true) : (listed.setIfInBounds i true).getD k false = true := by
  by_cases hk : k = i
  · subst hk
    have hlt : k < listed.size := by
      by_cases hlt : k < listed.size
      · exact hlt
      · simp [Array.getD_eq_getD_getElem?, Array.getElem?_eq_none (Nat.le_of_not_lt hlt)] at h
    simp only [Array.getD_eq_getD_getElem?, Array.getElem?_setIfInBounds_self_of_lt hlt, Option.getD_some]
  · rw [setL_other hk]; exact h
theorem KInv.step {size : Nat} (hs : knStatic l ks size = true) {listed : Array Bool} {a a' : Act} {v : Value} {i : Nat} {o : Oper} (h : KInv l ks a0 listed a) (hi : l.toArray[i]? = some o) (hr : ∀ e ∈ o.after, Region.binds .any e = true → listed.getD e.on false = true)
    (ht : a'.tmps = (a.put o.dst v).tmps) (hk : ∀ k ∈ ks, k.j = i → a'.eval (.tmp k.d) = k.v) : KInv l ks a0 (listed.setIfInBounds i true) a' := by
  refine ⟨(put_size ht).trans h.size, fun t hn => (put_ne ht (notW_at hn hi)).trans (h.old t hn), fun k hk2 hl => ?_, fun j oj hj hl e he hb => ?_, by simpa using h.lsz⟩
  · by_cases hki : k.j = i
    · exact hk k hk2 hki
    · rw [setL_other hki] at hl
      obtain ⟨ok, hst⟩ := knStatic_at hs k hk2
      exact (put_ne ht (onlyW_at hst.only hi (fun e => hki e.symm))).trans (h.new k hk2 hl)
  · by_cases hji : j = i
    · subst hji
      rw [hi] at hj
      injection hj with hj
      subst hj
      exact setL_le (hr e he hb)
    · rw [setL_other hji] at hl
      exact setL_le (h.down j oj hj hl e he hb)
theorem needs_hold {size : Nat} {listed : Array Bool} {a : Act} {k : Kn} {o : Oper} (h : KInv l ks a0 listed a) (hr : ∀ e ∈ o.after, Region.binds .any e = true → listed.getD e.on false = true) (hst : KSt l ks size k o) : ∀ (r : List (Nat × Value)), (∀ p ∈ r, p ∈ k.needs) → needsAre a0 ks r → needsHold a r
  | [], _, _ => trivial
  | p :: r, hm, hn => by
    refine ⟨?_, needs_hold h hr hst r (fun q hq => hm q (List.mem_cons_of_mem _ hq)) hn.2⟩
    have h1 := hst.needs p (hm p (List.mem_cons_self ..))
    have h2 := hn.1
    unfold expect at h2
    cases hq : knOf ks p.1 with
    | none =>
      rw [hq] at h1 h2
      exact (h.old p.1 h1).trans h2
    | some k' =>
      rw [hq] at h1 h2
      obtain ⟨e, he, h3, h4⟩ := h1
      obtain ⟨h5, h6⟩ := knOf_mem hq
      have := h.new k' h5 (by rw [← h3]; exact hr e he h4)
      rw [h6] at this
      exact this.trans h2

theorem known_any {Q : Exit → Act → World → Prop} (hs : knStatic l ks a0.tmps.size = true) (hv : knVals a0 ks ks) (hr : knRuns P l ks) : ∀ (fuel : Nat) (listed : Array Bool) (a : Act) (w : World), KInv l ks a0 listed a → wpAny P .any (substL ks 0 l).toArray (Only Q) fuel listed a w → wpAny P .any l.toArray (Only Q) fuel listed a w
  | 0, listed, a, w, _, h => by
    unfold wpAny at h ⊢
    rw [subst_ready] at h
    exact h
  | fuel + 1, listed, a, w, hI, h => by
    unfold wpAny at h ⊢
    rw [subst_ready] at h
    refine ⟨h.1, fun i hi => ?_⟩
    have h2 := h.2 i hi
    obtain ⟨_, o, ho, hrd⟩ := ready_at hi
    unfold wpOp at h2 ⊢
    rw [subst_yielded] at h2
    rw [subst_at, ho] at h2
    simp only [Option.map_some] at h2
    simp only [ho]
    cases hk : knAt ks i with
    | none =>
      rw [hk] at h2
      simp only at h2
      have hno : ∀ k ∈ ks, k.j = i → False := fun k hk2 e => by
        unfold knAt at hk
        rw [List.find?_eq_none] at hk
        exact hk k hk2 (by simpa using e)
      split at h2
      · rename_i hw
        rw [if_pos hw]
        rcases h2 with h2 | ⟨_, h2⟩
        · refine .inl (Oper.wp_mono (fun a' w' hh => ?_) (wp_tm h2))
          obtain ⟨h3, v, h4⟩ := hh
          exact known_any hs hv hr fuel _ a' w' (hI.step hs ho hrd h4 (fun k hk2 e => (hno k hk2 e).elim)) h3
        · exact absurd h2 Only.lets
      · rename_i hw
        rw [if_neg hw]
        exact known_any hs hv hr fuel _ _ w (hI.step hs ho hrd (v := undef) rfl (fun k hk2 e => (hno k hk2 e).elim)) h2
    | some k =>
      rw [hk] at h2
      simp only at h2
      obtain ⟨hkm, hkj⟩ := knAt_mem hk
      obtain ⟨ok, hst⟩ := knStatic_at hs k hkm
      have hok : ok = o := by
        have := hst.at_
        rw [hkj, ho] at this
        injection this with this
        exact this.symm
      subst hok
      have hw : ∀ y, Region.wanted ok y = true := fun y => by unfold Region.wanted; rw [hst.grd]
      have hw2 : ∀ y, Region.wanted (putKn ok k) y = true := fun y => by unfold Region.wanted putKn; rw [hst.grd]
      rw [if_pos (hw2 _)] at h2
      rw [if_pos (hw _)]
      have hrun := knRuns_mem hr k hkm a w (needs_hold hI hrd hst k.needs (fun _ h => h) (knVals_mem hv k hkm))
      have hgo : l.getD k.j default = ok := by
        have := hst.at_
        rw [List.getElem?_toArray] at this
        rw [List.getD_eq_getElem?_getD, this]
        rfl
      rw [hgo] at hrun
      rcases h2 with h2 | ⟨_, h2⟩
      · refine .inl ?_
        have hm : (execOp a.eval (putKn ok k)).run P w = .ok (.value k.v) w := rfl
        unfold Oper.wp at h2 ⊢
        rw [hm] at h2
        rw [hrun]
        rw [Oper.upon_value] at h2 ⊢
        have hd : (putKn ok k).dst = ok.dst := rfl
        rw [hd] at h2
        refine known_any hs hv hr fuel _ _ w (hI.step hs ho hrd (v := k.v) rfl (fun k2 hk2 e => ?_)) h2
        have hkk : k2.d = k.d ∧ k2.v = k.v ∨ True := .inr trivial
        obtain ⟨o2, hst2⟩ := knStatic_at hs k2 hk2
        have ho2 : o2 = ok := by
          have := hst2.at_
          rw [e, ho] at this
          injection this with this
          exact this.symm
        subst ho2
        have hdd : k2.d = k.d := by
          have := hst2.dst.symm.trans hst.dst
          injection this
        rw [hst.dst, hdd]
        have hrun2 := knRuns_mem hr k2 hk2 a w (needs_hold hI hrd hst2 k2.needs (fun _ h => h) (knVals_mem hv k2 hk2))
        have hj2 : k2.j = k.j := by rw [e, hkj]
        rw [hj2, hgo, hrun] at hrun2
        injection hrun2 with h8 _
        injection h8 with h8
        rw [← h8]
        exact put_self (by rw [hI.size]; exact hst.lt)
      · exact absurd h2 Only.lets

/-- THE WALK: known operations as moves, in the order of the text. -/
theorem wp_region_known {id : Nat} {a : Act} {w : World} {Q : Exit → Act → World → Prop} (ks : List Kn) (hm : P.follows .mixedOrders = true) (hs : knStatic l ks a.tmps.size = true) (hv : knVals a ks ks) (hr : knRuns P l ks)
    (hB : serialD P (substL ks 0 l).toArray (Region.before (substL ks 0 l).toArray) = true)
    (h : wpList P (substL ks 0 l).toArray (Only Q) (substL ks 0 l) a w.drew) : (Code.region id l.toArray true).wp P Q a w := by
  refine Code.wp_mono Only.imp (wp_region_any hm ?_)
  have hz : (substL ks 0 l).toArray.size = l.toArray.size := by simp [substL_len]
  have hl0 : (substL ks 0 l).length = l.length := substL_len l 0
  have key : wpAny P .any (substL ks 0 l).toArray (Only Q) l.toArray.size (Array.replicate l.toArray.size false) a w.drew := by
    rw [← hz]
    generalize substL ks 0 l = l' at hB h
    have hleft : left l'.toArray (Array.replicate l'.toArray.size false) = List.range l'.length := by
      unfold left
      rw [List.filter_eq_self.2 fun k hk => by simp [Array.getD_eq_getD_getElem?, Array.getElem?_replicate]; split <;> simp]
      simp
    refine serial_anyD hB _ _ _ _ ?_ (by simp) (by rw [hleft]; simp) ?_
    · intro i o ho hl
      simp [Array.getD_eq_getD_getElem?, Array.getElem?_replicate] at hl
      split at hl <;> simp at hl
    · rw [hleft, List.range_eq_range']
      exact wpSeq_list l' 0 a _ (fun j => by simp) h
  refine known_any hs hv hr _ _ a _ ⟨rfl, fun _ _ => rfl, fun k hk hl => ?_, ?_, by simp⟩ key
  · exfalso
    simp [Array.getD_eq_getD_getElem?, Array.getElem?_replicate] at hl
    split at hl <;> simp at hl
  · intro i o ho hl
    simp [Array.getD_eq_getD_getElem?, Array.getElem?_replicate] at hl
    split at hl <;> simp at hl
end
section
variable {P : Program} {o : Oper} {A : Act} {w : World}
theorem kn_move {t : Nat} {v : Value} (ho : o.op = .move (.tmp t)) (h : A.eval (.tmp t) = v) : (execOp A.eval o).run P w = .ok (.value v) w := by
  unfold execOp
  rw [ho]
  simp only [h, Sem.run_pure]
theorem kn_bin {op : BinOp} {ty ty2 : TypeId} {x y : Operand} {k : IntKind} {a b : Int} {r : Value} (ho : o.op = .binOp op ty x y ty2) (hx : A.eval x = .int k a) (hy : A.eval y = .int k b) (hr : (binOp op ty (.int k a) (.int k b)).run P w = .ok r w) : (execOp A.eval o).run P w = .ok (.value r) w := by
  unfold execOp
  rw [ho]
  have hg : eqGuard op ty x y (.int k a) (.int k b) = pure () := by cases op <;> rfl
  simp only [hx, hy, hg, Sem.run_bind, Sem.run_pure, Result.andThen_ok, hr]
theorem kn_sub {ty ty2 : TypeId} {x y : Operand} {a b c : Int} (ho : o.op = .binOp .sub ty x y ty2) (hx : A.eval x = .int .i64 a) (hy : A.eval y = .int .i64 b) (hc : IntKind.i64.wrap (a - b) = c) : (execOp A.eval o).run P w = .ok (.value (.int .i64 c)) w :=
  kn_bin ho hx hy (by subst hc; rfl)
theorem kn_add {ty ty2 : TypeId} {x y : Operand} {a b c : Int} (ho : o.op = .binOp .add ty x y ty2) (hx : A.eval x = .int .i64 a) (hy : A.eval y = .int .i64 b) (hc : IntKind.i64.wrap (a + b) = c) : (execOp A.eval o).run P w = .ok (.value (.int .i64 c)) w :=
  kn_bin ho hx hy (by subst hc; rfl)
theorem kn_quo {ty ty2 : TypeId} {x y : Operand} {a b c : Int} (ho : o.op = .binOp .quo ty x y ty2) (hx : A.eval x = .int .i64 a) (hy : A.eval y = .int .i64 b) (hb : b ≠ 0) (hc : IntKind.i64.wrap (a.tdiv b) = c) : (execOp A.eval o).run P w = .ok (.value (.int .i64 c)) w :=
  kn_bin ho hx hy (by
    subst hc
    have e : binOp .quo ty (.int .i64 a) (.int .i64 b) = Op.intDiv .quo .i64 a b := rfl
    rw [e]
    unfold Op.intDiv
    rw [if_neg hb]
    rfl)
end
end Go.Proofs.Ytggibiodeecljaa
