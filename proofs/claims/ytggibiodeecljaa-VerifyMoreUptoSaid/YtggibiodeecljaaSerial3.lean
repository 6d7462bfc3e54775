/- A region that draws its order, walked in the order of the text: what puts a struct together may change places with a read, too. No program in sight. Written by gen_serial3.py. -/
import Derived.Test.YtggibiodeecljaaSerial2
namespace Go.Proofs.Ytggibiodeecljaa
open Go.RowKit

section
variable {α β : Type} {P : Program}
theorem ReadS.pure (v : α) : ReadS P (Pure.pure v : Sem α) := (StillS.pure v).read
theorem ReadS.mapL {f : α → Sem β} (hf : ∀ x, ReadS P (f x)) : ∀ l : List α, ReadS P (l.mapM f)
  | [] => by rw [List.mapM_nil]; exact .pure _
  | x :: r => by
    rw [List.mapM_cons]
    exact .bind (hf x) fun _ => .bind (ReadS.mapL hf r) fun _ => .pure _
theorem ReadS.mapA {f : α → Sem β} (hf : ∀ x, ReadS P (f x)) (l : Array α) : ReadS P (l.mapM f) := by
  rw [Array.mapM_eq_mapM_toList, map_eq_pure_bind]
  exact .bind (ReadS.mapL hf _) fun _ => .pure _
theorem ReadS.build (t : TypeId) (parts : Array (Nat × Value)) : ReadS P (Instr.build t parts) := by
  unfold Instr.build
  refine .bind (StillS.zeroValue t).read fun z => .bind (StillS.underlying t).read fun u => ?_
  split
  · refine .bind (.mapA (fun x => .bind (StillS.sizeOf _).read fun _ => .pure _) _) fun x => ?_
    split
    · exact .pure _
    · exact (StillS.stuck _).read
  · refine .bind (StillS.sizeOf _).read fun x => ?_
    split
    · exact .pure _
    · exact (StillS.stuck _).read
  · exact (StillS.stuck _).read

def readQ (P : Program) : Op → Bool
  | .build .. => true
  | o => readOp P o
theorem readQ_read {o : Oper} (h : readQ P o.op = true) (ρ : Operand → Value) (w : World) (n : Next) (w' : World) (hr : (execOp ρ o).run P w = .ok n w') : (∃ v, n = .value v) ∧ w' = w := by
  by_cases hp : readOp P o.op = true
  · exact readOp_read hp ρ w n w' hr
  · cases hop : o.op <;> rw [hop] at h hp <;> first | (exact absurd h hp) | skip
    case build t parts =>
      simp only [execOp, hop] at hr
      rw [Sem.run_bind] at hr
      cases h1 : (Instr.build t (parts.map fun (i, x) => (i, ρ x))).run P w with
      | halt q y => rw [h1] at hr; simp [Result.andThen] at hr
      | ok q y =>
        rw [h1] at hr
        simp only [Result.andThen_ok, Sem.run_pure] at hr
        injection hr with h2 h3
        exact ⟨⟨q, h2.symm⟩, h3.symm.trans (ReadS.build _ _ w q y h1)⟩

variable {ops : Array Oper} {Q : Exit → Act → World → Prop} {K : Act → World → Prop}
def commD (P : Program) (ops : Array Oper) (x y : Oper) : Bool := commC P ops x y || (x.apart ops y && y.apart ops x && readQ P x.op && readQ P y.op)

theorem readQ_step {i : Nat} {o : Oper} (hi : ops[i]? = some o) (hr : readQ P o.op = true) {a : Act} {w : World} (h : wpOp P ops (Only Q) i K a w) :
    ∃ v, K (a.put o.dst v) w ∧ ((Region.wanted o (yielded ops a.tmps) = true ∧ (execOp a.eval o).run P w = .ok (.value v) w) ∨ (Region.wanted o (yielded ops a.tmps) = false ∧ v = undef)) := by
  unfold wpOp at h
  simp only [hi] at h
  split at h
  · rename_i hw
    rcases h with h | ⟨_, h⟩
    · unfold Oper.wp at h
      cases hrun : (execOp a.eval o).run P w with
      | halt x y => rw [hrun] at h; cases x <;> simp [Oper.upon, Only] at h
      | ok n y =>
        obtain ⟨⟨v, rfl⟩, rfl⟩ := readQ_read hr _ _ _ _ hrun
        rw [hrun] at h
        exact ⟨v, h, .inl ⟨hw, rfl⟩⟩
    · exact absurd h Only.lets
  · rename_i hw
    exact ⟨undef, h, .inr ⟨by simpa using hw, rfl⟩⟩

theorem swapD {i j : Nat} {oi oj : Oper} (hi : ops[i]? = some oi) (hj : ops[j]? = some oj) (hc : commD P ops oi oj = true) (hsi : ∀ cs b, oi.op ≠ .select cs b) (hsj : ∀ cs b, oj.op ≠ .select cs b) {a : Act} {w : World}
    (h : wpOp P ops (Only Q) i (wpOp P ops (Only Q) j K) a w) : wpOp P ops (Only Q) j (wpOp P ops (Only Q) i K) a w := by
  simp only [commD, Bool.or_eq_true, Bool.and_eq_true] at hc
  rcases hc with hc | ⟨⟨⟨ha, hb⟩, hc1⟩, hc2⟩
  · exact swapC hi hj hc hsi hsj h
  · obtain ⟨v, hk, hv⟩ := readQ_step hi hc1 h
    obtain ⟨u, hk2, hu⟩ := readQ_step hj hc2 hk
    obtain ⟨h1, h2, h3⟩ := Oper.apart_spec ha
    rw [wanted_put oj a oi.dst v h1, execOp_put oj hsj a oi.dst v h1] at hu
    refine readOp_mk hj hu ?_
    refine readOp_mk hi (v := v) ?_ ?_
    · rw [wanted_put oi a oj.dst u h3, execOp_put oi hsi a oj.dst u h3]
      exact hv
    · rw [← Act.put_comm a v u h2]
      exact hk2

theorem wpSeq_frontD {i : Nat} {oi : Oper} (hi : ops[i]? = some oi) (hsel : ∀ (j : Nat) (o : Oper) cs b, ops[j]? = some o → o.op ≠ .select cs b) (post : List Nat) : ∀ (pre : List Nat) (a : Act) (w : World),
    (∀ k ∈ pre, ∃ ok, ops[k]? = some ok ∧ commD P ops ok oi = true) → wpSeq P ops Q K (pre ++ i :: post) a w → wpOp P ops (Only Q) i (wpSeq P ops Q K (pre ++ post)) a w
  | [], a, w, _, h => h
  | k :: pre, a, w, hp, h => by
    obtain ⟨ok, hk, hc⟩ := hp k (by simp)
    have h1 : wpOp P ops (Only Q) k (wpOp P ops (Only Q) i (wpSeq P ops Q K (pre ++ post))) a w :=
      wpOp_mono (fun a' w' hh => wpSeq_frontD hi hsel post pre a' w' (fun k' hk' => hp k' (by simp [hk'])) hh) h
    exact swapD hk hi hc (hsel k ok · · hk) (hsel i oi · · hi) h1

/-- The table B holds, of each operation, (some of) those that its edges put ahead of it; the others ahead of it in the text may change places with it. -/
def serialD (P : Program) (ops : Array Oper) (B : Array Nat) : Bool :=
  Region.noSelect ops && (List.range ops.size).all fun i => match ops[i]? with
    | none => true
    | some o => (o.after.all fun e => !Region.binds .any e || decide (e.on < i)) && (List.range i).all fun k =>
      if (B.getD i 0).testBit k then o.after.any fun e => Region.binds .any e && decide (e.on < i) && (e.on == k || (decide (k < e.on) && (B.getD e.on 0).testBit k))
      else match ops[k]? with | none => false | some ok => commD P ops ok o

theorem serialD_at {B : Array Nat} (hB : serialD P ops B = true) {i : Nat} {o : Oper} (hi : ops[i]? = some o) : (∀ e ∈ o.after, Region.binds .any e = true → e.on < i) ∧ ∀ k, k < i →
    ((B.getD i 0).testBit k = true ∧ ∃ e ∈ o.after, Region.binds .any e = true ∧ e.on < i ∧ (e.on = k ∨ (k < e.on ∧ (B.getD e.on 0).testBit k = true))) ∨ ((B.getD i 0).testBit k = false ∧ ∃ ok, ops[k]? = some ok ∧ commD P ops ok o = true) := by
  have hlt := (Array.getElem?_eq_some_iff.1 hi).1
  simp only [serialD, Bool.and_eq_true, List.all_eq_true, List.mem_range] at hB
  have h := hB.2 i hlt
  rw [hi] at h
  simp only [Bool.and_eq_true, List.all_eq_true, List.mem_range, Array.all_eq_true_iff_forall_mem] at h
  refine ⟨fun e he hb => by have := h.1 e he; simpa [hb] using this, fun k hk => ?_⟩
  have h2 := h.2 k hk
  split at h2
  · rename_i hb
    rw [Array.any_eq_true'] at h2
    obtain ⟨e, he, h3⟩ := h2
    simp only [Bool.and_eq_true, Bool.or_eq_true, decide_eq_true_eq, beq_iff_eq] at h3
    exact .inl ⟨hb, e, he, h3.1.1, h3.1.2, h3.2⟩
  · rename_i hb
    cases hk2 : ops[k]? with
    | none => rw [hk2] at h2; cases h2
    | some ok => rw [hk2] at h2; exact .inr ⟨by simpa using hb, ok, rfl, h2⟩

theorem ahead_listedD {B : Array Nat} (hB : serialD P ops B = true) {listed : Array Bool} (hd : Down ops listed) : ∀ (n i : Nat) (o : Oper), i ≤ n → ops[i]? = some o → (∀ e ∈ o.after, Region.binds .any e = true → listed.getD e.on false = true) →
    ∀ k, k < i → (B.getD i 0).testBit k = true → listed.getD k false = true
  | 0, i, o, hn, _, _, k, hk, _ => by omega
  | n + 1, i, o, hn, hi, hall, k, hk, hb => by
    rcases (serialD_at hB hi).2 k hk with ⟨_, e, he, hbi, hlt, h⟩ | ⟨hf, _⟩
    · rcases h with rfl | ⟨hk2, hb2⟩
      · exact hall e he hbi
      · have hon : ∃ o2, ops[e.on]? = some o2 := ⟨_, Array.getElem?_eq_getElem (by have := (Array.getElem?_eq_some_iff.1 hi).1; omega)⟩
        obtain ⟨o2, ho2⟩ := hon
        exact ahead_listedD hB hd n e.on o2 (by omega) ho2 (hd e.on o2 ho2 (hall e he hbi)) k hk2 hb2
    · rw [hb] at hf; cases hf

theorem serial_anyD {B : Array Nat} (hB : serialD P ops B = true) : ∀ (fuel : Nat) (listed : Array Bool) (a : Act) (w : World), Down ops listed → listed.size = ops.size → (left ops listed).length = fuel →
    wpSeq P ops Q (Q .normal) (left ops listed) a w → wpAny P .any ops (Only Q) fuel listed a w := by
  have hsel : ∀ (j : Nat) (o : Oper) cs b, ops[j]? = some o → o.op ≠ .select cs b := by
    intro j o cs b ho
    have : Region.noSelect ops = true := by simp only [serialD, Bool.and_eq_true] at hB; exact hB.1
    exact Region.noSelect_spec this j o cs b ho
  have hready : ∀ (listed : Array Bool), Down ops listed → listed.size = ops.size → ∀ i r, left ops listed = i :: r → i ∈ Region.ready .any ops listed := by
    intro listed hd hs i r hl
    have hi : i ∈ left ops listed := by rw [hl]; simp
    have hmin := (left_set (ops := ops) hs (s := []) (t := r) hl)
    unfold left at hi
    rw [List.mem_filter, List.mem_range] at hi
    rw [mem_ready]
    obtain ⟨o, ho⟩ : ∃ o, ops[i]? = some o := ⟨_, Array.getElem?_eq_getElem hi.1⟩
    refine ⟨?_, o, ho, fun e he hb => ?_⟩
    · have h1 := hi.2
      rw [Array.getD_eq_getD_getElem?, Array.getElem?_eq_getElem (by omega)] at h1 ⊢
      simpa using h1
    · have hlt := (serialD_at hB ho).1 e he hb
      cases hc : listed.getD e.on false
      · have hm : e.on ∈ left ops listed := by
          unfold left
          rw [List.mem_filter, List.mem_range]
          exact ⟨by omega, by simp [hc]⟩
        have hp : (left ops listed).Pairwise (· < ·) := List.Pairwise.filter _ List.pairwise_lt_range
        rw [hl] at hm hp
        rw [List.pairwise_cons] at hp
        rcases List.mem_cons.1 hm with h | h
        · omega
        · have := hp.1 _ h; omega
      · rfl
  intro fuel
  induction fuel with
  | zero =>
    intro listed a w hd hs hl h
    have hnil := List.eq_nil_of_length_eq_zero hl
    rw [hnil] at h
    refine ⟨?_, h⟩
    cases hr : Region.ready .any ops listed with
    | nil => rfl
    | cons i r =>
      have hi : i ∈ Region.ready .any ops listed := by rw [hr]; simp
      rw [mem_ready] at hi
      obtain ⟨h0, o, ho, _⟩ := hi
      have hm : i ∈ left ops listed := by
        unfold left
        rw [List.mem_filter, List.mem_range]
        have hlt := (Array.getElem?_eq_some_iff.1 ho).1
        refine ⟨hlt, ?_⟩
        rw [Array.getD_eq_getD_getElem?, Array.getElem?_eq_getElem (by omega)] at h0 ⊢
        simpa using h0
      rw [hnil] at hm
      cases hm
  | succ fuel ih =>
    intro listed a w hd hs hl h
    refine ⟨fun hr => ?_, fun i hi => ?_⟩
    · cases hl2 : left ops listed with
      | nil => rw [hl2] at hl; simp at hl
      | cons i r =>
        have := hready listed hd hs i r hl2
        rw [hr] at this
        cases this
    · rw [mem_ready] at hi
      obtain ⟨h0, o, ho, hall⟩ := hi
      have hlt := (Array.getElem?_eq_some_iff.1 ho).1
      have hm : i ∈ left ops listed := by
        unfold left
        rw [List.mem_filter, List.mem_range]
        refine ⟨hlt, ?_⟩
        rw [Array.getD_eq_getD_getElem?, Array.getElem?_eq_getElem (by omega)] at h0 ⊢
        simpa using h0
      obtain ⟨s, t, hst⟩ := List.append_of_mem hm
      obtain ⟨hset, hbefore⟩ := left_set (ops := ops) hs hst
      rw [hst] at h
      have hf := wpSeq_frontD ho hsel t s a w (fun k hk => by
        have hki := hbefore k hk
        have hkl : listed.getD k false = false := by
          have : k ∈ left ops listed := by rw [hst]; simp [hk]
          unfold left at this
          rw [List.mem_filter] at this
          simpa using this.2
        rcases (serialD_at hB ho).2 k hki with ⟨hb, _⟩ | ⟨_, h⟩
        · have := ahead_listedD hB hd i i o (Nat.le_refl _) ho hall k hki hb
          rw [hkl] at this
          cases this
        · exact h) h
      refine wpOp_mono (fun a' w' hh => ih _ a' w' ?_ (by simpa using hs) ?_ (by rw [hset]; exact hh)) hf
      · intro j oj hj hlj e he hb
        by_cases hji : i = j
        · subst hji
          rw [ho] at hj
          injection hj with hj
          subst hj
          exact getD_set_true (hall e he hb)
        · rw [getD_set_ne false hji] at hlj
          exact getD_set_true (hd j oj hj hlj e he hb)
      · rw [hset]
        rw [hst] at hl
        simp at hl ⊢
        omega

/-- THE WALK IN THE ORDER OF THE TEXT SERVES EVERY ORDER. -/
theorem wp_region_serialD {id : Nat} {l : List Oper} {a : Act} {w : World} (B : Array Nat) (hm : P.follows .mixedOrders = true) (hB : serialD P l.toArray B = true)
    (h : wpList P l.toArray (Only Q) l a w.drew) : (Code.region id l.toArray true).wp P Q a w := by
  refine Code.wp_mono Only.imp (wp_region_any hm ?_)
  have hleft : left l.toArray (Array.replicate l.toArray.size false) = List.range l.length := by
    unfold left
    rw [List.filter_eq_self.2 fun k hk => by simp [Array.getD_eq_getD_getElem?, Array.getElem?_replicate]; split <;> simp]
    simp
  refine serial_anyD hB _ _ _ _ ?_ (by simp) (by rw [hleft]; simp) ?_
  · intro i o ho hl
    simp [Array.getD_eq_getD_getElem?, Array.getElem?_replicate] at hl
    split at hl <;> simp at hl
  · rw [hleft, List.range_eq_range']
    exact wpSeq_list l 0 a _ (fun j => by simp) h

theorem wp_region_text3 {id : Nat} {l : List Oper} {a : Act} {w : World} (hm : P.follows .mixedOrders = true) (hB : serialD P l.toArray (Region.before l.toArray) = true)
    (h : wpList P l.toArray (Only Q) l a w.drew) : (Code.region id l.toArray true).wp P Q a w := wp_region_serialD _ hm hB h
end
end Go.Proofs.Ytggibiodeecljaa
