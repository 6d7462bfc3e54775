/- Trees as lists of nodes, each ahead of its kids: how long each tree is, where kids stand. No program in sight. -/
import Derived.Test.YtggibiodeecljaaNode
namespace Go.Proofs.Ytggibiodeecljaa

/-- So many trees further on, from a place on, in the list of the trees' sizes. -/
def adv (S : List (Option Nat)) : Nat → Nat → Option Nat
  | 0, p => some p
  | c + 1, p => match S[p]? with
    | some (some z) => adv S c (p + z)
    | _ => none
def sizes (len : Nat) : List Node → List (Option Nat)
  | [] => []
  | x :: r => (if x.kids < 0 ∨ x.kids > len then none else (adv (sizes len r) x.kids.toNat 0).map (· + 1)) :: sizes len r

theorem sizes_length (len : Nat) : ∀ l, (sizes len l).length = l.length
  | [] => rfl
  | x :: r => by simp [sizes, sizes_length len r]

theorem adv_cons (a : Option Nat) (S : List (Option Nat)) : ∀ c p, adv (a :: S) c (p + 1) = (adv S c p).map (· + 1)
  | 0, p => rfl
  | c + 1, p => by
    simp only [adv, List.getElem?_cons_succ]
    rcases S[p]? with _ | _ | z
    · rfl
    · rfl
    · simp only
      rw [show p + 1 + z = (p + z) + 1 by omega, adv_cons a S c]

theorem adv_add (S : List (Option Nat)) : ∀ a b p, adv S (a + b) p = (adv S a p).bind (adv S b)
  | 0, b, p => by simp [adv]
  | a + 1, b, p => by
    rw [show a + 1 + b = (a + b) + 1 by omega]
    simp only [adv]
    rcases S[p]? with _ | _ | z
    · rfl
    · rfl
    · simp only; rw [adv_add S a b]

theorem adv_drop (S : List (Option Nat)) (k : Nat) : ∀ c p, adv (S.drop k) c p = (adv S c (k + p)).map (· - k)
  | 0, p => by simp [adv]
  | c + 1, p => by
    simp only [adv, List.getElem?_drop]
    rcases S[k + p]? with _ | _ | z
    · rfl
    · rfl
    · simp only; rw [adv_drop S k c, Nat.add_assoc]

theorem sizes_drop (len : Nat) : ∀ (l : List Node) (k : Nat), sizes len (l.drop k) = (sizes len l).drop k
  | [], k => by simp [sizes]
  | x :: r, 0 => rfl
  | x :: r, k + 1 => by simp only [List.drop_succ_cons, sizes]; exact sizes_drop len r k

/-- Each size counts its own node and stays inside. -/
theorem size_pos {len : Nat} : ∀ {l : List Node} {i z : Nat}, (sizes len l)[i]? = some (some z) → 0 < z ∧ i + z ≤ l.length
  | [], i, z, h => by simp [sizes] at h
  | x :: r, 0, z, h => by
    simp only [sizes, List.getElem?_cons_zero, Option.some.injEq] at h
    split at h
    · cases h
    · rw [Option.map_eq_some_iff] at h
      obtain ⟨q, hq, rfl⟩ := h
      refine ⟨by omega, ?_⟩
      have : ∀ c p q, p ≤ r.length → adv (sizes len r) c p = some q → q ≤ r.length := by
        intro c
        induction c with
        | zero => intro p q hp h; simp [adv] at h; omega
        | succ c ih =>
          intro p q hp h
          simp only [adv] at h
          rcases hz : (sizes len r)[p]? with _ | _ | z <;> rw [hz] at h <;> simp only at h
          · cases h
          · cases h
          · have := size_pos hz
            exact ih _ _ (by omega) h
      have := this _ _ _ (Nat.zero_le _) hq
      simp only [List.length_cons]; omega
  | x :: r, i + 1, z, h => by
    simp only [sizes, List.getElem?_cons_succ] at h
    have := size_pos h
    simp only [List.length_cons]; omega

theorem adv_le {len : Nat} {l : List Node} : ∀ (c p q : Nat), p ≤ l.length → adv (sizes len l) c p = some q → p + c ≤ q ∧ q ≤ l.length := by
  intro c
  induction c with
  | zero => intro p q hp h; simp [adv] at h; omega
  | succ c ih =>
    intro p q hp h
    simp only [adv] at h
    rcases hz : (sizes len l)[p]? with _ | _ | z <;> rw [hz] at h <;> simp only at h
    · cases h
    · cases h
    · have := size_pos hz
      have := ih _ _ (by omega) h
      omega

/-- tree.Behind's loop: from the place at on (the list: what stands from there on), so many trees left. -/
def beh (len : Nat) : List Node → Int → Nat → Int
  | [], left, p => if left ≤ 0 then p else -1
  | x :: r, left, p => if left ≤ 0 then p else if x.kids < 0 ∨ x.kids > len then -1 else beh len r (left + (x.kids - 1)) (p + 1)

theorem beh_adv (len : Nat) : ∀ (l : List Node) (left p : Nat), beh len l left p = match adv (sizes len l) left 0 with | some q => (p : Int) + q | none => -1
  | [], 0, p => by simp [beh, adv]
  | [], left + 1, p => by simp [beh, adv, sizes]
  | x :: r, 0, p => by simp [beh, adv]
  | x :: r, left + 1, p => by
    have h0 : ¬ ((left + 1 : Nat) : Int) ≤ 0 := by omega
    simp only [beh, if_neg h0, adv, sizes, List.getElem?_cons_zero]
    by_cases hk : x.kids < 0 ∨ x.kids > len
    · simp [hk]
    · rw [if_neg hk, if_neg hk]
      obtain ⟨c, hc⟩ := Int.eq_ofNat_of_zero_le (show 0 ≤ x.kids by omega)
      rw [hc, show ((left + 1 : Nat) : Int) + ((c : Int) - 1) = ((c + left : Nat) : Int) by omega, beh_adv len r (c + left) (p + 1), Int.toNat_natCast, adv_add]
      cases hA : adv (sizes len r) c 0 with
      | none => rfl
      | some q =>
        simp only [Option.bind_some, Option.map_some]
        rw [show 0 + (q + 1) = q + 1 by omega, adv_cons]
        cases hB : adv (sizes len r) left q with
        | none => rfl
        | some z => simp only [Option.map_some]; rw [show ((p + 1 : Nat) : Int) + (z : Int) = (p : Int) + ((z + 1 : Nat) : Int) by omega]

/-- tree.Behind. -/
def behind (ts : List Node) (i : Nat) : Int := if i < ts.length then beh ts.length (ts.drop i) 1 i else -1

theorem behind_eq (ts : List Node) (i : Nat) : behind ts i = match (sizes ts.length ts)[i]? with | some (some z) => (i : Int) + z | _ => -1 := by
  unfold behind
  by_cases h : i < ts.length
  · rw [if_pos h, show (1 : Int) = ((1 : Nat) : Int) from rfl, beh_adv, sizes_drop]
    simp only [adv, List.getElem?_drop, Nat.add_zero]
    rcases (sizes ts.length ts)[i]? with _ | _ | z <;> simp
  · rw [if_neg h, List.getElem?_eq_none (by rw [sizes_length]; omega)]

/-- tree.ends: for each node the place behind its tree; -1: none. -/
def ends (ts : List Node) (i : Nat) : Int := behind ts i

/-- The kids' places, so many, from a place on. -/
def kidsFrom (ts : List Node) : Nat → Nat → List Nat
  | 0, _ => []
  | c + 1, p => p :: kidsFrom ts c (behind ts p).toNat
def kidsOf (ts : List Node) (i : Nat) : List Nat := if behind ts i < 0 then [] else kidsFrom ts ((ts.getD i node0).kids.toNat) (i + 1)

theorem kidsFrom_length (ts : List Node) : ∀ c p, (kidsFrom ts c p).length = c
  | 0, _ => rfl
  | c + 1, p => by simp [kidsFrom, kidsFrom_length ts c]

/-- Kids stand behind their node and inside the list; each is whole. -/
theorem kidsFrom_ok (ts : List Node) : ∀ (c p q : Nat), adv (sizes ts.length ts) c p = some q → ∀ j ∈ kidsFrom ts c p, p ≤ j ∧ j < q ∧ q ≤ ts.length ∧ 0 ≤ behind ts j ∧ (behind ts j).toNat ≤ q := by
  intro c
  induction c with
  | zero => intro p q _ j hj; simp [kidsFrom] at hj
  | succ c ih =>
    intro p q h j hj
    simp only [adv] at h
    rcases hz : (sizes ts.length ts)[p]? with _ | _ | z <;> rw [hz] at h <;> simp only at h
    · cases h
    · cases h
    · have hp := size_pos hz
      have hb : behind ts p = (p : Int) + z := by rw [behind_eq, hz]
      have hq := adv_le _ _ _ (by omega) h
      simp only [kidsFrom, List.mem_cons] at hj
      rcases hj with rfl | hj
      · rw [hb]; omega
      · rw [hb, show ((p : Int) + z).toNat = p + z by omega] at hj
        have := ih _ _ h j hj
        omega

theorem size_kids {ts : List Node} {i z : Nat} {x : Node} (hx : ts[i]? = some x) (h : (sizes ts.length ts)[i]? = some (some z)) :
    0 ≤ x.kids ∧ x.kids ≤ ts.length ∧ adv (sizes ts.length ts) x.kids.toNat (i + 1) = some (i + z) := by
  have hi := (List.getElem?_eq_some_iff.1 hx).1
  have hd : ts.drop i = x :: ts.drop (i + 1) := by
    rw [List.drop_eq_getElem_cons hi]
    rw [List.getElem?_eq_getElem hi] at hx
    injection hx with hx
    rw [hx]
  have h1 : (sizes ts.length (ts.drop i))[0]? = some (some z) := by rw [sizes_drop, List.getElem?_drop]; exact h
  rw [hd] at h1
  simp only [sizes, List.getElem?_cons_zero, Option.some.injEq] at h1
  split at h1
  · cases h1
  · rename_i hk
    rw [Option.map_eq_some_iff] at h1
    obtain ⟨q, hq, rfl⟩ := h1
    refine ⟨by omega, by omega, ?_⟩
    rw [sizes_drop, adv_drop, Option.map_eq_some_iff] at hq
    obtain ⟨q', hq', rfl⟩ := hq
    have := adv_le _ _ _ (by omega) hq'
    rw [Nat.add_zero] at hq'
    rw [hq']
    congr 1
    omega

theorem kidsOf_ok {ts : List Node} {i j : Nat} (h : j ∈ kidsOf ts i) : i < j ∧ j < ts.length ∧ 0 ≤ behind ts j ∧ (j : Int) < behind ts j := by
  unfold kidsOf at h
  split at h
  · simp at h
  · rename_i hb
    rw [behind_eq] at hb
    rcases hz : (sizes ts.length ts)[i]? with _ | _ | z <;> rw [hz] at hb <;> simp only at hb
    · omega
    · omega
    · have hi : i < ts.length := by have := size_pos hz; omega
      have hx : ts[i]? = some (ts.getD i node0) := by rw [List.getD_eq_getElem?_getD, List.getElem?_eq_getElem hi]; rfl
      have hk := size_kids hx hz
      have := kidsFrom_ok ts _ _ _ hk.2.2 j h
      refine ⟨by omega, by omega, this.2.2.2.1, ?_⟩
      rw [behind_eq] at this ⊢
      rcases hz2 : (sizes ts.length ts)[j]? with _ | _ | z2 <;> rw [hz2] at this <;> simp only at this ⊢
      · omega
      · omega
      · have := size_pos hz2; omega
end Go.Proofs.Ytggibiodeecljaa
