/- verify.Code: what its walk leans on. -/
import Derived.Test.YtggibiodeecljaaVer7
import Derived.Test.YtggibiodeecljaaVerS
import Derived.Test.YtggibiodeecljaaVerZ
import Derived.Test.YtggibiodeecljaaVerR
import Derived.Test.YtggibiodeecljaaRange
namespace Go.Proofs.Ytggibiodeecljaa
open Go.RowKit
set_option linter.unusedVariables false

/-- A least number with a property. -/
theorem least_ex {P : Nat → Prop} (h : ∃ m, P m) : ∃ m, P m ∧ ∀ k, P k → m ≤ k := by
  obtain ⟨m, hm⟩ := h
  induction m using Nat.strongRecOn with
  | ind m ih =>
    by_cases hq : ∃ k, k < m ∧ P k
    · obtain ⟨k, hk, hp⟩ := hq
      exact ih k hk hp
    · exact ⟨m, hm, fun k hk => Nat.le_of_not_lt fun hlt => hq ⟨k, hlt, hk⟩⟩
noncomputable def least (P : Nat → Prop) : Nat := Classical.epsilon fun m => P m ∧ ∀ k, P k → m ≤ k
theorem least_spec {P : Nat → Prop} (h : ∃ m, P m) : P (least P) ∧ ∀ k, P k → least P ≤ k := Classical.epsilon_spec (least_ex h)
theorem least_lt {P Q : Nat → Prop} {m m' : Nat} (hm : m = least P) (hq : Q m') (h : m' < m) : least Q < least P := by
  have := (least_spec ⟨m', hq⟩).2 m' hq
  omega
theorem readV_ok {b slots : List Int} {ints texts : Int} (hb : ∀ x ∈ b, 0 ≤ x ∧ x ≤ 255) {l : List Ins} (h : readV b slots ints texts = .inl l) : ∀ x ∈ l, InsOk b.length slots ints texts x := by
  unfold readV at h
  cases hs : scanV b slots ints texts b.length 0 [] with
  | inr p => rw [hs] at h; cases h
  | inl l' =>
    rw [hs] at h
    simp only at h
    cases hj : jumpsV l' (l'.filter isJ) with
    | some p => rw [hj] at h; cases h
    | none =>
      rw [hj] at h
      injection h with h
      subst h
      exact scan_ok hb _ _ _ _ (by simp) hs
/-- The answer as the rounds bring it forth. -/
abbrev AnsV := List (Int × List Int) × Int × Int × Int
def endV (len : Nat) : VS × Option (Int × Int) → AnsV
  | (_, some (e, o)) => ([], 0, e, o)
  | (v, none) => (shapesV len v.stacks, highV (shapesV len v.stacks), 0, 0)
def endR (len : Nat) (slots : List Int) : List Ins ⊕ (Int × Int) → AnsV
  | .inr (e, o) => ([], 0, e, o)
  | .inl l => endV len (loopV len slots l len startV)
theorem codeV_read (b slots : List Int) (ints texts : Int) (h : limitsV b slots ints texts = 0) : codeV b slots ints texts = endR b.length slots (readV b slots ints texts) := by
  unfold codeV readV
  rw [if_neg (by omega)]
  cases scanV b slots ints texts b.length 0 [] with
  | inr p => rfl
  | inl l =>
    simp only
    rw [jumpsV_filter]
    cases jumpsV l l with
    | some p => rfl
    | none =>
      simp only [endR]
      obtain ⟨r, hr⟩ : ∃ r, loopV b.length slots l b.length startV = r := ⟨_, rfl⟩
      rw [hr]
      obtain ⟨v, fl⟩ := r
      cases fl with
      | none => rfl
      | some p => rfl
def LoopAt (wr : World) (B kb ib sb hb : Nat) (bv sv : Value) (ints texts : Int) (slots : List Int) (len : Nat) (T : AnsV) : Option (Int × Int) → Nat → Prop
  | some p, _ => T = ([], 0, p.1, p.2)
  | none, m => ∃ l f v, VAt wr B kb ib sb hb bv sv ints texts l v ∧ VOk len m v ∧ m ≤ f ∧ m ≤ len ∧ (∀ x ∈ l, InsOk len slots ints texts x) ∧ T = endV len (loopV len slots l f v)
def TR (B : Nat) (W8 wr : World) (kb ib sb hb : Nat) (bv sv : Value) (ints texts : Int) (slots : List Int) (len : Nat) (T : AnsV) (v13 : Value) (m : Nat) : Prop :=
  ∃ res, FaultAt wr B v13 res ∧ LoopAt wr B kb ib sb hb bv sv ints texts slots len T res m ∧ Frm B TH W8 wr
/-- The checker as Code makes it. -/
theorem VAt.start {W1 W4 : World} {bv sv : Value} {ints texts : Int} {B : Nat} (hB : B ≤ W1.heap.size)
    (m4 : MK keyI W4 (W1.heap.size + 1) (upd keyI (fun _ => none) (0 : Int) (some (.slice none 0 0)))) (g4 : ((W1.alloc (.map #[] 0)).alloc (.map #[] 0)).grownBy W4 (some (W1.heap.size + 1))) :
    VAt ((W4.alloc (.cells #[.func (.func 69) #[] #[], .slice none 0 0, .int .i64 0] 167)).alloc (.cells #[bv, sv, .int .i64 ints, .int .i64 texts, .map (some W1.heap.size), .map (some (W1.heap.size + 1)), .pointer (some ⟨W4.heap.size, 0, none⟩)] 119)) B (W4.heap.size + 1) W1.heap.size (W1.heap.size + 1) W4.heap.size bv sv ints texts [] ⟨setV (fun _ => none) 0 [], [], 0⟩ := by
  have hs4 := g4.size
  simp only [World.size_alloc] at hs4
  have mi : MK keyI W4 W1.heap.size (fun _ => none) := ((MK.made keyI W1).alloc keyI _).grown keyI g4 (by simp)
  refine ⟨?_, by omega, hB, by omega, by omega, ((mi.alloc keyI _).alloc keyI _).congr keyI (fun y => rfl), ⟨_, (m4.alloc keyI _).alloc keyI _, fun y => ?_⟩, ⟨.slice none 0 0, by omega, (Blk.new W4 _ _).alloc _, World.ownsRow_nil _ _ _ _⟩⟩
  · have := Blk.new (W4.alloc (.cells #[.func (.func 69) #[] #[], .slice none 0 0, .int .i64 0] 167)) 119 #[bv, sv, .int .i64 ints, .int .i64 texts, .map (some W1.heap.size), .map (some (W1.heap.size + 1)), .pointer (some ⟨W4.heap.size, 0, none⟩)]
    rw [World.size_alloc] at this
    exact this
  · show match setV (fun _ => none) 0 [] y with | none => _ | some s => _
    unfold setV
    rw [upd_int]
    by_cases e : y = 0
    · rw [if_pos e, if_pos e]
      exact ⟨none, 0, rfl, World.ownsRow_nil _ _ _ _⟩
    · rw [if_neg e, if_neg e]
theorem FaultAt.frm {w w' : World} {B : Nat} {r : Value} {res : Option (Int × Int)} {T : List TypeId} (h : FaultAt w B r res) (hf : Frm B T w w') (ht : 126 ∉ T) : FaultAt w' B r res := by
  cases res with
  | none => exact h
  | some p =>
    obtain ⟨e, o⟩ := p
    obtain ⟨fb, h1, h2, h3⟩ := h
    exact ⟨fb, h1, h2, hf.blk h3 ht⟩
def StartAt (w7 : World) (B kb ib sb hb : Nat) (bv sv : Value) (ints texts : Int) (slots : List Int) (len : Nat) (T : AnsV) (v7 : Value) : Prop :=
  ∃ res, FaultAt w7 B v7 res ∧ match res with
    | some p => T = ([], 0, p.1, p.2)
    | none => ∃ l, VAt w7 B kb ib sb hb bv sv ints texts l ⟨setV (fun _ => none) 0 [], [], 0⟩ ∧ (∀ x ∈ l, InsOk len slots ints texts x) ∧ T = endV len (loopV len slots l len startV)
theorem start_of {W6 w7 : World} {B kb ib sb hb : Nat} {bv sv v7 : Value} {ints texts : Int} {b slots : List Int} {T : AnsV} {rv : List Ins ⊕ (Int × Int)} (hv : VAt W6 B kb ib sb hb bv sv ints texts [] ⟨setV (fun _ => none) 0 [], [], 0⟩) (hok : ReadOk w7 B ib v7 rv) (hf : FrmI ib B W6 w7)
    (hT : T = endR b.length slots rv)
    (hi : ∀ l, rv = .inl l → ∀ x ∈ l, InsOk b.length slots ints texts x) : StartAt w7 B kb ib sb hb bv sv ints texts slots b.length T v7 := by
  cases rv with
  | inr p =>
    obtain ⟨e, o⟩ := p
    exact ⟨some (e, o), hok, hT⟩
  | inl l =>
    obtain ⟨rfl, hm⟩ := hok
    obtain ⟨F, h7, h8⟩ := hv.stk
    refine ⟨none, rfl, l, ⟨hv.ck.frm hf.frm, hv.hkb, hv.hib, hv.hsb, hv.ne, hm, ⟨F, hf.mk_ h7 (fun e => hv.ne e.symm), h8.frm hf.frm (by simp)⟩, hv.heap.keep hf.frm⟩, hi l rfl, ?_⟩
    rw [hT]
    rfl
theorem TR.start {w7 w9 : World} {B kb ib sb hb len : Nat} {bv sv v7 : Value} {ints texts : Int} {slots : List Int} {T : AnsV} (h : StartAt w7 B kb ib sb hb bv sv ints texts slots len T v7) (o : Obj) (hh : HeapAt w9 B hb (putH [] ((0 : Int), (0 : Int))) (0 + 1)) (hf : FrmH B TH (w7.alloc o) w9) (hB : B ≤ w7.heap.size) (h0 : 0 < len) :
    TR B w9 w9 kb ib sb hb bv sv ints texts slots len T v7 len := by
  obtain ⟨res, h1, h2⟩ := h
  have hb5 := (Below.refl w7.heap.size w7).alloc (Nat.le_refl _) o
  have h3 := (h1.frm (Frm.of_below (T := []) hb5 hB) (by simp)).frm hf.frm (by decide)
  refine ⟨res, h3, ?_, Frm.refl _ _ _⟩
  cases res with
  | some p => exact h2
  | none =>
    obtain ⟨l, hv, hi, hT⟩ := h2
    exact ⟨l, len, startV, (hv.below hb5).put hf hh, VOk.start h0, Nat.le_refl _, Nat.le_refl _, hi, hT⟩
/-- A row of shapes, from what the loop over the table has handed out. -/
def Rows2 (ls : List ShE) (done : List (Int × Value)) : Prop := done = ls.map fun x => (x.at_, Value.slice x.A x.n x.c)
def highS (ls : List ShE) : Int := ls.foldl (fun m x => max m (x.n : Int)) 0
theorem shapes_end {w : World} {B len m : Nat} {F : Int → Option Value} {st : VS} {ls l' : List ShE} {done : List (Int × Value)} {v : Value} (hok : VOk len m st) (hst : StkF w B F st.stacks) (hd : Rows2 ls done) (hall : ∀ x v, F x = some v ↔ (x, v) ∈ done) (hnd : (done.map (·.1)).Nodup)
    (hp : l'.Perm ls) (hs : l'.Pairwise (fun a b => a.at_ ≤ b.at_)) (ho : w.ownsRow B 70 2 v ls.length (shVals l')) : ShapesAt w B v (shapesV len st.stacks) ∧ highS ls = highV (shapesV len st.stacks) := by
  have hF : ∀ x ∈ ls, F x.at_ = some (.slice x.A x.n x.c) := fun x hx => (hall _ _).2 (by rw [hd]; exact List.mem_map.2 ⟨x, hx, rfl⟩)
  have hst2 : ∀ x ∈ ls, ∃ s, st.stacks x.at_ = some s ∧ x.n = s.length ∧ w.ownsRow B 40 1 (.slice x.A s.length x.c) s.length (s.map (Value.int .i8)) := fun x hx => by
    have h1 := hst x.at_
    have h2 := hF x hx
    cases hq : st.stacks x.at_ with
    | none => rw [hq] at h1; rw [h1] at h2; cases h2
    | some s =>
      rw [hq] at h1
      obtain ⟨A, c, h3, h4⟩ := h1
      rw [h3] at h2
      injection h2 with h2
      injection h2 with e1 e2 e3
      refine ⟨s, rfl, e2.symm, ?_⟩
      rw [← e1, ← e3]
      exact h4
  have hmap : l'.map (fun x => (x.at_, (st.stacks x.at_).getD [])) = shapesV len st.stacks := by
    refine rise_eq ?_ (shapes_rise len st.stacks) fun p => ?_
    · have hnd2 : (l'.map (·.at_)).Nodup := by
        have h1 : (ls.map (·.at_)).Nodup := by rw [hd] at hnd; simpa [Function.comp_def] using hnd
        exact (hp.map _).nodup_iff.2 h1
      rw [List.pairwise_map]
      rw [List.Nodup, List.pairwise_map] at hnd2
      exact List.Pairwise.imp₂ (fun a b h1 h2 => by show a.at_ < b.at_; omega) hs hnd2
    · rw [shapes_mem, List.mem_map]
      constructor
      · rintro ⟨x, hx, rfl⟩
        obtain ⟨s, h1, _⟩ := hst2 x (hp.mem_iff.1 hx)
        have h2 : 0 ≤ x.at_ ∧ x.at_ < len := by
          by_cases q : x.at_ < 0 ∨ (len : Int) ≤ x.at_
          · rw [hok.top _ q] at h1; cases h1
          · omega
        exact ⟨h2.1, h2.2, by show st.stacks x.at_ = some ((st.stacks x.at_).getD []); rw [h1]; rfl⟩
      · rintro ⟨h0, h1, h2⟩
        have h3 := hst p.1
        rw [h2] at h3
        obtain ⟨A, c, h4, h5⟩ := h3
        have h6 := (hall _ _).1 h4
        rw [hd] at h6
        obtain ⟨x, hx, he⟩ := List.mem_map.1 h6
        injection he with he1 he2
        refine ⟨x, hp.mem_iff.2 hx, ?_⟩
        rw [he1, h2]
        rfl
  refine ⟨⟨l', by rw [hp.length_eq]; exact ho, by rw [← hmap, List.length_map], fun i x p hi hq => ?_⟩, ?_⟩
  · rw [← hmap, List.getElem?_map, hi] at hq
    injection hq with hq
    subst hq
    obtain ⟨s, h1, h2, h3⟩ := hst2 x (hp.mem_iff.1 (List.mem_of_getElem? hi))
    refine ⟨rfl, ?_, ?_⟩
    · show x.n = ((st.stacks x.at_).getD []).length
      rw [h1]; exact h2
    · show w.ownsRow B 40 1 (.slice x.A ((st.stacks x.at_).getD []).length x.c) ((st.stacks x.at_).getD []).length (((st.stacks x.at_).getD []).map (Value.int .i8))
      rw [h1]; exact h3
  · have h1 : highS l' = highS ls := by
      unfold highS
      exact hp.foldl_eq' (fun x _ y _ z => by show max (max z (x.n : Int)) (y.n : Int) = max (max z (y.n : Int)) (x.n : Int); omega) 0
    have h2 : ∀ (l : List ShE) (m : Int), (∀ x ∈ l, x ∈ ls) → l.foldl (fun m x => max m (x.n : Int)) m = (l.map (fun x => (x.at_, (st.stacks x.at_).getD []))).foldl (fun m p => max m (p.2.length : Int)) m := by
      intro l
      induction l with
      | nil => exact fun m _ => rfl
      | cons a r ih =>
        intro m h
        rw [List.map_cons, List.foldl_cons, List.foldl_cons]
        obtain ⟨s, h3, h4, _⟩ := hst2 a (h a (by simp))
        rw [ih _ (fun x hx => h x (by simp [hx])), h3, h4]
        rfl
    rw [← h1, ← hmap]
    exact h2 l' 0 (fun x hx => hp.mem_iff.1 hx)
/-- A loop's iterator moved. -/
theorem Frm.iter {B : Nat} {T : List TypeId} {a w w' : World} {P : Program} {k : TypeId} {κ : Type} {K : KeyT P k κ} {b r cnt : Nat} {f : κ → Option Value} {done : List (κ × Value)} (h : Frm B T a w) (hr : RangeAt K w b r f done cnt) (hB : B ≤ r) (hg : w.grownBy w' (some r)) (hs : B ≤ w.heap.size) : Frm B T a w' := by
  obtain ⟨es, clock, since, c0, seen, l, h1, h2, h3⟩ := hr
  refine h.trans ⟨⟨hg.os, hg.tape, hg.output, hg.size, fun i hi => hg.block i (by omega) (by simp; omega)⟩, fun g cs t fr hgc ht => hg.block g (Array.getElem?_eq_some_iff.1 hgc).1 ?_⟩
  rintro e
  injection e with e
  subst e
  rw [h2] at hgc
  cases hgc
theorem loop_step {len : Nat} {slots : List Int} {l : List Ins} {f m : Nat} {st : Int → Option (List Int)} {hp : List HEnt} {cm : Int} (hne : hp ≠ []) (hmf : m ≤ f) (hm1 : 1 ≤ m) :
    loopV len slots l f ⟨st, hp, cm⟩ = (match (lookV len slots ((insAt l (atH hp 0).1).getD ins0) ⟨st, takeH hp, cm⟩).2 with
      | some e => ((lookV len slots ((insAt l (atH hp 0).1).getD ins0) ⟨st, takeH hp, cm⟩).1, some e)
      | none => loopV len slots l (f - 1) (lookV len slots ((insAt l (atH hp 0).1).getD ins0) ⟨st, takeH hp, cm⟩).1) := by
  obtain ⟨g, rfl⟩ : ∃ g, f = g + 1 := ⟨f - 1, by omega⟩
  rw [loopV, if_neg hne]
  rfl
theorem TR.step {W8 w3 : World} {B kb ib sb hb len : Nat} {bv sv r : Value} {ints texts : Int} {slots : List Int} {T : AnsV} {l : List Ins} {f m : Nat} {st : Int → Option (List Int)} {hp : List HEnt} {cm : Int}
    (h0 : 0 < len) (hO : VOk len m ⟨st, hp, cm⟩) (hne : hp ≠ []) (hmf : m ≤ f) (hml : m ≤ len) (hins : ∀ x ∈ l, InsOk len slots ints texts x) (hT : T = endV len (loopV len slots l f ⟨st, hp, cm⟩))
    (hfa : FaultAt w3 B r (lookV len slots ((insAt l (atH hp 0).1).getD ins0) ⟨st, takeH hp, cm⟩).2) (hv : VAt w3 B kb ib sb hb bv sv ints texts l (lookV len slots ((insAt l (atH hp 0).1).getD ins0) ⟨st, takeH hp, cm⟩).1) (hfr : Frm B TH W8 w3) :
    TR B W8 w3 kb ib sb hb bv sv ints texts slots len T r (m - 1) := by
  obtain ⟨hv2, hm1, ha0, ha1⟩ := hO.take hne
  have hx := at_ok hins h0 (atH hp 0).1
  have hst := loop_step (len := len) (slots := slots) (l := l) (st := st) (cm := cm) hne hmf hm1
  have hok : VOk len (m - 1) (lookV len slots ((insAt l (atH hp 0).1).getD ins0) ⟨st, takeH hp, cm⟩).1 := look_ok hv2 hx.next hx.tg
  rw [hst] at hT
  obtain ⟨R, hR⟩ : ∃ R, lookV len slots ((insAt l (atH hp 0).1).getD ins0) ⟨st, takeH hp, cm⟩ = R := ⟨_, rfl⟩
  rw [hR] at hT hfa hv hok
  obtain ⟨v1, fl⟩ := R
  refine ⟨fl, hfa, ?_, hfr⟩
  cases fl with
  | some p => exact hT
  | none => exact ⟨l, f - 1, v1, hv, hok, by omega, by omega, hins, hT⟩
theorem zero_insV (w : World) : (zeroValue 101).run Try.prog w = .ok (.agg ins0.cells) w := by kernel_rfl
theorem info_shape : (Try.prog.info? 70).map (fun i => (i.zero, i.size, i.bytes)) = some (some (.agg #[.int .i64 0, .slice none 0 0]), 2, 32) := by kernel_rfl
theorem shape_el : ElT Try.prog 62 70 2 32 := ⟨Try.underlying62, by decide, by
  obtain ⟨i0, hi, hz0, hz1, hz2⟩ := info_parts info_shape
  exact ⟨i0, _, hi, hz0, hz1, hz2, rfl⟩⟩
theorem shVals_snoc (l : List ShE) (x : ShE) : shVals (l ++ [x]) = shVals l ++ [.int .i64 x.at_, .slice x.A x.n x.c] := by simp [shVals, encS]
theorem highS_snoc (l : List ShE) (x : ShE) : highS (l ++ [x]) = max (highS l) (x.n : Int) := by simp [highS]
theorem nodup_lt : ∀ (n : Nat) (l : List Int), l.Nodup → (∀ x ∈ l, 0 ≤ x ∧ x < n) → l.length ≤ n
  | 0, l, hn, h => by
    cases l with
    | nil => simp
    | cons a r => have := h a (by simp); omega
  | n + 1, l, hn, h => by
    by_cases hm : (n : Int) ∈ l
    · have h1 := nodup_lt n (l.erase (n : Int)) (hn.erase _) (fun x hx => by
        have h2 := (List.Nodup.mem_erase_iff hn).1 hx
        have h3 := h x h2.2
        have h4 := h2.1
        omega)
      rw [List.length_erase_of_mem hm] at h1
      omega
    · have h1 := nodup_lt n l hn (fun x hx => by
        have h3 := h x hx
        have h4 : x ≠ n := fun e => hm (e ▸ hx)
        omega)
      omega
theorem rows_len {w : World} {B n m sb r cnt : Nat} {F : Int → Option Value} {st : VS} {done : List (Int × Value)} {ls : List ShE} (hra : RangeAt keyI w sb r F done cnt) (hd : Rows2 ls done) (hS : StkF w B F st.stacks) (hok : VOk n m st) : ls.length ≤ n := by
  obtain ⟨h1, h2⟩ := hra.done keyI
  have h3 := nodup_lt n (done.map (·.1)) h1 (fun x hx => by
    obtain ⟨p, hp, rfl⟩ := List.mem_map.1 hx
    have h4 := h2 p hp
    by_cases q : p.1 < 0 ∨ (n : Int) ≤ p.1
    · have h5 := hS p.1
      rw [hok.top _ q] at h5
      rw [h5] at h4
      cases h4
    · omega)
  rw [hd] at h3
  simpa using h3
theorem stk_at {w : World} {B n m : Nat} {F : Int → Option Value} {st : VS} (hS : StkF w B F st.stacks) (hok : VOk n m st) {x : Int} {v : Value} (h : F x = some v) : ∃ (A : Option Addr) (k c : Nat), v = .slice A k c ∧ 0 ≤ x ∧ x < n ∧ k ≤ 256 := by
  have h1 := hS x
  cases hq : st.stacks x with
  | none => rw [hq] at h1; rw [h1] at h; cases h
  | some s =>
    rw [hq] at h1
    obtain ⟨A, c, h2, h3⟩ := h1
    rw [h2] at h
    injection h with h
    refine ⟨A, s.length, c, h.symm, ?_, ?_, hok.high x s hq⟩
    all_goals
      by_cases q : x < 0 ∨ (n : Int) ≤ x
      · rw [hok.top _ q] at hq; cases hq
      · omega
theorem rows_some {w : World} {B n m : Nat} {F : Int → Option Value} {st : VS} {done : List (Int × Value)} {ls : List ShE} (hd : Rows2 ls done) (hS : StkF w B F st.stacks) (hok : VOk n m st) (hall : ∀ x v, F x = some v ↔ (x, v) ∈ done) : 0 < ls.length := by
  have h1 := hS 0
  rw [hok.zero] at h1
  obtain ⟨A, c, h2, _⟩ := h1
  have h3 := (hall _ _).1 h2
  rw [hd] at h3
  obtain ⟨x, hx, _⟩ := List.mem_map.1 h3
  exact List.length_pos_of_mem hx
theorem insF_at (l : List Ins) (o : Int) : (insF l o).getD (.agg ins0.cells) = .agg ((insAt l o).getD ins0).cells := by
  unfold insF
  cases insAt l o with
  | none => rfl
  | some x => rfl
def RR (B : Nat) (W11 wr : World) (sb r : Nat) (F : Int → Option Value) (v8 v9 : Value) (cnt : Nat) : Prop :=
  ∃ (done : List (Int × Value)) (ls : List ShE), RangeAt keyI wr sb r F done cnt ∧ Rows2 ls done ∧ wr.ownsRow W11.heap.size 70 2 v8 ls.length (shVals ls) ∧ v9 = .int .i64 (highS ls) ∧ Frm B [] W11 wr
end Go.Proofs.Ytggibiodeecljaa
