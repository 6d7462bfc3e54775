/- check.Able, as a plain function. check.Able: the looker that it makes; the ways that end at once. -/
import Derived.Test.YtggibiodeecljaaStmtAll
import Derived.Deep.RegionHeld3
namespace Go.Proofs.Ytggibiodeecljaa
open Go.RowKit

noncomputable def seen0 : Int → Option Value := upd keyI (upd keyI (fun _ => none) (0 : Int) (some (.bool false))) (1 : Int) (some (.bool false))
noncomputable def look0 : LSt := ⟨[3, 4], seen0, false⟩
def blockOf (when_ : Bool) (ts : List Node) : Int := if when_ then behind ts 0 else 0
noncomputable def look1 (when_ : Bool) (ts : List Node) : LSt := if when_ then valueF ts 0 2 look0 else look0
noncomputable def look2 (when_ : Bool) (ts : List Node) : LSt := if (look1 when_ ts).bad = true then look1 when_ ts else (sbM ts (ts.length + 1)).2 (blockOf when_ ts).toNat (look1 when_ ts)
/-- The tree of an ability: a condition, if it has one, and a block, and nothing behind. -/
def wholeB (when_ : Bool) (ts : List Node) : Bool := decide (0 ≤ blockOf when_ ts) && decide (behind ts (blockOf when_ ts).toNat = ts.length)
noncomputable def checkAble (on : Int) (slots : List Int) (when_ : Bool) (ts : List Node) : Bool :=
  decide (0 ≤ on) && decide (on ≤ 4) && decide (slots.length ≤ 32) && decide (ts.length ≤ 2000) && wholeB when_ ts && !(look2 when_ ts).bad && decide ((look2 when_ ts).slots = slots)

theorem seen0_at (n : Int) : seen0 n = if n = 1 then some (.bool false) else if n = 0 then some (.bool false) else none := by
  unfold seen0
  rw [upd_int, upd_int]
theorem good0 : Good look0 := by
  constructor
  · intro n hn h0
    have h : (seen0 n).isSome = true := hn
    rw [seen0_at] at h
    show n < (([3, 4] : List Int).length : Int)
    simp only [List.length_cons, List.length_nil]
    split at h
    · omega
    · split at h
      · omega
      · cases h
  · intro n v hv
    have h : seen0 n = some v := hv
    rw [seen0_at] at h
    split at h
    · exact ⟨false, by injection h with h; exact h.symm⟩
    · split at h
      · exact ⟨false, by injection h with h; exact h.symm⟩
      · cases h
theorem good1 (when_ : Bool) (ts : List Node) : Good (look1 when_ ts) := by
  unfold look1; split
  · exact good0.value ts 0 2
  · exact good0
theorem look1_slots (when_ : Bool) (ts : List Node) : (look1 when_ ts).slots = [3, 4] := by
  unfold look1; split <;> rfl

/-- A list of nodes that came in. -/
def TreeAt (w : World) (A : Option Addr) (ts : List Node) : Prop := ts = [] ∨ ∃ tb toff, A = some ⟨tb, toff, none⟩ ∧ tb < w.heap.size ∧ NodesAt w tb toff ts
/-- A list of small numbers that came in. -/
def SmallsAt (w : World) (A : Option Addr) (l : List Int) : Prop := ∀ k x, l[k]? = some x → ∃ b off, A = some ⟨b, off, none⟩ ∧ b < w.heap.size ∧ w.cell? ⟨b, off + k, none⟩ = some (.int .i8 x)
theorem TreeAt.below {w w' : World} {A : Option Addr} {ts : List Node} (h : TreeAt w A ts) (hb : Below w.heap.size w w') : TreeAt w' A ts := by
  rcases h with h | ⟨tb, toff, h1, h2, h3⟩
  · exact .inl h
  · exact .inr ⟨tb, toff, h1, Nat.lt_of_lt_of_le h2 hb.size, h3.below hb h2⟩
theorem SmallsAt.below {w w' : World} {A : Option Addr} {l : List Int} (h : SmallsAt w A l) (hb : Below w.heap.size w w') : SmallsAt w' A l := by
  intro k x hk
  obtain ⟨b, off, h1, h2, h3⟩ := h k x hk
  exact ⟨b, off, h1, Nat.lt_of_lt_of_le h2 hb.size, (hb.cell (p := ⟨b, _, none⟩) h2).trans h3⟩
end Go.Proofs.Ytggibiodeecljaa
namespace Go.Proofs.Ytggibiodeecljaa
open Go.RowKit

/-- In check.Able: the ability's box, the looker. -/
structure AbC (w0 : World) (kb tb toff cap : Nat) (ts : List Node) (bx : Array Value) (s : LSt) (w : World) : Prop where
  lk : LK w w0.heap.size kb (.slice (some ⟨tb, toff, none⟩) ts.length cap) s
  fr : Frm w0.heap.size [132, 40] w0 w
  tbB : tb < w0.heap.size
  nodes : NodesAt w tb toff ts
  bx : Blk w w0.heap.size 25 bx
section
variable {w0 w w' : World} {kb tb toff cap : Nat} {ts : List Node} {bx : Array Value} {s s' : LSt}
theorem AbC.drew (h : AbC w0 kb tb toff cap ts bx s w) : AbC w0 kb tb toff cap ts bx s w.drew := ⟨h.lk.drew, h.fr.drew, h.tbB, h.nodes, h.bx.drew⟩
theorem AbC.step (h : AbC w0 kb tb toff cap ts bx s w) {T : List TypeId} (hT : ∀ t ∈ T, t = 132 ∨ t = 40) (hl : LK w' w0.heap.size kb (.slice (some ⟨tb, toff, none⟩) ts.length cap) s') (hf : Frm w0.heap.size T w w') :
    AbC w0 kb tb toff cap ts bx s' w' := by
  have hf2 : Frm w0.heap.size [132, 40] w w' := hf.more (fun t ht => by simpa using hT t ht)
  exact ⟨hl, h.fr.trans hf2, h.tbB, hf2.nodes h.nodes h.tbB, hf2.blk h.bx (by decide)⟩
end
theorem AbC.cells {w0 w : World} {kb tb toff cap : Nat} {ts : List Node} {v0 v1 v2 v3 : Value} {s : LSt} (h : AbC w0 kb tb toff cap ts #[v0, v1, v2, v3] s w) :
    w.cell? ⟨w0.heap.size, 0, none⟩ = some v0 ∧ w.cell? ⟨w0.heap.size, 1, none⟩ = some v1 ∧ w.cell? ⟨w0.heap.size, 2, none⟩ = some v2 ∧ w.cell? ⟨w0.heap.size, 3, none⟩ = some v3 :=
  ⟨h.bx.cell 0, h.bx.cell 1, h.bx.cell 2, h.bx.cell 3⟩

theorem behind_all (b off cap : Nat) (ts : List Node) (k : Nat) (w : World) (hl : ts.length ≤ 100000) (hc : NodesAt w b off ts) :
    Calls Try.prog 77 #[.slice (some ⟨b, off, none⟩) ts.length cap, .int .i64 k] w fun e w' => e = .returned (.int .i64 (behind ts k)) ∧ w = w' := by
  by_cases h : k < ts.length
  · exact behind_in b off cap ts k w hl hc h
  · have e : behind ts k = -1 := by unfold behind; rw [if_neg h]
    rw [e]
    exact behind_out _ (some ⟨b, off, none⟩) ts.length cap k w rfl (.inr (by omega)) (by omega)
theorem drewN_below {B : Nat} {w w' : World} (h : Below B w w') (n : Nat) : Below B w (w'.drewN n) := ⟨h.os, h.tape, h.output, h.size, h.block⟩
theorem behind_minus {ts : List Node} {k : Nat} (h : behind ts k < 0) : behind ts k = -1 := by
  rw [behind_eq] at h ⊢
  rcases hz : (sizes ts.length ts)[k]? with _ | _ | z <;> rw [hz] at h <;> simp only at h ⊢
  omega
theorem own_small {w : World} {base n c : Nat} {A : Option Addr} {l : List Int} (h : w.ownsRow base 40 1 (.slice A n c) l.length (l.map (Value.int .i8))) : ∀ k x, l[k]? = some x → ∃ b off, A = some ⟨b, off, none⟩ ∧ w.cell? ⟨b, off + k, none⟩ = some (.int .i8 x) := by
  intro k x hk
  have hlt := (List.getElem?_eq_some_iff.1 hk).1
  rcases h.2 with ⟨h1, h2⟩ | ⟨g, cap, cur, h1, _⟩
  · omega
  · injection h1 with h1 h3 h4
    subst h1 h3
    refine ⟨g, 0, rfl, ?_⟩
    rw [Nat.zero_add]
    have := h.cellAt k (by omega)
    rw [this]
    simp [hk]
theorem look_made (w : World) (bx : Array Value) : ∃ w3 w4,
    (Instr.mapUpdate 130 (.map (some (w.heap.size + 1 + 1))) (.int .i64 0) (.bool false)).run Try.prog (((w.alloc (.cells bx 25)).alloc (.cells #[.int .i8 3, .int .i8 4] 40)).alloc (.map #[] 0)) = .ok () w3 ∧
    (Instr.mapUpdate 130 (.map (some (w.heap.size + 1 + 1))) (.int .i64 1) (.bool false)).run Try.prog w3 = .ok () w4 ∧
    (∀ {tb toff cap : Nat} {ts : List Node} (tv : Value), NodesAt w tb toff ts → tb < w.heap.size → tv = .slice (some ⟨tb, toff, none⟩) ts.length cap →
      AbC w w4.heap.size tb toff cap ts bx look0 (w4.alloc (.cells #[tv, .slice (some ⟨w.heap.size + 1, 0, none⟩) 2 2, .map (some (w.heap.size + 1 + 1)), .bool false] 132))) ∧ (∀ tv, Below w.heap.size w (w4.alloc (.cells #[tv, .slice (some ⟨w.heap.size + 1, 0, none⟩) 2 2, .map (some (w.heap.size + 1 + 1)), .bool false] 132)) ∧
      Blk (w4.alloc (.cells #[tv, .slice (some ⟨w.heap.size + 1, 0, none⟩) 2 2, .map (some (w.heap.size + 1 + 1)), .bool false] 132)) w.heap.size 25 bx) := by
  have b0 := Blk.new w 25 bx
  have b1 := Blk.new (w.alloc (.cells bx 25)) 40 #[.int .i8 3, .int .i8 4]
  have m0 := MK.made keyI ((w.alloc (.cells bx 25)).alloc (.cells #[.int .i8 3, .int .i8 4] 40))
  simp only [World.size_alloc] at b1 m0
  obtain ⟨w3, r1, m1, g1⟩ := m0.update keyI Try.underlying130 (0 : Int) (.bool false)
  obtain ⟨w4, r2, m2, g2⟩ := m1.update keyI Try.underlying130 (1 : Int) (.bool false)
  have e1 := g1.size
  have e2 := g2.size
  simp only [World.size_alloc] at e1
  have hne : ∀ k, k ≠ w.heap.size + 1 + 1 → some k ≠ some (w.heap.size + 1 + 1) := fun k h e => h (by injection e)
  have c0 := (((b0.alloc (.cells #[.int .i8 3, .int .i8 4] 40)).alloc (.map #[] 0)).grown g1 (hne _ (by omega))).grown g2 (hne _ (by omega))
  have c1 := ((b1.alloc (.map #[] 0)).grown g1 (hne _ (by omega))).grown g2 (hne _ (by omega))
  have hb : Below w.heap.size w w4 := by
    have q0 : Below w.heap.size w (((w.alloc (.cells bx 25)).alloc (.cells #[.int .i8 3, .int .i8 4] 40)).alloc (.map #[] 0)) := (((Below.refl _ _).alloc (Nat.le_refl _) _).alloc (by simp) _).alloc (by simp; omega) _
    exact (q0.grown g1 (by simp; omega) (fun k hk => by injection hk with hk; omega)).grown g2 (by omega) (fun k hk => by injection hk with hk; omega)
  refine ⟨w3, w4, r1, r2, ?_, fun tv => ⟨hb.alloc (by omega) _, c0.alloc _⟩⟩
  rintro tb toff cap ts tv hn htb rfl
  refine ⟨⟨.slice (some ⟨w.heap.size + 1, 0, none⟩) 2 2, w.heap.size + 1 + 1, by omega, by omega, Blk.new w4 _ _, m2.alloc keyI _, ?_⟩, Frm.of_below (hb.alloc (by omega) _) (Nat.le_refl _), htb, hn.below (hb.alloc (by omega) _) htb, c0.alloc _⟩
  refine ⟨rfl, .inr ⟨w.heap.size + 1, 2, #[.int .i8 3, .int .i8 4], rfl, by omega, c1.alloc _, by decide, by decide, rfl, rfl⟩⟩

/-- What comes too early to be looked at. -/
theorem able_early (on : Int) (SA TA : Option Addr) (sn sc tn tc : Nat) (when_ : Bool) (w : World) (h : on < 0 ∨ (0 ≤ on ∧ 4 < on) ∨ (0 ≤ on ∧ on ≤ 4 ∧ 32 < sn) ∨ (0 ≤ on ∧ on ≤ 4 ∧ sn ≤ 32 ∧ 2000 < tn)) :
    Calls Try.prog 37 #[.agg #[.int .i64 on, .slice SA sn sc, .bool when_, .slice TA tn tc]] w fun e w' => e = .returned (.bool false) ∧ Below w.heap.size w w' := by
  have hb : Below w.heap.size w (w.alloc (.cells #[.int .i64 on, .slice SA sn sc, .bool when_, .slice TA tn tc] 25)) := (Below.refl _ _).alloc (Nat.le_refl _) _
  have HB := Lib.hid hb
  clear hb
  by_cases q0 : on < 0
  · go_enter Try.func37, Try.ntmps37
    go_wp2_with fail
    go_ret
    exact ⟨rfl, HB.out⟩
  have q0 := Int.not_lt.1 q0
  by_cases q1 : 4 < on
  · clear h
    go_enter Try.func37, Try.ntmps37
    go_wp2_with fail
    go_ret
    exact ⟨rfl, HB.out⟩
  have q1 := Int.not_lt.1 q1
  by_cases q2 : (32 : Int) < sn
  · clear h
    go_enter Try.func37, Try.ntmps37
    go_wp2_with fail
    go_ret
    exact ⟨rfl, HB.out⟩
  have q2 := Int.not_lt.1 q2
  have q3 : (2000 : Int) < tn := by omega
  have q4 : decide ((2000 : Int) < tn) = true := decide_eq_true q3
  clear h q3
  go_enter Try.func37, Try.ntmps37
  go_wp2_with fail
  go_ret
  exact ⟨rfl, HB.out⟩
end Go.Proofs.Ytggibiodeecljaa
