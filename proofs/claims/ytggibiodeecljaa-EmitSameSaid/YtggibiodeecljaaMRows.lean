/- Rows out of a block's literal. tableauref00: SizeNodes. tableauref00: SizeAbility, Long. tableauref00: copies and sizes of abilities. tableauref00: CopyAbility, a copy of the call's own. append of a whole row, empty or not, onto a row of the call's own. -/
import Derived.Test.YtggibiodeecljaaMAble0
import Derived.Test.YtggibiodeecljaaMStmt0
import Derived.Deep.RegionHeld3
namespace Go.Proofs.Ytggibiodeecljaa
open Go.RowKit
set_option linter.unusedVariables false

def nd (op kind n m kids : Int) : Node := ⟨op, kind, n, m, ByteArray.empty, 0, kids⟩
theorem nodeVals_at : ∀ (ts : List Node) (i j : Nat) (x : Node) (v : Value), ts[i]? = some x → x.cells[j]? = some v → (ts.flatMap Node.cells)[i * 7 + j]? = some v
  | [], i, j, x, v, h, _ => by simp at h
  | y :: r, 0, j, x, v, h, hv => by
    simp only [List.getElem?_cons_zero, Option.some.injEq] at h
    subst h
    have hj : j < 7 := by
      have := (List.getElem?_eq_some_iff.1 hv).1
      simpa [Node.cells] using this
    rw [List.flatMap_cons, Nat.zero_mul, Nat.zero_add, List.getElem?_append_left (by simpa [Node.cells] using hj)]
    exact hv
  | y :: r, i + 1, j, x, v, h, hv => by
    have := nodeVals_at r i j x v h hv
    have hl : y.cells.length = 7 := rfl
    rw [List.flatMap_cons, List.getElem?_append_right (by omega), hl, ← this]
    congr 1
    omega
theorem nodes_blk {w : World} {b : Nat} {t : TypeId} {ts : List Node} (h : Blk w b t (ts.flatMap Node.cells).toArray) : NodesAt w b 0 ts := by
  intro i x hx j v hv
  rw [show 0 + i * 7 + j = i * 7 + j by omega, h.cell, List.getElem?_toArray]
  exact nodeVals_at ts i j x v hx hv
theorem smalls_blk {w : World} {b : Nat} {t : TypeId} {l : List Int} (h : Blk w b t (l.map (Value.int .i8)).toArray) : SmallsAt w (some ⟨b, 0, none⟩) l := by
  intro k x hk
  refine ⟨b, 0, rfl, h.lt, ?_⟩
  rw [Nat.zero_add, h.cell, List.getElem?_toArray, List.getElem?_map, hk]
  rfl
end Go.Proofs.Ytggibiodeecljaa
namespace Go.Proofs.Ytggibiodeecljaa
open Go.RowKit
set_option linter.unusedVariables false

/-- As many nodes, and their texts; it stops where that is past the bound. -/
def sizeL : List Node → Int → Int
  | [], s => s
  | x :: r, s => if s ≤ 16777216 then sizeL r (s + (x.text.size : Int)) else s

theorem sizeL_ge : ∀ ts s, s ≤ sizeL ts s
  | [], s => by unfold sizeL; omega
  | x :: r, s => by
    unfold sizeL
    split
    · have := sizeL_ge r (s + (x.text.size : Int)); omega
    · omega
theorem sizeL_text : ∀ ts s, 0 ≤ s → sizeL ts s ≤ 16777216 → ∀ x ∈ ts, (x.text.size : Int) ≤ 16777216
  | [], s, _, _, x, h => by simp at h
  | y :: r, s, h0, hs, x, h => by
    unfold sizeL at hs
    split at hs
    · rcases List.mem_cons.1 h with rfl | h
      · have := sizeL_ge r (s + (x.text.size : Int)); omega
      · exact sizeL_text r (s + (y.text.size : Int)) (by omega) hs x h
    · omega
theorem sizeL_le : ∀ ts s, (∀ x ∈ ts, x.text.size ≤ 4611686018427387904) → s ≤ 281474976710656 → sizeL ts s ≤ 4611967493404098560
  | [], s, _, h => by unfold sizeL; omega
  | y :: r, s, ht, h => by
    unfold sizeL
    split
    · have hy := ht y (List.mem_cons_self ..)
      cases r with
      | nil => unfold sizeL; omega
      | cons z r =>
        by_cases hs : s + (y.text.size : Int) ≤ 16777216
        · exact sizeL_le (z :: r) _ (fun x hx => ht x (List.mem_cons_of_mem _ hx)) (by omega)
        · unfold sizeL; rw [if_neg hs]; omega
    · omega

set_option maxRecDepth 100000 in
set_option maxHeartbeats 800000 in
theorem sizeNodes_any (A : Option Addr) (ts : List Node) (c : Nat) (w : World) (hl : ts.length ≤ 281474976710656) (hT : TreeAt w A ts) (htx : ∀ x ∈ ts, x.text.size ≤ 4611686018427387904) :
    Calls Try.prog 43 #[.slice A ts.length c] w fun e w' => e = .returned (.int .i64 (sizeL ts ts.length)) ∧ w = w' := by
  obtain ⟨len, hlen⟩ : ∃ len, ts.length = len := ⟨_, rfl⟩
  obtain ⟨R, hR⟩ : ∃ R, R = sizeL ts ts.length := ⟨_, rfl⟩
  rw [← hR]
  rw [hlen] at hR hl ⊢
  have hcell : ∀ i x, ts[i]? = some x → ∃ b off, A = some ⟨b, off, none⟩ ∧ w.cell? ⟨b, off + i * 7 + 4, none⟩ = some (.string x.text) := by
    intro i x hx
    rcases hT with rfl | ⟨tb, toff, h1, h2, h3⟩
    · simp at hx
    · exact ⟨tb, toff, h1, h3.text hx⟩
  have HR := Lib.hid hR
  have HL := Lib.hid hlen
  have HC := Lib.hid hcell
  have HTX := Lib.hid htx
  clear hR hlen hcell hT htx
  by_cases hA : A = none
  · subst hA
    have h0 : len = 0 := by
      rcases Nat.eq_zero_or_pos len with h | h
      · exact h
      · obtain ⟨b, off, e, _⟩ := HC.out 0 _ (List.getElem?_eq_getElem (by rw [HL.out]; exact h))
        cases e
    subst h0
    have hR0 : R = 0 := by
      have : ts = [] := List.length_eq_zero_iff.1 HL.out
      rw [HR.out, this]; rfl
    have HR0 := Lib.hid hR0
    clear hR0
    go_enter Try.func43, Try.ntmps43
    go_wp2
    go_loop [3, 4] (fun s i => s = .int .i64 0 ∧ i = .int .i64 0) (fun _ _ => 0)
    case atStart => exact ⟨rfl, rfl⟩
    case round =>
      obtain ⟨rfl, rfl⟩ := hrel
      go_wp2
      go_ret
      exact ⟨ret_i64 HR0.out.symm, rfl⟩
  · obtain ⟨a, rfl⟩ := Option.ne_none_iff_exists'.1 hA
    obtain ⟨b, off, e, he⟩ : ∃ b off e, a = ⟨b, off, e⟩ := ⟨_, _, _, rfl⟩
    by_cases hlen0 : len = 0
    · subst hlen0
      have hR0 : R = 0 := by
        have : ts = [] := List.length_eq_zero_iff.1 HL.out
        rw [HR.out, this]; rfl
      have HR0 := Lib.hid hR0
      clear hR0
      go_enter Try.func43, Try.ntmps43
      go_wp2
      go_loop [3, 4] (fun s i => s = .int .i64 0 ∧ i = .int .i64 0) (fun _ _ => 0)
      case atStart => exact ⟨rfl, rfl⟩
      case round =>
        obtain ⟨rfl, rfl⟩ := hrel
        go_wp2
        go_ret
        exact ⟨ret_i64 HR0.out.symm, rfl⟩
    · obtain ⟨b2, off2, e2, hdrop⟩ := HC.out 0 _ (List.getElem?_eq_getElem (by rw [HL.out]; omega))
      clear hdrop
      injection e2 with e2
      subst e2
      clear he hA hlen0
      clear b off e
      have hcell : ∀ i x, ts[i]? = some x → w.cell? ⟨b2, off2 + i * 7 + 4, none⟩ = some (.string x.text) := by
        intro i x hx
        obtain ⟨b, off, e, h⟩ := HC.out i x hx
        injection e with e
        injection e with e1 e2
        subst e1 e2
        exact h
      clear HC
      have HC := Lib.hid hcell
      clear hcell
      go_enter Try.func43, Try.ntmps43
      go_wp2
      go_loop [3, 4] (fun s i => ∃ (j : Nat) (S : Int), j ≤ len ∧ 0 ≤ S ∧ S ≤ 4611967493404098560 ∧ Hid (R = sizeL (ts.drop j) S) ∧ s = .int .i64 S ∧ i = .int .i64 j) (fun _ i => len - (intOf i).toNat)
      case atStart => exact ⟨0, len, by omega, by omega, by omega, HR, rfl, rfl⟩
      case round =>
        obtain ⟨j, S, hj, hS0, hS1, H, rfl, rfl⟩ := hrel
        by_cases hjl : j < len
        · obtain ⟨x, hx⟩ : ∃ x, ts[j]? = some x := ⟨_, List.getElem?_eq_getElem (by rw [HL.out]; exact hjl)⟩
          have hs : R = if S ≤ 16777216 then sizeL (ts.drop (j + 1)) (S + (x.text.size : Int)) else S := by rw [H.out, drop_at hx, sizeL]
          have hsz := HTX.out x (List.mem_of_getElem? hx)
          have hcj := HC.out j x hx
          have HS := Lib.hid hs
          clear hs hx
          by_cases h1 : S ≤ 16777216
          · go_wp2
            go_round
            case rel => exact ⟨j + 1, S + (x.text.size : Int), by omega, by omega, by omega, by rw [if_pos h1] at HS; exact HS, by go_num, by go_num⟩
            case measure => simp [intOf]; omega
          · go_wp2
            go_ret
            exact ⟨ret_i64 (by rw [HS.out, if_neg (by omega)]), rfl⟩
        · have hs : R = S := by
            rw [H.out, List.drop_of_length_le (by rw [HL.out]; omega), sizeL]
          have HS := Lib.hid hs
          clear hs
          go_wp2
          go_ret
          exact ⟨ret_i64 HS.out.symm, rfl⟩
end Go.Proofs.Ytggibiodeecljaa
namespace Go.Proofs.Ytggibiodeecljaa
open Go.RowKit
set_option linter.unusedVariables false

theorem long_any (n : Int) (w : World) : Calls Try.prog 10 #[.int .i64 n] w fun e w' => e = .returned (.bool (decide (16777216 < n))) ∧ w = w' := by
  go_enter Try.func10, Try.ntmps10
  go_wp2
  go_ret
  all_goals exact ⟨by simp, rfl⟩

set_option maxRecDepth 100000 in
set_option maxHeartbeats 1000000 in
theorem sizeAble_any (on : Int) (SA TA : Option Addr) (slots : List Int) (sc tc : Nat) (when_ : Bool) (ts : List Node) (w : World) (hl : slots.length ≤ 281474976710656) (ht : ts.length ≤ 281474976710656) (hT : TreeAt w TA ts) (htx : ∀ x ∈ ts, x.text.size ≤ 4611686018427387904) :
    Calls Try.prog 17 #[.agg #[.int .i64 on, .slice SA slots.length sc, .bool when_, .slice TA ts.length tc]] w fun e w' => e = .returned (.int .i64 ((slots.length : Int) + sizeL ts ts.length)) ∧ Below w.heap.size w w' := by
  obtain ⟨W, hW⟩ : ∃ W, W = w.alloc (.cells #[.int .i64 on, .slice SA slots.length sc, .bool when_, .slice TA ts.length tc] 25) := ⟨_, rfl⟩
  have hBW : Below w.heap.size w W := by rw [hW]; exact (Below.refl _ _).alloc (Nat.le_refl _) _
  have hb0 : Blk W w.heap.size 25 #[.int .i64 on, .slice SA slots.length sc, .bool when_, .slice TA ts.length tc] := by rw [hW]; exact Blk.new _ _ _
  obtain ⟨R, hR⟩ : ∃ R, R = sizeL ts ts.length := ⟨_, rfl⟩
  have hR0 : 0 ≤ R := by rw [hR]; have := sizeL_ge ts ts.length; omega
  have hR1 : R ≤ 4611967493404098560 := by rw [hR]; exact sizeL_le ts ts.length htx (by omega)
  have hc := fun (w' : World) (h : TreeAt w' TA ts) => sizeNodes_any TA ts tc w' ht h htx
  simp only [← hR] at hc ⊢
  obtain ⟨n, hn⟩ : ∃ n, slots.length = n := ⟨_, rfl⟩
  obtain ⟨m, hm⟩ : ∃ m, ts.length = m := ⟨_, rfl⟩
  rw [hn] at hb0 hW hl ⊢
  rw [hm] at hc hb0 hW ⊢
  have hT0 := fun (w' : World) (h : Below w.heap.size w w') => hT.below h
  have HC := Lib.hid hc
  have HT := Lib.hid hT0
  have HBW := Lib.hid hBW
  have HB0 := Lib.hid hb0
  have HW := Lib.hid hW
  clear hc hT0 hT hBW hb0 hW ht hR htx hn hm
  have hwi : IntKind.i64.wrap ((n : Int) + R) = (n : Int) + R := by rw [IntKind.wrap_i64]; (try unfold wrap64); omega
  have hbd : Below w.heap.size w (w.alloc (.cells #[.int .i64 on, .slice SA n sc, .bool when_, .slice TA m tc] 25)).drew := by rw [← HW.out]; exact HBW.out.drew
  have c1 : (w.alloc (.cells #[.int .i64 on, .slice SA n sc, .bool when_, .slice TA m tc] 25)).cell? ⟨w.heap.size, 1, none⟩ = some (.slice SA n sc) := by rw [← HW.out]; exact HB0.out.cell 1
  have c3 : (w.alloc (.cells #[.int .i64 on, .slice SA n sc, .bool when_, .slice TA m tc] 25)).cell? ⟨w.heap.size, 3, none⟩ = some (.slice TA m tc) := by rw [← HW.out]; exact HB0.out.cell 3
  have HBD := Lib.hid hbd
  clear hbd
  go_enter Try.func17, Try.ntmps17
  go_wp2_with fail
  go_region_held3 (fun w' => w'.cell? ⟨w.heap.size, 1, none⟩ = some (.slice SA n sc) ∧ w'.cell? ⟨w.heap.size, 3, none⟩ = some (.slice TA m tc)) (first | exact ⟨c1, c3⟩ | go_keep) ((first | (go_at_call 43; refine (HC.out _ (HT.out _ HBD.out)).mono ?_; rintro e w5 ⟨rfl, rfl⟩)))
  all_goals go_wp2_with fail
  go_ret
  exact ⟨rfl, HBD.out⟩
end Go.Proofs.Ytggibiodeecljaa
namespace Go.Proofs.Ytggibiodeecljaa
open Go.RowKit
set_option linter.unusedVariables false

theorem run_append_nil0 {P : Program} {w : World} (t ty e : TypeId) (i : TypeInfo) (z : Value) (ht : P.underlying t = some (.slice e)) (hi : P.info? e = some i) (hz : i.zero = some z) (A : Option Addr) (c : Nat) :
    (Builtin.append_ #[t, t] ty #[.slice none 0 0, .slice A 0 c]).run P w = .ok (.slice none 0 0) w := by
  cases A with
  | none => simp [Builtin.append_, run_underlying ht, sizeOf, typeInfo, zeroValue, hi, hz, Builtin.lenOf, Builtin.firstCells]
  | some a => simp [Builtin.append_, run_underlying ht, sizeOf, typeInfo, zeroValue, hi, hz, Builtin.lenOf, Builtin.firstCells, loadCells, loadCellsFrom]

/-- An append whose run is known. -/
theorem wpList_append_run {P : Program} {w : World} {ops : Array Oper} {rest : List Oper} {o : Oper} {a : Act} {Q : Exit → Act → World → Prop} (hgd : o.guard = none) (s x : Operand) (t : TypeId)
    (ho : o.op = .call { callee := .builtin .append, args := #[s, x], argTypes := #[t, t] }) (vs vx v : Value) (W : World) (hs : a.eval s = vs) (hx : a.eval x = vx) (hr : (Builtin.append_ #[t, t] o.type #[vs, vx]).run P w = .ok v W)
    (h : wpList P ops Q rest (a.put o.dst v) W) : wpList P ops Q (o :: rest) a w := by
  refine wpList_plain hgd fun K hK => ?_
  unfold Oper.wp execOp
  simp only [ho, resolve, invoke, builtin, Sem.run_bind, Sem.run_pure, Result.andThen_ok, List.map_toArray, List.map_cons, List.map_nil, hs, hx, hr]
  exact hK _ _ h

/-- The row lies in none of the blocks of w. -/
def FreshA (w : World) (A : Option Addr) : Prop := ∀ a, A = some a → w.heap.size ≤ a.block
theorem FreshA.nil (w : World) : FreshA w none := fun a h => by cases h
theorem FreshA.here (w : World) (o : Nat) : FreshA w (some ⟨w.heap.size, o, none⟩) := fun a h => by injection h with h; subst h; exact Nat.le_refl _
theorem SmallsAt.far {w w0 : World} {A : Option Addr} {l : List Int} (h : SmallsAt w A l) (hf : FreshA w0 A) {p : Addr} (hp : p.block < w0.heap.size) (u : Value) : SmallsAt (w.setCell p u) A l := by
  intro k x hk
  obtain ⟨b, off, h1, h2, h3⟩ := h k x hk
  have := hf _ h1
  refine ⟨b, off, h1, by simpa [World.setCell] using h2, ?_⟩
  rw [World.cell?_of_block (w := w) (Below.heap_setCell w p u b (by show b ≠ p.block; simp only at this; omega))]
  exact h3
theorem TreeAt.far {w w0 : World} {A : Option Addr} {ts : List Node} (h : TreeAt w A ts) (hf : FreshA w0 A) {p : Addr} (hp : p.block < w0.heap.size) (u : Value) : TreeAt (w.setCell p u) A ts := by
  rcases h with h | ⟨tb, toff, h1, h2, h3⟩
  · exact .inl h
  · have := hf _ h1
    refine .inr ⟨tb, toff, h1, by simpa [World.setCell] using h2, fun i x hx j v hv => ?_⟩
    rw [World.cell?_of_block (w := w) (Below.heap_setCell w p u tb (by show tb ≠ p.block; simp only at this; omega))]
    exact h3 i x hx j v hv

set_option maxRecDepth 100000 in
set_option maxHeartbeats 800000 in
theorem copy8_any (A : Option Addr) (l : List Int) (c : Nat) (w : World) (hl : l.length ≤ 100000000) (hS : SmallsAt w A l) :
    Calls Try.prog 32 #[.slice A l.length c] w fun e w' => ∃ A' c', e = .returned (.slice A' l.length c') ∧ SmallsAt w' A' l ∧ Below w.heap.size w w' ∧ FreshA w A' := by
  obtain ⟨i0, z0, hi0, hz0, hsz0, hby0, hzc0⟩ := slot_el.info
  by_cases hn : l = []
  · subst hn
    have hr := fun wx => run_append_nil0 (P := Try.prog) (w := wx) 22 22 40 i0 z0 slot_el.und hi0 hz0 A c
    have HR := Lib.hid hr
    clear hS hr
    simp only [List.length_nil] at *
    go_enter Try.func32, Try.ntmps32
    go_wp2_with (at_builtin; go_loud (refine wpList_append_run rfl _ _ 22 rfl _ _ _ _ rfl rfl (HR.out _) ?_))
    go_ret
    exact ⟨none, 0, rfl, fun k x hk => by simp at hk, Below.refl _ _, FreshA.nil _⟩
  · have hpos : 0 < l.length := List.length_pos_iff.2 hn
    obtain ⟨b, off, hA, hb, hc00⟩ := hS 0 _ (List.getElem?_eq_getElem hpos)
    clear hc00
    subst hA
    have hcell : ∀ j v, (l.map (Value.int .i8))[j]? = some v → w.cell? ((⟨b, off, none⟩ : Addr).add j) = some v := by
      intro j v hj
      rw [List.getElem?_map, Option.map_eq_some_iff] at hj
      obtain ⟨x, hx, rfl⟩ := hj
      obtain ⟨b2, off2, e, _, hc⟩ := hS j x hx
      injection e with e
      injection e with e1 e2
      subst e1 e2
      have : (⟨b, off, none⟩ : Addr).add j = ⟨b, off + j, none⟩ := by unfold Addr.add; split <;> simp_all
      rw [this]
      exact hc
    have hr := run_append_nil (P := Try.prog) (w := w) 22 22 40 i0 z0 slot_el.und hi0 hz0 ⟨b, off, none⟩ l.length c (l.map (Value.int .i8)) (by rw [hsz0]; simp) hcell hpos (by omega) (by rw [hby0]; omega)
    obtain ⟨n, hnl⟩ : ∃ n, l.length = n := ⟨_, rfl⟩
    obtain ⟨W, hW⟩ : ∃ W, W = w.drew.alloc (.cells ((l.map (Value.int .i8)).toArray ++ Builtin.zeroCells z0.cells (grownCap w l.length 0 40 - l.length)) 40) := ⟨_, rfl⟩
    have hB : Below w.heap.size w W := by rw [hW]; exact (Below.refl _ _).drew.alloc (by show w.heap.size ≤ w.heap.size; omega) _
    have hK : SmallsAt W (some ⟨w.heap.size, 0, none⟩) l := by
      intro k x hk
      have hbk := Blk.new w.drew 40 ((l.map (Value.int .i8)).toArray ++ Builtin.zeroCells z0.cells (grownCap w l.length 0 40 - l.length))
      rw [← hW] at hbk
      refine ⟨w.heap.size, 0, rfl, hbk.lt, ?_⟩
      have h1 := hbk.cell (0 + k)
      rw [show (w.drew).heap.size = w.heap.size from rfl] at h1
      rw [h1, Nat.zero_add, Array.getElem?_append_left (by have := (List.getElem?_eq_some_iff.1 hk).1; simpa using this)]
      simp [hk]
    rw [← hW] at hr
    obtain ⟨gc, hgc⟩ : ∃ gc, gc = grownCap w l.length 0 40 := ⟨_, rfl⟩
    rw [← hgc] at hr
    have hz0 : (0 : Int) = 0 := rfl
    rw [hnl] at hr ⊢
    have HB := Lib.hid hB
    have HK := Lib.hid hK
    have HR := Lib.hid hr
    clear hr hW hgc hB hK hcell hS hnl hpos hn hz0
    go_enter Try.func32, Try.ntmps32
    go_wp2_with (at_builtin; go_loud (refine wpList_append_run rfl _ _ 22 rfl _ _ _ _ rfl rfl HR.out ?_))
    go_ret
    exact ⟨some ⟨w.heap.size, 0, none⟩, gc, rfl, HK.out, HB.out, FreshA.here _ _⟩
end Go.Proofs.Ytggibiodeecljaa
namespace Go.Proofs.Ytggibiodeecljaa
open Go.RowKit
set_option linter.unusedVariables false

/-- The row's block is known whole. -/
def WholeA (w : World) (t : TypeId) (A : Option Addr) : Prop := ∀ b off sp, A = some ⟨b, off, sp⟩ → ∃ cs, Blk w b t cs
theorem WholeA.nil (w : World) (t : TypeId) : WholeA w t none := fun b off sp h => by cases h
theorem WholeA.below {w w' : World} {t : TypeId} {A : Option Addr} (h : WholeA w t A) (hb : Below w.heap.size w w') : WholeA w' t A := fun b off sp e => by
  obtain ⟨cs, hk⟩ := h b off sp e
  exact ⟨cs, hk.below hb hk.lt⟩
theorem WholeA.far {w w0 : World} {t : TypeId} {A : Option Addr} (h : WholeA w t A) (hf : FreshA w0 A) {p : Addr} (hp : p.block < w0.heap.size) (u : Value) : WholeA (w.setCell p u) t A := fun b off sp e => by
  obtain ⟨cs, hk⟩ := h b off sp e
  have := hf _ e
  exact ⟨cs, hk.far (by show b ≠ p.block; simp only at this; omega) u⟩

theorem info_node : (Try.prog.info? 42).map (fun i => (i.zero.map (fun z => z.cells.size), i.size, i.bytes)) = some (some 7, 7, 56) := by kernel_rfl
theorem node_el : ElT Try.prog 23 42 7 56 := ⟨Try.underlying23, by decide, by
  obtain ⟨i, hi, h⟩ := Option.map_eq_some_iff.1 info_node
  injection h with h1 h
  injection h with h2 h3
  obtain ⟨z, hz, hs⟩ := Option.map_eq_some_iff.1 h1
  exact ⟨i, z, hi, hz, h2, h3, hs⟩⟩

theorem nodeVals_len (ts : List Node) : (ts.flatMap Node.cells).length = ts.length * 7 := by
  induction ts with
  | nil => rfl
  | cons x r ih => simp [Node.cells, ih]; omega
theorem nodeVals_of (ts : List Node) (j : Nat) (v : Value) (h : (ts.flatMap Node.cells)[j]? = some v) : ∃ i x k, ts[i]? = some x ∧ x.cells[k]? = some v ∧ j = i * 7 + k := by
  have hj : j < ts.length * 7 := by rw [← nodeVals_len]; exact (List.getElem?_eq_some_iff.1 h).1
  have hi : j / 7 < ts.length := by omega
  have hx := List.getElem?_eq_getElem hi
  have hk : j % 7 < (ts[j / 7]).cells.length := by simp [Node.cells]; omega
  have hc := List.getElem?_eq_getElem hk
  have := nodeVals_at ts (j / 7) (j % 7) _ _ hx hc
  have e : j / 7 * 7 + j % 7 = j := by omega
  rw [e, h] at this
  exact ⟨j / 7, _, j % 7, hx, by rw [hc, this], by omega⟩

set_option maxRecDepth 100000 in
set_option maxHeartbeats 800000 in
theorem copyNodesO_any (A : Option Addr) (ts : List Node) (c : Nat) (w : World) (hl : ts.length ≤ 100000000) (hT : TreeAt w A ts) :
    Calls Try.prog 41 #[.slice A ts.length c] w fun e w' => ∃ A' c', e = .returned (.slice A' ts.length c') ∧ TreeAt w' A' ts ∧ Below w.heap.size w w' ∧ FreshA w A' ∧ WholeA w' 42 A' := by
  obtain ⟨i0, z0, hi0, hz0, hsz0, hby0, hzc0⟩ := node_el.info
  by_cases hn : ts = []
  · subst hn
    have hr := fun wx => run_append_nil0 (P := Try.prog) (w := wx) 23 23 42 i0 z0 node_el.und hi0 hz0 A c
    have HR := Lib.hid hr
    clear hT hr
    simp only [List.length_nil] at *
    go_enter Try.func41, Try.ntmps41
    go_wp2_with (at_builtin; go_loud (refine wpList_append_run rfl _ _ 23 rfl _ _ _ _ rfl rfl (HR.out _) ?_))
    go_ret
    exact ⟨none, 0, rfl, .inl rfl, Below.refl _ _, FreshA.nil _, WholeA.nil _ _⟩
  · have hpos : 0 < ts.length := List.length_pos_iff.2 hn
    rcases hT with h | ⟨b, off, hA, hb, hN⟩
    · exact absurd h hn
    subst hA
    have hcell : ∀ j v, (ts.flatMap Node.cells)[j]? = some v → w.cell? ((⟨b, off, none⟩ : Addr).add j) = some v := by
      intro j v hj
      obtain ⟨i, x, k, hx, hk, rfl⟩ := nodeVals_of ts j v hj
      have : (⟨b, off, none⟩ : Addr).add (i * 7 + k) = ⟨b, off + i * 7 + k, none⟩ := by unfold Addr.add; split <;> simp_all <;> omega
      rw [this]
      exact hN i x hx k v hk
    have hr := run_append_nil (P := Try.prog) (w := w) 23 23 42 i0 z0 node_el.und hi0 hz0 ⟨b, off, none⟩ ts.length c (ts.flatMap Node.cells) (by rw [hsz0, nodeVals_len]) hcell hpos (by omega) (by rw [hby0]; omega)
    obtain ⟨n, hnl⟩ : ∃ n, ts.length = n := ⟨_, rfl⟩
    obtain ⟨W, hW⟩ : ∃ W, W = w.drew.alloc (.cells ((ts.flatMap Node.cells).toArray ++ Builtin.zeroCells z0.cells (grownCap w ts.length 0 42 - ts.length)) 42) := ⟨_, rfl⟩
    have hB : Below w.heap.size w W := by rw [hW]; exact (Below.refl _ _).drew.alloc (by show w.heap.size ≤ w.heap.size; omega) _
    have hK : TreeAt W (some ⟨w.heap.size, 0, none⟩) ts := by
      have hbk := Blk.new w.drew 42 ((ts.flatMap Node.cells).toArray ++ Builtin.zeroCells z0.cells (grownCap w ts.length 0 42 - ts.length))
      rw [← hW] at hbk
      refine .inr ⟨w.heap.size, 0, rfl, hbk.lt, ?_⟩
      intro i x hx k v hk
      have h1 := hbk.cell (0 + i * 7 + k)
      rw [show (w.drew).heap.size = w.heap.size from rfl] at h1
      have h2 := nodeVals_at ts i k x v hx hk
      have h3 := (List.getElem?_eq_some_iff.1 h2).1
      rw [h1, Nat.zero_add, Array.getElem?_append_left (by simpa using h3)]
      rw [List.getElem?_toArray]
      exact h2
    have hO : WholeA W 42 (some ⟨w.heap.size, 0, none⟩) := by
      have hbk := Blk.new w.drew 42 ((ts.flatMap Node.cells).toArray ++ Builtin.zeroCells z0.cells (grownCap w ts.length 0 42 - ts.length))
      rw [← hW] at hbk
      intro b off sp he
      injection he with he
      injection he with h1 h2 h3
      subst h1
      exact ⟨_, hbk⟩
    rw [← hW] at hr
    obtain ⟨gc, hgc⟩ : ∃ gc, gc = grownCap w ts.length 0 42 := ⟨_, rfl⟩
    rw [← hgc] at hr
    have hz0 : (0 : Int) = 0 := rfl
    rw [hnl] at hr ⊢
    have HB := Lib.hid hB
    have HK := Lib.hid hK
    have HR := Lib.hid hr
    have HO := Lib.hid hO
    clear hO hr hW hgc hB hK hcell hN hnl hpos hn hz0
    go_enter Try.func41, Try.ntmps41
    go_wp2_with (at_builtin; go_loud (refine wpList_append_run rfl _ _ 23 rfl _ _ _ _ rfl rfl HR.out ?_))
    go_ret
    exact ⟨some ⟨w.heap.size, 0, none⟩, gc, rfl, HK.out, HB.out, FreshA.here _ _, HO.out⟩
/-- The first row lies below the second. -/
def SepA (A B : Option Addr) (l : List Int) : Prop := ∀ a b, l ≠ [] → A = some a → B = some b → a.block < b.block
set_option maxRecDepth 100000 in
set_option maxHeartbeats 1000000 in
theorem copyAbleO_any (on : Int) (SA TA : Option Addr) (slots : List Int) (sc tc : Nat) (when_ : Bool) (ts : List Node) (w : World) (hl : slots.length ≤ 100000000) (ht : ts.length ≤ 100000000) (hT : TreeAt w TA ts) (hS : SmallsAt w SA slots) :
    Calls Try.prog 12 #[.agg #[.int .i64 on, .slice SA slots.length sc, .bool when_, .slice TA ts.length tc]] w fun e w' => ∃ SA' TA' sc' tc', e = .returned (.agg #[.int .i64 on, .slice SA' slots.length sc', .bool when_, .slice TA' ts.length tc']) ∧ SmallsAt w' SA' slots ∧ TreeAt w' TA' ts ∧ Below w.heap.size w w' ∧ FreshA w TA' ∧ WholeA w' 42 TA' ∧ SepA SA' TA' slots := by
  obtain ⟨W, hW⟩ : ∃ W, W = (w.alloc (.cells #[.int .i64 on, .slice SA slots.length sc, .bool when_, .slice TA ts.length tc] 25)).alloc (.cells #[.int .i64 0, .slice none 0 0, .bool false, .slice none 0 0] 25) := ⟨_, rfl⟩
  have hBW : Below w.heap.size w W := by rw [hW]; exact ((Below.refl _ _).alloc (Nat.le_refl _) _).alloc (by simp) _
  have hzW : W.heap.size = w.heap.size + 1 + 1 := by rw [hW]; simp
  have hb0 : Blk W w.heap.size 25 #[.int .i64 on, .slice SA slots.length sc, .bool when_, .slice TA ts.length tc] := by rw [hW]; exact (Blk.new _ _ _).alloc _
  have hb1 : Blk W (w.heap.size + 1) 25 #[.int .i64 0, .slice none 0 0, .bool false, .slice none 0 0] := by rw [hW]; have := Blk.new (w.alloc (.cells #[.int .i64 on, .slice SA slots.length sc, .bool when_, .slice TA ts.length tc] 25)) 25 #[.int .i64 0, .slice none 0 0, .bool false, .slice none 0 0]; simpa using this
  have hc8 := copy8_any SA slots sc W hl (hS.below hBW)
  obtain ⟨n, hn⟩ : ∃ n, slots.length = n := ⟨_, rfl⟩
  obtain ⟨m, hm⟩ : ∃ m, ts.length = m := ⟨_, rfl⟩
  have hcN := fun (c : Nat) (w' : World) (h : TreeAt w' TA ts) => copyNodesO_any TA ts c w' ht h
  rw [hn] at hc8 hb0 hW ⊢
  rw [hm] at hcN hb0 hW ⊢
  rw [hW] at hc8
  have HW := Lib.hid hW
  have HC8 := Lib.hid hc8
  have HCN := Lib.hid hcN
  have HT := Lib.hid hT
  have HB0 := Lib.hid hb0
  have HB1 := Lib.hid hb1
  have HBW := Lib.hid hBW
  clear hW hc8 hcN hT hS hb0 hb1 hBW hl ht hn hm
  go_enter Try.func12, Try.ntmps12
  go_wp2_with fail
  refine HC8.out.mono ?_
  rintro e w1 ⟨SA', sc', rfl, hS1, hbel1, hf1⟩
  rw [← HW.out] at hbel1 hf1
  have k0 := HB0.out.below hbel1 (by omega)
  have k1 := HB1.out.below hbel1 (by omega)
  have hz1 := hbel1.size
  have hlt0 : w.heap.size < w1.heap.size := by omega
  have hlt1 : w.heap.size + 1 < w1.heap.size := by omega
  have x0 := k0.cell 0
  have x1 := k0.cell 1
  have x2 := k0.cell 2
  have x3 := k0.cell 3
  have z0 := k0.frozen 0
  have z1 := k0.frozen 1
  have z2 := k0.frozen 2
  have z3 := k0.frozen 3
  have HF1 := Lib.hid hf1
  have HS1 := Lib.hid hS1
  have HL1 := Lib.hid hbel1
  have K0 := Lib.hid k0
  have K1 := Lib.hid k1
  clear hf1 hS1 hbel1 k0 k1
  go_wp2_with fail
  have hB1 : Below w.heap.size w (w1.setCell ⟨w.heap.size, 1, none⟩ (.slice SA' n sc')) := (HBW.out.trans (HL1.out.mono (by omega))).setCell (p := ⟨w.heap.size, 1, none⟩) (Nat.le_refl _) _
  refine (HCN.out tc _ (HT.out.below hB1)).mono ?_
  rintro e w2 ⟨TA', tc', rfl, hT2, hbel2, hf2, ho2⟩
  have HO2 := Lib.hid ho2
  clear ho2
  have hzs : (w1.setCell ⟨w.heap.size, 1, none⟩ (.slice SA' n sc')).heap.size = w1.heap.size := by simp [World.setCell]
  rw [hzs] at hbel2
  have q0 := (K0.out.set_ 1 (.slice SA' n sc')).below hbel2 hlt0
  have q1 := (K1.out.far (p := ⟨w.heap.size, 1, none⟩) (by show w.heap.size + 1 ≠ w.heap.size; omega) (.slice SA' n sc')).below hbel2 hlt1
  have hS2 : SmallsAt w2 SA' slots := (HS1.out.far HF1.out (p := ⟨w.heap.size, 1, none⟩) (by show w.heap.size < W.heap.size; omega) (.slice SA' n sc')).below (by rw [hzs]; exact hbel2)
  have hz2 := hbel2.size
  rw [hzs] at hz2
  have hlt02 : w.heap.size < w2.heap.size := by omega
  have hlt12 : w.heap.size + 1 < w2.heap.size := by omega
  have hB2 : Below w.heap.size w w2 := hB1.trans (hbel2.mono (by omega))
  have hf2' : FreshA w1 TA' := fun a ha => by have := hf2 a ha; rw [hzs] at this; exact this
  clear x0 x1 x2 x3 z0 z1 z2 z3
  have x0 := q0.cell 0
  have x1 := q0.cell 1
  have x2 := q0.cell 2
  have x3 := q0.cell 3
  have z0 := q0.frozen 0
  have z1 := q0.frozen 1
  have z2 := q0.frozen 2
  have z3 := q0.frozen 3
  have y0 := q1.cell 0
  have y1 := q1.cell 1
  have y2 := q1.cell 2
  have y3 := q1.cell 3
  have v0 := q1.frozen 0
  have v1 := q1.frozen 1
  have v2 := q1.frozen 2
  have v3 := q1.frozen 3
  have Q0 := Lib.hid q0
  have Q1 := Lib.hid q1
  have HS2 := Lib.hid hS2
  have HT2 := Lib.hid hT2
  have HB2 := Lib.hid hB2
  have HF2 := Lib.hid hf2'
  clear q0 q1 hS2 hT2 hB2 hB1 hf2 hf2' hbel2 hzs
  go_wp2_with fail
  have r1 := (((((Q1.out.far (p := ⟨w.heap.size, 3, none⟩) (by show w.heap.size + 1 ≠ w.heap.size; omega) (.slice TA' m tc')).set_ 0 (.int .i64 on)).set_ 1 (.slice SA' n sc')).set_ 2 (.bool when_)).set_ 3 (.slice TA' m tc'))
  have f0 := r1.cell 0
  have f1 := r1.cell 1
  have f2 := r1.cell 2
  have f3 := r1.cell 3
  have hSf := ((((HS2.out.far HF1.out (p := ⟨w.heap.size, 3, none⟩) (by show w.heap.size < W.heap.size; omega) (.slice TA' m tc')).far HF1.out (p := ⟨w.heap.size + 1, 0, none⟩) (by show w.heap.size + 1 < W.heap.size; omega) (.int .i64 on)).far HF1.out (p := ⟨w.heap.size + 1, 1, none⟩) (by show w.heap.size + 1 < W.heap.size; omega) (.slice SA' n sc')).far HF1.out (p := ⟨w.heap.size + 1, 2, none⟩) (by show w.heap.size + 1 < W.heap.size; omega) (.bool when_)).far HF1.out (p := ⟨w.heap.size + 1, 3, none⟩) (by show w.heap.size + 1 < W.heap.size; omega) (.slice TA' m tc')
  have hTf := ((((HT2.out.far HF2.out (p := ⟨w.heap.size, 3, none⟩) (by show w.heap.size < w1.heap.size; omega) (.slice TA' m tc')).far HF2.out (p := ⟨w.heap.size + 1, 0, none⟩) (by show w.heap.size + 1 < w1.heap.size; omega) (.int .i64 on)).far HF2.out (p := ⟨w.heap.size + 1, 1, none⟩) (by show w.heap.size + 1 < w1.heap.size; omega) (.slice SA' n sc')).far HF2.out (p := ⟨w.heap.size + 1, 2, none⟩) (by show w.heap.size + 1 < w1.heap.size; omega) (.bool when_)).far HF2.out (p := ⟨w.heap.size + 1, 3, none⟩) (by show w.heap.size + 1 < w1.heap.size; omega) (.slice TA' m tc')
  have hOf := ((((HO2.out.far HF2.out (p := ⟨w.heap.size, 3, none⟩) (by show w.heap.size < w1.heap.size; omega) (.slice TA' m tc')).far HF2.out (p := ⟨w.heap.size + 1, 0, none⟩) (by show w.heap.size + 1 < w1.heap.size; omega) (.int .i64 on)).far HF2.out (p := ⟨w.heap.size + 1, 1, none⟩) (by show w.heap.size + 1 < w1.heap.size; omega) (.slice SA' n sc')).far HF2.out (p := ⟨w.heap.size + 1, 2, none⟩) (by show w.heap.size + 1 < w1.heap.size; omega) (.bool when_)).far HF2.out (p := ⟨w.heap.size + 1, 3, none⟩) (by show w.heap.size + 1 < w1.heap.size; omega) (.slice TA' m tc')
  have hSp : SepA SA' TA' slots := fun a b hn ha hb => by
    obtain ⟨x, r, rfl⟩ := List.exists_cons_of_ne_nil hn
    obtain ⟨b', off, e1, e2, _⟩ := HS1.out 0 x rfl
    rw [ha] at e1
    injection e1 with e1
    subst e1
    have := HF2.out b hb
    simp only at e2 ⊢
    omega
  have hFf : FreshA w TA' := fun x hx => by have := HF2.out x hx; omega
  have hBf := ((((HB2.out.setCell (p := ⟨w.heap.size, 3, none⟩) (by show w.heap.size ≤ w.heap.size; omega) (.slice TA' m tc')).setCell (p := ⟨w.heap.size + 1, 0, none⟩) (by show w.heap.size ≤ w.heap.size + 1; omega) (.int .i64 on)).setCell (p := ⟨w.heap.size + 1, 1, none⟩) (by show w.heap.size ≤ w.heap.size + 1; omega) (.slice SA' n sc')).setCell (p := ⟨w.heap.size + 1, 2, none⟩) (by show w.heap.size ≤ w.heap.size + 1; omega) (.bool when_)).setCell (p := ⟨w.heap.size + 1, 3, none⟩) (by show w.heap.size ≤ w.heap.size + 1; omega) (.slice TA' m tc')
  clear r1 x0 x1 x2 x3 y0 y1 y2 y3 z0 z1 z2 z3 v0 v1 v2 v3
  exact bodyPost_ret (v := .agg #[.int .i64 on, .slice SA' n sc', .bool when_, .slice TA' m tc']) (by simp [results, Try.results12, go_sem, f0, f1, f2, f3]) rfl ⟨SA', TA', sc', tc', rfl, hSf, hTf, hBf, hFf, hOf, hSp⟩
end Go.Proofs.Ytggibiodeecljaa
namespace Go.Proofs.Ytggibiodeecljaa
open Go.RowKit
set_option linter.unusedVariables false

theorem run_append_zero {P : Program} {w : World} (t ty e : TypeId) (i : TypeInfo) (ht : P.underlying t = some (.slice e)) (hi : P.info? e = some i) (S : Option Addr) (n cap : Nat) (A : Option Addr) (c : Nat) (hnc : n ≤ cap) :
    (Builtin.append_ #[t, t] ty #[.slice S n cap, .slice A 0 c]).run P w = .ok (.slice S n cap) w := by
  cases A <;> cases S <;> simp [Builtin.append_, run_underlying ht, sizeOf, typeInfo, hi, Builtin.lenOf, Builtin.firstCells, loadCells, loadCellsFrom, storeCells, hnc]
theorem run_append_any {P : Program} {w : World} (base : Nat) (t ty e : TypeId) {size bytes : Nat} (E : ElT P t e size bytes) (v : Value) (n : Nat) (xs : List Value) (hown : w.ownsRow base e size v n xs)
    (A : Option Addr) (m c : Nat) (news : List Value) (hl : news.length = m * size) (hsrc : 0 < m → ∃ ad, A = some ad ∧ ∀ j u, news[j]? = some u → w.cell? (ad.add j) = some u) (h1 : ∀ u ∈ news, u.oneCell' = true)
    (h63 : n + m ≤ maxLen) (hbytes : (n + m) * bytes ≤ 140737488355328) (hbase : base ≤ w.heap.size) :
    ∃ v' w', (Builtin.append_ #[t, t] ty #[v, .slice A m c]).run P w = .ok v' w' ∧ w'.ownsRow base e size v' (n + m) (xs ++ news) ∧ w.grownBy w' v.ownBlock := by
  obtain ⟨i, z, hi, hz, hsz, hby, hzc⟩ := E.info
  by_cases h0 : m = 0
  · subst h0
    obtain rfl : news = [] := List.eq_nil_of_length_eq_zero (by simpa using hl)
    obtain ⟨S, cap, rfl, hnc⟩ : ∃ S cap, v = .slice S n cap ∧ n ≤ cap := by
      rcases hown.2 with ⟨rfl, rfl⟩ | ⟨g, cap, cur, rfl, _, _, h, _⟩
      · exact ⟨none, 0, rfl, Nat.le_refl _⟩
      · exact ⟨_, cap, rfl, h⟩
    refine ⟨_, w, run_append_zero t ty e i E.und hi S n cap A c hnc, by simpa using hown, ⟨rfl, rfl, rfl, Nat.le_refl _, fun _ _ _ => rfl⟩⟩
  · obtain ⟨ad, rfl, hc⟩ := hsrc (by omega)
    obtain ⟨v', w', h2, h3, h4, _⟩ := run_append_own (P := P) w base t ty e i z size bytes E.und hi hz hsz hby hzc E.pos v n xs hown ad m c news hl hc h1 h63 hbytes hbase
    exact ⟨v', w', h2, h3, h4⟩
end Go.Proofs.Ytggibiodeecljaa
