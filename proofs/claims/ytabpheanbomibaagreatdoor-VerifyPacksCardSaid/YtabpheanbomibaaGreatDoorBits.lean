/- Lemmas of many texts: rows of small numbers, keys, copies, the tables of fields and effects beside a cell. -/
import Derived.BigGuardPart
import Derived.ChangeSlices
import Derived.Deep.DeepCutAuto
import Derived.Deep.OwnRows
import Derived.Deep.RegionHeld3
import Derived.Deep.RegionWith
import Derived.Deep.Slices
import Derived.Laws.EntriesVeiled
import Derived.Lib.SmallJoins
import Derived.Maps.AppendAt
import Derived.OpenShut
import Derived.SizedLaws
import Derived.Test.YtabpheanbomibaaGreatDoorKinds
namespace Go.Proofs.YtabpheanbomibaaGreatDoor
open Go.RowKit
set_option linter.unusedVariables false

def keyI : KeyT Tryz.prog 3 Int := intKey Tryz.prog 3 .i64 Tryz.underlying3
theorem upd_int (f : Int → Option Value) (x y : Int) (v : Option Value) : upd keyI f x v y = if y = x then v else f y := by
  unfold upd
  have : keyI.eqb y x = decide (y = x) := by show (y == x) = _; rw [Bool.eq_iff_iff]; simp
  rw [this]
  by_cases h : y = x <;> simp [h]
theorem drewN_below {B : Nat} {w w' : World} (h : Below B w w') (n : Nat) : Below B w (w'.drewN n) := ⟨h.os, h.tape, h.output, h.size, h.block⟩
/-- A list of small numbers that came in. -/
def SmallsAt (w : World) (A : Option Addr) (l : List Int) : Prop := ∀ k x, l[k]? = some x → ∃ b off, A = some ⟨b, off, none⟩ ∧ b < w.heap.size ∧ w.cell? ⟨b, off + k, none⟩ = some (.int .i8 x)
theorem SmallsAt.below {w w' : World} {A : Option Addr} {l : List Int} (h : SmallsAt w A l) (hb : Below w.heap.size w w') : SmallsAt w' A l := by
  intro k x hk
  obtain ⟨b, off, h1, h2, h3⟩ := h k x hk
  exact ⟨b, off, h1, Nat.lt_of_lt_of_le h2 hb.size, (hb.cell (p := ⟨b, _, none⟩) h2).trans h3⟩
theorem run_append_nil0 {P : Program} {w : World} (t ty e : TypeId) (i : TypeInfo) (z : Value) (ht : P.underlying t = some (.slice e)) (hi : P.info? e = some i) (hz : i.zero = some z) (A : Option Addr) (c : Nat) :
    (Builtin.append_ #[t, t] ty #[.slice none 0 0, .slice A 0 c]).run P w = .ok (.slice none 0 0) w := by
  cases A with
  | none => simp [Builtin.append_, run_underlying ht, sizeOf, typeInfo, zeroValue, hi, hz, Builtin.lenOf, Builtin.firstCells]
  | some a => simp [Builtin.append_, run_underlying ht, sizeOf, typeInfo, zeroValue, hi, hz, Builtin.lenOf, Builtin.firstCells, loadCells, loadCellsFrom]
/-- An append whose run is known. -/
theorem wpList_append_run {P : Program} {w : World} {ops : Array Oper} {rest : List Oper} {o : Oper} {a : Act} {Q : Exit → Act → World → Prop} (hgd : o.guard = none) (s x : Operand) (t : TypeId)
    (ho : o.op = .call { callee := .builtin .append, args := #[s, x], argTypes := #[t, t] }) (vs vx v : Value) (W : World) (hs : a.eval s = vs) (hx : a.eval x = vx) (hr : (Builtin.append_ #[t, t] o.type #[vs, vx]).run P w = .ok v W)
    (h : wpList P ops Q rest (a.put o.dst v) W) : wpList P ops Q (o :: rest) a w := by
  refine wpList_plain hgd fun K hK => ?_
  unfold Oper.wp execOp
  simp only [ho, resolve, invoke, builtin, Sem.run_bind, Sem.run_pure, Result.andThen_ok, List.map_toArray, List.map_cons, List.map_nil, hs, hx, hr]
  exact hK _ _ h
theorem bcell {W w1 : World} (hb : Below W.heap.size W w1) : (∀ b o, b < W.heap.size → w1.cell? ⟨b, o, none⟩ = W.cell? ⟨b, o, none⟩) ∧ (∀ b o, b < W.heap.size → w1.frozen? ⟨b, o, none⟩ = W.frozen? ⟨b, o, none⟩) :=
  ⟨fun b o h => hb.cell (p := ⟨b, o, none⟩) h, fun b o h => hb.frozen (p := ⟨b, o, none⟩) h⟩
theorem cell_far4 {w : World} {b c i : Nat} (h : b ≠ c) (u0 u1 u2 u3 : Value) : ((((w.setCell ⟨c, 0, none⟩ u0).setCell ⟨c, 1, none⟩ u1).setCell ⟨c, 2, none⟩ u2).setCell ⟨c, 3, none⟩ u3).cell? ⟨b, i, none⟩ = w.cell? ⟨b, i, none⟩ := by
  have hk : ∀ (w : World) (j : Nat) (u : Value), (w.setCell ⟨c, j, none⟩ u).cell? ⟨b, i, none⟩ = w.cell? ⟨b, i, none⟩ := fun w j u => World.cell?_setCell_other w _ _ u (fun e => h ((Addr.mk.inj e).1.symm))
  rw [hk, hk, hk, hk]
theorem drew_size (w : World) : w.drew.heap.size = w.heap.size := rfl
theorem effects_cell (w : World) {nb : Nat} {u : Value} (hc : w.cell? ⟨nb, 2, none⟩ = some u) : Calls Tryz.prog 110 #[] w fun e w' => e = .returned (.slice (some ⟨w.heap.size + 9, 0, none⟩) 9 9) ∧ SignsAt w' w.heap.size (w.heap.size + 9) effectsM ∧ Below w.heap.size w w' ∧ nb < w'.heap.size ∧ w'.cell? ⟨nb, 2, none⟩ = some u := by
  refine (effects_any w).mono ?_
  rintro e w' ⟨rfl, rfl⟩
  exact ⟨rfl, tableWorld_signs w effectsM, tableWorld_below w effectsM, Nat.lt_of_lt_of_le (World.block_lt_of_cell? w _ hc) (tableWorld_below w effectsM).size, ((tableWorld_below w effectsM).cell (p := ⟨nb, 2, none⟩) (World.block_lt_of_cell? w _ hc)).trans hc⟩
/-- A table, beside what is known of a cell. -/
theorem fields_cell (w : World) {nb : Nat} {u : Value} (hc : w.cell? ⟨nb, 2, none⟩ = some u) : Calls Tryz.prog 109 #[] w fun e w' => e = .returned (.slice (some ⟨w.heap.size + 13, 0, none⟩) 13 13) ∧ SignsAt w' w.heap.size (w.heap.size + 13) fieldsM ∧ Below w.heap.size w w' ∧ nb < w'.heap.size ∧ w'.cell? ⟨nb, 2, none⟩ = some u := by
  refine (fields_any w).mono ?_
  rintro e w' ⟨rfl, rfl⟩
  exact ⟨rfl, tableWorld_signs w fieldsM, tableWorld_below w fieldsM, Nat.lt_of_lt_of_le (World.block_lt_of_cell? w _ hc) (tableWorld_below w fieldsM).size, ((tableWorld_below w fieldsM).cell (p := ⟨nb, 2, none⟩) (World.block_lt_of_cell? w _ hc)).trans hc⟩
theorem beq_false_of {a b : Int} (h : ¬ a = b) : (a == b) = false := by simp [h]
theorem long_any (n : Int) (w : World) : Calls Tryz.prog 19 #[.int .i64 n] w fun e w' => e = .returned (.bool (decide (16777216 < n))) ∧ w = w' := by
  go_enter Tryz.func19, Tryz.ntmps19
  go_wp2
  go_ret
  all_goals exact ⟨by simp, rfl⟩
theorem info_i8 : (Tryz.prog.info? 82).map (fun i => (i.zero, i.size, i.bytes)) = some (some (.int .i8 0), 1, 1) := by kernel_rfl
theorem slot_el : ElT Tryz.prog 23 82 1 1 := ⟨Tryz.underlying23, by decide, by
  obtain ⟨i0, hi, hz0, hz1, hz2⟩ := info_parts info_i8
  exact ⟨i0, _, hi, hz0, hz1, hz2, rfl⟩⟩
theorem own_form {w : World} {base n size : Nat} {e : TypeId} {v : Value} {xs : List Value} (h : w.ownsRow base e size v n xs) : ∃ A c, v = .slice A n c := by
  rcases h.2 with ⟨h1, h2⟩ | ⟨g', cp, cu, h1, _⟩
  · exact ⟨none, 0, by rw [h1, h2]⟩
  · exact ⟨_, _, h1⟩
theorem Frm.grownNew {B base : Nat} {T : List TypeId} {a w w' : World} {e : TypeId} {size n : Nat} {v : Value} {xs : List Value} (h : Frm B T a w) (ho : w.ownsRow base e size v n xs) (hg : w.grownBy w' v.ownBlock) (hb : a.heap.size ≤ base) (hB : B ≤ a.heap.size) : Frm B T a w' := by
  refine ⟨Below.of_own h.below ho hg (by omega) (Nat.le_trans hB h.size), fun g cs t fr hg' ht' => ?_⟩
  have h0 : g < a.heap.size := (Array.getElem?_eq_some_iff.1 hg').1
  have h1 := h.kept g cs t fr hg' ht'
  rw [hg.block g (by have := h.size; omega) ?_, h1]
  intro e2
  have := ho.lt g e2.symm
  omega
theorem ret_i64 {a b : Int} (h : a = b) : Ending.returned (.int .i64 a) = Ending.returned (.int .i64 b) := by rw [h]
theorem smalls_blk {w : World} {b : Nat} {t : TypeId} {l : List Int} (h : Blk w b t (l.map (Value.int .i8)).toArray) : SmallsAt w (some ⟨b, 0, none⟩) l := by
  intro k x hk
  refine ⟨b, 0, rfl, h.lt, ?_⟩
  rw [Nat.zero_add, h.cell, List.getElem?_toArray, List.getElem?_map, hk]
  rfl
end Go.Proofs.YtabpheanbomibaaGreatDoor
