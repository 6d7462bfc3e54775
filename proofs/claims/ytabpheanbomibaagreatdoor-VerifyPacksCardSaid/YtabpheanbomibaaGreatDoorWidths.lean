/- Rows of ints. tableauref16.Widths: how many bytes the operands of an opcode have. Written by gen_widths.py. -/
import Derived.Test.YtabpheanbomibaaGreatDoorAll
import Derived.Test.YtabpheanbomibaaGreatDoorBits
namespace Go.Proofs.YtabpheanbomibaaGreatDoor
open Go.RowKit

/-- A list of ints that came in. -/
def IntsAt (w : World) (A : Option Addr) (l : List Int) : Prop := ∀ k x, l[k]? = some x → ∃ b off, A = some ⟨b, off, none⟩ ∧ b < w.heap.size ∧ w.cell? ⟨b, off + k, none⟩ = some (.int .i64 x)
theorem IntsAt.below {w w' : World} {A : Option Addr} {l : List Int} (h : IntsAt w A l) (hb : Below w.heap.size w w') : IntsAt w' A l := by
  intro k x hk
  obtain ⟨b, off, h1, h2, h3⟩ := h k x hk
  exact ⟨b, off, h1, Nat.lt_of_lt_of_le h2 hb.size, (hb.cell (p := ⟨b, _, none⟩) h2).trans h3⟩
theorem info_i64 : (Tryz.prog.info? 3).map (fun i => (i.zero, i.size, i.bytes)) = some (some (.int .i64 0), 1, 8) := by kernel_rfl
theorem int_el : ElT Tryz.prog 107 3 1 8 := ⟨Tryz.underlying107, by decide, by
  obtain ⟨i0, hi, hz0, hz1, hz2⟩ := info_parts info_i64
  exact ⟨i0, _, hi, hz0, hz1, hz2, rfl⟩⟩
def intVals (l : List Int) : List Value := l.map (Value.int .i64)
theorem own_ints {w : World} {S n c : Nat} {A : Option Addr} {l : List Int} (h : w.ownsRow S 3 1 (.slice A n c) n (intVals l)) : IntsAt w A l ∧ l.length = n := by
  have h1 := h.1
  simp only [intVals, List.length_map, Nat.mul_one] at h1
  refine ⟨fun k x hk => ?_, h1⟩
  rcases h.2 with ⟨h2, h3⟩ | ⟨g, cap, cur, h2, h3, h4, _⟩
  · have := (List.getElem?_eq_some_iff.1 hk).1; omega
  · injection h2 with h2 _ _
    subst h2
    refine ⟨g, 0, rfl, (h.lt g rfl).2, ?_⟩
    have := h.cells rfl k (.int .i64 x) (by simp [intVals, hk])
    rw [← this]
    congr 1
    unfold Addr.add
    cases k <;> simp
end Go.Proofs.YtabpheanbomibaaGreatDoor
namespace Go.Proofs.YtabpheanbomibaaGreatDoor
open Go.RowKit
set_option linter.unusedVariables false

def widthsK (k : Int) : List Int := if k = 0 then [] else if k = 1 then [1] else if k = 2 then [2] else [1, 1, 2]
theorem ints_lit (w : World) (l : List Int) (cs : Array Value) (hc : cs = (l.map (Value.int .i64)).toArray) : IntsAt (w.alloc (.cells cs 3)) (some ⟨w.heap.size, 0, none⟩) l := by
  subst hc
  intro k x hk
  refine ⟨w.heap.size, 0, rfl, by simp, ?_⟩
  rw [(Blk.new w 3 _).cell]
  simp [hk]
theorem form_mem {op : Int} {nm : ByteArray} {k : Int} (h : formOf op = some (nm, k)) : (op, nm, k) ∈ formsL := by
  unfold formOf at h
  rw [Option.map_eq_some_iff] at h
  obtain ⟨⟨a, b⟩, hq, h⟩ := h
  have h1 := List.mem_of_find?_eq_some hq
  have h2 := List.find?_some hq
  simp only [beq_iff_eq] at h2
  simp only at h
  subst h h2
  exact h1
theorem form_ne {op : Int} (h : formOf op = none) (o : Int) (ho : (formOf o).isSome = true) : (op == o) = false := by
  refine beq_false_of ?_
  rintro rfl
  rw [h] at ho
  cases ho

set_option maxRecDepth 100000 in
set_option maxHeartbeats 2000000 in
theorem widths0 (op : Int) (w : World) (h : op = 2 ∨ op = 3 ∨ op = 10 ∨ op = 11 ∨ op = 12 ∨ op = 13 ∨ op = 14 ∨ op = 15 ∨ op = 16 ∨ op = 17 ∨ op = 18 ∨ op = 19 ∨ op = 20 ∨ op = 21 ∨ op = 22 ∨ op = 23 ∨ op = 34 ∨ op = 35 ∨ op = 40 ∨ op = 42 ∨ op = 43 ∨ op = 44) :
    Calls Tryz.prog 91 #[.int .u8 op] w fun e w' => ∃ A c, e = .returned (.tuple #[.slice A 0 c, .bool true]) ∧ IntsAt w' A (widthsK 0) ∧ Below w.heap.size w w' := by
  rcases h with rfl | rfl | rfl | rfl | rfl | rfl | rfl | rfl | rfl | rfl | rfl | rfl | rfl | rfl | rfl | rfl | rfl | rfl | rfl | rfl | rfl | rfl
  all_goals (
    go_enter Tryz.func91, Tryz.ntmps91
    go_wp2_with fail
    go_ret2
    exact ⟨none, 0, rfl, fun k x hk => by simp [widthsK] at hk, Below.refl _ _⟩)

set_option maxRecDepth 100000 in
set_option maxHeartbeats 2000000 in
theorem widths1 (op : Int) (w : World) (h : op = 4 ∨ op = 5 ∨ op = 24 ∨ op = 41 ∨ op = 46 ∨ op = 60) :
    Calls Tryz.prog 91 #[.int .u8 op] w fun e w' => ∃ A c, e = .returned (.tuple #[.slice A 1 c, .bool true]) ∧ IntsAt w' A (widthsK 1) ∧ Below w.heap.size w w' := by
  rcases h with rfl | rfl | rfl | rfl | rfl | rfl
  all_goals (
    go_enter Tryz.func91, Tryz.ntmps91
    go_wp2_with fail
    go_ret2
    exact ⟨_, _, rfl, ints_lit _ _ _ rfl, (Below.refl _ _).alloc (Nat.le_refl _) _⟩)

set_option maxRecDepth 100000 in
set_option maxHeartbeats 2000000 in
theorem widths2 (op : Int) (w : World) (h : op = 1 ∨ op = 30 ∨ op = 31 ∨ op = 33 ∨ op = 45) :
    Calls Tryz.prog 91 #[.int .u8 op] w fun e w' => ∃ A c, e = .returned (.tuple #[.slice A 1 c, .bool true]) ∧ IntsAt w' A (widthsK 2) ∧ Below w.heap.size w w' := by
  rcases h with rfl | rfl | rfl | rfl | rfl
  all_goals (
    go_enter Tryz.func91, Tryz.ntmps91
    go_wp2_with fail
    go_ret2
    exact ⟨_, _, rfl, ints_lit _ _ _ rfl, (Below.refl _ _).alloc (Nat.le_refl _) _⟩)

set_option maxRecDepth 100000 in
set_option maxHeartbeats 2000000 in
theorem widths3 (op : Int) (w : World) (h : op = 32) :
    Calls Tryz.prog 91 #[.int .u8 op] w fun e w' => ∃ A c, e = .returned (.tuple #[.slice A 3 c, .bool true]) ∧ IntsAt w' A (widthsK 3) ∧ Below w.heap.size w w' := by
  subst h
  all_goals (
    go_enter Tryz.func91, Tryz.ntmps91
    go_wp2_with fail
    go_ret2
    exact ⟨_, _, rfl, ints_lit _ _ _ rfl, (Below.refl _ _).alloc (Nat.le_refl _) _⟩)

set_option maxRecDepth 100000 in
set_option maxHeartbeats 2000000 in
theorem widths_none (op : Int) (w : World) (h : formOf op = none) :
    Calls Tryz.prog 91 #[.int .u8 op] w fun e w' => e = .returned (.tuple #[.slice none 0 0, .bool false]) ∧ w = w' := by
  have n1 := form_ne h 1 (by decide)
  have n2 := form_ne h 2 (by decide)
  have n3 := form_ne h 3 (by decide)
  have n4 := form_ne h 4 (by decide)
  have n5 := form_ne h 5 (by decide)
  have n10 := form_ne h 10 (by decide)
  have n11 := form_ne h 11 (by decide)
  have n12 := form_ne h 12 (by decide)
  have n13 := form_ne h 13 (by decide)
  have n14 := form_ne h 14 (by decide)
  have n15 := form_ne h 15 (by decide)
  have n16 := form_ne h 16 (by decide)
  have n17 := form_ne h 17 (by decide)
  have n18 := form_ne h 18 (by decide)
  have n19 := form_ne h 19 (by decide)
  have n20 := form_ne h 20 (by decide)
  have n21 := form_ne h 21 (by decide)
  have n22 := form_ne h 22 (by decide)
  have n23 := form_ne h 23 (by decide)
  have n24 := form_ne h 24 (by decide)
  have n30 := form_ne h 30 (by decide)
  have n31 := form_ne h 31 (by decide)
  have n32 := form_ne h 32 (by decide)
  have n33 := form_ne h 33 (by decide)
  have n34 := form_ne h 34 (by decide)
  have n35 := form_ne h 35 (by decide)
  have n40 := form_ne h 40 (by decide)
  have n41 := form_ne h 41 (by decide)
  have n42 := form_ne h 42 (by decide)
  have n43 := form_ne h 43 (by decide)
  have n44 := form_ne h 44 (by decide)
  have n45 := form_ne h 45 (by decide)
  have n46 := form_ne h 46 (by decide)
  have n60 := form_ne h 60 (by decide)
  clear h
  go_enter Tryz.func91, Tryz.ntmps91
  go_wp2_with fail
  go_ret2
  exact ⟨rfl, rfl⟩

theorem widths_some (op : Int) (nm : ByteArray) (k : Int) (w : World) (h : formOf op = some (nm, k)) :
    Calls Tryz.prog 91 #[.int .u8 op] w fun e w' => ∃ A c, e = .returned (.tuple #[.slice A (widthsK k).length c, .bool true]) ∧ IntsAt w' A (widthsK k) ∧ Below w.heap.size w w' := by
  have hm := form_mem h
  clear h
  have hall : ∀ q ∈ formsL, (q.2.2 = 0 ∧ (q.1 = 2 ∨ q.1 = 3 ∨ q.1 = 10 ∨ q.1 = 11 ∨ q.1 = 12 ∨ q.1 = 13 ∨ q.1 = 14 ∨ q.1 = 15 ∨ q.1 = 16 ∨ q.1 = 17 ∨ q.1 = 18 ∨ q.1 = 19 ∨ q.1 = 20 ∨ q.1 = 21 ∨ q.1 = 22 ∨ q.1 = 23 ∨ q.1 = 34 ∨ q.1 = 35 ∨ q.1 = 40 ∨ q.1 = 42 ∨ q.1 = 43 ∨ q.1 = 44)) ∨ (q.2.2 = 1 ∧ (q.1 = 4 ∨ q.1 = 5 ∨ q.1 = 24 ∨ q.1 = 41 ∨ q.1 = 46 ∨ q.1 = 60)) ∨ (q.2.2 = 2 ∧ (q.1 = 1 ∨ q.1 = 30 ∨ q.1 = 31 ∨ q.1 = 33 ∨ q.1 = 45)) ∨ (q.2.2 = 3 ∧ (q.1 = 32)) := by unfold formsL; simp
  rcases hall _ hm with ⟨h, h2⟩ | ⟨h, h2⟩ | ⟨h, h2⟩ | ⟨h, h2⟩ <;> simp only at h h2 <;> subst h
  · exact widths0 op w h2
  · exact widths1 op w h2
  · exact widths2 op w h2
  · exact widths3 op w h2
end Go.Proofs.YtabpheanbomibaaGreatDoor
