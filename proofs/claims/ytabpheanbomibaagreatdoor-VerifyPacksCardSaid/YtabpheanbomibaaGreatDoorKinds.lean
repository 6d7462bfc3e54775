/- The tables of package kinds: fields, functions, effects. -/
import Derived.Test.YtabpheanbomibaaGreatDoorProg
import Derived.Test.YtabpheanbomibaaGreatDoorSmall
namespace Go.Proofs.YtabpheanbomibaaGreatDoor
open Go.RowKit

structure Sign where
  name : ByteArray
  args : List Int
  tell : Int
  many : Bool

def fieldsM : List Sign := [
  ⟨⟨#[112, 111, 119, 101, 114]⟩, [3], 1, false⟩,
  ⟨⟨#[104, 101, 97, 108, 116, 104]⟩, [3], 1, false⟩,
  ⟨⟨#[100, 97, 109, 97, 103, 101]⟩, [3], 1, false⟩,
  ⟨⟨#[109, 97, 114, 107, 115]⟩, [3], 1, false⟩,
  ⟨⟨#[111, 119, 110, 101, 114]⟩, [3], 4, false⟩,
  ⟨⟨#[112, 108, 97, 99, 101]⟩, [3], 5, false⟩,
  ⟨⟨#[108, 105, 102, 101]⟩, [4], 1, false⟩,
  ⟨⟨#[101, 110, 101, 114, 103, 121]⟩, [4], 1, false⟩,
  ⟨⟨#[111, 117, 116]⟩, [4], 2, false⟩,
  ⟨⟨#[115, 105, 122, 101]⟩, [5], 1, false⟩,
  ⟨⟨#[99, 97, 114, 100, 115]⟩, [5], 6, true⟩,
  ⟨⟨#[104, 111, 108, 100, 101, 114]⟩, [5], 4, false⟩,
  ⟨⟨#[99, 111, 117, 110, 116]⟩, [6], 1, false⟩]
def funcsM : List Sign := [
  ⟨⟨#[110, 101, 120, 116]⟩, [4], 4, false⟩,
  ⟨⟨#[122, 111, 110, 101]⟩, [4, -1], 5, false⟩,
  ⟨⟨#[114, 97, 110, 100, 111, 109]⟩, [1], 1, false⟩,
  ⟨⟨#[116, 111, 112]⟩, [5], 3, false⟩,
  ⟨⟨#[104, 97, 115]⟩, [6, 3], 2, true⟩,
  ⟨⟨#[105, 115]⟩, [3, -2], 2, false⟩,
  ⟨⟨#[97, 98, 115]⟩, [1], 1, false⟩,
  ⟨⟨#[109, 105, 110]⟩, [1, 1], 1, false⟩,
  ⟨⟨#[109, 97, 120]⟩, [1, 1], 1, false⟩]
def effectsM : List Sign := [
  ⟨⟨#[109, 111, 118, 101]⟩, [3, 5], 0, false⟩,
  ⟨⟨#[112, 117, 116]⟩, [3, 5], 0, false⟩,
  ⟨⟨#[100, 114, 97, 119]⟩, [4], 0, false⟩,
  ⟨⟨#[104, 105, 116]⟩, [3, 1], 0, false⟩,
  ⟨⟨#[104, 97, 114, 109]⟩, [4, 1], 0, false⟩,
  ⟨⟨#[103, 97, 105, 110]⟩, [4, 1], 0, false⟩,
  ⟨⟨#[109, 97, 114, 107]⟩, [3, 1], 0, false⟩,
  ⟨⟨#[103, 114, 111, 119]⟩, [3, 1], 0, false⟩,
  ⟨⟨#[115, 104, 117, 102, 102, 108, 101]⟩, [5], 0, true⟩]

def Sign.fn (s : Sign) : Value := .func (Fn.func (if s.many then 143 else 142)) #[] #[]
/-- The four cells of a sign, its arguments' kinds in block g. -/
def Sign.cells (s : Sign) (g : Nat) : List Value := [.string s.name, .slice (some ⟨g, 0, none⟩) s.args.length s.args.length, .int .i8 s.tell, s.fn]
def SignAt (w : World) (B b off : Nat) (s : Sign) : Prop :=
  ∃ g, B ≤ g ∧ g < w.heap.size ∧ (∀ j v, (s.cells g)[j]? = some v → w.cell? ⟨b, off + j, none⟩ = some v) ∧ Blk w g 82 (s.args.map (Value.int .i8)).toArray
def SignsAt (w : World) (B b : Nat) (l : List Sign) : Prop := B ≤ b ∧ b < w.heap.size ∧ ∀ i s, l[i]? = some s → SignAt w B b (i * 4) s

theorem SignsAt.below {w w' : World} {B C b : Nat} {l : List Sign} (h : SignsAt w B b l) (hb : Below C w w') (hC : w.heap.size ≤ C) : SignsAt w' B b l := by
  refine ⟨h.1, Nat.lt_of_lt_of_le h.2.1 hb.size, fun i s hs => ?_⟩
  obtain ⟨g, h1, h2, h3, h4⟩ := h.2.2 i s hs
  exact ⟨g, h1, Nat.lt_of_lt_of_le h2 hb.size, fun j v hv => (hb.cell (p := ⟨b, _, none⟩) (Nat.lt_of_lt_of_le h.2.1 hC)).trans (h3 j v hv), h4.below hb (Nat.lt_of_lt_of_le h2 hC)⟩

def allocs (w : World) : List Obj → World
  | [] => w
  | o :: os => allocs (w.alloc o) os
theorem allocs_size : ∀ (os : List Obj) (w : World), (allocs w os).heap.size = w.heap.size + os.length
  | [], w => rfl
  | o :: os, w => by rw [allocs, allocs_size os]; simp; omega
theorem allocs_old : ∀ (os : List Obj) (w : World) (i : Nat), i < w.heap.size → (allocs w os).heap[i]? = w.heap[i]?
  | [], w, i, h => rfl
  | o :: os, w, i, h => by rw [allocs, allocs_old os _ i (by simp; omega), Below.heap_alloc w o i h]
theorem allocs_new : ∀ (os : List Obj) (w : World) (i : Nat), (allocs w os).heap[w.heap.size + i]? = os[i]?
  | [], w, i => by simp [allocs]
  | o :: os, w, 0 => by
    rw [allocs, allocs_old os _ _ (by simp)]
    exact heap_alloc_new w o
  | o :: os, w, i + 1 => by
    have := allocs_new os (w.alloc o) i
    rw [allocs, List.getElem?_cons_succ, ← this]
    congr 1
    simp; omega
theorem allocs_below : ∀ (os : List Obj) (w : World) (B : Nat), B ≤ w.heap.size → Below B w (allocs w os)
  | [], w, B, _ => Below.refl _ _
  | o :: os, w, B, h => ((Below.refl _ _).alloc h o).trans (allocs_below os _ B (by simp; omega))

def Sign.argsObj (s : Sign) : Obj := .cells (s.args.map (Value.int .i8)).toArray 82
def tableCells (n : Nat) : List Sign → List Value
  | [] => []
  | s :: l => s.cells n ++ tableCells (n + 1) l
def tableWorld (w : World) (l : List Sign) : World := (allocs w (l.map Sign.argsObj)).alloc (.cells (tableCells w.heap.size l).toArray 207)

theorem tableCells_at : ∀ (l : List Sign) (n i j : Nat) (s : Sign) (v : Value), l[i]? = some s → (s.cells (n + i))[j]? = some v → (tableCells n l)[i * 4 + j]? = some v
  | [], n, i, j, s, v, h, _ => by simp at h
  | s0 :: l, n, 0, j, s, v, h, hv => by
    simp only [List.getElem?_cons_zero, Option.some.injEq] at h
    subst h
    have hj : j < 4 := (List.getElem?_eq_some_iff.1 hv).1
    rw [tableCells, Nat.zero_mul, Nat.zero_add, List.getElem?_append_left (by simpa [Sign.cells] using hj)]
    exact hv
  | s0 :: l, n, i + 1, j, s, v, h, hv => by
    have := tableCells_at l (n + 1) i j s v h (by rw [show n + 1 + i = n + (i + 1) by omega]; exact hv)
    rw [tableCells, List.getElem?_append_right (by simp [Sign.cells]; omega)]
    rw [← this]
    congr 1
    simp [Sign.cells]; omega

theorem tableWorld_signs (w : World) (l : List Sign) : SignsAt (tableWorld w l) w.heap.size (w.heap.size + l.length) l := by
  have hsz : (allocs w (l.map Sign.argsObj)).heap.size = w.heap.size + l.length := by rw [allocs_size]; simp
  refine ⟨by omega, by simp [tableWorld, hsz], fun i s hs => ⟨w.heap.size + i, by omega, ?_, fun j v hv => ?_, ?_⟩⟩
  · have := (List.getElem?_eq_some_iff.1 hs).1
    simp [tableWorld, hsz]; omega
  · have h1 := Blk.new (allocs w (l.map Sign.argsObj)) 207 (tableCells w.heap.size l).toArray
    have h2 := h1.cell (i * 4 + j)
    rw [hsz] at h2
    unfold tableWorld
    rw [h2, List.getElem?_toArray]
    exact tableCells_at l w.heap.size i j s v hs hv
  · have hi := (List.getElem?_eq_some_iff.1 hs).1
    have h0 : (tableWorld w l).heap[w.heap.size + i]? = some s.argsObj := by
      unfold tableWorld
      rw [Below.heap_alloc _ _ _ (by rw [hsz]; omega), allocs_new, List.getElem?_map, hs]
      rfl
    exact h0
theorem tableWorld_below (w : World) (l : List Sign) : Below w.heap.size w (tableWorld w l) :=
  (allocs_below _ w _ (Nat.le_refl _)).alloc (by rw [allocs_size]; omega) _

set_option maxRecDepth 100000 in
set_option maxHeartbeats 400000 in
theorem effects_any (w : World) : Calls Tryz.prog 110 #[] w fun e w' => e = .returned (.slice (some ⟨w.heap.size + 9, 0, none⟩) 9 9) ∧ w' = tableWorld w effectsM := by
  go_enter Tryz.func110, Tryz.ntmps110
  go_wp2
  go_ret
  exact ⟨rfl, rfl⟩

set_option maxRecDepth 100000 in
set_option maxHeartbeats 400000 in
theorem fields_any (w : World) : Calls Tryz.prog 109 #[] w fun e w' => e = .returned (.slice (some ⟨w.heap.size + 13, 0, none⟩) 13 13) ∧ w' = tableWorld w fieldsM := by
  go_enter Tryz.func109, Tryz.ntmps109
  go_wp2
  go_ret
  exact ⟨rfl, rfl⟩
end Go.Proofs.YtabpheanbomibaaGreatDoor
