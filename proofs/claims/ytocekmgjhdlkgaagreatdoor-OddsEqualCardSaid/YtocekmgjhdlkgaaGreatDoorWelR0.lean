/- A list of floats, as the form reads it; the tables that the rows list; a world that holds them. -/
import Derived.Test.YtocekmgjhdlkgaaGreatDoorWel4
import Derived.Test.YtocekmgjhdlkgaaGreatDoorCards
import Derived.Test.YtocekmgjhdlkgaaGreatDoorTie
import Derived.WalkKit
import Derived.ProofKit
import Derived.OpenShut
import Derived.Deep.Slices
import Derived.Deep.DeepHandedRow
import Derived.Laws.Cover2
import Derived.Below
import Derived.Carry
import Derived.ChangeSlices
import Derived.Lib.SmallJoins
import Derived.SizedLaws
namespace Go.Proofs.YtocekmgjhdlkgaaGreatDoor
open Go.ChangeShapes Go.WideShapes Go.ChangeAt Go.RowKit Go.Joins Go.Deep
set_option linter.unusedVariables false

theorem own_ : ownKnob Tryz.prog.godebug = none := by kernel_rfl
theorem laidOut_ : laidOutB Tryz.prog = true := by kernel_rfl
theorem cells_f : Tryz.prog.cellsOf 25 = 1 := by kernel_rfl
theorem cells_slf : Tryz.prog.cellsOf 22 = 1 := by kernel_rfl
section
variable {H : Type} {enc : TypeId × Value → H} {P : Program} {W : World} {base : Nat} {sp : Nat → Bool} {held : Bool} {fuel : Nat} {x : DataW H × List MemPlace} {cs : List Value}
theorem trod_f {t : TypeId} {k : FloatKind} (ht : P.underlying t = some (.float k)) (h : DataW.trod enc P W base sp held fuel t cs = some x) : ∃ n, cs = [.float k n] := by
  cases fuel with
  | zero => simp [DataW.trod] at h
  | succ n =>
    unfold DataW.trod at h
    rw [ht] at h
    split at h <;> simp_all
theorem cell_ltF {a : Addr} {u : Value} (h : W.cell? a = some u) : a.block < W.heap.size :=
  World.cells?_block (cells?_one (base := 0) (Nat.zero_le _) h) (by decide)
/-- The word at a place. -/
def wordAt (W : World) (a : Addr) : Nat := match W.cell? a with
  | some (.float .f64 b) => b
  | _ => 0
theorem open_floats {v : Value} (h : DataW.trod enc Tryz.prog W base sp held fuel 22 [v] = some x) : ∃ (A : Option Addr) (l : List Nat) (n c : Nat), v = .slice A n c ∧ l.length = n ∧ FloatsAt W A l := by
  rcases DataW.trod_slice Tryz.underlying22 h with ⟨hcs, _⟩ | ⟨a, len, cap, elems, rest, n, _, hcs, _, hb, hl, hm, hlen, hel, _, _⟩
  · simp only [List.cons.injEq, and_true] at hcs
    subst hcs
    exact ⟨none, [], 0, 0, rfl, rfl, fun k x hk => by simp at hk⟩
  · simp only [List.cons.injEq, and_true] at hcs
    subst hcs
    have key : ∀ i, i < len → W.cell? (a.add i) = some (.float .f64 (wordAt W (a.add i))) := by
      intro i hi
      have h1 := hel i hi
      rw [List.getElem?_eq_getElem (by omega), Option.bind_eq_some_iff] at h1
      obtain ⟨cs', hcs, hy⟩ := h1
      obtain ⟨b, rfl⟩ := trod_f Tryz.underlying25 hy
      rw [cells_f, Nat.mul_one] at hcs
      have h2 := cell_of_cells?_one hcs
      unfold wordAt
      rw [h2]
    refine ⟨some a, (List.range len).map fun i => wordAt W (a.add i), len, cap, rfl, by simp, ?_⟩
    intro k y hk
    have hkl : k < len := by
      have := (List.getElem?_eq_some_iff.1 hk).1
      simpa using this
    rw [List.getElem?_map, List.getElem?_range hkl] at hk
    have hy : wordAt W (a.add k) = y := Option.some.inj hk
    have hc := key k hkl
    rw [hy] at hc
    obtain ⟨b, off, spot⟩ := a
    have hspot : spot = none := by
      have h0 := World.cell?_spot hc
      unfold Addr.add at h0
      split at h0
      · exact h0
      · rename_i hk0
        have h1 := World.cell?_spot (key 0 (by omega))
        simpa [Addr.add] using h1
    subst hspot
    rw [Go.WideShapes.add_plain] at hc
    exact ⟨b, off, rfl, cell_ltF hc, hc⟩
end
def tab32 : List Int := [0, 1, 28, 2, 29, 14, 24, 3, 30, 22, 20, 15, 25, 17, 4, 8, 31, 27, 13, 23, 21, 19, 16, 7, 26, 12, 18, 6, 11, 5, 10, 9]
def tab64 : List Int := [0, 1, 56, 2, 57, 49, 28, 3, 61, 58, 42, 50, 38, 29, 17, 4, 62, 47, 59, 36, 45, 43, 51, 22, 53, 39, 33, 30, 24, 18, 12, 5, 63, 55, 48, 27, 60, 41, 37, 16, 46, 35, 44, 21, 52, 32, 23, 11, 54, 26, 40, 15, 34, 20, 31, 10, 25, 14, 19, 9, 13, 8, 7, 6]
def tabPow : List Int := [1, 10, 100, 1000, 10000, 100000, 1000000, 10000000, 100000000, 1000000000, 10000000000, 100000000000, 1000000000000, 10000000000000, 100000000000000, 1000000000000000, 10000000000000000, 100000000000000000, 1000000000000000000, 10000000000000000000]
def layIn (k : IntKind) (l : List Int) : Obj → Obj
  | .cells _ t frozen => .cells (l.map (Value.int k)).toArray t frozen
  | o => o
noncomputable def laidWorld (os : Os) : World :=
  { World.holding Tryz.prog os ⟨#[], #[], []⟩ with heap := (((World.holding Tryz.prog os ⟨#[], #[], []⟩).heap.modify 1 (layIn .u64 tabPow)).modify 2 (layIn .u8 tab32)).modify 3 (layIn .u8 tab64) }
end Go.Proofs.YtocekmgjhdlkgaaGreatDoor
