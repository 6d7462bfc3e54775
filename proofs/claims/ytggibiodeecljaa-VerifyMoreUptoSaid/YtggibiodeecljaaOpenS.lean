/- The arguments of a law: an ability, opened as the form reads it. -/
import Derived.Test.YtggibiodeecljaaBits
import Derived.SizedLaws
import Derived.Deep.Slices
import Derived.Lib.SmallJoins
import Derived.OpenShut
import Derived.ChangeSlices
namespace Go.Proofs.Ytggibiodeecljaa
open Go.ChangeShapes Go.WideShapes Go.ChangeAt Go.RowKit Go.Joins Go.Deep
set_option linter.unusedVariables false

theorem cells_i8 : Try.prog.cellsOf 40 = 1 := by kernel_rfl
theorem bytes_i8 : Try.prog.bytesOf 40 = 1 := by kernel_rfl
theorem cells_node : Try.prog.cellsOf 42 = 7 := by kernel_rfl
theorem bytes_node : Try.prog.bytesOf 42 = 56 := by kernel_rfl
theorem cells_able : Try.prog.cellsOf 25 = 4 := by kernel_rfl
theorem one_able : ∀ fs, Try.prog.underlying 25 = some (.struct fs) → oneCellFields Try.prog fs = true := by
  intro fs h
  rw [Try.underlying25] at h
  injection h with h
  injection h with h
  subst h
  kernel_rfl
theorem cells_i64 : Try.prog.cellsOf 2 = 1 := by kernel_rfl
theorem cells_int : Try.prog.cellsOf 3 = 1 := by kernel_rfl
theorem cells_str : Try.prog.cellsOf 9 = 1 := by kernel_rfl

section
variable {H : Type} {enc : TypeId × Value → H} {W : World} {sp : Nat → Bool} {fuel : Nat} {v : Value} {y : DataW H × List MemPlace}

theorem weightsAll_in {P : Program} {e : TypeId} : ∀ {l : List (DataW H)} {d : DataW H}, d ∈ l → ∀ n ∈ d.weights P e, n ∈ DataW.weightsAll P e l
  | d' :: r, d, hd, n, hn => by
    simp only [DataW.weightsAll, List.mem_append]
    rcases List.mem_cons.1 hd with rfl | h
    · exact Or.inl hn
    · exact Or.inr (weightsAll_in h n hn)

theorem cell_lt {a : Addr} {u : Value} (h : W.cell? a = some u) : a.block < W.heap.size :=
  World.cells?_block (cells?_one (base := 0) (Nat.zero_le _) h) (by decide)

theorem open_smalls (hf : DataW.trod enc Try.prog W 0 sp true fuel 22 [v] = some y) (hr : ∀ n ∈ y.1.weights Try.prog 22, n ≤ reachBytes) :
    ∃ A l c, v = .slice A (l : List Int).length c ∧ SmallsAt W A l ∧ l.length ≤ reachBytes := by
  rcases open_ints Try.underlying22 Try.underlying40 cells_i8 hf with ⟨hcs, hx⟩ | ⟨a, len, cap, zs, hcs, hb, hl, hm, hz, hx, hcell, hwz⟩
  · simp only [List.cons.injEq, and_true] at hcs
    subst hcs
    exact ⟨none, [], 0, rfl, fun k x hk => by simp at hk, by simp⟩
  · simp only [List.cons.injEq, and_true] at hcs
    subst hcs
    have hzl : len ≤ zs.length := by rw [hz]; split <;> omega
    have hlen : (zs.take len).length = len := by rw [List.length_take]; omega
    refine ⟨some a, zs.take len, cap, by rw [hlen], ?_, ?_⟩
    · intro k x hk
      rw [List.getElem?_take] at hk
      split at hk
      · rename_i hkl
        obtain ⟨b, off, rfl, hc⟩ := ints_at hcell (by omega)
        have h1 := hc k (by omega)
        rw [List.getD_eq_getElem?_getD, hk] at h1
        exact ⟨b, off, rfl, cell_lt h1, h1⟩
      · cases hk
    · have h1 := hr ((List.take len zs).length * 1 + (zs.drop len).length * 1) (by
        subst hx
        simp [DataW.weights, Try.underlying22, bytes_i8, lits])
      omega

end
end Go.Proofs.Ytggibiodeecljaa
