/- The arguments of a law: an ability, opened as the form reads it. A job, as the form reads it; the tables that the rows list; a world that holds them. A pack, as the form reads it. The law VerifyPacks holds, for every input (the listed variables tied to the program's text): it returns true and leaves its argument as it was. -/
import Derived.SizedLaws
import Derived.Deep.Slices
import Derived.Lib.SmallJoins
import Derived.OpenShut
import Derived.ChangeSlices
import Derived.Test.YtabpheanbomibaaGreatDoorCards
import Derived.Test.YtabpheanbomibaaGreatDoorTie
import Derived.Test.YtabpheanbomibaaGreatDoorRows
import Derived.WalkKit
import Derived.ProofKit
import Derived.Deep.DeepHandedRow
import Derived.Laws.Cover2
import Derived.JoinedCond
import Derived.ShutString
import Derived.ChangeOld
import Derived.Below
import Derived.Carry
import Derived.SliceStrings
import Derived.Stop.LaidErr
import Derived.Test.YtabpheanbomibaaGreatDoorBits
import Derived.Test.YtabpheanbomibaaGreatDoorPkB
import Derived.Test.YtabpheanbomibaaGreatDoorPkC
import Derived.Test.YtabpheanbomibaaGreatDoorPkG
import Derived.Test.YtabpheanbomibaaGreatDoorRead
import Derived.Test.YtabpheanbomibaaGreatDoorVerE
namespace Go.Proofs.YtabpheanbomibaaGreatDoor
open Go.ChangeShapes Go.WideShapes Go.ChangeAt Go.RowKit Go.Joins Go.Deep
set_option linter.unusedVariables false

theorem cells_i8 : Tryz.prog.cellsOf 82 = 1 := by kernel_rfl
theorem bytes_i8 : Tryz.prog.bytesOf 82 = 1 := by kernel_rfl
theorem cells_node : Tryz.prog.cellsOf 174 = 7 := by kernel_rfl
theorem bytes_node : Tryz.prog.bytesOf 174 = 56 := by kernel_rfl
theorem cells_able : Tryz.prog.cellsOf 183 = 4 := by kernel_rfl
theorem one_able : ∀ fs, Tryz.prog.underlying 183 = some (.struct fs) → oneCellFields Tryz.prog fs = true := by
  intro fs h
  rw [Tryz.underlying183] at h
  injection h with h
  injection h with h
  subst h
  kernel_rfl
theorem cells_i64 : Tryz.prog.cellsOf 2 = 1 := by kernel_rfl
theorem cells_int : Tryz.prog.cellsOf 3 = 1 := by kernel_rfl
theorem cells_str : Tryz.prog.cellsOf 9 = 1 := by kernel_rfl

section
variable {H : Type} {enc : TypeId × Value → H} {W : World} {sp : Nat → Bool} {fuel : Nat} {v : Value} {y : DataW H × List MemPlace}

theorem weightsAll_in {P : Program} {e : TypeId} : ∀ {l : List (DataW H)} {d : DataW H}, d ∈ l → ∀ n ∈ d.weights P e, n ∈ DataW.weightsAll P e l
  | d' :: r, d, hd, n, hn => by
    simp only [DataW.weightsAll, List.mem_append]
    rcases List.mem_cons.1 hd with rfl | h
    · exact Or.inl hn
    · exact Or.inr (weightsAll_in h n hn)

theorem cell_lt {a : Addr} {u : Value} (h : W.cell? a = some u) : a.block < W.heap.size :=
  World.cells?_block (cells?_one (base := 0) (Nat.zero_le _) h) (by decide)

theorem open_smalls (hf : DataW.trod enc Tryz.prog W 0 sp true fuel 23 [v] = some y) (hr : ∀ n ∈ y.1.weights Tryz.prog 23, n ≤ reachBytes) :
    ∃ A l c, v = .slice A (l : List Int).length c ∧ SmallsAt W A l ∧ l.length ≤ reachBytes := by
  rcases open_ints Tryz.underlying23 Tryz.underlying82 cells_i8 hf with ⟨hcs, hx⟩ | ⟨a, len, cap, zs, hcs, hb, hl, hm, hz, hx, hcell, hwz⟩
  · simp only [List.cons.injEq, and_true] at hcs
    subst hcs
    exact ⟨none, [], 0, rfl, fun k x hk => by simp at hk, by simp⟩
  · simp only [List.cons.injEq, and_true] at hcs
    subst hcs
    have hzl : len ≤ zs.length := by rw [hz]; split <;> omega
    have hlen : (zs.take len).length = len := by rw [List.length_take]; omega
    refine ⟨some a, zs.take len, cap, by rw [hlen], ?_, ?_⟩
    · intro k x hk
      rw [List.getElem?_take] at hk
      split at hk
      · rename_i hkl
        obtain ⟨b, off, rfl, hc⟩ := ints_at hcell (by omega)
        have h1 := hc k (by omega)
        rw [List.getD_eq_getElem?_getD, hk] at h1
        exact ⟨b, off, rfl, cell_lt h1, h1⟩
      · cases hk
    · have h1 := hr ((List.take len zs).length * 1 + (zs.drop len).length * 1) (by
        subst hx
        simp [DataW.weights, Tryz.underlying23, bytes_i8, lits])
      omega

end
end Go.Proofs.YtabpheanbomibaaGreatDoor
namespace Go.Proofs.YtabpheanbomibaaGreatDoor
open Go.ChangeShapes Go.WideShapes Go.ChangeAt Go.RowKit Go.Joins Go.Deep
set_option linter.unusedVariables false

theorem own_ : ownKnob Tryz.prog.godebug = none := by kernel_rfl
theorem laidOut_ : laidOutB Tryz.prog = true := by kernel_rfl
theorem cells_u8 : Tryz.prog.cellsOf 5 = 1 := by kernel_rfl
theorem bytes_u8 : Tryz.prog.bytesOf 5 = 1 := by kernel_rfl
theorem cells_slb : Tryz.prog.cellsOf 22 = 1 := by kernel_rfl
theorem cells_sl8 : Tryz.prog.cellsOf 23 = 1 := by kernel_rfl
theorem cells_job : Tryz.prog.cellsOf 25 = 4 := by kernel_rfl
theorem wf_u8 {n : Int} (h : (Lit.int .u8 n).wf = true) : 0 ≤ n ∧ n ≤ 255 := by
  simp only [Lit.wf, IntKind.min, IntKind.max, IntKind.signed, IntKind.bits, Bool.and_eq_true] at h
  simp at h
  omega
section
variable {H : Type} {enc : TypeId × Value → H} {W : World} {sp : Nat → Bool} {fuel : Nat} {v : Value} {y : DataW H × List MemPlace}
theorem open_bytes20 (hf : DataW.trod enc Tryz.prog W 0 sp true fuel 22 [v] = some y) (hr : ∀ n ∈ y.1.weights Tryz.prog 22, n ≤ reachBytes) :
    ∃ A l c, v = .slice A (l : List Int).length c ∧ BytesAt W A l ∧ l.length ≤ reachBytes := by
  rcases open_ints Tryz.underlying22 Tryz.underlying5 cells_u8 hf with ⟨hcs, hx⟩ | ⟨a, len, cap, zs, hcs, hb, hl, hm, hz, hx, hcell, hwz⟩
  · simp only [List.cons.injEq, and_true] at hcs
    subst hcs
    exact ⟨none, [], 0, rfl, ⟨fun x hx => by simp at hx, fun k x hk => by simp at hk⟩, by simp⟩
  · simp only [List.cons.injEq, and_true] at hcs
    subst hcs
    have hzl : len ≤ zs.length := by rw [hz]; split <;> omega
    have hlen : (zs.take len).length = len := by rw [List.length_take]; omega
    refine ⟨some a, zs.take len, cap, by rw [hlen], ⟨fun x hx => wf_u8 (hwz x (List.mem_of_mem_take hx)), ?_⟩, ?_⟩
    · intro k x hk
      rw [List.getElem?_take] at hk
      split at hk
      · rename_i hkl
        obtain ⟨b, off, rfl, hc⟩ := ints_at hcell (by omega)
        have h1 := hc k (by omega)
        rw [List.getD_eq_getElem?_getD, hk] at h1
        exact ⟨b, off, rfl, cell_lt h1, h1⟩
      · cases hk
    · have h1 := hr ((List.take len zs).length * 1 + (zs.drop len).length * 1) (by
        subst hx
        simp [DataW.weights, Tryz.underlying22, bytes_u8, lits]
        try omega)
      omega
set_option maxRecDepth 100000 in
theorem open_job20 {base : Nat} {d : DataW H} {p : List MemPlace} (hv : Value.okWide Tryz.prog W .any base 25 v) (h : DataW.Trod enc Tryz.prog W 0 (fun _ => true) true 25 v d p)
    (hr : ∀ n ∈ d.weights Tryz.prog 25, n ≤ reachBytes) :
    ∃ BA b bc SA slots sc ints texts, v = .agg #[.slice BA (b : List Int).length bc, .slice SA (slots : List Int).length sc, .int .i64 ints, .int .i64 texts] ∧ BytesAt W BA b ∧ SmallsAt W SA slots ∧ b.length ≤ reachBytes ∧ slots.length ≤ reachBytes := by
  obtain ⟨cs, rfl, hsz⟩ := okWide_struct Tryz.underlying25 hv
  obtain ⟨fuel, hf⟩ := h
  rw [cells_job] at hsz
  obtain ⟨xs, n, _, hd, hl, hlen, hfs⟩ := DataW.trod_struct Tryz.underlying25 hf
  injection hd with hd hp
  subst hd
  have hlen4 : xs.length = 4 := hlen
  match xs, hlen4 with
  | [x0, x1, x2, x3], _ =>
  obtain ⟨l⟩ := cs
  have hl4 : l.length = 4 := hsz
  match l, hl4 with
  | [c0, c1, c2, c3], _ =>
  have f0 : DataW.trod enc Tryz.prog W 0 (fun _ => true) true n 22 (([c0, c1, c2, c3].drop 0).take (Tryz.prog.cellsOf 22)) = some x0 := hfs 0 _ rfl
  rw [cells_slb] at f0
  have f1 : DataW.trod enc Tryz.prog W 0 (fun _ => true) true n 23 (([c0, c1, c2, c3].drop 1).take (Tryz.prog.cellsOf 23)) = some x1 := hfs 1 _ rfl
  rw [cells_sl8] at f1
  have f2 : DataW.trod enc Tryz.prog W 0 (fun _ => true) true n 3 (([c0, c1, c2, c3].drop 2).take (Tryz.prog.cellsOf 3)) = some x2 := hfs 2 _ rfl
  rw [cells_int] at f2
  have f3 : DataW.trod enc Tryz.prog W 0 (fun _ => true) true n 3 (([c0, c1, c2, c3].drop 3).take (Tryz.prog.cellsOf 3)) = some x3 := hfs 3 _ rfl
  rw [cells_int] at f3
  simp only [DataW.weights, Tryz.underlying25, DataW.weightsEach, List.mem_append, List.map_cons, List.map_nil] at hr
  obtain ⟨BA, b, bc, e0, hB, l0⟩ := open_bytes20 f0 (fun n hn => hr n (.inl hn))
  obtain ⟨SA, slots, sc, e1, hS, l1⟩ := open_smalls f1 (fun n hn => hr n (.inr (.inl hn)))
  obtain ⟨ints, e2, d2, w2⟩ := DataW.trod_int Tryz.underlying3 f2
  obtain ⟨texts, e3, d3, w3⟩ := DataW.trod_int Tryz.underlying3 f3
  simp only [List.drop_zero, List.drop_succ_cons, List.take_succ_cons, List.take_zero, List.cons.injEq, and_true] at e0 e1 e2 e3
  subst e0 e1 e2 e3
  exact ⟨BA, b, bc, SA, slots, sc, ints, texts, rfl, hB, hS, l0, l1⟩
end
def tab32 : List Int := [0, 1, 28, 2, 29, 14, 24, 3, 30, 22, 20, 15, 25, 17, 4, 8, 31, 27, 13, 23, 21, 19, 16, 7, 26, 12, 18, 6, 11, 5, 10, 9]
def tab64 : List Int := [0, 1, 56, 2, 57, 49, 28, 3, 61, 58, 42, 50, 38, 29, 17, 4, 62, 47, 59, 36, 45, 43, 51, 22, 53, 39, 33, 30, 24, 18, 12, 5, 63, 55, 48, 27, 60, 41, 37, 16, 46, 35, 44, 21, 52, 32, 23, 11, 54, 26, 40, 15, 34, 20, 31, 10, 25, 14, 19, 9, 13, 8, 7, 6]
def tabPow : List Int := [1, 10, 100, 1000, 10000, 100000, 1000000, 10000000, 100000000, 1000000000, 10000000000, 100000000000, 1000000000000, 10000000000000, 100000000000000, 1000000000000000, 10000000000000000, 100000000000000000, 1000000000000000000, 10000000000000000000]
def layIn (k : IntKind) (l : List Int) : Obj → Obj
  | .cells _ t frozen => .cells (l.map (Value.int k)).toArray t frozen
  | o => o
noncomputable def laidWorld (os : Os) : World :=
  { World.holding Tryz.prog os ⟨#[], #[], []⟩ with heap := (((World.holding Tryz.prog os ⟨#[], #[], []⟩).heap.modify 0 (layIn .u64 tabPow)).modify 1 (layIn .u8 tab32)).modify 2 (layIn .u8 tab64) }
end Go.Proofs.YtabpheanbomibaaGreatDoor
namespace Go.Proofs.YtabpheanbomibaaGreatDoor
open Go.ChangeShapes Go.WideShapes Go.ChangeAt Go.RowKit Go.Joins Go.Deep
set_option linter.unusedVariables false

theorem bytes_i64 : Tryz.prog.bytesOf 2 = 8 := by kernel_rfl
theorem bytes_int : Tryz.prog.bytesOf 3 = 8 := by kernel_rfl
theorem bytes_str : Tryz.prog.bytesOf 9 = 16 := by kernel_rfl
theorem bytes_eff : Tryz.prog.bytesOf 125 = 64 := by kernel_rfl
theorem bytes_knd : Tryz.prog.bytesOf 123 = 80 := by kernel_rfl
theorem cells_eff : Tryz.prog.cellsOf 125 = 4 := by kernel_rfl
theorem cells_knd : Tryz.prog.cellsOf 123 = 6 := by kernel_rfl
theorem cells_pck : Tryz.prog.cellsOf 75 = 4 := by kernel_rfl
theorem cells_sll : Tryz.prog.cellsOf 71 = 1 := by kernel_rfl
theorem cells_sls : Tryz.prog.cellsOf 72 = 1 := by kernel_rfl
theorem cells_sli : Tryz.prog.cellsOf 107 = 1 := by kernel_rfl
theorem cells_sle : Tryz.prog.cellsOf 121 = 1 := by kernel_rfl
theorem cells_slk : Tryz.prog.cellsOf 73 = 1 := by kernel_rfl
theorem wf_i8 {n : Int} (h : (Lit.int .i8 n).wf = true) : -128 ≤ n ∧ n ≤ 127 := by
  simp only [Lit.wf, IntKind.min, IntKind.max, IntKind.signed, IntKind.bits, Bool.and_eq_true] at h
  simp at h
  omega
section
variable {H : Type} {enc : TypeId × Value → H} {W : World} {sp : Nat → Bool} {fuel : Nat} {v : Value} {y : DataW H × List MemPlace}
theorem open_longs (hf : DataW.trod enc Tryz.prog W 0 sp true fuel 71 [v] = some y) (hr : ∀ n ∈ y.1.weights Tryz.prog 71, n ≤ reachBytes) :
    ∃ A l c, v = .slice A (l : List Int).length c ∧ IntsAt W A l ∧ l.length ≤ reachBytes := by
  rcases open_ints Tryz.underlying71 Tryz.underlying2 cells_i64 hf with ⟨hcs, hx⟩ | ⟨a, len, cap, zs, hcs, hb, hl, hm, hz, hx, hcell, hwz⟩
  · simp only [List.cons.injEq, and_true] at hcs
    subst hcs
    exact ⟨none, [], 0, rfl, fun k x hk => by simp at hk, by simp⟩
  · simp only [List.cons.injEq, and_true] at hcs
    subst hcs
    have hzl : len ≤ zs.length := by rw [hz]; split <;> omega
    have hlen : (zs.take len).length = len := by rw [List.length_take]; omega
    refine ⟨some a, zs.take len, cap, by rw [hlen], ?_, ?_⟩
    · intro k x hk
      rw [List.getElem?_take] at hk
      split at hk
      · rename_i hkl
        obtain ⟨b, off, rfl, hc⟩ := ints_at hcell (by omega)
        have h1 := hc k (by omega)
        rw [List.getD_eq_getElem?_getD, hk] at h1
        exact ⟨b, off, rfl, cell_lt h1, h1⟩
      · cases hk
    · have h1 := hr ((List.take len zs).length * 8 + (zs.drop len).length * 8) (by
        subst hx
        simp [DataW.weights, Tryz.underlying71, bytes_i64, lits]
        try omega)
      omega
theorem open_intsT (hf : DataW.trod enc Tryz.prog W 0 sp true fuel 107 [v] = some y) (hr : ∀ n ∈ y.1.weights Tryz.prog 107, n ≤ reachBytes) :
    ∃ A l c, v = .slice A (l : List Int).length c ∧ IntsAt W A l ∧ l.length ≤ reachBytes := by
  rcases open_ints Tryz.underlying107 Tryz.underlying3 cells_int hf with ⟨hcs, hx⟩ | ⟨a, len, cap, zs, hcs, hb, hl, hm, hz, hx, hcell, hwz⟩
  · simp only [List.cons.injEq, and_true] at hcs
    subst hcs
    exact ⟨none, [], 0, rfl, fun k x hk => by simp at hk, by simp⟩
  · simp only [List.cons.injEq, and_true] at hcs
    subst hcs
    have hzl : len ≤ zs.length := by rw [hz]; split <;> omega
    have hlen : (zs.take len).length = len := by rw [List.length_take]; omega
    refine ⟨some a, zs.take len, cap, by rw [hlen], ?_, ?_⟩
    · intro k x hk
      rw [List.getElem?_take] at hk
      split at hk
      · rename_i hkl
        obtain ⟨b, off, rfl, hc⟩ := ints_at hcell (by omega)
        have h1 := hc k (by omega)
        rw [List.getD_eq_getElem?_getD, hk] at h1
        exact ⟨b, off, rfl, cell_lt h1, h1⟩
      · cases hk
    · have h1 := hr ((List.take len zs).length * 8 + (zs.drop len).length * 8) (by
        subst hx
        simp [DataW.weights, Tryz.underlying107, bytes_int, lits]
        try omega)
      omega
theorem strs_weights {l : List ByteArray} {s : ByteArray} (h : s ∈ l) : s.size ∈ DataW.weightsAll (H := H) Tryz.prog 9 (strs l) := by
  refine weightsAll_in (d := .lit (.string s.data.toList)) ?_ _ (by simp [DataW.weights])
  unfold strs
  exact List.mem_map.2 ⟨s, h, rfl⟩
theorem open_texts (hf : DataW.trod enc Tryz.prog W 0 sp true fuel 72 [v] = some y) (hr : ∀ n ∈ y.1.weights Tryz.prog 72, n ≤ reachBytes) :
    ∃ A l c, v = .slice A (l : List ByteArray).length c ∧ TextsAt W A l ∧ l.length ≤ reachBytes ∧ ∀ s ∈ l, s.size ≤ reachBytes := by
  rcases open_strings Tryz.underlying72 Tryz.underlying9 cells_str hf with ⟨hcs, hx⟩ | ⟨a, len, cap, zs, hcs, hb, hl, hm, hz, hx, hcell, hwz⟩
  · simp only [List.cons.injEq, and_true] at hcs
    subst hcs
    exact ⟨none, [], 0, rfl, fun k x hk => by simp at hk, by simp, fun s hs => by simp at hs⟩
  · simp only [List.cons.injEq, and_true] at hcs
    subst hcs
    have hzl : len ≤ zs.length := by rw [hz]; split <;> omega
    have hlen : (zs.take len).length = len := by rw [List.length_take]; omega
    refine ⟨some a, zs.take len, cap, by rw [hlen], ?_, ?_, ?_⟩
    · intro k x hk
      rw [List.getElem?_take] at hk
      split at hk
      · rename_i hkl
        have h1 := hcell k (by omega)
        rw [List.getD_eq_getElem?_getD, hk] at h1
        obtain ⟨b, off, spot⟩ := a
        have hfirst := hcell 0 (by omega)
        have hspot : spot = none := by simpa [Addr.add] using World.cell?_spot hfirst
        subst hspot
        rw [add_plain] at h1
        exact ⟨b, off, rfl, cell_lt h1, h1⟩
      · cases hk
    · have h1 := hr ((List.take len zs).length * 16 + (zs.drop len).length * 16) (by
        subst hx
        simp [DataW.weights, Tryz.underlying72, bytes_str, strs]
        try omega)
      omega
    · intro s hs
      refine hr _ ?_
      subst hx
      simp only [DataW.weights, Tryz.underlying72]
      exact List.mem_cons_of_mem _ (List.mem_append_left _ (strs_weights hs))

theorem open_smalls8 (hf : DataW.trod enc Tryz.prog W 0 sp true fuel 23 [v] = some y) (hr : ∀ n ∈ y.1.weights Tryz.prog 23, n ≤ reachBytes) :
    ∃ A l c, v = .slice A (l : List Int).length c ∧ SmallsAt W A l ∧ (∀ x ∈ l, -128 ≤ x ∧ x ≤ 127) ∧ l.length ≤ reachBytes := by
  rcases open_ints Tryz.underlying23 Tryz.underlying82 cells_i8 hf with ⟨hcs, hx⟩ | ⟨a, len, cap, zs, hcs, hb, hl, hm, hz, hx, hcell, hwz⟩
  · simp only [List.cons.injEq, and_true] at hcs
    subst hcs
    exact ⟨none, [], 0, rfl, fun k x hk => by simp at hk, fun x hx => by simp at hx, by simp⟩
  · simp only [List.cons.injEq, and_true] at hcs
    subst hcs
    have hzl : len ≤ zs.length := by rw [hz]; split <;> omega
    have hlen : (zs.take len).length = len := by rw [List.length_take]; omega
    refine ⟨some a, zs.take len, cap, by rw [hlen], ?_, fun x hx => wf_i8 (hwz x (List.mem_of_mem_take hx)), ?_⟩
    · intro k x hk
      rw [List.getElem?_take] at hk
      split at hk
      · rename_i hkl
        obtain ⟨b, off, rfl, hc⟩ := ints_at hcell (by omega)
        have h1 := hc k (by omega)
        rw [List.getD_eq_getElem?_getD, hk] at h1
        exact ⟨b, off, rfl, cell_lt h1, h1⟩
      · cases hk
    · have h1 := hr ((List.take len zs).length * 1 + (zs.drop len).length * 1) (by
        subst hx
        simp [DataW.weights, Tryz.underlying23, bytes_i8, lits]
        try omega)
      omega
set_option maxRecDepth 100000 in
theorem open_eff {cs : List Value} (hf : DataW.trod enc Tryz.prog W 0 sp true fuel 125 cs = some y) (hr : ∀ n ∈ y.1.weights Tryz.prog 125, n ≤ reachBytes) :
    ∃ (x : Eff) (SA : Option Addr) (sc : Nat) (CA : Option Addr) (cc : Nat), cs = [.int .i64 x.on, .slice SA x.slots.length sc, .slice CA x.code.length cc, .int .i64 x.bound] ∧ SmallsAt W SA x.slots ∧ BytesAt W CA x.code ∧ EffTy x ∧ EffRe x ∧ ∀ y ∈ x.code, 0 ≤ y ∧ y ≤ 255 := by
  obtain ⟨xs, n, _, rfl, hl, hlen, hfs⟩ := DataW.trod_struct Tryz.underlying125 hf
  have hln : cs.length = 4 := by rw [hl, cells_eff]
  have hlenn : xs.length = 4 := hlen
  match cs, hln with
  | [c0, c1, c2, c3], _ =>
  match xs, hlenn with
  | [x0, x1, x2, x3], _ =>
  have f0 : DataW.trod enc Tryz.prog W 0 sp true n 3 (([c0, c1, c2, c3].drop 0).take (Tryz.prog.cellsOf 3)) = some x0 := hfs 0 _ rfl
  rw [cells_int] at f0
  have f1 : DataW.trod enc Tryz.prog W 0 sp true n 23 (([c0, c1, c2, c3].drop 1).take (Tryz.prog.cellsOf 23)) = some x1 := hfs 1 _ rfl
  rw [cells_sl8] at f1
  have f2 : DataW.trod enc Tryz.prog W 0 sp true n 22 (([c0, c1, c2, c3].drop 2).take (Tryz.prog.cellsOf 22)) = some x2 := hfs 2 _ rfl
  rw [cells_slb] at f2
  have f3 : DataW.trod enc Tryz.prog W 0 sp true n 2 (([c0, c1, c2, c3].drop 3).take (Tryz.prog.cellsOf 2)) = some x3 := hfs 3 _ rfl
  rw [cells_i64] at f3
  simp only [DataW.weights, Tryz.underlying125, DataW.weightsEach, List.mem_append, List.map_cons, List.map_nil] at hr
  obtain ⟨on, e0, d0, w0⟩ := DataW.trod_int Tryz.underlying3 f0
  obtain ⟨SA, slots, sc, e1, hS, h8, l1⟩ := open_smalls8 f1 (fun n hn => hr n (.inr (.inl hn)))
  obtain ⟨CA, code, cc, e2, hC, l2⟩ := open_bytes20 f2 (fun n hn => hr n (.inr (.inr (.inl hn))))
  obtain ⟨bd, e3, d3, w3⟩ := DataW.trod_int Tryz.underlying2 f3
  simp only [List.drop_zero, List.drop_succ_cons, List.take_succ_cons, List.take_zero, List.cons.injEq, and_true] at e0 e3
  subst e0 e1 e2 e3
  have hR : reachBytes = 140737488351232 := rfl
  exact ⟨⟨on, slots, code, bd⟩, SA, sc, CA, cc, rfl, hS, hC, h8, ⟨by show slots.length ≤ _; omega, by show code.length ≤ _; omega⟩, hC.byte⟩
instance : Inhabited Eff := ⟨eff0⟩
set_option maxRecDepth 100000 in
theorem open_effs (hf : DataW.trod enc Tryz.prog W 0 sp true fuel 121 [v] = some y) (hr : ∀ n ∈ y.1.weights Tryz.prog 121, n ≤ reachBytes) :
    ∃ A l c, v = .slice A (l : List Eff).length c ∧ EffsAt W A l ∧ (∀ x ∈ l, EffTy x ∧ EffRe x ∧ ∀ y ∈ x.code, 0 ≤ y ∧ y ≤ 255) ∧ l.length ≤ reachBytes := by
  rcases open_slice Tryz.underlying121 hf with ⟨hcs, hx⟩ | ⟨a, len, cap, m, n, D, Pl, hcs, hb, hl, hm, hmm, hx, hel⟩
  · simp only [List.cons.injEq, and_true] at hcs
    subst hcs
    exact ⟨none, [], 0, rfl, fun i x hx => by simp at hx, fun x hx => by simp at hx, by simp⟩
  · simp only [List.cons.injEq, and_true] at hcs
    subst hcs
    have hlm : len ≤ m := by rw [hmm]; split <;> omega
    rw [cells_eff] at hel
    have hw : (((List.range len).map D).length + ((List.range (m - len)).map fun j => D (len + j)).length) * 64 ≤ reachBytes ∧ ∀ i, i < len → ∀ k ∈ (D i).weights Tryz.prog 125, k ≤ reachBytes := by
      subst hx
      simp only [DataW.weights, Tryz.underlying121, bytes_eff] at hr
      refine ⟨hr _ (List.mem_cons_self ..), fun i hi k hk => hr k (List.mem_cons_of_mem _ (List.mem_append_left _ (weightsAll_in (List.mem_map.2 ⟨i, List.mem_range.2 hi, rfl⟩) k hk)))⟩
    have hlr : len ≤ reachBytes := by
      have := hw.1
      simp only [List.length_map, List.length_range] at this
      omega
    obtain ⟨X, hX⟩ := choose_lt (n := len) (p := fun i (x : Eff) => (EffTy x ∧ EffRe x ∧ ∀ y ∈ x.code, 0 ≤ y ∧ y ≤ 255) ∧ ∃ SA sc CA cc, (∀ j u, ([.int .i64 x.on, .slice SA x.slots.length sc, .slice CA x.code.length cc, .int .i64 x.bound] : List Value)[j]? = some u → W.cell? (a.add (i * 4 + j)) = some u) ∧ SmallsAt W SA x.slots ∧ BytesAt W CA x.code) (fun i hi => by
      obtain ⟨cs', h1, h2⟩ := hel i (by omega)
      obtain ⟨x, SA, sc, CA, cc, hcs, hS, hC, hp⟩ := open_eff h2 (hw.2 i hi)
      obtain ⟨_, hcl, hcc⟩ := World.cells?_some h1
      refine ⟨x, hp, SA, sc, CA, cc, fun j u hj => ?_, hS, hC⟩
      have hjn : j < 4 := by
        have := (List.getElem?_eq_some_iff.1 hj).1
        simpa using this
      have := hcc j hjn
      rw [add_add] at this
      rw [this, hcs]
      exact hj)
    refine ⟨some a, (List.range len).map X, cap, by simp, ?_, ?_, by simpa using hlr⟩
    · intro i x hx
      rw [List.getElem?_map, Option.map_eq_some_iff] at hx
      obtain ⟨i', hi', rfl⟩ := hx
      obtain ⟨hi1, hi2⟩ := List.getElem?_eq_some_iff.1 hi'
      simp only [List.length_range] at hi1
      rw [List.getElem_range] at hi2
      subst hi2
      obtain ⟨_, SA, sc, CA, cc, hc0, _⟩ := hX 0 (by omega)
      have hfirst := hc0 0 _ rfl
      obtain ⟨b, off, spot⟩ := a
      have hspot : spot = none := by simpa [Addr.add] using World.cell?_spot hfirst
      subst hspot
      obtain ⟨_, SB, sd, CB, cd, hc, hS, hC⟩ := hX i hi1
      refine ⟨b, off, rfl, cell_lt hfirst, SB, sd, CB, cd, ?_, ?_, ?_, ?_, hS, hC⟩
      · have h := hc 0 _ rfl
        rw [add_plain] at h
        exact h
      · have h := hc 1 _ rfl
        rw [add_plain] at h
        rw [Nat.add_assoc]
        exact h
      · have h := hc 2 _ rfl
        rw [add_plain] at h
        rw [Nat.add_assoc]
        exact h
      · have h := hc 3 _ rfl
        rw [add_plain] at h
        rw [Nat.add_assoc]
        exact h
    · intro x hx
      obtain ⟨i, hi, rfl⟩ := List.mem_map.1 hx
      exact (hX i (List.mem_range.1 hi)).1
set_option maxRecDepth 100000 in
theorem open_knd {cs : List Value} (hf : DataW.trod enc Tryz.prog W 0 sp true fuel 123 cs = some y) (hr : ∀ n ∈ y.1.weights Tryz.prog 123, n ≤ reachBytes) :
    ∃ (x : Knd) (TA : Option Addr) (tc : Nat) (EA : Option Addr) (ec : Nat), cs = [.int .i64 x.name, .int .i64 x.cost, .int .i64 x.power, .int .i64 x.health, .slice TA x.tags.length tc, .slice EA x.effs.length ec] ∧ IntsAt W TA x.tags ∧ EffsAt W EA x.effs ∧ KndTy x ∧ KndRe x ∧ ∀ e ∈ x.effs, ∀ y ∈ e.code, 0 ≤ y ∧ y ≤ 255 := by
  obtain ⟨xs, n, _, rfl, hl, hlen, hfs⟩ := DataW.trod_struct Tryz.underlying123 hf
  have hln : cs.length = 6 := by rw [hl, cells_knd]
  have hlenn : xs.length = 6 := hlen
  match cs, hln with
  | [c0, c1, c2, c3, c4, c5], _ =>
  match xs, hlenn with
  | [x0, x1, x2, x3, x4, x5], _ =>
  have f0 : DataW.trod enc Tryz.prog W 0 sp true n 3 (([c0, c1, c2, c3, c4, c5].drop 0).take (Tryz.prog.cellsOf 3)) = some x0 := hfs 0 _ rfl
  rw [cells_int] at f0
  have f1 : DataW.trod enc Tryz.prog W 0 sp true n 2 (([c0, c1, c2, c3, c4, c5].drop 1).take (Tryz.prog.cellsOf 2)) = some x1 := hfs 1 _ rfl
  rw [cells_i64] at f1
  have f2 : DataW.trod enc Tryz.prog W 0 sp true n 2 (([c0, c1, c2, c3, c4, c5].drop 2).take (Tryz.prog.cellsOf 2)) = some x2 := hfs 2 _ rfl
  rw [cells_i64] at f2
  have f3 : DataW.trod enc Tryz.prog W 0 sp true n 2 (([c0, c1, c2, c3, c4, c5].drop 3).take (Tryz.prog.cellsOf 2)) = some x3 := hfs 3 _ rfl
  rw [cells_i64] at f3
  have f4 : DataW.trod enc Tryz.prog W 0 sp true n 107 (([c0, c1, c2, c3, c4, c5].drop 4).take (Tryz.prog.cellsOf 107)) = some x4 := hfs 4 _ rfl
  rw [cells_sli] at f4
  have f5 : DataW.trod enc Tryz.prog W 0 sp true n 121 (([c0, c1, c2, c3, c4, c5].drop 5).take (Tryz.prog.cellsOf 121)) = some x5 := hfs 5 _ rfl
  rw [cells_sle] at f5
  simp only [DataW.weights, Tryz.underlying123, DataW.weightsEach, List.mem_append, List.map_cons, List.map_nil] at hr
  obtain ⟨nm, e0, d0, w0⟩ := DataW.trod_int Tryz.underlying3 f0
  obtain ⟨co, e1, d1, w1⟩ := DataW.trod_int Tryz.underlying2 f1
  obtain ⟨po, e2, d2, w2⟩ := DataW.trod_int Tryz.underlying2 f2
  obtain ⟨he, e3, d3, w3⟩ := DataW.trod_int Tryz.underlying2 f3
  obtain ⟨TA, tags, tc, e4, hT, l4⟩ := open_intsT f4 (fun n hn => hr n (.inr (.inr (.inr (.inr (.inl hn))))))
  obtain ⟨EA, effs, ec, e5, hE, hp, l5⟩ := open_effs f5 (fun n hn => hr n (.inr (.inr (.inr (.inr (.inr (.inl hn)))))))
  simp only [List.drop_zero, List.drop_succ_cons, List.take_succ_cons, List.take_zero, List.cons.injEq, and_true] at e0 e1 e2 e3
  subst e0 e1 e2 e3 e4 e5
  have hR : reachBytes = 140737488351232 := rfl
  exact ⟨⟨nm, co, po, he, tags, effs⟩, TA, tc, EA, ec, rfl, hT, hE, fun e h => (hp e h).1, ⟨by show tags.length ≤ _; omega, by show effs.length ≤ _; omega, fun e h => (hp e h).2.1⟩, fun e h => (hp e h).2.2⟩
instance : Inhabited Knd := ⟨knd0⟩
set_option maxRecDepth 100000 in
theorem open_knds (hf : DataW.trod enc Tryz.prog W 0 sp true fuel 73 [v] = some y) (hr : ∀ n ∈ y.1.weights Tryz.prog 73, n ≤ reachBytes) :
    ∃ A l c, v = .slice A (l : List Knd).length c ∧ KndsAt W A l ∧ (∀ x ∈ l, KndTy x ∧ KndRe x ∧ ∀ e ∈ x.effs, ∀ y ∈ e.code, 0 ≤ y ∧ y ≤ 255) ∧ l.length ≤ reachBytes := by
  rcases open_slice Tryz.underlying73 hf with ⟨hcs, hx⟩ | ⟨a, len, cap, m, n, D, Pl, hcs, hb, hl, hm, hmm, hx, hel⟩
  · simp only [List.cons.injEq, and_true] at hcs
    subst hcs
    exact ⟨none, [], 0, rfl, fun i x hx => by simp at hx, fun x hx => by simp at hx, by simp⟩
  · simp only [List.cons.injEq, and_true] at hcs
    subst hcs
    have hlm : len ≤ m := by rw [hmm]; split <;> omega
    rw [cells_knd] at hel
    have hw : (((List.range len).map D).length + ((List.range (m - len)).map fun j => D (len + j)).length) * 80 ≤ reachBytes ∧ ∀ i, i < len → ∀ k ∈ (D i).weights Tryz.prog 123, k ≤ reachBytes := by
      subst hx
      simp only [DataW.weights, Tryz.underlying73, bytes_knd] at hr
      refine ⟨hr _ (List.mem_cons_self ..), fun i hi k hk => hr k (List.mem_cons_of_mem _ (List.mem_append_left _ (weightsAll_in (List.mem_map.2 ⟨i, List.mem_range.2 hi, rfl⟩) k hk)))⟩
    have hlr : len ≤ reachBytes := by
      have := hw.1
      simp only [List.length_map, List.length_range] at this
      omega
    obtain ⟨X, hX⟩ := choose_lt (n := len) (p := fun i (x : Knd) => (KndTy x ∧ KndRe x ∧ ∀ e ∈ x.effs, ∀ y ∈ e.code, 0 ≤ y ∧ y ≤ 255) ∧ ∃ TA tc EA ec, (∀ j u, ([.int .i64 x.name, .int .i64 x.cost, .int .i64 x.power, .int .i64 x.health, .slice TA x.tags.length tc, .slice EA x.effs.length ec] : List Value)[j]? = some u → W.cell? (a.add (i * 6 + j)) = some u) ∧ IntsAt W TA x.tags ∧ EffsAt W EA x.effs) (fun i hi => by
      obtain ⟨cs', h1, h2⟩ := hel i (by omega)
      obtain ⟨x, TA, tc, EA, ec, hcs, hS, hC, hp⟩ := open_knd h2 (hw.2 i hi)
      obtain ⟨_, hcl, hcc⟩ := World.cells?_some h1
      refine ⟨x, hp, TA, tc, EA, ec, fun j u hj => ?_, hS, hC⟩
      have hjn : j < 6 := by
        have := (List.getElem?_eq_some_iff.1 hj).1
        simpa using this
      have := hcc j hjn
      rw [add_add] at this
      rw [this, hcs]
      exact hj)
    refine ⟨some a, (List.range len).map X, cap, by simp, ?_, ?_, by simpa using hlr⟩
    · intro i x hx
      rw [List.getElem?_map, Option.map_eq_some_iff] at hx
      obtain ⟨i', hi', rfl⟩ := hx
      obtain ⟨hi1, hi2⟩ := List.getElem?_eq_some_iff.1 hi'
      simp only [List.length_range] at hi1
      rw [List.getElem_range] at hi2
      subst hi2
      obtain ⟨_, TA, tc, EA, ec, hc0, _⟩ := hX 0 (by omega)
      have hfirst := hc0 0 _ rfl
      obtain ⟨b, off, spot⟩ := a
      have hspot : spot = none := by simpa [Addr.add] using World.cell?_spot hfirst
      subst hspot
      obtain ⟨_, TB, td, EB, ed, hc, hS, hC⟩ := hX i hi1
      refine ⟨b, off, rfl, cell_lt hfirst, TB, td, EB, ed, ?_, ?_, ?_, ?_, ?_, ?_, hS, hC⟩
      · have h := hc 0 _ rfl
        rw [add_plain] at h
        exact h
      · have h := hc 1 _ rfl
        rw [add_plain] at h
        rw [Nat.add_assoc]
        exact h
      · have h := hc 2 _ rfl
        rw [add_plain] at h
        rw [Nat.add_assoc]
        exact h
      · have h := hc 3 _ rfl
        rw [add_plain] at h
        rw [Nat.add_assoc]
        exact h
      · have h := hc 4 _ rfl
        rw [add_plain] at h
        rw [Nat.add_assoc]
        exact h
      · have h := hc 5 _ rfl
        rw [add_plain] at h
        rw [Nat.add_assoc]
        exact h
    · intro x hx
      obtain ⟨i, hi, rfl⟩ := List.mem_map.1 hx
      exact (hX i (List.mem_range.1 hi)).1
set_option maxRecDepth 100000 in
theorem open_pack {base : Nat} {d : DataW H} {p : List MemPlace} (hv : Value.okWide Tryz.prog W .any base 75 v) (h : DataW.Trod enc Tryz.prog W 0 (fun _ => true) true 75 v d p)
    (hr : ∀ n ∈ d.weights Tryz.prog 75, n ≤ reachBytes) :
    ∃ (x : Pck) (IA : Option Addr) (ic : Nat) (TA : Option Addr) (tc : Nat) (KA : Option Addr) (kc : Nat), v = .agg (pckV x IA TA KA ic tc kc) ∧ PckAt W IA TA KA x ∧ PckRe x ∧ PckTy x ∧ PckBy x := by
  obtain ⟨cs, rfl, hsz⟩ := okWide_struct Tryz.underlying75 hv
  obtain ⟨fuel, hf⟩ := h
  rw [cells_pck] at hsz
  obtain ⟨xs, n, _, hd, hl, hlen, hfs⟩ := DataW.trod_struct Tryz.underlying75 hf
  injection hd with hd hp
  subst hd
  have hlen4 : xs.length = 4 := hlen
  match xs, hlen4 with
  | [x0, x1, x2, x3], _ =>
  obtain ⟨l⟩ := cs
  have hl4 : l.length = 4 := hsz
  match l, hl4 with
  | [c0, c1, c2, c3], _ =>
  have f0 : DataW.trod enc Tryz.prog W 0 (fun _ => true) true n 3 (([c0, c1, c2, c3].drop 0).take (Tryz.prog.cellsOf 3)) = some x0 := hfs 0 _ rfl
  rw [cells_int] at f0
  have f1 : DataW.trod enc Tryz.prog W 0 (fun _ => true) true n 71 (([c0, c1, c2, c3].drop 1).take (Tryz.prog.cellsOf 71)) = some x1 := hfs 1 _ rfl
  rw [cells_sll] at f1
  have f2 : DataW.trod enc Tryz.prog W 0 (fun _ => true) true n 72 (([c0, c1, c2, c3].drop 2).take (Tryz.prog.cellsOf 72)) = some x2 := hfs 2 _ rfl
  rw [cells_sls] at f2
  have f3 : DataW.trod enc Tryz.prog W 0 (fun _ => true) true n 73 (([c0, c1, c2, c3].drop 3).take (Tryz.prog.cellsOf 73)) = some x3 := hfs 3 _ rfl
  rw [cells_slk] at f3
  simp only [DataW.weights, Tryz.underlying75, DataW.weightsEach, List.mem_append, List.map_cons, List.map_nil] at hr
  obtain ⟨cards, e0, d0, w0⟩ := DataW.trod_int Tryz.underlying3 f0
  obtain ⟨IA, ints, ic, e1, hI, l1⟩ := open_longs f1 (fun n hn => hr n (.inr (.inl hn)))
  obtain ⟨TA, texts, tc, e2, hT, l2, l2s⟩ := open_texts f2 (fun n hn => hr n (.inr (.inr (.inl hn))))
  obtain ⟨KA, kinds, kc, e3, hK, hp, l3⟩ := open_knds f3 (fun n hn => hr n (.inr (.inr (.inr (.inl hn)))))
  simp only [List.drop_zero, List.take_succ_cons, List.take_zero, List.cons.injEq, and_true] at e0
  subst e0 e1 e2 e3
  have hR : reachBytes = 140737488351232 := rfl
  exact ⟨⟨cards, ints, texts, kinds⟩, IA, ic, TA, tc, KA, kc, rfl, ⟨hI, hT, hK⟩, ⟨by show ints.length ≤ _; omega, by show texts.length ≤ _; omega, fun t h => by have := l2s t h; omega, by show kinds.length ≤ _; omega, fun k h => (hp k h).2.1⟩, fun k h => (hp k h).1, fun k h => (hp k h).2.2⟩
end
end Go.Proofs.YtabpheanbomibaaGreatDoor
namespace Go.Proofs.YtabpheanbomibaaGreatDoor
open Go.ChangeShapes Go.WideShapes Go.ChangeAt Go.RowKit Go.Joins Go.Deep
set_option linter.unusedVariables false

/-- The table of powers, from the row's own list. -/
theorem tab10_of {W : World} (h : laidMetH Tryz.prog Rows.verifyPacksRow.laid W) : Tab10 W W.heap.size := by
  have h1 : laidMet Tryz.prog Rows.verifyPacksRow.laid W := h
  have h2 : laidMet Tryz.prog [("internal/strconv.uint64pow10", Lib.tabData .u64 Lib.pow10Tab)] W := (show laidMet Tryz.prog (_ :: _ :: ("internal/strconv.uint64pow10", Lib.tabData .u64 Lib.pow10Tab) :: []) W from h1).tail.tail
  exact Lib.tabBelow_of_tabIs (Lib.tabIs_of_head (g := 0) (t := 257) (e := 159) (n := 20) (by kernel_rfl) (by kernel_rfl) (by kernel_rfl) Tryz.underlying159 (by kernel_rfl) (by kernel_rfl) h2)
set_option maxRecDepth 100000 in
theorem packsContract (H : Type) (enc : TypeId × Value → H) (W : World) (base : Nat) (args : Array Value) (ds gs : List (DataW H)) (before : List MemPlace)
    (hval : ∀ (j : Nat) t v, Tryz.f4.params[j]? = some t → args[j]? = some v → Value.okWide Tryz.prog W .any base t v)
    (hsz : (DataW.weightsEach Tryz.prog (Tryz.f4.params.toList ++ Rows.verifyPacksSpec.plain.varTypes Tryz.prog) (ds ++ gs)).all (· ≤ reachBytes) = true)
    (hL : laidMetH Tryz.prog Rows.verifyPacksRow.laid W)
    (hW : DataW.Whole enc Tryz.prog Tryz.f4.params.toList Rows.verifyPacksSpec.vars false W args.toList ds gs before) :
    Calls Tryz.prog 4 args W fun e W' => ∃ v, e = .returned v ∧ Rows.verifyPacksSpec.post enc Tryz.prog Tryz.f4 false true false false W args v W' := by
  have hW' := hW
  obtain ⟨p, q, hA0, hV, rfl, hfz, hnd⟩ := hW
  have hA : DataW.TrodAll enc Tryz.prog W 0 (fun _ => true) true Tryz.f4.params.toList args.toList ds p := hA0
  rw [Tryz.params4] at hA hval hsz
  obtain ⟨v0, vs0, d0, ds0, p0, q0, hargs, rfl, rfl, h0, r0⟩ := trodAll_cons hA
  obtain ⟨rfl, rfl, rfl⟩ := trodAll_nil r0
  obtain rfl : args = #[v0] := by cases args; simp_all
  obtain ⟨rfl, rfl⟩ := trodVars_none hV
  have k0 := h0
  have lt0 : ∀ x ∈ p0, x.block < W.heap.size := by obtain ⟨m, hm⟩ := k0; exact DataW.trod_lt m _ _ _ hm
  obtain ⟨x, IA, ic, TA, tc, KA, kc, rfl, hP, hre, hty, hby⟩ := open_pack (hval 0 75 v0 rfl rfl) h0 (fun n hn => by
    have := List.all_eq_true.1 hsz n (DataW.weights_mem_each (j := 0) rfl rfl n hn)
    simpa using this)
  clear hA0 hsz
  refine (packs20_any x IA TA KA ic tc kc W hP hre hty hby (tab10_of hL)).mono fun e W' ⟨he, bel⟩ => ?_
  subst he
  exact ⟨_, rfl, _, _, _, [], _, [], hW', trodAll_mk1 (shut_bool Tryz.underlying4 _), (trodAll_cons_mk (Below.trod laidOut_ (by kernel_rfl) (of_decide_eq_true (by kernel_rfl)) k0 bel lt0) trodAll_mk0), rfl, bel.frame _, fun h => by cases h⟩
theorem packsLaid_met (os : Os) : laidMet Tryz.prog Rows.verifyPacksRow.laid ((laidWorld os).forCall (fun _ _ => 0) ⟨#[], #[.agg #[.int .i64 0, .slice none 0 0, .slice none 0 0, .slice none 0 0]], []⟩).memory :=
  laidMet_of_run' 8 (by kernel_rfl) (by kernel_rfl)
theorem packsReads (os : Os) {H : Type} (enc : TypeId × Value → H) : ∃ places, DataW.whole enc Tryz.prog ((laidWorld os).forCall (fun _ _ => 0) ⟨#[], #[.agg #[.int .i64 0, .slice none 0 0, .slice none 0 0, .slice none 0 0]], []⟩).memory Tryz.f4.params.toList Rows.verifyPacksSpec.vars false #[Value.agg #[.int .i64 0, .slice none 0 0, .slice none 0 0, .slice none 0 0]].toList 8 = some ([.agg [.lit (.int .i64 0), .nil, .nil, .nil]], [], places) :=
  ⟨[], by kernel_rfl⟩
set_option maxRecDepth 100000 in
theorem packsLifted (os : Os) (started : os.Started) (H : Type) (enc : TypeId × Value → H) (F : Stop.Interp) :
    ReturnsInHanded {} Tryz.checked os 4 .any ((OpenSpec.ofChange Rows.verifyPacksSpec).preRow enc Tryz.prog Tryz.f4 Rows.verifyPacksRow.domain false Rows.verifyPacksRow.laid) (((OpenSpec.ofChange Rows.verifyPacksSpec).at F).post enc Tryz.prog Tryz.f4 false true false false) := by
  obtain ⟨places, hx⟩ := packsReads os enc
  refine returnsInHanded_of_row (C := Tryz.checked) (s := OpenSpec.ofChange Rows.verifyPacksSpec) own_ started (by kernel_rfl) Tryz.func4
    (witness_row_at (enc := enc) (C := Tryz.checked) false (laidWorld os) #[.agg #[.int .i64 0, .slice none 0 0, .slice none 0 0, .slice none 0 0]] rfl (by kernel_rfl) (by kernel_rfl) (by kernel_rfl)
      (OpenSpec.preRow_of_cond 8 hx (by kernel_rfl) (fun k hk => by cases hk) (by kernel_rfl) (packsLaid_met os))) ?_
  intro W base args ds gs before hval hW _ _ hsz hL _ _
  exact packsContract H enc W base args ds gs before hval hsz hL hW
theorem packsSaid : Rows.VerifyPacksSaid :=
  OpenClaim.holds_of_cond 4 Tryz.f4 rfl rfl rfl rfl rfl rfl rfl ⟨rfl, rfl, rfl, rfl, rfl⟩ rfl rfl rfl rfl rfl (by kernel_rfl) Tryz.func4 (by kernel_rfl)
    (of_decide_eq_true (by kernel_rfl)) (by unfold Func.isWrapper; first | (rw [if_pos (by decide +kernel)]; kernel_rfl) | (rw [if_neg (by decide +kernel)]; exact ⟨rfl, rfl⟩))
    (fun os started H enc _ F => by rw [OpenClaim.pre_eq_preRow]; exact packsLifted os started H enc F)
theorem packsPlain (f : FuncId) (fn : Func) (hf : Tryz.pinned.checked.prog.funcNamed "tableau/tableaulaw20.VerifyPacks" = some f) (hfn : Tryz.pinned.checked.prog.funcs[f]? = some fn) :
    false = Tryz.pinned.checked.prog.looks [] ∧ ∀ (j : Nat) t, fn.params[j]? = some t → Tryz.pinned.checked.prog.wantsStandIn t = false := by
  obtain rfl : f = 4 := Option.some.inj ((show Tryz.prog.funcNamed "tableau/tableaulaw20.VerifyPacks" = some 4 by kernel_rfl).symm.trans hf) |>.symm
  obtain rfl : fn = Tryz.f4 := (Option.some.inj (Tryz.func4.symm.trans hfn)).symm
  refine ⟨by kernel_rfl, fun j t ht => ?_⟩
  rw [Tryz.params4] at ht
  obtain rfl : t = 75 := by simpa using Array.mem_of_getElem? ht
  exact (show Tryz.prog.wantsStandIn 75 = false by kernel_rfl)
/-- The law VerifyPacks holds: the card, its listed variables tied to the program's text. -/
theorem verifyPacks_card : Rows.VerifyPacksCardSaid :=
  Claim7.holds_tied_plain_at .later [] _ _ _ _ packsSaid (fun _ h => by cases h) (by kernel_rfl) (fun _ h => by cases h) verifyPacks_row_tie rfl ⟨rfl, rfl⟩ (by kernel_rfl) rfl packsPlain (by kernel_rfl)
#print axioms verifyPacks_card
end Go.Proofs.YtabpheanbomibaaGreatDoor
