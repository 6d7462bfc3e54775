/- The arguments of a law: an ability, opened as the form reads it. The arguments of a law: a job (an ability and pools), a list of numbers. The law EmitSame holds: at every input it returns true and leaves its arguments as they were. No condition. -/
import Derived.Test.YtggibiodeecljaaMRows
import Derived.SizedLaws
import Derived.Deep.Slices
import Derived.Lib.SmallJoins
import Derived.OpenShut
import Derived.ChangeSlices
import Derived.Test.YtggibiodeecljaaMEmit7
import Derived.SliceStrings
import Derived.ShutString
import Derived.Test.YtggibiodeecljaaEmitEq
import Derived.Test.YtggibiodeecljaaRows
import Derived.WalkKit
import Derived.ProofKit
import Derived.ChangeOld
import Derived.Below
namespace Go.Proofs.Ytggibiodeecljaa
open Go.ChangeShapes Go.WideShapes Go.ChangeAt Go.RowKit Go.Joins Go.Deep
set_option linter.unusedVariables false

theorem cells_i8 : Try.prog.cellsOf 40 = 1 := by kernel_rfl
theorem bytes_i8 : Try.prog.bytesOf 40 = 1 := by kernel_rfl
theorem cells_node : Try.prog.cellsOf 42 = 7 := by kernel_rfl
theorem bytes_node : Try.prog.bytesOf 42 = 56 := by kernel_rfl
theorem cells_able : Try.prog.cellsOf 25 = 4 := by kernel_rfl
theorem one_able : ∀ fs, Try.prog.underlying 25 = some (.struct fs) → oneCellFields Try.prog fs = true := by
  intro fs h
  rw [Try.underlying25] at h
  injection h with h
  injection h with h
  subst h
  kernel_rfl
theorem cells_i64 : Try.prog.cellsOf 2 = 1 := by kernel_rfl
theorem cells_int : Try.prog.cellsOf 3 = 1 := by kernel_rfl
theorem cells_str : Try.prog.cellsOf 9 = 1 := by kernel_rfl

section
variable {H : Type} {enc : TypeId × Value → H} {W : World} {sp : Nat → Bool} {fuel : Nat} {v : Value} {y : DataW H × List MemPlace}

theorem weightsAll_in {P : Program} {e : TypeId} : ∀ {l : List (DataW H)} {d : DataW H}, d ∈ l → ∀ n ∈ d.weights P e, n ∈ DataW.weightsAll P e l
  | d' :: r, d, hd, n, hn => by
    simp only [DataW.weightsAll, List.mem_append]
    rcases List.mem_cons.1 hd with rfl | h
    · exact Or.inl hn
    · exact Or.inr (weightsAll_in h n hn)

theorem cell_lt {a : Addr} {u : Value} (h : W.cell? a = some u) : a.block < W.heap.size :=
  World.cells?_block (cells?_one (base := 0) (Nat.zero_le _) h) (by decide)

theorem open_smalls (hf : DataW.trod enc Try.prog W 0 sp true fuel 22 [v] = some y) (hr : ∀ n ∈ y.1.weights Try.prog 22, n ≤ reachBytes) :
    ∃ A l c, v = .slice A (l : List Int).length c ∧ SmallsAt W A l ∧ l.length ≤ reachBytes := by
  rcases open_ints Try.underlying22 Try.underlying40 cells_i8 hf with ⟨hcs, hx⟩ | ⟨a, len, cap, zs, hcs, hb, hl, hm, hz, hx, hcell, hwz⟩
  · simp only [List.cons.injEq, and_true] at hcs
    subst hcs
    exact ⟨none, [], 0, rfl, fun k x hk => by simp at hk, by simp⟩
  · simp only [List.cons.injEq, and_true] at hcs
    subst hcs
    have hzl : len ≤ zs.length := by rw [hz]; split <;> omega
    have hlen : (zs.take len).length = len := by rw [List.length_take]; omega
    refine ⟨some a, zs.take len, cap, by rw [hlen], ?_, ?_⟩
    · intro k x hk
      rw [List.getElem?_take] at hk
      split at hk
      · rename_i hkl
        obtain ⟨b, off, rfl, hc⟩ := ints_at hcell (by omega)
        have h1 := hc k (by omega)
        rw [List.getD_eq_getElem?_getD, hk] at h1
        exact ⟨b, off, rfl, cell_lt h1, h1⟩
      · cases hk
    · have h1 := hr ((List.take len zs).length * 1 + (zs.drop len).length * 1) (by
        subst hx
        simp [DataW.weights, Try.underlying22, bytes_i8, lits])
      omega

theorem drop_take_one {cs : List Value} {k : Nat} {u : Value} (h : (cs.drop k).take 1 = [u]) : cs[k]? = some u := by
  have := congrArg (fun l => l[0]?) h
  simpa [List.getElem?_take, List.getElem?_drop] using this

instance : Inhabited Node := ⟨node0⟩

set_option maxRecDepth 100000 in
theorem open_node {cs : List Value} (hf : DataW.trod enc Try.prog W 0 sp true fuel 42 cs = some y) (hr : ∀ n ∈ y.1.weights Try.prog 42, n ≤ reachBytes) :
    ∃ x : Node, cs = x.cells ∧ x.text.size ≤ reachBytes := by
  obtain ⟨xs, n, _, rfl, hl, hlen, hfs⟩ := DataW.trod_struct Try.underlying42 hf
  have f0 : DataW.trod enc Try.prog W 0 sp true n 40 ((cs.drop 0).take (Try.prog.cellsOf 40)) = xs[0]? := hfs 0 _ rfl
  rw [cells_i8] at f0
  have f1 : DataW.trod enc Try.prog W 0 sp true n 40 ((cs.drop 1).take (Try.prog.cellsOf 40)) = xs[1]? := hfs 1 _ rfl
  rw [cells_i8] at f1
  have f2 : DataW.trod enc Try.prog W 0 sp true n 2 ((cs.drop 2).take (Try.prog.cellsOf 2)) = xs[2]? := hfs 2 _ rfl
  rw [cells_i64] at f2
  have f3 : DataW.trod enc Try.prog W 0 sp true n 2 ((cs.drop 3).take (Try.prog.cellsOf 2)) = xs[3]? := hfs 3 _ rfl
  rw [cells_i64] at f3
  have f4 : DataW.trod enc Try.prog W 0 sp true n 9 ((cs.drop 4).take (Try.prog.cellsOf 9)) = xs[4]? := hfs 4 _ rfl
  rw [cells_str] at f4
  have f5 : DataW.trod enc Try.prog W 0 sp true n 3 ((cs.drop 5).take (Try.prog.cellsOf 3)) = xs[5]? := hfs 5 _ rfl
  rw [cells_int] at f5
  have f6 : DataW.trod enc Try.prog W 0 sp true n 3 ((cs.drop 6).take (Try.prog.cellsOf 3)) = xs[6]? := hfs 6 _ rfl
  rw [cells_int] at f6
  have hlen7 : xs.length = 7 := hlen
  rw [List.getElem?_eq_getElem (by omega)] at f0 f1 f2 f3 f4 f5 f6
  obtain ⟨a0, e0, d0, w0⟩ := DataW.trod_int Try.underlying40 f0
  obtain ⟨a1, e1, d1, w1⟩ := DataW.trod_int Try.underlying40 f1
  obtain ⟨a2, e2, d2, w2⟩ := DataW.trod_int Try.underlying2 f2
  obtain ⟨a3, e3, d3, w3⟩ := DataW.trod_int Try.underlying2 f3
  obtain ⟨a4, e4, d4, w4⟩ := DataW.trod_string Try.underlying9 f4
  obtain ⟨a5, e5, d5, w5⟩ := DataW.trod_int Try.underlying3 f5
  obtain ⟨a6, e6, d6, w6⟩ := DataW.trod_int Try.underlying3 f6
  have hcs : cs.length = 7 := by rw [hl, cells_node]
  refine ⟨⟨a0, a1, a2, a3, a4, a5, a6⟩, ?_, ?_⟩
  · apply List.ext_getElem?
    intro k
    have g0 := drop_take_one e0
    have g1 := drop_take_one e1
    have g2 := drop_take_one e2
    have g3 := drop_take_one e3
    have g4 := drop_take_one e4
    have g5 := drop_take_one e5
    have g6 := drop_take_one e6
    by_cases hk : k < 7
    · have : k = 0 ∨ k = 1 ∨ k = 2 ∨ k = 3 ∨ k = 4 ∨ k = 5 ∨ k = 6 := by omega
      rcases this with rfl | rfl | rfl | rfl | rfl | rfl | rfl
      · rw [g0]; rfl
      · rw [g1]; rfl
      · rw [g2]; rfl
      · rw [g3]; rfl
      · rw [g4]; rfl
      · rw [g5]; rfl
      · rw [g6]; rfl
    · rw [List.getElem?_eq_none (by omega), List.getElem?_eq_none (by show 7 ≤ k; omega)]
  · have h1 := hr a4.data.toList.length (by
      show _ ∈ (DataW.agg (xs.map (·.1))).weights _ _
      rw [DataW.weights, Try.underlying42]
      refine DataW.weights_mem_each (j := 4) (t := 9) (d := .lit (.string a4.data.toList)) rfl ?_ _ (by simp [DataW.weights])
      rw [List.getElem?_map, List.getElem?_eq_getElem (by omega), Option.map_some, d4])
    rw [Array.length_toList] at h1
    exact h1

theorem open_nodes (hf : DataW.trod enc Try.prog W 0 sp true fuel 23 [v] = some y) (hr : ∀ n ∈ y.1.weights Try.prog 23, n ≤ reachBytes) :
    ∃ A ts c, v = .slice A (ts : List Node).length c ∧ TreeAt W A ts ∧ ts.length ≤ reachBytes ∧ ∀ x ∈ ts, x.text.size ≤ reachBytes := by
  rcases open_slice Try.underlying23 hf with ⟨hcs, hx⟩ | ⟨a, len, cap, m, n, D, Pl, hcs, hb, hl, hm, hmm, hx, hel⟩
  · simp only [List.cons.injEq, and_true] at hcs
    subst hcs
    exact ⟨none, [], 0, rfl, .inl rfl, by simp, fun x hx => by simp at hx⟩
  · simp only [List.cons.injEq, and_true] at hcs
    subst hcs
    have hlm : len ≤ m := by rw [hmm]; split <;> omega
    rw [cells_node] at hel
    have hw : (((List.range len).map D).length + ((List.range (m - len)).map fun j => D (len + j)).length) * 56 ≤ reachBytes ∧ ∀ i, i < len → ∀ k ∈ (D i).weights Try.prog 42, k ≤ reachBytes := by
      subst hx
      simp only [DataW.weights, Try.underlying23, bytes_node] at hr
      refine ⟨hr _ (List.mem_cons_self ..), fun i hi k hk => hr k (List.mem_cons_of_mem _ (List.mem_append_left _ (weightsAll_in (List.mem_map.2 ⟨i, List.mem_range.2 hi, rfl⟩) k hk)))⟩
    have hlr : len ≤ reachBytes := by
      have := hw.1
      simp only [List.length_map, List.length_range] at this
      omega
    obtain ⟨X, hX⟩ := choose_lt (n := len) (p := fun i (x : Node) => x.text.size ≤ reachBytes ∧ ∀ j u, x.cells[j]? = some u → W.cell? (a.add (i * 7 + j)) = some u) (fun i hi => by
      obtain ⟨cs', h1, h2⟩ := hel i (by omega)
      obtain ⟨x, hx1, hx2⟩ := open_node h2 (hw.2 i hi)
      obtain ⟨_, hcl, hcc⟩ := World.cells?_some h1
      refine ⟨x, hx2, fun j u hj => ?_⟩
      have hj7 : j < 7 := by
        have := (List.getElem?_eq_some_iff.1 hj).1
        simpa [Node.cells] using this
      have := hcc j hj7
      rw [add_add] at this
      rw [this, hx1]
      exact hj)
    refine ⟨some a, (List.range len).map X, cap, by simp, ?_, by simpa using hlr, ?_⟩
    · rcases Nat.eq_zero_or_pos len with h0 | h0
      · exact .inl (by rw [h0]; rfl)
      · have hfirst := (hX 0 h0).2 0 _ rfl
        obtain ⟨b, off, spot⟩ := a
        have hspot : spot = none := by simpa [Addr.add] using World.cell?_spot hfirst
        subst hspot
        refine .inr ⟨b, off, rfl, cell_lt hfirst, fun i x hx j u hj => ?_⟩
        rw [List.getElem?_map, Option.map_eq_some_iff] at hx
        obtain ⟨i', hi', rfl⟩ := hx
        obtain ⟨hi1, hi2⟩ := List.getElem?_eq_some_iff.1 hi'
        simp only [List.length_range] at hi1
        rw [List.getElem_range] at hi2
        subst hi2
        have := (hX i hi1).2 j u hj
        rw [add_plain] at this
        rw [← this, Nat.add_assoc]
    · intro x hx
      obtain ⟨i, hi, rfl⟩ := List.mem_map.1 hx
      exact (hX i (List.mem_range.1 hi)).1
end
end Go.Proofs.Ytggibiodeecljaa
namespace Go.Proofs.Ytggibiodeecljaa
open Go.ChangeShapes Go.WideShapes Go.ChangeAt Go.RowKit Go.Joins Go.Deep
set_option linter.unusedVariables false

theorem bytes_i64 : Try.prog.bytesOf 2 = 8 := by kernel_rfl
theorem bytes_str : Try.prog.bytesOf 9 = 16 := by kernel_rfl
theorem cells_job : Try.prog.cellsOf 29 = 6 := by kernel_rfl
theorem cells_sl8 : Try.prog.cellsOf 22 = 1 := by kernel_rfl
theorem cells_bool : Try.prog.cellsOf 4 = 1 := by kernel_rfl
theorem cells_sln : Try.prog.cellsOf 23 = 1 := by kernel_rfl
theorem cells_sll : Try.prog.cellsOf 26 = 1 := by kernel_rfl
theorem cells_sls : Try.prog.cellsOf 27 = 1 := by kernel_rfl

section
variable {H : Type} {enc : TypeId × Value → H} {W : World} {sp : Nat → Bool} {fuel : Nat} {v : Value} {y : DataW H × List MemPlace}
theorem open_longs (hf : DataW.trod enc Try.prog W 0 sp true fuel 26 [v] = some y) (hr : ∀ n ∈ y.1.weights Try.prog 26, n ≤ reachBytes) :
    ∃ A l c, v = .slice A (l : List Int).length c ∧ IntsAt W A l ∧ l.length ≤ reachBytes := by
  rcases open_ints Try.underlying26 Try.underlying2 cells_i64 hf with ⟨hcs, hx⟩ | ⟨a, len, cap, zs, hcs, hb, hl, hm, hz, hx, hcell, hwz⟩
  · simp only [List.cons.injEq, and_true] at hcs
    subst hcs
    exact ⟨none, [], 0, rfl, fun k x hk => by simp at hk, by simp⟩
  · simp only [List.cons.injEq, and_true] at hcs
    subst hcs
    have hzl : len ≤ zs.length := by rw [hz]; split <;> omega
    have hlen : (zs.take len).length = len := by rw [List.length_take]; omega
    refine ⟨some a, zs.take len, cap, by rw [hlen], ?_, ?_⟩
    · intro k x hk
      rw [List.getElem?_take] at hk
      split at hk
      · rename_i hkl
        obtain ⟨b, off, rfl, hc⟩ := ints_at hcell (by omega)
        have h1 := hc k (by omega)
        rw [List.getD_eq_getElem?_getD, hk] at h1
        exact ⟨b, off, rfl, cell_lt h1, h1⟩
      · cases hk
    · have h1 := hr ((List.take len zs).length * 8 + (zs.drop len).length * 8) (by
        subst hx
        simp [DataW.weights, Try.underlying26, bytes_i64, lits]
        try omega)
      omega
theorem strs_weights {l : List ByteArray} {s : ByteArray} (h : s ∈ l) : s.size ∈ DataW.weightsAll (H := H) Try.prog 9 (strs l) := by
  refine weightsAll_in (d := .lit (.string s.data.toList)) ?_ _ (by simp [DataW.weights])
  unfold strs
  exact List.mem_map.2 ⟨s, h, rfl⟩
theorem open_texts (hf : DataW.trod enc Try.prog W 0 sp true fuel 27 [v] = some y) (hr : ∀ n ∈ y.1.weights Try.prog 27, n ≤ reachBytes) :
    ∃ A l c, v = .slice A (l : List ByteArray).length c ∧ TextsAt W A l ∧ l.length ≤ reachBytes ∧ ∀ s ∈ l, s.size ≤ reachBytes := by
  rcases open_strings Try.underlying27 Try.underlying9 cells_str hf with ⟨hcs, hx⟩ | ⟨a, len, cap, zs, hcs, hb, hl, hm, hz, hx, hcell, hwz⟩
  · simp only [List.cons.injEq, and_true] at hcs
    subst hcs
    exact ⟨none, [], 0, rfl, fun k x hk => by simp at hk, by simp, fun s hs => by simp at hs⟩
  · simp only [List.cons.injEq, and_true] at hcs
    subst hcs
    have hzl : len ≤ zs.length := by rw [hz]; split <;> omega
    have hlen : (zs.take len).length = len := by rw [List.length_take]; omega
    refine ⟨some a, zs.take len, cap, by rw [hlen], ?_, ?_, ?_⟩
    · intro k x hk
      rw [List.getElem?_take] at hk
      split at hk
      · rename_i hkl
        have h1 := hcell k (by omega)
        rw [List.getD_eq_getElem?_getD, hk] at h1
        obtain ⟨b, off, spot⟩ := a
        have hfirst := hcell 0 (by omega)
        have hspot : spot = none := by simpa [Addr.add] using World.cell?_spot hfirst
        subst hspot
        rw [add_plain] at h1
        exact ⟨b, off, rfl, cell_lt h1, h1⟩
      · cases hk
    · have h1 := hr ((List.take len zs).length * 16 + (zs.drop len).length * 16) (by
        subst hx
        simp [DataW.weights, Try.underlying27, bytes_str, strs]
        try omega)
      omega
    · intro s hs
      refine hr _ ?_
      subst hx
      simp only [DataW.weights, Try.underlying27]
      exact List.mem_cons_of_mem _ (List.mem_append_left _ (strs_weights hs))

set_option maxRecDepth 100000 in
theorem open_ableC {cs : List Value} (hf : DataW.trod enc Try.prog W 0 sp true fuel 25 cs = some y) (hr : ∀ n ∈ y.1.weights Try.prog 25, n ≤ reachBytes) :
    ∃ on SA slots sc wh TA ts tc, cs = [.int .i64 on, .slice SA (slots : List Int).length sc, .bool wh, .slice TA (ts : List Node).length tc] ∧ SmallsAt W SA slots ∧ TreeAt W TA ts ∧ slots.length ≤ reachBytes ∧ ts.length ≤ reachBytes ∧ ∀ x ∈ ts, x.text.size ≤ reachBytes := by
  obtain ⟨xs, n, _, rfl, hl, hlen, hfs⟩ := DataW.trod_struct Try.underlying25 hf
  have hl4 : cs.length = 4 := by rw [hl, cells_able]
  have hlen4 : xs.length = 4 := hlen
  match cs, hl4 with
  | [c0, c1, c2, c3], _ =>
  match xs, hlen4 with
  | [x0, x1, x2, x3], _ =>
  have f0 : DataW.trod enc Try.prog W 0 sp true n 3 (([c0, c1, c2, c3].drop 0).take (Try.prog.cellsOf 3)) = some x0 := hfs 0 _ rfl
  rw [cells_int] at f0
  have f1 : DataW.trod enc Try.prog W 0 sp true n 22 (([c0, c1, c2, c3].drop 1).take (Try.prog.cellsOf 22)) = some x1 := hfs 1 _ rfl
  rw [cells_sl8] at f1
  have f2 : DataW.trod enc Try.prog W 0 sp true n 4 (([c0, c1, c2, c3].drop 2).take (Try.prog.cellsOf 4)) = some x2 := hfs 2 _ rfl
  rw [cells_bool] at f2
  have f3 : DataW.trod enc Try.prog W 0 sp true n 23 (([c0, c1, c2, c3].drop 3).take (Try.prog.cellsOf 23)) = some x3 := hfs 3 _ rfl
  rw [cells_sln] at f3
  simp only [DataW.weights, Try.underlying25, DataW.weightsEach, List.mem_append, List.map_cons, List.map_nil] at hr
  obtain ⟨on, e0, d0, w0⟩ := DataW.trod_int Try.underlying3 f0
  obtain ⟨SA, slots, sc, e1, hS, l1⟩ := open_smalls f1 (fun n hn => hr n (.inr (.inl hn)))
  obtain ⟨wh, e2, d2⟩ := DataW.trod_bool Try.underlying4 f2
  obtain ⟨TA, ts, tc, e3, hT, l3, l4⟩ := open_nodes f3 (fun n hn => hr n (.inr (.inr (.inr (.inl hn)))))
  simp only [List.drop_zero, List.drop_succ_cons, List.take_succ_cons, List.take_zero, List.cons.injEq, and_true] at e0 e2
  subst e0 e1 e2 e3
  exact ⟨on, SA, slots, sc, wh, TA, ts, tc, rfl, hS, hT, l1, l3, l4⟩
set_option maxRecDepth 100000 in
theorem open_job {base : Nat} {d : DataW H} {p : List MemPlace} (hv : Value.okWide Try.prog W .any base 29 v) (h : DataW.Trod enc Try.prog W 0 (fun _ => true) true 29 v d p)
    (hr : ∀ n ∈ d.weights Try.prog 29, n ≤ reachBytes) :
    ∃ on SA slots sc wh TA ts tc IA ints ic XA texts xc, v = .agg #[.int .i64 on, .slice SA (slots : List Int).length sc, .bool wh, .slice TA (ts : List Node).length tc, .slice IA (ints : List Int).length ic, .slice XA (texts : List ByteArray).length xc] ∧ SmallsAt W SA slots ∧ TreeAt W TA ts ∧ IntsAt W IA ints ∧ TextsAt W XA texts ∧
      slots.length ≤ reachBytes ∧ ts.length ≤ reachBytes ∧ ints.length ≤ reachBytes ∧ texts.length ≤ reachBytes ∧ (∀ x ∈ ts, x.text.size ≤ reachBytes) ∧ ∀ x ∈ texts, x.size ≤ reachBytes := by
  obtain ⟨cs, rfl, hsz⟩ := okWide_struct Try.underlying29 hv
  obtain ⟨fuel, hf⟩ := h
  rw [cells_job] at hsz
  obtain ⟨xs, n, _, hd, hl, hlen, hfs⟩ := DataW.trod_struct Try.underlying29 hf
  injection hd with hd hp
  subst hd
  have hlen3 : xs.length = 3 := hlen
  match xs, hlen3 with
  | [x0, x1, x2], _ =>
  obtain ⟨l⟩ := cs
  have hl6 : l.length = 6 := hsz
  match l, hl6 with
  | [c0, c1, c2, c3, c4, c5], _ =>
  have f0 : DataW.trod enc Try.prog W 0 (fun _ => true) true n 25 (([c0, c1, c2, c3, c4, c5].drop 0).take (Try.prog.cellsOf 25)) = some x0 := hfs 0 _ rfl
  rw [cells_able] at f0
  have f1 : DataW.trod enc Try.prog W 0 (fun _ => true) true n 26 (([c0, c1, c2, c3, c4, c5].drop 4).take (Try.prog.cellsOf 26)) = some x1 := hfs 1 _ rfl
  rw [cells_sll] at f1
  have f2 : DataW.trod enc Try.prog W 0 (fun _ => true) true n 27 (([c0, c1, c2, c3, c4, c5].drop 5).take (Try.prog.cellsOf 27)) = some x2 := hfs 2 _ rfl
  rw [cells_sls] at f2
  simp only [DataW.weights, Try.underlying29, DataW.weightsEach, List.mem_append, List.map_cons, List.map_nil] at hr
  obtain ⟨on, SA, slots, sc, wh, TA, ts, tc, e0, hS, hT, l1, l2, l3⟩ := open_ableC f0 (fun n hn => hr n (.inl hn))
  obtain ⟨IA, ints, ic, e1, hI, l4⟩ := open_longs f1 (fun n hn => hr n (.inr (.inl hn)))
  obtain ⟨XA, texts, xc, e2, hX, l5, l6⟩ := open_texts f2 (fun n hn => hr n (.inr (.inr (.inl hn))))
  simp only [List.drop_zero, List.take_succ_cons, List.take_zero, List.cons.injEq, and_true] at e0
  obtain ⟨rfl, rfl, rfl, rfl⟩ := e0
  subst e1 e2
  exact ⟨on, SA, slots, sc, wh, TA, ts, tc, IA, ints, ic, XA, texts, xc, rfl, hS, hT, hI, hX, l1, l2, l4, l5, l3, l6⟩
end
end Go.Proofs.Ytggibiodeecljaa
namespace Go.Proofs.Ytggibiodeecljaa
open Go.ChangeShapes Go.WideShapes Go.ChangeAt Go.RowKit Go.Joins
set_option linter.unusedVariables false

theorem own_ : ownKnob Try.prog.godebug = none := by kernel_rfl
theorem laidOut_ : laidOutB Try.prog = true := by kernel_rfl

set_option maxRecDepth 100000 in
theorem sameLifted (os : Os) (started : os.Started) (H : Type) (enc : TypeId × Value → H) :
    ReturnsInHanded {} Try.checked os 3 .any (Rows.emitSameSpec.pre6 enc Try.prog Try.f3 Rows.emitSameRow.domain false) (Rows.emitSameSpec.post enc Try.prog Try.f3 false true false false) := by
  refine returnsInHanded_of_change_sized (C := Try.checked) own_ started (by kernel_rfl) Try.func3
    (ChangeSpec.witness6 (enc := enc) (C := Try.checked) false ⟨#[], #[.agg #[.int .i64 0, .slice none 0 0, .bool false, .slice none 0 0, .slice none 0 0, .slice none 0 0], .slice none 0 0], []⟩ 8 (by kernel_rfl) (by kernel_rfl) (by kernel_rfl) (by kernel_rfl)) ?_
  intro W base args ds gs before hval0 hW hcnd hsz0 _
  have hval : ∀ (j : Nat) t v, Try.f3.params[j]? = some t → args[j]? = some v → Value.okWide Try.prog W .any base t v := hval0
  have hsz : (DataW.weightsEach Try.prog (Try.f3.params.toList ++ Rows.emitSameSpec.plain.varTypes Try.prog) (ds ++ gs)).all (· ≤ reachBytes) = true := hsz0
  have hW' := hW
  obtain ⟨p, q, hA0, hV, rfl, hfz, hnd⟩ := hW
  have hA : DataW.TrodAll enc Try.prog W 0 (fun _ => true) true Try.f3.params.toList args.toList ds p := hA0
  rw [Try.params3] at hA hval hsz
  obtain ⟨v0, vs0, d0, ds0, p0, q0, hargs, rfl, rfl, h0, r0⟩ := trodAll_cons hA
  obtain ⟨v1, vs1, d1, ds1, p1, q1, rfl, rfl, rfl, h1, r1⟩ := trodAll_cons r0
  obtain ⟨rfl, rfl, rfl⟩ := trodAll_nil r1
  obtain rfl : args = #[v0, v1] := by cases args; simp_all
  obtain ⟨rfl, rfl⟩ := trodVars_none hV
  have k0 := h0
  have lt0 : ∀ x ∈ p0, x.block < W.heap.size := by obtain ⟨m, hm⟩ := k0; exact DataW.trod_lt m _ _ _ hm
  have k1 := h1
  have lt1 : ∀ x ∈ p1, x.block < W.heap.size := by obtain ⟨m, hm⟩ := k1; exact DataW.trod_lt m _ _ _ hm
  obtain ⟨on, SA, slots, sc, wh, TA, ts, tc, IA, ints, ic, XA, texts, xc, rfl, hS, hT, hI, hX, l1, l2, l3, l4, l5, l6⟩ := open_job (hval 0 29 v0 rfl rfl) h0 (fun n hn => by
    have := List.all_eq_true.1 hsz n (DataW.weights_mem_each (j := 0) rfl rfl n hn)
    simpa using this)
  obtain ⟨m1, hm1⟩ := h1
  have hval1 := hval 1 26 v1 rfl rfl
  have hcell1 : v1.cells.toList = [v1] := by
    obtain ⟨a, n, c, rfl⟩ := okWide_slice Try.underlying26 hval1
    rfl
  rw [hcell1] at hm1
  obtain ⟨MA, more, mc, rfl, hM, l7⟩ := open_longs hm1 (fun n hn => by
    have := List.all_eq_true.1 hsz n (DataW.weights_mem_each (j := 1) rfl rfl n hn)
    simpa using this)
  clear hA0 hval0 hsz hsz0
  have hR : reachBytes = 140737488351232 := rfl
  refine (same_any on SA TA slots sc tc wh ts IA XA ints texts ic xc MA more mc W (by omega) (by omega) (by omega) (by omega) (by omega) hT hS hI hX hM (fun x hx => by have := l5 x hx; omega) (fun x hx => by have := l6 x hx; omega)).mono fun e W' ⟨he, bel⟩ => ?_
  subst he
  exact ⟨_, rfl, _, _, _, [], _, [], hW', trodAll_mk1 (shut_bool Try.underlying4 _), (trodAll_cons_mk (Below.trod laidOut_ (by kernel_rfl) (of_decide_eq_true (by kernel_rfl)) k0 bel lt0) (trodAll_cons_mk (Below.trod laidOut_ (by kernel_rfl) (of_decide_eq_true (by kernel_rfl)) k1 bel lt1) trodAll_mk0)), rfl, bel.frame _, fun h => by cases h⟩

/-- The law EmitSame holds. -/
theorem emitSame_holds : Rows.EmitSameSaid :=
  OpenClaim.holds_of_wide 3 Try.f3 rfl rfl rfl rfl rfl rfl rfl ⟨rfl, rfl, rfl, rfl, rfl⟩ rfl rfl rfl rfl rfl (by kernel_rfl) Try.func3 (by kernel_rfl)
    (of_decide_eq_true (by kernel_rfl)) (by unfold Func.isWrapper; first | (rw [if_pos (by decide +kernel)]; kernel_rfl) | (rw [if_neg (by decide +kernel)]; exact ⟨rfl, rfl⟩))
    (fun os started H enc _ => sameLifted os started H enc)
#print axioms emitSame_holds
end Go.Proofs.Ytggibiodeecljaa
