/- tableauref13.Able of every ability. The arguments of a law: an ability, opened as the form reads it, its numbers in their range. -/
import Derived.Test.YtggibiodeecljaaMAblA
import Derived.Test.YtggibiodeecljaaMAblB
import Derived.Test.YtggibiodeecljaaMStmAll
import Derived.SizedLaws
import Derived.Deep.Slices
import Derived.Lib.SmallJoins
import Derived.OpenShut
import Derived.ChangeSlices
namespace Go.Proofs.Ytggibiodeecljaa
open Go.RowKit
set_option linter.unusedVariables false
theorem ret13_false {R : World → Prop} {b : Bool} (h : b = false) {e : Ending} {w : World} (hh : e = .returned (.bool false) ∧ R w) : e = .returned (.bool b) ∧ R w := by rw [h]; exact hh
theorem able13_any (on : Int) (SA TA : Option Addr) (slots : List Int) (sc tc : Nat) (when_ : Bool) (ts : List Node) (w : World) (hT : TreeAt w TA ts) (hS : SmallsAt w SA slots) (htxt : ∀ y ∈ ts, y.text.size ≤ 1099511627776) (hrng : ∀ y ∈ ts, I64 y.n ∧ I64 y.m) :
  Calls Try.prog 48 #[.agg #[.int .i64 on, .slice SA slots.length sc, .bool when_, .slice TA ts.length tc]] w fun e w' => e = .returned (.bool (checkAble on slots when_ ts)) ∧ Below w.heap.size w w' := by
 by_cases h0 : 0 ≤ on
 case neg =>
  refine (able13_early on SA TA slots.length sc ts.length tc when_ w (.inl (by omega))).mono fun e w' hh => ret13_false (R := fun w' => Below w.heap.size w w') ?_ hh
  unfold checkAble; simp [h0]
 by_cases h1 : on ≤ 4
 case neg =>
  refine (able13_early on SA TA slots.length sc ts.length tc when_ w (.inr (.inl ⟨h0, by omega⟩))).mono fun e w' hh => ret13_false (R := fun w' => Below w.heap.size w w') ?_ hh
  unfold checkAble; simp [h1]
 by_cases h2 : slots.length ≤ 32
 case neg =>
  refine (able13_early on SA TA slots.length sc ts.length tc when_ w (.inr (.inr (.inl ⟨h0, h1, by omega⟩)))).mono fun e w' hh => ret13_false (R := fun w' => Below w.heap.size w w') ?_ hh
  unfold checkAble; simp [h2]
 by_cases h3 : ts.length ≤ 2000
 case neg =>
  refine (able13_early on SA TA slots.length sc ts.length tc when_ w (.inr (.inr (.inr (.inl ⟨h0, h1, h2, by omega⟩))))).mono fun e w' hh => ret13_false (R := fun w' => Below w.heap.size w w') ?_ hh
  unfold checkAble; simp [h3]
 have hE : checkAble on slots when_ ts = (wholeB when_ ts && !(look2 when_ ts).bad && decide ((look2 when_ ts).slots = slots)) := by
  unfold checkAble; simp [h0, h1, h2, h3]
 rw [hE]
 rcases hT with hnil | ⟨tb, toff, rfl, htb, hn⟩
 ·subst hnil
  have hb : ∀ k, behind [] k = -1 := fun k => by unfold behind; simp
  have hw : wholeB when_ [] = false := by
   unfold wholeB
   rw [hb]
   simp
  rw [hw]
  exact (able13_early on SA TA slots.length sc 0 tc when_ w (.inr (.inr (.inr (.inr ⟨h0, h1, h2, rfl⟩))))).mono fun e w' hh => ret13_false (R := fun w' => Below w.heap.size w w') (by simp) hh
 by_cases hpos : 0 < ts.length
 case neg =>
  have hnil : ts = [] := List.length_eq_zero_iff.1 (by omega)
  subst hnil
  have hb : ∀ k, behind [] k = -1 := fun k => by unfold behind; simp
  have hw : wholeB when_ [] = false := by
   unfold wholeB
   rw [hb]
   simp
  rw [hw]
  exact (able13_early on SA (some ⟨tb, toff, none⟩) slots.length sc 0 tc when_ w (.inr (.inr (.inr (.inr ⟨h0, h1, h2, rfl⟩))))).mono fun e w' hh => ret13_false (R := fun w' => Below w.heap.size w w') (by simp) hh
 have hlen : ∀ (k : Nat) (s : LSt), k < ts.length → 0 ≤ behind ts k → s.slots = [3, 4] → ((sbM ts (ts.length + 1)).2 k s).slots.length ≤ 100000 := fun k s hk hb hs => by
  have h5 := behind_le hb
  have hbk : k < (behind ts k).toNat := by
   rw [behind_eq] at hb ⊢
   rcases hz : (sizes ts.length ts)[k]? with _ | _ | z <;> rw [hz] at hb <;> simp only at hb ⊢
   ·omega
   ·omega
   ·have := size_pos hz; omega
  have := (sbM_len ts (ts.length + 1)).2 k s hb hbk (by rw [hs]; simp only [List.length_cons, List.length_nil]; omega)
  omega
 cases when_ with
 | false =>
  have hwb : wholeB false ts = decide (behind ts 0 = ts.length) := by
   unfold wholeB blockOf
   simp
  rw [hwb]
  by_cases hb : behind ts 0 = ts.length
  case neg =>
   refine (able13_plain_no on SA slots slots.length sc tb toff tc ts w h0 h1 h2 rfl h3 htb hn hS htxt hrng hpos hb).mono fun e w' hh => ret13_false (R := fun w' => Below w.heap.size w w') ?_ hh
   simp [hb]
  have hl2 : look2 false ts = (sbM ts (ts.length + 1)).2 0 look0 := by
   have e1 : look1 false ts = look0 := rfl
   unfold look2
   rw [e1]
   rfl
  rw [hl2]
  cases hbad : ((sbM ts (ts.length + 1)).2 0 look0).bad with
  | true =>
   refine (able13_plain_bad on SA slots slots.length sc tb toff tc ts w h0 h1 h2 rfl h3 htb hn hS htxt hrng hpos hb hbad).mono fun e w' hh => ret13_false (R := fun w' => Below w.heap.size w w') ?_ hh
   simp
  | false =>
   have e : (decide (behind ts 0 = ts.length) && !false && decide (((sbM ts (ts.length + 1)).2 0 look0).slots = slots)) = decide (((sbM ts (ts.length + 1)).2 0 look0).slots = slots) := by simp [hb]
   rw [e]
   exact able13_plain_good on SA slots slots.length sc tb toff tc ts w h0 h1 h2 rfl h3 htb hn hS htxt hrng hpos hb hbad (hlen 0 look0 hpos (by rw [hb]; omega) rfl)
 | true =>
  by_cases hneg : behind ts 0 < 0
  ·refine (able13_when_neg on SA slots slots.length sc tb toff tc ts w h0 h1 h2 rfl h3 htb hn hS htxt hrng hpos hneg).mono fun e w' hh => ret13_false (R := fun w' => Below w.heap.size w w') ?_ hh
   have : wholeB true ts = false := by
    unfold wholeB blockOf
    have : ¬ 0 ≤ behind ts 0 := by omega
    simp [this]
   rw [this]; rfl
  obtain ⟨m, hm⟩ := Int.eq_ofNat_of_zero_le (Int.not_lt.1 hneg)
  have hbo : blockOf true ts = m := by unfold blockOf; rw [if_pos rfl]; exact hm
  have hwb : wholeB true ts = decide (behind ts m = ts.length) := by
   unfold wholeB
   rw [hbo]
   simp
  rw [hwb]
  by_cases hb : behind ts m = ts.length
  case neg =>
   by_cases hml : m < ts.length
   case neg =>
    refine (able13_when_out on SA slots slots.length sc tb toff tc ts w h0 h1 h2 rfl h3 htb hn hS htxt hrng hpos m hm (by omega)).mono fun e w' hh => ret13_false (R := fun w' => Below w.heap.size w w') ?_ hh
    simp [hb]
   refine (able13_when_no on SA slots slots.length sc tb toff tc ts w h0 h1 h2 rfl h3 htb hn hS htxt hrng hpos m hm hml hb).mono fun e w' hh => ret13_false (R := fun w' => Below w.heap.size w w') ?_ hh
   simp [hb]
  have hml : m < ts.length := by
   by_cases h : m < ts.length
   ·exact h
   ·have e : behind ts m = -1 := by unfold behind; rw [if_neg h]
    rw [e] at hb; omega
  have hl1 : look1 true ts = valueF ts 0 2 look0 := by unfold look1; rw [if_pos rfl]
  have hl2 : look2 true ts = if (valueF ts 0 2 look0).bad = true then valueF ts 0 2 look0 else (sbM ts (ts.length + 1)).2 m (valueF ts 0 2 look0) := by
   unfold look2
   rw [hl1, hbo]
   rfl
  rw [hl2]
  cases hv1 : (valueF ts 0 2 look0).bad with
  | true =>
   rw [if_pos rfl]
   refine (able13_when_bad1 on SA slots slots.length sc tb toff tc ts w h0 h1 h2 rfl h3 htb hn hS htxt hrng hpos m hm hml hb hv1).mono fun e w' hh => ret13_false (R := fun w' => Below w.heap.size w w') ?_ hh
   rw [hv1]; simp
  | false =>
   rw [if_neg (by decide)]
   cases hbad : ((sbM ts (ts.length + 1)).2 m (valueF ts 0 2 look0)).bad with
   | true =>
    refine (able13_when_bad on SA slots slots.length sc tb toff tc ts w h0 h1 h2 rfl h3 htb hn hS htxt hrng hpos m hm hml hb hv1 hbad).mono fun e w' hh => ret13_false (R := fun w' => Below w.heap.size w w') ?_ hh
    simp
   | false =>
    have e : (decide (behind ts m = ts.length) && !false && decide (((sbM ts (ts.length + 1)).2 m (valueF ts 0 2 look0)).slots = slots)) = decide (((sbM ts (ts.length + 1)).2 m (valueF ts 0 2 look0)).slots = slots) := by simp [hb]
    rw [e]
    exact able13_when_good on SA slots slots.length sc tb toff tc ts w h0 h1 h2 rfl h3 htb hn hS htxt hrng hpos m hm hml hb hv1 hbad (hlen m _ hml (by rw [hb]; omega) rfl)
end Go.Proofs.Ytggibiodeecljaa
namespace Go.Proofs.Ytggibiodeecljaa
open Go.ChangeShapes Go.WideShapes Go.ChangeAt Go.RowKit Go.Joins Go.Deep
set_option linter.unusedVariables false
theorem cells_i8 : Try.prog.cellsOf 40 = 1 := by kernel_rfl
theorem bytes_i8 : Try.prog.bytesOf 40 = 1 := by kernel_rfl
theorem cells_node : Try.prog.cellsOf 42 = 7 := by kernel_rfl
theorem bytes_node : Try.prog.bytesOf 42 = 56 := by kernel_rfl
theorem cells_able : Try.prog.cellsOf 25 = 4 := by kernel_rfl
theorem one_able : ∀ fs, Try.prog.underlying 25 = some (.struct fs) → oneCellFields Try.prog fs = true := by
 intro fs h
 rw [Try.underlying25] at h
 injection h with h
 injection h with h
 subst h
 kernel_rfl
theorem cells_i64 : Try.prog.cellsOf 2 = 1 := by kernel_rfl
theorem cells_int : Try.prog.cellsOf 3 = 1 := by kernel_rfl
theorem cells_str : Try.prog.cellsOf 9 = 1 := by kernel_rfl
section
variable {H : Type} {enc : TypeId × Value → H} {W : World} {sp : Nat → Bool} {fuel : Nat} {v : Value} {y : DataW H × List MemPlace}
theorem weightsAll_in {P : Program} {e : TypeId} : ∀ {l : List (DataW H)} {d : DataW H}, d ∈ l → ∀ n ∈ d.weights P e, n ∈ DataW.weightsAll P e l
 | d' :: r, d, hd, n, hn => by
  simp only [DataW.weightsAll, List.mem_append]
  rcases List.mem_cons.1 hd with rfl | h
  ·exact Or.inl hn
  ·exact Or.inr (weightsAll_in h n hn)
theorem cell_lt {a : Addr} {u : Value} (h : W.cell? a = some u) : a.block < W.heap.size :=
 World.cells?_block (cells?_one (base := 0) (Nat.zero_le _) h) (by decide)
theorem open_smalls (hf : DataW.trod enc Try.prog W 0 sp true fuel 22 [v] = some y) (hr : ∀ n ∈ y.1.weights Try.prog 22, n ≤ reachBytes) :
  ∃ A l c, v = .slice A (l : List Int).length c ∧ SmallsAt W A l ∧ l.length ≤ reachBytes := by
 rcases open_ints Try.underlying22 Try.underlying40 cells_i8 hf with ⟨hcs, hx⟩ | ⟨a, len, cap, zs, hcs, hb, hl, hm, hz, hx, hcell, hwz⟩
 ·simp only [List.cons.injEq, and_true] at hcs
  subst hcs
  exact ⟨none, [], 0, rfl, fun k x hk => by simp at hk, by simp⟩
 ·simp only [List.cons.injEq, and_true] at hcs
  subst hcs
  have hzl : len ≤ zs.length := by rw [hz]; split <;> omega
  have hlen : (zs.take len).length = len := by rw [List.length_take]; omega
  refine ⟨some a, zs.take len, cap, by rw [hlen], ?_, ?_⟩
  ·intro k x hk
   rw [List.getElem?_take] at hk
   split at hk
   ·rename_i hkl
    obtain ⟨b, off, rfl, hc⟩ := ints_at hcell (by omega)
    have h1 := hc k (by omega)
    rw [List.getD_eq_getElem?_getD, hk] at h1
    exact ⟨b, off, rfl, cell_lt h1, h1⟩
   ·cases hk
  ·have h1 := hr ((List.take len zs).length * 1 + (zs.drop len).length * 1) (by
    subst hx
    simp [DataW.weights, Try.underlying22, bytes_i8, lits])
   omega
theorem drop_take_one {cs : List Value} {k : Nat} {u : Value} (h : (cs.drop k).take 1 = [u]) : cs[k]? = some u := by
 have := congrArg (fun l => l[0]?) h
 simpa [List.getElem?_take, List.getElem?_drop] using this
theorem i64_wf {n : Int} (h : (Lit.int .i64 n).wf = true) : I64 n := by
 simp [Lit.wf, IntKind.min, IntKind.max, IntKind.signed, IntKind.bits] at h
 unfold I64
 omega
instance : Inhabited Node := ⟨node0⟩
set_option maxRecDepth 100000 in
theorem open_node {cs : List Value} (hf : DataW.trod enc Try.prog W 0 sp true fuel 42 cs = some y) (hr : ∀ n ∈ y.1.weights Try.prog 42, n ≤ reachBytes) :
  ∃ x : Node, cs = x.cells ∧ (x.text.size ≤ reachBytes ∧ I64 x.n ∧ I64 x.m) := by
 obtain ⟨xs, n, _, rfl, hl, hlen, hfs⟩ := DataW.trod_struct Try.underlying42 hf
 have f0 : DataW.trod enc Try.prog W 0 sp true n 40 ((cs.drop 0).take (Try.prog.cellsOf 40)) = xs[0]? := hfs 0 _ rfl
 rw [cells_i8] at f0
 have f1 : DataW.trod enc Try.prog W 0 sp true n 40 ((cs.drop 1).take (Try.prog.cellsOf 40)) = xs[1]? := hfs 1 _ rfl
 rw [cells_i8] at f1
 have f2 : DataW.trod enc Try.prog W 0 sp true n 2 ((cs.drop 2).take (Try.prog.cellsOf 2)) = xs[2]? := hfs 2 _ rfl
 rw [cells_i64] at f2
 have f3 : DataW.trod enc Try.prog W 0 sp true n 2 ((cs.drop 3).take (Try.prog.cellsOf 2)) = xs[3]? := hfs 3 _ rfl
 rw [cells_i64] at f3
 have f4 : DataW.trod enc Try.prog W 0 sp true n 9 ((cs.drop 4).take (Try.prog.cellsOf 9)) = xs[4]? := hfs 4 _ rfl
 rw [cells_str] at f4
 have f5 : DataW.trod enc Try.prog W 0 sp true n 3 ((cs.drop 5).take (Try.prog.cellsOf 3)) = xs[5]? := hfs 5 _ rfl
 rw [cells_int] at f5
 have f6 : DataW.trod enc Try.prog W 0 sp true n 3 ((cs.drop 6).take (Try.prog.cellsOf 3)) = xs[6]? := hfs 6 _ rfl
 rw [cells_int] at f6
 have hlen7 : xs.length = 7 := hlen
 rw [List.getElem?_eq_getElem (by omega)] at f0 f1 f2 f3 f4 f5 f6
 obtain ⟨a0, e0, d0, w0⟩ := DataW.trod_int Try.underlying40 f0
 obtain ⟨a1, e1, d1, w1⟩ := DataW.trod_int Try.underlying40 f1
 obtain ⟨a2, e2, d2, w2⟩ := DataW.trod_int Try.underlying2 f2
 obtain ⟨a3, e3, d3, w3⟩ := DataW.trod_int Try.underlying2 f3
 obtain ⟨a4, e4, d4, w4⟩ := DataW.trod_string Try.underlying9 f4
 obtain ⟨a5, e5, d5, w5⟩ := DataW.trod_int Try.underlying3 f5
 obtain ⟨a6, e6, d6, w6⟩ := DataW.trod_int Try.underlying3 f6
 have hcs : cs.length = 7 := by rw [hl, cells_node]
 refine ⟨⟨a0, a1, a2, a3, a4, a5, a6⟩, ?_, ?_⟩
 ·apply List.ext_getElem?
  intro k
  have g0 := drop_take_one e0
  have g1 := drop_take_one e1
  have g2 := drop_take_one e2
  have g3 := drop_take_one e3
  have g4 := drop_take_one e4
  have g5 := drop_take_one e5
  have g6 := drop_take_one e6
  by_cases hk : k < 7
  ·have : k = 0 ∨ k = 1 ∨ k = 2 ∨ k = 3 ∨ k = 4 ∨ k = 5 ∨ k = 6 := by omega
   rcases this with rfl | rfl | rfl | rfl | rfl | rfl | rfl
   ·rw [g0]; rfl
   ·rw [g1]; rfl
   ·rw [g2]; rfl
   ·rw [g3]; rfl
   ·rw [g4]; rfl
   ·rw [g5]; rfl
   ·rw [g6]; rfl
  ·rw [List.getElem?_eq_none (by omega), List.getElem?_eq_none (by show 7 ≤ k; omega)]
 ·have h1 := hr a4.data.toList.length (by
   show _ ∈ (DataW.agg (xs.map (·.1))).weights _ _
   rw [DataW.weights, Try.underlying42]
   refine DataW.weights_mem_each (j := 4) (t := 9) (d := .lit (.string a4.data.toList)) rfl ?_ _ (by simp [DataW.weights])
   rw [List.getElem?_map, List.getElem?_eq_getElem (by omega), Option.map_some, d4])
  rw [Array.length_toList] at h1
  refine ⟨h1, i64_wf w2, i64_wf w3⟩
theorem open_nodes (hf : DataW.trod enc Try.prog W 0 sp true fuel 23 [v] = some y) (hr : ∀ n ∈ y.1.weights Try.prog 23, n ≤ reachBytes) :
  ∃ A ts c, v = .slice A (ts : List Node).length c ∧ TreeAt W A ts ∧ ts.length ≤ reachBytes ∧ ∀ x ∈ ts, (x.text.size ≤ reachBytes ∧ I64 x.n ∧ I64 x.m) := by
 rcases open_slice Try.underlying23 hf with ⟨hcs, hx⟩ | ⟨a, len, cap, m, n, D, Pl, hcs, hb, hl, hm, hmm, hx, hel⟩
 ·simp only [List.cons.injEq, and_true] at hcs
  subst hcs
  exact ⟨none, [], 0, rfl, .inl rfl, by simp, fun x hx => by simp at hx⟩
 ·simp only [List.cons.injEq, and_true] at hcs
  subst hcs
  have hlm : len ≤ m := by rw [hmm]; split <;> omega
  rw [cells_node] at hel
  have hw : (((List.range len).map D).length + ((List.range (m - len)).map fun j => D (len + j)).length) * 56 ≤ reachBytes ∧ ∀ i, i < len → ∀ k ∈ (D i).weights Try.prog 42, k ≤ reachBytes := by
   subst hx
   simp only [DataW.weights, Try.underlying23, bytes_node] at hr
   refine ⟨hr _ (List.mem_cons_self ..), fun i hi k hk => hr k (List.mem_cons_of_mem _ (List.mem_append_left _ (weightsAll_in (List.mem_map.2 ⟨i, List.mem_range.2 hi, rfl⟩) k hk)))⟩
  have hlr : len ≤ reachBytes := by
   have := hw.1
   simp only [List.length_map, List.length_range] at this
   omega
  obtain ⟨X, hX⟩ := choose_lt (n := len) (p := fun i (x : Node) => (x.text.size ≤ reachBytes ∧ I64 x.n ∧ I64 x.m) ∧ ∀ j u, x.cells[j]? = some u → W.cell? (a.add (i * 7 + j)) = some u) (fun i hi => by
   obtain ⟨cs', h1, h2⟩ := hel i (by omega)
   obtain ⟨x, hx1, hx2⟩ := open_node h2 (hw.2 i hi)
   obtain ⟨_, hcl, hcc⟩ := World.cells?_some h1
   refine ⟨x, hx2, fun j u hj => ?_⟩
   have hj7 : j < 7 := by
    have := (List.getElem?_eq_some_iff.1 hj).1
    simpa [Node.cells] using this
   have := hcc j hj7
   rw [add_add] at this
   rw [this, hx1]
   exact hj)
  refine ⟨some a, (List.range len).map X, cap, by simp, ?_, by simpa using hlr, ?_⟩
  ·rcases Nat.eq_zero_or_pos len with h0 | h0
   ·exact .inl (by rw [h0]; rfl)
   ·have hfirst := (hX 0 h0).2 0 _ rfl
    obtain ⟨b, off, spot⟩ := a
    have hspot : spot = none := by simpa [Addr.add] using World.cell?_spot hfirst
    subst hspot
    refine .inr ⟨b, off, rfl, cell_lt hfirst, fun i x hx j u hj => ?_⟩
    rw [List.getElem?_map, Option.map_eq_some_iff] at hx
    obtain ⟨i', hi', rfl⟩ := hx
    obtain ⟨hi1, hi2⟩ := List.getElem?_eq_some_iff.1 hi'
    simp only [List.length_range] at hi1
    rw [List.getElem_range] at hi2
    subst hi2
    have := (hX i hi1).2 j u hj
    rw [add_plain] at this
    rw [← this, Nat.add_assoc]
  ·intro x hx
   obtain ⟨i, hi, rfl⟩ := List.mem_map.1 hx
   exact (hX i (List.mem_range.1 hi)).1
end
set_option maxRecDepth 100000 in
theorem open_able {H : Type} {enc : TypeId × Value → H} {W : World} {base : Nat} {v : Value} {d : DataW H} {p : List MemPlace} (hv : Value.okWide Try.prog W .any base 25 v) (h : DataW.Trod enc Try.prog W 0 (fun _ => true) true 25 v d p)
  (hr : ∀ n ∈ d.weights Try.prog 25, n ≤ reachBytes) :
  ∃ on SA slots sc when_ TA ts tc, v = .agg #[.int .i64 on, .slice SA (slots : List Int).length sc, .bool when_, .slice TA (ts : List Node).length tc] ∧ SmallsAt W SA slots ∧ TreeAt W TA ts ∧ slots.length ≤ reachBytes ∧ ts.length ≤ reachBytes ∧ ∀ x ∈ ts, (x.text.size ≤ reachBytes ∧ I64 x.n ∧ I64 x.m) := by
 obtain ⟨c0, c1, c2, c3, y0, y1, y2, y3, m, rfl, rfl, rfl, h0, h1, h2, h3⟩ := open_agg4 Try.underlying25 (by kernel_rfl) cells_able hv h
 have hr' := hr
 simp only [DataW.weights, Try.underlying25, DataW.weightsEach, List.mem_append, List.map_cons, List.map_nil] at hr'
 obtain ⟨on, e0, d0, w0⟩ := DataW.trod_int Try.underlying3 h0
 obtain ⟨SA, slots, sc, e1, hS, l1⟩ := open_smalls h1 (fun n hn => hr' n (.inr (.inl hn)))
 obtain ⟨wh, e2, d2⟩ := DataW.trod_bool Try.underlying4 h2
 obtain ⟨TA, ts, tc, e3, hT, l3, l4⟩ := open_nodes h3 (fun n hn => hr' n (.inr (.inr (.inr (.inl hn)))))
 simp only [List.cons.injEq, and_true] at e0 e2
 subst e0 e1 e2 e3
 exact ⟨on, SA, slots, sc, wh, TA, ts, tc, rfl, hS, hT, l1, l3, l4⟩
end Go.Proofs.Ytggibiodeecljaa
