/- Law BoundGrows: its plain part. Law BoundGrows: its walk. The arguments of a law: an ability, opened as the form reads it. The law BoundGrows holds: at every input it returns true and leaves its arguments as they were. No condition. -/
import Derived.Test.YtggibiodeecljaaMBound
import Derived.Test.YtggibiodeecljaaMCopy
import Derived.SizedLaws
import Derived.Deep.Slices
import Derived.Lib.SmallJoins
import Derived.OpenShut
import Derived.ChangeSlices
import Derived.Test.YtggibiodeecljaaRows
import Derived.WalkKit
import Derived.ProofKit
import Derived.ShutString
import Derived.ChangeOld
import Derived.Below
namespace Go.Proofs.Ytggibiodeecljaa
open Go.RowKit

theorem ableGas_range {on : Int} {slots : List Int} {when_ : Bool} {ts : List Node} (h : checkAble on slots when_ ts = true) {c : Int} (hc : 1 ≤ c) : 1 ≤ ableGas when_ ts c ∧ ableGas when_ ts c ≤ maxB := by
  obtain ⟨hl, hp, m, hm, hml, he, hfit, hwt, hm0⟩ := able_whole h
  have one : IsGas 1 := by unfold IsGas maxB; omega
  cases when_ with
  | true =>
    obtain ⟨hbm, hfit0⟩ := hwt rfl
    have g0 := gasM_gas ts c (by omega) _ _ hfit0
    have g1 := gasM_gas ts c (by omega) _ _ (hfit.le (by omega) : Fit ts ts.length m)
    unfold ableGas
    rw [if_pos rfl, hbm, Int.toNat_natCast]
    have a1 := gadd_gas one one.1
    have a2 := gadd_gas a1 g0.1
    have a3 := gadd_gas a2 g1.1
    have b1 := gadd_ge one one.1
    have b2 := gadd_ge a1 g0.1
    have b3 := gadd_ge a2 g1.1
    exact ⟨by omega, a3.2⟩
  | false =>
    have hm0 := hm0 rfl
    subst hm0
    have g0 := gasM_gas ts c (by omega) _ _ (hfit.le (by omega) : Fit ts ts.length 0)
    unfold ableGas
    rw [if_neg (by decide)]
    exact ⟨gadd_ge one g0.1, (gadd_gas one g0.1).2⟩

theorem ableGas_mono {on : Int} {slots : List Int} {when_ : Bool} {ts : List Node} (h : checkAble on slots when_ ts = true) {c c' : Int} (hc : 1 ≤ c) (hcc : c ≤ c') : ableGas when_ ts c ≤ ableGas when_ ts c' := by
  obtain ⟨hl, hp, m, hm, hml, he, hfit, hwt, hm0⟩ := able_whole h
  have one : IsGas 1 := by unfold IsGas maxB; omega
  cases when_ with
  | true =>
    obtain ⟨hbm, hfit0⟩ := hwt rfl
    have hfit1 : Fit ts ts.length m := hfit.le (by omega)
    have g0 := gasM_gas ts c (by omega) _ _ hfit0
    have g0' := gasM_gas ts c' (by omega) _ _ hfit0
    have g1' := gasM_gas ts c' (by omega) _ _ hfit1
    have m0 := gasM_mono ts (by omega : 0 ≤ c) hcc _ _ hfit0
    have m1 := gasM_mono ts (by omega : 0 ≤ c) hcc _ _ hfit1
    unfold ableGas
    rw [if_pos rfl, if_pos rfl, hbm, Int.toNat_natCast]
    exact gadd_mono (gadd_mono (Int.le_refl _) m0 (gadd_gas one one.1) g0'.1) m1 (gadd_gas (gadd_gas one one.1) g0'.1) g1'.1
  | false =>
    have hm0 := hm0 rfl
    subst hm0
    have hfit1 : Fit ts ts.length 0 := hfit.le (by omega)
    have g0' := gasM_gas ts c' (by omega) _ _ hfit1
    have m0 := gasM_mono ts (by omega : 0 ≤ c) hcc _ _ hfit1
    unfold ableGas
    rw [if_neg (by decide), if_neg (by decide)]
    exact gadd_mono (Int.le_refl _) m0 one g0'.1

/-- What the law looks at. -/
theorem grows_plain (on : Int) (slots : List Int) (when_ : Bool) (ts : List Node) (c c' : Int) :
    (boundM on slots when_ ts c = (0, 1) ∧ boundM on slots when_ ts c' = (0, 1)) ∨ (boundM on slots when_ ts c = (0, 1) ∧ ∃ a, boundM on slots when_ ts c' = (a, 0)) ∨ (boundM on slots when_ ts c' = (0, 1) ∧ ∃ a, boundM on slots when_ ts c = (a, 0)) ∨
    ∃ a a', boundM on slots when_ ts c = (a, 0) ∧ boundM on slots when_ ts c' = (a', 0) ∧ 1 ≤ a ∧ 1 ≤ a' ∧ a ≤ 4611686018427387904 ∧ a' ≤ 4611686018427387904 ∧ (c ≤ c' → a ≤ a') ∧ (c' ≤ c → a' ≤ a) := by
  unfold boundM
  by_cases h1 : checkAble on slots when_ ts = true ∧ 1 ≤ c ∧ c ≤ 256
  · by_cases h2 : checkAble on slots when_ ts = true ∧ 1 ≤ c' ∧ c' ≤ 256
    · rw [if_pos h1, if_pos h2]
      have r1 := ableGas_range h1.1 h1.2.1
      have r2 := ableGas_range h1.1 h2.2.1
      exact .inr (.inr (.inr ⟨_, _, rfl, rfl, r1.1, r2.1, r1.2, r2.2, fun h => ableGas_mono h1.1 h1.2.1 h, fun h => ableGas_mono h1.1 h2.2.1 h⟩))
    · rw [if_pos h1, if_neg h2]
      exact .inr (.inr (.inl ⟨rfl, _, rfl⟩))
  · by_cases h2 : checkAble on slots when_ ts = true ∧ 1 ≤ c' ∧ c' ≤ 256
    · rw [if_neg h1, if_pos h2]
      exact .inr (.inl ⟨rfl, _, rfl⟩)
    · rw [if_neg h1, if_neg h2]
      exact .inl ⟨rfl, rfl⟩
end Go.Proofs.Ytggibiodeecljaa
namespace Go.Proofs.Ytggibiodeecljaa
open Go.RowKit
set_option linter.unusedVariables false

set_option maxRecDepth 100000 in
set_option maxHeartbeats 2000000 in
theorem grows_any (on : Int) (SA TA : Option Addr) (slots : List Int) (sc tc : Nat) (when_ : Bool) (ts : List Node) (c c' : Int) (w : World) (hl : slots.length ≤ 281474976710656) (ht : ts.length ≤ 281474976710656) (hT : TreeAt w TA ts) (hS : SmallsAt w SA slots) (htx : ∀ x ∈ ts, x.text.size ≤ 4611686018427387904) :
    Calls Try.prog 6 #[.agg #[.int .i64 on, .slice SA slots.length sc, .bool when_, .slice TA ts.length tc], .int .i64 c, .int .i64 c'] w fun e w' => e = .returned (.bool true) ∧ Below w.heap.size w w' := by
  obtain ⟨W, hW⟩ : ∃ W, W = w.alloc (.cells #[.int .i64 on, .slice SA slots.length sc, .bool when_, .slice TA ts.length tc] 25) := ⟨_, rfl⟩
  have hBW : Below w.heap.size w W := by rw [hW]; exact (Below.refl _ _).alloc (Nat.le_refl _) _
  have hzW : w.heap.size < W.heap.size := by rw [hW]; simp
  have hb0 : Blk W w.heap.size 25 #[.int .i64 on, .slice SA slots.length sc, .bool when_, .slice TA ts.length tc] := by rw [hW]; exact Blk.new _ _ _
  have hsz := sizeAble_any on SA TA slots sc tc when_ ts W hl ht (hT.below hBW) htx
  have hR0 := sizeL_ge ts ts.length
  have hRt := sizeL_text ts ts.length (by omega)
  have hcp := fun (w' : World) (h1 : slots.length ≤ 16777216) (h2 : ts.length ≤ 16777216) (h : Below w.heap.size w w') => copyAble_any on SA TA slots sc tc when_ ts w' (by omega) (by omega) (hT.below h) (hS.below h)
  have hbd := fun (hx : ∀ x ∈ ts, x.text.size ≤ 1099511627776) (A B : Option Addr) (s t : Nat) (cards : Int) (w' : World) (h1 : SmallsAt w' A slots) (h2 : TreeAt w' B ts) => bound_any on A B slots s t when_ ts cards w' h2 h1 hx
  have hpl := grows_plain on slots when_ ts c c'
  have hlives := lives_any
  obtain ⟨R, hR⟩ : ∃ R, R = sizeL ts ts.length := ⟨_, rfl⟩
  obtain ⟨n, hn⟩ : ∃ n, slots.length = n := ⟨_, rfl⟩
  obtain ⟨m, hm⟩ : ∃ m, ts.length = m := ⟨_, rfl⟩
  simp only [← hR] at hsz hRt hR0
  rw [hn] at hb0 hl hsz hW hcp ⊢
  rw [hm] at hb0 ht hsz hW hR0 hcp ⊢
  simp only [hn, hm] at hbd
  obtain ⟨B1, hB1⟩ : ∃ B1, boundM on slots when_ ts c = B1 := ⟨_, rfl⟩
  obtain ⟨B2, hB2⟩ : ∃ B2, boundM on slots when_ ts c' = B2 := ⟨_, rfl⟩
  rw [hB1, hB2] at hpl
  have hbd1 := fun hx A B s t w' h1 h2 => hbd hx A B s t c w' h1 h2
  have hbd2 := fun hx A B s t w' h1 h2 => hbd hx A B s t c' w' h1 h2
  simp only [hB1] at hbd1
  simp only [hB2] at hbd2
  have HW := Lib.hid hW
  have HSZ := Lib.hid hsz
  have HRT := Lib.hid hRt
  have HCP := Lib.hid hcp
  have HB1 := Lib.hid hbd1
  have HB2 := Lib.hid hbd2
  have HPL := Lib.hid hpl
  have HL := Lib.hid hlives
  have HBW := Lib.hid hBW
  have HK := Lib.hid hb0
  clear hW hsz hRt hcp hbd hbd1 hbd2 hpl hlives hBW hb0 hB1 hB2 hT hS htx hR hn hm
  go_enter Try.func6, Try.ntmps6
  go_wp2_with fail
  rw [← HW.out]
  refine HSZ.out.mono ?_
  rintro e w1 ⟨rfl, hbel1⟩
  have hz1 := hbel1.size
  have hlt1 : w.heap.size < w1.heap.size := by omega
  have k1 := HK.out.below hbel1 hzW
  have K1 := Lib.hid k1
  have BL1 := Lib.hid (HBW.out.trans (hbel1.mono (by omega)))
  have x0 := k1.cell 0
  have x1 := k1.cell 1
  have x2 := k1.cell 2
  have x3 := k1.cell 3
  clear k1 hbel1
  go_wp2_with fail
  refine (long_any _ _).mono ?_
  rintro e w1' ⟨rfl, rfl⟩
  by_cases hbig : 16777216 < (n : Int) + R
  · have hd : decide (16777216 < (n : Int) + R) = true := by simp [hbig]
    rw [hd]
    go_wp2_with fail
    go_ret
    exact ⟨rfl, BL1.out⟩
  have hd : decide (16777216 < (n : Int) + R) = false := by simp [hbig]
  rw [hd]
  clear hd
  have hxt : ∀ x ∈ ts, x.text.size ≤ 1099511627776 := fun x hx => by have := HRT.out (by omega) x hx; omega
  have HXT := Lib.hid hxt
  clear hxt
  go_wp2_with fail
  refine (HCP.out _ (by omega) (by omega) BL1.out).mono ?_
  rintro e w2 ⟨SA', TA', sc', tc', rfl, hS2, hT2, hbel2⟩
  have hz2 := hbel2.size
  have hlt2 : w.heap.size < w2.heap.size := by omega
  have k2 := K1.out.below hbel2 hlt1
  have K2 := Lib.hid k2
  have BL2 := Lib.hid (BL1.out.trans (hbel2.mono (by omega)))
  have HS2 := Lib.hid hS2
  have HT2 := Lib.hid hT2
  clear k2 hbel2 hS2 hT2 x0 x1 x2 x3
  go_wp2_with fail
  refine (HB1.out HXT.out SA' TA' sc' tc' _ HS2.out HT2.out).mono ?_
  rintro e w3 ⟨rfl, hbel3⟩
  have hz3 := hbel3.size
  have hlt3 : w.heap.size < w3.heap.size := by omega
  have k3 := K2.out.below hbel3 hlt2
  have K3 := Lib.hid k3
  have BL3 := Lib.hid (BL2.out.trans (hbel3.mono (by omega)))
  have x0 := k3.cell 0
  have x1 := k3.cell 1
  have x2 := k3.cell 2
  have x3 := k3.cell 3
  clear k3 hbel3
  go_wp2_with fail
  refine (HCP.out _ (by omega) (by omega) BL3.out).mono ?_
  rintro e w4 ⟨SA2, TA2, sc2, tc2, rfl, hS4, hT4, hbel4⟩
  have hz4 := hbel4.size
  have BL4 := Lib.hid (BL3.out.trans (hbel4.mono (by omega)))
  have HS4 := Lib.hid hS4
  have HT4 := Lib.hid hT4
  clear hbel4 hS4 hT4 x0 x1 x2 x3
  go_wp2_with fail
  refine (HB2.out HXT.out SA2 TA2 sc2 tc2 _ HS4.out HT4.out).mono ?_
  rintro e w5 ⟨rfl, hbel5⟩
  have hz5 := hbel5.size
  have BL5 := Lib.hid (BL4.out.trans (hbel5.mono (by omega)))
  clear hbel5
  rcases HPL.out with ⟨rfl, rfl⟩ | ⟨rfl, a, rfl⟩ | ⟨rfl, a, rfl⟩ | ⟨a, a', rfl, rfl, h1, h2, h3, h4, h5, h6⟩
  · go_wp2_with fail
    refine (HL.out _).mono ?_
    rintro e w6 ⟨rfl, hbel6⟩
    have BL6 := Lib.hid (BL5.out.trans (hbel6.mono (by omega)))
    clear hbel6
    go_wp2_with fail
    go_ret
    exact ⟨rfl, BL6.out⟩
  · go_wp2_with fail
    refine (HL.out _).mono ?_
    rintro e w6 ⟨rfl, hbel6⟩
    have BL6 := Lib.hid (BL5.out.trans (hbel6.mono (by omega)))
    clear hbel6
    go_wp2_with fail
    go_ret
    exact ⟨rfl, BL6.out⟩
  · go_wp2_with fail
    refine (HL.out _).mono ?_
    rintro e w6 ⟨rfl, hbel6⟩
    have BL6 := Lib.hid (BL5.out.trans (hbel6.mono (by omega)))
    clear hbel6
    go_wp2_with fail
    go_ret
    exact ⟨rfl, BL6.out⟩
  · by_cases q1 : c ≤ c'
    · by_cases q2 : c' ≤ c
      · have := h5 q1
        have := h6 q2
        clear h5 h6
        go_wp2_with fail
        all_goals refine (HL.out _).mono ?_
        all_goals rintro e w6 ⟨rfl, hbel6⟩
        all_goals have BL6 := Lib.hid (BL5.out.trans (hbel6.mono (by omega)))
        all_goals clear hbel6
        all_goals go_wp2_with fail
        all_goals go_ret
        all_goals exact ⟨rfl, BL6.out⟩
      · have := h5 q1
        clear h5 h6
        go_wp2_with fail
        all_goals refine (HL.out _).mono ?_
        all_goals rintro e w6 ⟨rfl, hbel6⟩
        all_goals have BL6 := Lib.hid (BL5.out.trans (hbel6.mono (by omega)))
        all_goals clear hbel6
        all_goals go_wp2_with fail
        all_goals go_ret
        all_goals exact ⟨rfl, BL6.out⟩
    · have := h6 (by omega)
      clear h5 h6
      go_wp2_with fail
      all_goals refine (HL.out _).mono ?_
      all_goals rintro e w6 ⟨rfl, hbel6⟩
      all_goals have BL6 := Lib.hid (BL5.out.trans (hbel6.mono (by omega)))
      all_goals clear hbel6
      all_goals go_wp2_with fail
      all_goals go_ret
      all_goals exact ⟨rfl, BL6.out⟩
end Go.Proofs.Ytggibiodeecljaa
namespace Go.Proofs.Ytggibiodeecljaa
open Go.ChangeShapes Go.WideShapes Go.ChangeAt Go.RowKit Go.Joins Go.Deep
set_option linter.unusedVariables false

theorem cells_i8 : Try.prog.cellsOf 40 = 1 := by kernel_rfl
theorem bytes_i8 : Try.prog.bytesOf 40 = 1 := by kernel_rfl
theorem cells_node : Try.prog.cellsOf 42 = 7 := by kernel_rfl
theorem bytes_node : Try.prog.bytesOf 42 = 56 := by kernel_rfl
theorem cells_able : Try.prog.cellsOf 25 = 4 := by kernel_rfl
theorem one_able : ∀ fs, Try.prog.underlying 25 = some (.struct fs) → oneCellFields Try.prog fs = true := by
  intro fs h
  rw [Try.underlying25] at h
  injection h with h
  injection h with h
  subst h
  kernel_rfl
theorem cells_i64 : Try.prog.cellsOf 2 = 1 := by kernel_rfl
theorem cells_int : Try.prog.cellsOf 3 = 1 := by kernel_rfl
theorem cells_str : Try.prog.cellsOf 9 = 1 := by kernel_rfl

section
variable {H : Type} {enc : TypeId × Value → H} {W : World} {sp : Nat → Bool} {fuel : Nat} {v : Value} {y : DataW H × List MemPlace}

theorem weightsAll_in {P : Program} {e : TypeId} : ∀ {l : List (DataW H)} {d : DataW H}, d ∈ l → ∀ n ∈ d.weights P e, n ∈ DataW.weightsAll P e l
  | d' :: r, d, hd, n, hn => by
    simp only [DataW.weightsAll, List.mem_append]
    rcases List.mem_cons.1 hd with rfl | h
    · exact Or.inl hn
    · exact Or.inr (weightsAll_in h n hn)

theorem cell_lt {a : Addr} {u : Value} (h : W.cell? a = some u) : a.block < W.heap.size :=
  World.cells?_block (cells?_one (base := 0) (Nat.zero_le _) h) (by decide)

theorem open_smalls (hf : DataW.trod enc Try.prog W 0 sp true fuel 22 [v] = some y) (hr : ∀ n ∈ y.1.weights Try.prog 22, n ≤ reachBytes) :
    ∃ A l c, v = .slice A (l : List Int).length c ∧ SmallsAt W A l ∧ l.length ≤ reachBytes := by
  rcases open_ints Try.underlying22 Try.underlying40 cells_i8 hf with ⟨hcs, hx⟩ | ⟨a, len, cap, zs, hcs, hb, hl, hm, hz, hx, hcell, hwz⟩
  · simp only [List.cons.injEq, and_true] at hcs
    subst hcs
    exact ⟨none, [], 0, rfl, fun k x hk => by simp at hk, by simp⟩
  · simp only [List.cons.injEq, and_true] at hcs
    subst hcs
    have hzl : len ≤ zs.length := by rw [hz]; split <;> omega
    have hlen : (zs.take len).length = len := by rw [List.length_take]; omega
    refine ⟨some a, zs.take len, cap, by rw [hlen], ?_, ?_⟩
    · intro k x hk
      rw [List.getElem?_take] at hk
      split at hk
      · rename_i hkl
        obtain ⟨b, off, rfl, hc⟩ := ints_at hcell (by omega)
        have h1 := hc k (by omega)
        rw [List.getD_eq_getElem?_getD, hk] at h1
        exact ⟨b, off, rfl, cell_lt h1, h1⟩
      · cases hk
    · have h1 := hr ((List.take len zs).length * 1 + (zs.drop len).length * 1) (by
        subst hx
        simp [DataW.weights, Try.underlying22, bytes_i8, lits])
      omega

theorem drop_take_one {cs : List Value} {k : Nat} {u : Value} (h : (cs.drop k).take 1 = [u]) : cs[k]? = some u := by
  have := congrArg (fun l => l[0]?) h
  simpa [List.getElem?_take, List.getElem?_drop] using this

instance : Inhabited Node := ⟨node0⟩

set_option maxRecDepth 100000 in
theorem open_node {cs : List Value} (hf : DataW.trod enc Try.prog W 0 sp true fuel 42 cs = some y) (hr : ∀ n ∈ y.1.weights Try.prog 42, n ≤ reachBytes) :
    ∃ x : Node, cs = x.cells ∧ x.text.size ≤ reachBytes := by
  obtain ⟨xs, n, _, rfl, hl, hlen, hfs⟩ := DataW.trod_struct Try.underlying42 hf
  have f0 : DataW.trod enc Try.prog W 0 sp true n 40 ((cs.drop 0).take (Try.prog.cellsOf 40)) = xs[0]? := hfs 0 _ rfl
  rw [cells_i8] at f0
  have f1 : DataW.trod enc Try.prog W 0 sp true n 40 ((cs.drop 1).take (Try.prog.cellsOf 40)) = xs[1]? := hfs 1 _ rfl
  rw [cells_i8] at f1
  have f2 : DataW.trod enc Try.prog W 0 sp true n 2 ((cs.drop 2).take (Try.prog.cellsOf 2)) = xs[2]? := hfs 2 _ rfl
  rw [cells_i64] at f2
  have f3 : DataW.trod enc Try.prog W 0 sp true n 2 ((cs.drop 3).take (Try.prog.cellsOf 2)) = xs[3]? := hfs 3 _ rfl
  rw [cells_i64] at f3
  have f4 : DataW.trod enc Try.prog W 0 sp true n 9 ((cs.drop 4).take (Try.prog.cellsOf 9)) = xs[4]? := hfs 4 _ rfl
  rw [cells_str] at f4
  have f5 : DataW.trod enc Try.prog W 0 sp true n 3 ((cs.drop 5).take (Try.prog.cellsOf 3)) = xs[5]? := hfs 5 _ rfl
  rw [cells_int] at f5
  have f6 : DataW.trod enc Try.prog W 0 sp true n 3 ((cs.drop 6).take (Try.prog.cellsOf 3)) = xs[6]? := hfs 6 _ rfl
  rw [cells_int] at f6
  have hlen7 : xs.length = 7 := hlen
  rw [List.getElem?_eq_getElem (by omega)] at f0 f1 f2 f3 f4 f5 f6
  obtain ⟨a0, e0, d0, w0⟩ := DataW.trod_int Try.underlying40 f0
  obtain ⟨a1, e1, d1, w1⟩ := DataW.trod_int Try.underlying40 f1
  obtain ⟨a2, e2, d2, w2⟩ := DataW.trod_int Try.underlying2 f2
  obtain ⟨a3, e3, d3, w3⟩ := DataW.trod_int Try.underlying2 f3
  obtain ⟨a4, e4, d4, w4⟩ := DataW.trod_string Try.underlying9 f4
  obtain ⟨a5, e5, d5, w5⟩ := DataW.trod_int Try.underlying3 f5
  obtain ⟨a6, e6, d6, w6⟩ := DataW.trod_int Try.underlying3 f6
  have hcs : cs.length = 7 := by rw [hl, cells_node]
  refine ⟨⟨a0, a1, a2, a3, a4, a5, a6⟩, ?_, ?_⟩
  · apply List.ext_getElem?
    intro k
    have g0 := drop_take_one e0
    have g1 := drop_take_one e1
    have g2 := drop_take_one e2
    have g3 := drop_take_one e3
    have g4 := drop_take_one e4
    have g5 := drop_take_one e5
    have g6 := drop_take_one e6
    by_cases hk : k < 7
    · have : k = 0 ∨ k = 1 ∨ k = 2 ∨ k = 3 ∨ k = 4 ∨ k = 5 ∨ k = 6 := by omega
      rcases this with rfl | rfl | rfl | rfl | rfl | rfl | rfl
      · rw [g0]; rfl
      · rw [g1]; rfl
      · rw [g2]; rfl
      · rw [g3]; rfl
      · rw [g4]; rfl
      · rw [g5]; rfl
      · rw [g6]; rfl
    · rw [List.getElem?_eq_none (by omega), List.getElem?_eq_none (by show 7 ≤ k; omega)]
  · have h1 := hr a4.data.toList.length (by
      show _ ∈ (DataW.agg (xs.map (·.1))).weights _ _
      rw [DataW.weights, Try.underlying42]
      refine DataW.weights_mem_each (j := 4) (t := 9) (d := .lit (.string a4.data.toList)) rfl ?_ _ (by simp [DataW.weights])
      rw [List.getElem?_map, List.getElem?_eq_getElem (by omega), Option.map_some, d4])
    rw [Array.length_toList] at h1
    exact h1

theorem open_nodes (hf : DataW.trod enc Try.prog W 0 sp true fuel 23 [v] = some y) (hr : ∀ n ∈ y.1.weights Try.prog 23, n ≤ reachBytes) :
    ∃ A ts c, v = .slice A (ts : List Node).length c ∧ TreeAt W A ts ∧ ts.length ≤ reachBytes ∧ ∀ x ∈ ts, x.text.size ≤ reachBytes := by
  rcases open_slice Try.underlying23 hf with ⟨hcs, hx⟩ | ⟨a, len, cap, m, n, D, Pl, hcs, hb, hl, hm, hmm, hx, hel⟩
  · simp only [List.cons.injEq, and_true] at hcs
    subst hcs
    exact ⟨none, [], 0, rfl, .inl rfl, by simp, fun x hx => by simp at hx⟩
  · simp only [List.cons.injEq, and_true] at hcs
    subst hcs
    have hlm : len ≤ m := by rw [hmm]; split <;> omega
    rw [cells_node] at hel
    have hw : (((List.range len).map D).length + ((List.range (m - len)).map fun j => D (len + j)).length) * 56 ≤ reachBytes ∧ ∀ i, i < len → ∀ k ∈ (D i).weights Try.prog 42, k ≤ reachBytes := by
      subst hx
      simp only [DataW.weights, Try.underlying23, bytes_node] at hr
      refine ⟨hr _ (List.mem_cons_self ..), fun i hi k hk => hr k (List.mem_cons_of_mem _ (List.mem_append_left _ (weightsAll_in (List.mem_map.2 ⟨i, List.mem_range.2 hi, rfl⟩) k hk)))⟩
    have hlr : len ≤ reachBytes := by
      have := hw.1
      simp only [List.length_map, List.length_range] at this
      omega
    obtain ⟨X, hX⟩ := choose_lt (n := len) (p := fun i (x : Node) => x.text.size ≤ reachBytes ∧ ∀ j u, x.cells[j]? = some u → W.cell? (a.add (i * 7 + j)) = some u) (fun i hi => by
      obtain ⟨cs', h1, h2⟩ := hel i (by omega)
      obtain ⟨x, hx1, hx2⟩ := open_node h2 (hw.2 i hi)
      obtain ⟨_, hcl, hcc⟩ := World.cells?_some h1
      refine ⟨x, hx2, fun j u hj => ?_⟩
      have hj7 : j < 7 := by
        have := (List.getElem?_eq_some_iff.1 hj).1
        simpa [Node.cells] using this
      have := hcc j hj7
      rw [add_add] at this
      rw [this, hx1]
      exact hj)
    refine ⟨some a, (List.range len).map X, cap, by simp, ?_, by simpa using hlr, ?_⟩
    · rcases Nat.eq_zero_or_pos len with h0 | h0
      · exact .inl (by rw [h0]; rfl)
      · have hfirst := (hX 0 h0).2 0 _ rfl
        obtain ⟨b, off, spot⟩ := a
        have hspot : spot = none := by simpa [Addr.add] using World.cell?_spot hfirst
        subst hspot
        refine .inr ⟨b, off, rfl, cell_lt hfirst, fun i x hx j u hj => ?_⟩
        rw [List.getElem?_map, Option.map_eq_some_iff] at hx
        obtain ⟨i', hi', rfl⟩ := hx
        obtain ⟨hi1, hi2⟩ := List.getElem?_eq_some_iff.1 hi'
        simp only [List.length_range] at hi1
        rw [List.getElem_range] at hi2
        subst hi2
        have := (hX i hi1).2 j u hj
        rw [add_plain] at this
        rw [← this, Nat.add_assoc]
    · intro x hx
      obtain ⟨i, hi, rfl⟩ := List.mem_map.1 hx
      exact (hX i (List.mem_range.1 hi)).1
end
end Go.Proofs.Ytggibiodeecljaa
namespace Go.Proofs.Ytggibiodeecljaa
open Go.ChangeShapes Go.WideShapes Go.ChangeAt Go.RowKit Go.Joins
set_option linter.unusedVariables false

theorem own_ : ownKnob Try.prog.godebug = none := by kernel_rfl
theorem laidOut_ : laidOutB Try.prog = true := by kernel_rfl

set_option maxRecDepth 100000 in
theorem open_able {H : Type} {enc : TypeId × Value → H} {W : World} {base : Nat} {v : Value} {d : DataW H} {p : List MemPlace} (hv : Value.okWide Try.prog W .any base 25 v) (h : DataW.Trod enc Try.prog W 0 (fun _ => true) true 25 v d p)
    (hr : ∀ n ∈ d.weights Try.prog 25, n ≤ reachBytes) :
    ∃ on SA slots sc when_ TA ts tc, v = .agg #[.int .i64 on, .slice SA (slots : List Int).length sc, .bool when_, .slice TA (ts : List Node).length tc] ∧ SmallsAt W SA slots ∧ TreeAt W TA ts ∧ slots.length ≤ reachBytes ∧ ts.length ≤ reachBytes ∧ ∀ x ∈ ts, x.text.size ≤ reachBytes := by
  obtain ⟨c0, c1, c2, c3, y0, y1, y2, y3, m, rfl, rfl, rfl, h0, h1, h2, h3⟩ := open_agg4 Try.underlying25 (by kernel_rfl) cells_able hv h
  have hr' := hr
  simp only [DataW.weights, Try.underlying25, DataW.weightsEach, List.mem_append, List.map_cons, List.map_nil] at hr'
  obtain ⟨on, e0, d0, w0⟩ := DataW.trod_int Try.underlying3 h0
  obtain ⟨SA, slots, sc, e1, hS, l1⟩ := open_smalls h1 (fun n hn => hr' n (.inr (.inl hn)))
  obtain ⟨wh, e2, d2⟩ := DataW.trod_bool Try.underlying4 h2
  obtain ⟨TA, ts, tc, e3, hT, l3, l4⟩ := open_nodes h3 (fun n hn => hr' n (.inr (.inr (.inr (.inl hn)))))
  simp only [List.cons.injEq, and_true] at e0 e2
  subst e0 e1 e2 e3
  exact ⟨on, SA, slots, sc, wh, TA, ts, tc, rfl, hS, hT, l1, l3, l4⟩

set_option maxRecDepth 100000 in
theorem growsLifted (os : Os) (started : os.Started) (H : Type) (enc : TypeId × Value → H) :
    ReturnsInHanded {} Try.checked os 6 .any (Rows.boundGrowsSpec.pre6 enc Try.prog Try.f6 Rows.boundGrowsRow.domain false) (Rows.boundGrowsSpec.post enc Try.prog Try.f6 false true false false) := by
  refine returnsInHanded_of_change_sized (C := Try.checked) own_ started (by kernel_rfl) Try.func6
    (ChangeSpec.witness6 (enc := enc) (C := Try.checked) false ⟨#[], #[.agg #[.int .i64 0, .slice none 0 0, .bool false, .slice none 0 0], .int .i64 0, .int .i64 0], []⟩ 8 (by kernel_rfl) (by kernel_rfl) (by kernel_rfl) (by kernel_rfl)) ?_
  intro W base args ds gs before hval0 hW hcnd hsz0 _
  have hval : ∀ (j : Nat) t v, Try.f6.params[j]? = some t → args[j]? = some v → Value.okWide Try.prog W .any base t v := hval0
  have hsz : (DataW.weightsEach Try.prog (Try.f6.params.toList ++ Rows.boundGrowsSpec.plain.varTypes Try.prog) (ds ++ gs)).all (· ≤ reachBytes) = true := hsz0
  have hW' := hW
  obtain ⟨p, q, hA0, hV, rfl, hfz, hnd⟩ := hW
  have hA : DataW.TrodAll enc Try.prog W 0 (fun _ => true) true Try.f6.params.toList args.toList ds p := hA0
  rw [Try.params6] at hA hval hsz
  obtain ⟨v0, vs0, d0, ds0, p0, q0, hargs, rfl, rfl, h0, r0⟩ := trodAll_cons hA
  obtain ⟨v1, vs1, d1, ds1, p1, q1, rfl, rfl, rfl, h1, r1⟩ := trodAll_cons r0
  obtain ⟨v2, vs2, d2, ds2, p2, q2, rfl, rfl, rfl, h2, r2⟩ := trodAll_cons r1
  obtain ⟨rfl, rfl, rfl⟩ := trodAll_nil r2
  obtain rfl : args = #[v0, v1, v2] := by cases args; simp_all
  obtain ⟨rfl, rfl⟩ := trodVars_none hV
  have k0 := h0
  have lt0 : ∀ x ∈ p0, x.block < W.heap.size := by obtain ⟨m, hm⟩ := k0; exact DataW.trod_lt m _ _ _ hm
  obtain ⟨on, SA, slots, sc, when_, TA, ts, tc, rfl, hS, hT, l1, l2, l3⟩ := open_able (hval 0 25 v0 rfl rfl) h0 (fun n hn => by
    have := List.all_eq_true.1 hsz n (DataW.weights_mem_each (j := 0) rfl rfl n hn)
    simpa using this)
  obtain ⟨a1, rfl, rfl, rfl, w1⟩ := open_int Try.underlying3 (hval 1 3 v1 rfl rfl) h1
  obtain ⟨a2, rfl, rfl, rfl, w2⟩ := open_int Try.underlying3 (hval 2 3 v2 rfl rfl) h2
  clear hA0 hval0 hsz hsz0
  have hR : reachBytes = 140737488351232 := rfl
  refine (grows_any on SA TA slots sc tc when_ ts a1 a2 W (by omega) (by omega) hT hS (fun x hx => by have := l3 x hx; omega)).mono fun e W' ⟨he, bel⟩ => ?_
  subst he
  exact ⟨_, rfl, _, _, _, [], _, [], hW', trodAll_mk1 (shut_bool Try.underlying4 _), (trodAll_cons_mk (Below.trod laidOut_ (by kernel_rfl) (of_decide_eq_true (by kernel_rfl)) k0 bel lt0) (trodAll_cons_mk (shut_int Try.underlying3 w1) (trodAll_cons_mk (shut_int Try.underlying3 w2) trodAll_mk0))), rfl, bel.frame _, fun h => by cases h⟩

/-- The law BoundGrows holds. -/
theorem boundGrows_holds : Rows.BoundGrowsSaid :=
  OpenClaim.holds_of_wide 6 Try.f6 rfl rfl rfl rfl rfl rfl rfl ⟨rfl, rfl, rfl, rfl, rfl⟩ rfl rfl rfl rfl rfl (by kernel_rfl) Try.func6 (by kernel_rfl)
    (of_decide_eq_true (by kernel_rfl)) (by unfold Func.isWrapper; first | (rw [if_pos (by decide +kernel)]; kernel_rfl) | (rw [if_neg (by decide +kernel)]; exact ⟨rfl, rfl⟩))
    (fun os started H enc _ => growsLifted os started H enc)
end Go.Proofs.Ytggibiodeecljaa
